/- Texts of the proof, laid together by program. -/
import Derived.Test.YtdgllpcfmkjfhaaGreatMq
set_option linter.unusedSimpArgs false
set_option linter.unusedVariables false
/- Inns round a lake: 7 of them, turned by 0, 1. -/
namespace Go.Proofs.YtdgllpcfmkjfhaaGreat
set_option maxRecDepth 100000 in
theorem T8_4_0 : rnd 4 0 = true := by decide +kernel
set_option maxRecDepth 100000 in
theorem T8_4_1 : rnd 4 1 = true := by decide +kernel
end Go.Proofs.YtdgllpcfmkjfhaaGreat
