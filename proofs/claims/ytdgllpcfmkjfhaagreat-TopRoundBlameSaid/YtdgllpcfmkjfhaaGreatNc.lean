/- Texts of the proof, laid together by program. -/
import Derived.Test.YtdgllpcfmkjfhaaGreatMq
set_option linter.unusedSimpArgs false
set_option linter.unusedVariables false
/- Inns round a lake: 8 of them, turned by 4, 5. -/
namespace Go.Proofs.YtdgllpcfmkjfhaaGreat
set_option maxRecDepth 100000 in
theorem T8_5_4 : rnd 5 4 = true := by decide +kernel
set_option maxRecDepth 100000 in
theorem T8_5_5 : rnd 5 5 = true := by decide +kernel
end Go.Proofs.YtdgllpcfmkjfhaaGreat
