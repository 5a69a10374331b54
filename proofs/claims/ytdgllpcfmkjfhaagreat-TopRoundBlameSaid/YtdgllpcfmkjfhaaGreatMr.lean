/- Texts of the proof, laid together by program. -/
import Derived.Test.YtdgllpcfmkjfhaaGreatMq
set_option linter.unusedSimpArgs false
set_option linter.unusedVariables false
/- Inns round a lake: 3 of them, turned by 0, 1, 2. -/
namespace Go.Proofs.YtdgllpcfmkjfhaaGreat
set_option maxRecDepth 100000 in
theorem T8_0_0 : rnd 0 0 = true := by decide +kernel
set_option maxRecDepth 100000 in
theorem T8_0_1 : rnd 0 1 = true := by decide +kernel
set_option maxRecDepth 100000 in
theorem T8_0_2 : rnd 0 2 = true := by decide +kernel
end Go.Proofs.YtdgllpcfmkjfhaaGreat
