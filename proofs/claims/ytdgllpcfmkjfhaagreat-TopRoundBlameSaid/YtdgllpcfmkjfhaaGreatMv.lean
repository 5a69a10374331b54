/- Texts of the proof, laid together by program. -/
import Derived.Test.YtdgllpcfmkjfhaaGreatMq
set_option linter.unusedSimpArgs false
set_option linter.unusedVariables false
/- Inns round a lake: 6 of them, turned by 0, 1, 2. -/
namespace Go.Proofs.YtdgllpcfmkjfhaaGreat
set_option maxRecDepth 100000 in
theorem T8_3_0 : rnd 3 0 = true := by decide +kernel
set_option maxRecDepth 100000 in
theorem T8_3_1 : rnd 3 1 = true := by decide +kernel
set_option maxRecDepth 100000 in
theorem T8_3_2 : rnd 3 2 = true := by decide +kernel
end Go.Proofs.YtdgllpcfmkjfhaaGreat
