/- Texts of the proof, laid together by program. -/
import Derived.Test.YtdgllpcfmkjfhaaGreatMq
set_option linter.unusedSimpArgs false
set_option linter.unusedVariables false
/- Inns round a lake: 4 of them, turned by 0, 1, 2, 3. -/
namespace Go.Proofs.YtdgllpcfmkjfhaaGreat
set_option maxRecDepth 100000 in
theorem T8_1_0 : rnd 1 0 = true := by decide +kernel
set_option maxRecDepth 100000 in
theorem T8_1_1 : rnd 1 1 = true := by decide +kernel
set_option maxRecDepth 100000 in
theorem T8_1_2 : rnd 1 2 = true := by decide +kernel
set_option maxRecDepth 100000 in
theorem T8_1_3 : rnd 1 3 = true := by decide +kernel
end Go.Proofs.YtdgllpcfmkjfhaaGreat
