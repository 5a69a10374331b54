/- Texts of the proof, laid together by program. -/
import Derived.Test.YtdgllpcfmkjfhaaGreatMq
set_option linter.unusedSimpArgs false
set_option linter.unusedVariables false
/- Inns round a lake: 6 of them, turned by 3, 4, 5. -/
namespace Go.Proofs.YtdgllpcfmkjfhaaGreat
set_option maxRecDepth 100000 in
theorem T8_3_3 : rnd 3 3 = true := by decide +kernel
set_option maxRecDepth 100000 in
theorem T8_3_4 : rnd 3 4 = true := by decide +kernel
set_option maxRecDepth 100000 in
theorem T8_3_5 : rnd 3 5 = true := by decide +kernel
end Go.Proofs.YtdgllpcfmkjfhaaGreat
