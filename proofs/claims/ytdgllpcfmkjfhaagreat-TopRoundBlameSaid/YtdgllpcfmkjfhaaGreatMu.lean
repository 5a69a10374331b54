/- Texts of the proof, laid together by program. -/
import Derived.Test.YtdgllpcfmkjfhaaGreatMq
set_option linter.unusedSimpArgs false
set_option linter.unusedVariables false
/- Inns round a lake: 5 of them, turned by 3, 4. -/
namespace Go.Proofs.YtdgllpcfmkjfhaaGreat
set_option maxRecDepth 100000 in
theorem T8_2_3 : rnd 2 3 = true := by decide +kernel
set_option maxRecDepth 100000 in
theorem T8_2_4 : rnd 2 4 = true := by decide +kernel
end Go.Proofs.YtdgllpcfmkjfhaaGreat
