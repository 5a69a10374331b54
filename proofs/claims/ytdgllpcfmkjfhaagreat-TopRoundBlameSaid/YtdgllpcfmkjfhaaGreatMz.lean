/- Texts of the proof, laid together by program. -/
import Derived.Test.YtdgllpcfmkjfhaaGreatMq
set_option linter.unusedSimpArgs false
set_option linter.unusedVariables false
/- Inns round a lake: 7 of them, turned by 4, 5, 6. -/
namespace Go.Proofs.YtdgllpcfmkjfhaaGreat
set_option maxRecDepth 100000 in
theorem T8_4_4 : rnd 4 4 = true := by decide +kernel
set_option maxRecDepth 100000 in
theorem T8_4_5 : rnd 4 5 = true := by decide +kernel
set_option maxRecDepth 100000 in
theorem T8_4_6 : rnd 4 6 = true := by decide +kernel
end Go.Proofs.YtdgllpcfmkjfhaaGreat
