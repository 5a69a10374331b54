/- Texts of the proof, laid together by program. -/
import Derived.Test.YtdgllpcfmkjfhaaGreatMq
set_option linter.unusedSimpArgs false
set_option linter.unusedVariables false
/- Inns round a lake: 8 of them, turned by 6, 7. -/
namespace Go.Proofs.YtdgllpcfmkjfhaaGreat
set_option maxRecDepth 100000 in
theorem T8_5_6 : rnd 5 6 = true := by decide +kernel
set_option maxRecDepth 100000 in
theorem T8_5_7 : rnd 5 7 = true := by decide +kernel
end Go.Proofs.YtdgllpcfmkjfhaaGreat
