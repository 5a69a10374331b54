/- Texts of the proof, laid together by program. -/
import Derived.Test.YtdgllpcfmkjfhaaGreatMq
set_option linter.unusedSimpArgs false
set_option linter.unusedVariables false
/- Inns round a lake: 7 of them, turned by 2, 3. -/
namespace Go.Proofs.YtdgllpcfmkjfhaaGreat
set_option maxRecDepth 100000 in
theorem T8_4_2 : rnd 4 2 = true := by decide +kernel
set_option maxRecDepth 100000 in
theorem T8_4_3 : rnd 4 3 = true := by decide +kernel
end Go.Proofs.YtdgllpcfmkjfhaaGreat
