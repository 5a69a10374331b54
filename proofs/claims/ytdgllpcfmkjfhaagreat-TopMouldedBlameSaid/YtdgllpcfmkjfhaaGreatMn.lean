/- Texts of the proof, laid together by program. -/
import Derived.Test.YtdgllpcfmkjfhaaGreatMh
set_option linter.unusedSimpArgs false
set_option linter.unusedVariables false
/- The examples of the fourth law are right. -/
namespace Go.Proofs.YtdgllpcfmkjfhaaGreat
set_option maxRecDepth 100000 in
theorem T4d_ok : frOk call0 100 frT = true := by decide +kernel
end Go.Proofs.YtdgllpcfmkjfhaaGreat
