/- Texts of the proof, laid together by program. -/
import Derived.Test.YtdgllpcfmkjfhaaGreatMh
set_option linter.unusedSimpArgs false
set_option linter.unusedVariables false
/- The examples of the fifth law are right. -/
namespace Go.Proofs.YtdgllpcfmkjfhaaGreat
set_option maxRecDepth 100000 in
theorem T4e_ok : frOk call0 57 frT = true := by decide +kernel
end Go.Proofs.YtdgllpcfmkjfhaaGreat
