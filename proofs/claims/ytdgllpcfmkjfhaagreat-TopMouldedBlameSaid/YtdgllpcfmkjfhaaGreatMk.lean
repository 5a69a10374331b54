/- Texts of the proof, laid together by program. -/
import Derived.Test.YtdgllpcfmkjfhaaGreatMj
set_option linter.unusedSimpArgs false
set_option linter.unusedVariables false
/- The examples of the first law are right. -/
namespace Go.Proofs.YtdgllpcfmkjfhaaGreat
set_option maxRecDepth 100000 in
theorem T4a_ok : frOk call1 139 frT = true := by decide +kernel
end Go.Proofs.YtdgllpcfmkjfhaaGreat
