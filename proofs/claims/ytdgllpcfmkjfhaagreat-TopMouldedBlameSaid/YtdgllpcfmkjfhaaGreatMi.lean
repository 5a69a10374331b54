/- Texts of the proof, laid together by program. -/
import Derived.Test.YtdgllpcfmkjfhaaGreatMh
set_option linter.unusedSimpArgs false
set_option linter.unusedVariables false
/- A proof of the metals of the first law's examples. -/
namespace Go.Proofs.YtdgllpcfmkjfhaaGreat
set_option maxRecDepth 100000 in
theorem T3_ok : frOk call0 189 fr189 = true := by decide +kernel
end Go.Proofs.YtdgllpcfmkjfhaaGreat
