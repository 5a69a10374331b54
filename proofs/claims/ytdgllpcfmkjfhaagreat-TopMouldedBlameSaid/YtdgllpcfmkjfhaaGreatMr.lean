/- Texts of the proof, laid together by program. -/
import Derived.Test.YtdgllpcfmkjfhaaGreatProg
import Derived.Test.YtdgllpcfmkjfhaaGreatRows
import Derived.Test.YtdgllpcfmkjfhaaGreatChecked
import Derived.ProofKit
import Derived.OpenShut
set_option linter.unusedSimpArgs false
set_option linter.unusedVariables false
/- Facts of the statement on the program, each by the kernel. -/
namespace Go.Proofs.YtdgllpcfmkjfhaaGreat
open Go.ChangeShapes Go.WideShapes Go.ChangeAt Go.RowKit
set_option maxRecDepth 100000 in
theorem mf0 : (Rows.topMouldedBlameRow.wf (OpenSpec.ofChange Rows.topMouldedBlameSpec)) = true := by kernel_rfl
set_option maxRecDepth 100000 in
theorem mf1 : (laidOutB Tryz.prog) = true := by kernel_rfl
set_option maxRecDepth 100000 in
theorem mf2 : (mapsRowed Tryz.prog) = true := by kernel_rfl
set_option maxRecDepth 100000 in
theorem mf3 : (Tryz.f3.params.all (Tryz.prog.readableRec ·)) = true := by kernel_rfl
set_option maxRecDepth 100000 in
theorem mf4 : (namedTie Tryz.prog Rows.topMouldedBlameRow.named Rows.topMouldedBlameSpec.vars) = true := by kernel_rfl
set_option maxRecDepth 100000 in
theorem mf5 : ((Rows.topMouldedBlameRow.stops == [])) = true := by kernel_rfl
set_option maxRecDepth 100000 in
theorem mf6 : ((Tryz.prog.stops == [])) = true := by kernel_rfl
set_option maxRecDepth 100000 in
theorem mf7 : ((Rows.topMouldedBlameRow.knobs == [])) = true := by kernel_rfl
set_option maxRecDepth 100000 in
theorem mf8 : ((Tryz.prog.stopKnobs == [])) = true := by kernel_rfl
set_option maxRecDepth 100000 in
theorem mf9 : ((Rows.topMouldedBlameRow.inPlace == Tryz.prog.inPlace 3)) = true := by kernel_rfl
set_option maxRecDepth 100000 in
theorem mf10 : ((Rows.topMouldedBlameRow.unfollowed == Tryz.prog.unfollowed 3)) = true := by kernel_rfl
set_option maxRecDepth 100000 in
theorem mf11 : ((Rows.topMouldedBlameRow.recurses == Tryz.prog.recurses 3)) = true := by kernel_rfl
set_option maxRecDepth 100000 in
theorem mf12 : ((Rows.topMouldedBlameRow.named == Tryz.prog.varsNamed 3)) = true := by kernel_rfl
set_option maxRecDepth 100000 in
theorem mf13 : ((Rows.topMouldedBlameRow.maps == (Tryz.f3.params.toList ++ Rows.topMouldedBlameSpec.plain.varTypes Tryz.prog).any (Tryz.prog.mapsRec ·))) = true := by kernel_rfl
set_option maxRecDepth 100000 in
theorem mf14 : ((Rows.topMouldedBlameRow.ifaces == (Tryz.f3.params.toList ++ Rows.topMouldedBlameSpec.plain.varTypes Tryz.prog).any (Tryz.prog.ifacesRec ·))) = true := by kernel_rfl
set_option maxRecDepth 100000 in
theorem mf15 : ((Rows.topMouldedBlameRow.mapsOut == Tryz.prog.mapsAmong Tryz.f3.resultTypes.toList)) = true := by kernel_rfl
set_option maxRecDepth 100000 in
theorem mf16 : ((Rows.topMouldedBlameRow.loops == (Tryz.f3.params.toList ++ Rows.topMouldedBlameSpec.plain.varTypes Tryz.prog).any (Tryz.prog.loopsFrom ·))) = true := by kernel_rfl
set_option maxRecDepth 100000 in
theorem mf17 : ((Rows.topMouldedBlameRow.wideKeys == (Tryz.f3.params.toList ++ Rows.topMouldedBlameSpec.plain.varTypes Tryz.prog ++ Tryz.f3.resultTypes.toList).any (Tryz.prog.wideKeysFrom ·))) = true := by kernel_rfl
set_option maxRecDepth 100000 in
theorem mf18 : (Rows.topMouldedBlameSpec.vars.all (Tryz.prog.varReadable ·)) = true := by kernel_rfl
set_option maxRecDepth 100000 in
theorem mf19 : (Tryz.f3.resultTypes.all (fun t => Tryz.prog.readableRec t && decide (t < Tryz.prog.types.size))) = true := by kernel_rfl
set_option maxRecDepth 100000 in
theorem mf20 : ((Rows.topMouldedBlameRow.ifacesOut == Tryz.f3.resultTypes.toList.any (Tryz.prog.ifacesRec ·))) = true := by kernel_rfl
set_option maxRecDepth 100000 in
theorem mf21 : ((Rows.topMouldedBlameRow.loopsOut == Tryz.f3.resultTypes.toList.any (Tryz.prog.loopsFrom ·))) = true := by kernel_rfl
set_option maxRecDepth 100000 in
theorem mf22 : ((Rows.topMouldedBlameRow.plainKeys == Tryz.prog.plainKeys)) = true := by kernel_rfl
set_option maxRecDepth 100000 in
theorem mf23 : (Rows.topMouldedBlameRow.shortTexts.isNone) = true := by kernel_rfl
set_option maxRecDepth 100000 in
theorem mf24 : (Tryz.prog.stopsHeard) = true := by kernel_rfl
set_option maxRecDepth 100000 in
theorem mf25 : (Tryz.prog.mayEnter) = true := by kernel_rfl
set_option maxRecDepth 100000 in
theorem mf26 : ((Rows.topMouldedBlameRow.lifted == Tryz.prog.liftsFinal)) = true := by kernel_rfl
set_option maxRecDepth 100000 in
theorem mf27 : ((Tryz.prog.make == some Rows.topMouldedBlameRow.make)) = true := by kernel_rfl
set_option maxRecDepth 100000 in
theorem mf28 : ((Rows.topMouldedBlameRow.kinds == (if Rows.topMouldedBlameRow.domain.isEmpty then [] else Tryz.f3.params.toList.map fun t => match Tryz.prog.underlying t with | some (.int k) => some k | _ => none))) = true := by kernel_rfl
set_option maxRecDepth 100000 in
theorem mf29 : ((Rows.topMouldedBlameRow.pinned == Rows.topMouldedBlameRow.pinnedBy)) = true := by kernel_rfl
set_option maxRecDepth 100000 in
theorem mf30 : ((Rows.topMouldedBlameRow.veiled == (Tryz.f3.params.toList ++ Rows.topMouldedBlameSpec.plain.varTypes Tryz.prog ++ Tryz.f3.resultTypes.toList).any (Tryz.prog.veiledRec ·))) = true := by kernel_rfl
set_option maxRecDepth 100000 in
theorem mf31 : (Rows.topMouldedBlameRow.veiledFits Tryz.prog Tryz.f3.params.toList (Tryz.f3.params.toList ++ Rows.topMouldedBlameSpec.plain.varTypes Tryz.prog ++ Tryz.f3.resultTypes.toList)) = true := by kernel_rfl
theorem andM {a b : Bool} (ha : a = true) (hb : b = true) : (a && b) = true := by rw [ha, hb]; rfl
set_option maxRecDepth 100000 in
theorem joinedM_ok : joinedFacts Tryz.prog 3 Tryz.f3 Rows.topMouldedBlameSpec Rows.topMouldedBlameRow = true := (andM (andM (andM (andM (andM (andM (andM (andM (andM (andM (andM (andM (andM (andM (andM (andM (andM (andM (andM (andM (andM (andM (andM (andM (andM (andM (andM (andM (andM (andM (andM mf0 mf1) mf2) mf3) mf4) mf5) mf6) mf7) mf8) mf9) mf10) mf11) mf12) mf13) mf14) mf15) mf16) mf17) mf18) mf19) mf20) mf21) mf22) mf23) mf24) mf25) mf26) mf27) mf28) mf29) mf30) mf31)
set_option maxRecDepth 100000 in
theorem namedM_ok : Tryz.prog.funcNamed Rows.topMouldedBlameRow.func = some 3 := by kernel_rfl
end Go.Proofs.YtdgllpcfmkjfhaaGreat
