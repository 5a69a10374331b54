/- Texts of the proof, laid together by program. -/
import Derived.Test.YtdgllpcfmkjfhaaGreatMk
import Derived.Test.YtdgllpcfmkjfhaaGreatMl
import Derived.Test.YtdgllpcfmkjfhaaGreatMm
import Derived.Test.YtdgllpcfmkjfhaaGreatMn
import Derived.Test.YtdgllpcfmkjfhaaGreatMo
import Derived.Test.YtdgllpcfmkjfhaaGreatMp
import Derived.Test.YtdgllpcfmkjfhaaGreatMf
import Derived.KernelRfl
set_option linter.unusedSimpArgs false
set_option linter.unusedVariables false
/- The examples of all laws up to the sixth, by what is known of each. -/
namespace Go.Proofs.YtdgllpcfmkjfhaaGreat
open Go
noncomputable section
def nt5 : Nat' := fun f => match f with
  | 139 | 140 | 141 | 100 | 57 | 24 => some (frAny [frT])
  | _ => none
theorem nt5_ok : NatOk Tryz.prog nt5 := fun f h hf args hp nx wm oc ho => by
  unfold nt5 at hf
  split at hf
  · rw [← Option.some.inj hf] at ho; exact frOne_ok call1_ok T4a_ok ho
  · rw [← Option.some.inj hf] at ho; exact frOne_ok call0_ok T4b_ok ho
  · rw [← Option.some.inj hf] at ho; exact frOne_ok call0_ok T4c_ok ho
  · rw [← Option.some.inj hf] at ho; exact frOne_ok call0_ok T4d_ok ho
  · rw [← Option.some.inj hf] at ho; exact frOne_ok call0_ok T4e_ok ho
  · rw [← Option.some.inj hf] at ho; exact frOne_ok call0_ok T4f_ok ho
  · cases hf
def call5 : Call := callB cx1 hts nt5 200
theorem call5_ok : CallOk Tryz.prog call5 := callB_ok cx1_ok nt5_ok 200
set_option maxRecDepth 100000 in
theorem T6_ok : frOk call5 6 frT = true := by decide +kernel
end
end Go.Proofs.YtdgllpcfmkjfhaaGreat
/- Runs in which some registers' values stay unknown to the evaluator: registers as they are, and those that it looks at. Over any program. -/
namespace Go.Proofs.YtdgllpcfmkjfhaaGreat
open Go.RowKit
set_option linter.unusedVariables false
noncomputable section
variable {P : Program} {cx : Cx}
end
end Go.Proofs.YtdgllpcfmkjfhaaGreat
/- Code in which some small numbers stay unknown to the evaluator, all but their rests. Over any program. -/
namespace Go.Proofs.YtdgllpcfmkjfhaaGreat
open Go.RowKit
set_option linter.unusedVariables false
noncomputable section
variable {P : Program} {cx : Cx}
inductive SpO where
  | no
  | al (d t : Nat) (b : Bool)
  | rem (d t : Nat) (y : Operand)
/-! ### Code -/
end
end Go.Proofs.YtdgllpcfmkjfhaaGreat
/- What the evaluator finds of a call, said of the program. Over any program. -/
namespace Go.Proofs.YtdgllpcfmkjfhaaGreat
open Go.RowKit
set_option linter.unusedVariables false
noncomputable section
variable {P : Program} {cx : Cx}
def noE : Env := fun _ => none
theorem rel_none (G : Gh) (w : World) : Rel G noE (t5 Blk) 1 w :=
  ⟨fun _ _ => rfl, (fun _ _ e => nomatch e), (fun _ _ _ e => nomatch e), (fun _ _ _ _ _ _ e => nomatch e), (fun n m rw ks es cl st g => by rw [g5_t5] at g; cases g), fun n _ => g5_t5 n⟩
theorem Post.below {G : Gh} {w w' : World} {E' : Env} {hp' : Hp} {nx' wm wm' : Nat} (h : Post G noE (t5 Blk) 1 wm w E' hp' nx' wm' w') : Below w.heap.size w w' :=
  ⟨h.kept.io.1, h.kept.io.2.1, h.kept.io.2.2, h.kept.size, fun k hk => h.kept.blk k hk fun _ _ _ e => nomatch e⟩
def Flat (v : Value) : Prop := ∀ (E : Env) (v' : Value), VR E v v' → v' = v
theorem flat_bool (b : Bool) : Flat (.bool b) := fun E v' h => by cases h; rfl
theorem SimF.calls {f : FuncId} {args : List Value} {v : Value} {hp' : Hp} {nx' wm' : Nat} (h : SimF P (.func f) args (t5 Blk) 1 1 ⟨v, hp', nx', wm'⟩) (ha : LR noE args args) (hv : Flat v) (w : World) : Calls P f ⟨args⟩ w fun e w' => e = .returned v ∧ Below w.heap.size w w' :=
  (callsIn_wide (n := 0)).1 (h.2 (fun _ => ([], [], ⟨false, [], [], 0⟩)) noE w args none 0 _ (rel_none _ w) ha fun E' v' w' hv' hp => ⟨by rw [hv E' v' hv'], hp.below⟩)
end
end Go.Proofs.YtdgllpcfmkjfhaaGreat
/- The examples of all laws up to the sixth, as a call. -/
namespace Go.Proofs.YtdgllpcfmkjfhaaGreat
open Go Go.RowKit
theorem works06_any (w : World) : Calls Tryz.prog 6 #[] w fun e w' => e = .returned (.bool true) ∧ Below w.heap.size w w' := by
  have hf : frAny [frT] [] (t5 Blk) 1 1 = some ⟨.bool true, t5 Blk, 1, 1⟩ := by kernel_rfl
  exact SimF.calls (args := []) (frOne_ok call5_ok T6_ok hf) .nil (flat_bool true) w
end Go.Proofs.YtdgllpcfmkjfhaaGreat
