/- Texts of the proof, laid together by program. -/
import Derived.Test.YtdgllpcfmkjfhaaGreatMi
set_option linter.unusedSimpArgs false
set_option linter.unusedVariables false
/- Calls with that proof besides. -/
namespace Go.Proofs.YtdgllpcfmkjfhaaGreat
open Go
noncomputable section
theorem frOne_ok {call : Call} (hc : CallOk Tryz.prog call) {f : Nat} {e : Fr} (he : frOk call f e = true) {args : List Value} {hp : Hp} {nx wm : Nat} {oc : Oc} (h : frAny [e] args hp nx wm = some oc) : SimF Tryz.prog (.func f) args hp nx wm oc :=
  frAny_ok hc (fun e' h' => by rw [List.mem_singleton.1 h']; exact he) h
def nt1 : Nat' := fun f => match f with
  | 189 => some (frAny [fr189])
  | _ => none
theorem nt1_ok : NatOk Tryz.prog nt1 := fun f h hf args hp nx wm oc ho => by
  unfold nt1 at hf
  split at hf
  · rw [← Option.some.inj hf] at ho; exact frOne_ok call0_ok T3_ok ho
  · cases hf
def call1 : Call := callB cx1 hts nt1 200
theorem call1_ok : CallOk Tryz.prog call1 := callB_ok cx1_ok nt1_ok 200
end
end Go.Proofs.YtdgllpcfmkjfhaaGreat
