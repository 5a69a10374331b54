/- Texts of the proof, laid together by program. -/
import Derived.Test.YtdgllpcfmkjfhaaGreatMe
import Derived.Test.YtdgllpcfmkjfhaaGreatProg
import Derived.Test.YtdgllpcfmkjfhaaGreatMb
import Derived.WalkKit
import Derived.WalkSpells
import Derived.WalkLawsBesides
import Derived.Deep.Draws
import Derived.Deep.AppendLies
import Derived.Laws.Rows
import Derived.StillTail
import Derived.RangeFuncNested
import Derived.RangeFuncBound
import Derived.RangeFuncCalls
import Derived.RangeFuncLeaves
import Derived.OwnWalkIn
import Derived.TacticsInMore
import Derived.LoopNIn
import Derived.LoopIn
import Derived.OrdersIn
import Derived.RegionIn
set_option linter.unusedSimpArgs false
set_option linter.unusedVariables false
/- The quick evaluator's calls. Over any program. -/
namespace Go.Proofs.YtdgllpcfmkjfhaaGreat
open Go.RowKit
set_option linter.unusedVariables false
noncomputable section
variable {P : Program} {cx : Cx}

/-! ### Results -/
def ldX (cx : Cx) (t n q : Nat) (hp : Hp) : Option Value := match undX cx t, g5 t cx.ti with
  | some d, some i => (match g5 n hp with
    | some (.row cs) => Bool.rec (nth cs q) (Bool.rec none (some (.agg ⟨takeN (dropN cs q) i.size⟩)) (hasN cs (Nat.add q i.size))) d.isRow
    | _ => none)
  | _, _ => none
theorem ldX_ok (hc : CxOk P cx) {t n q : Nat} {hp : Hp} {v : Value} (h : ldX cx t n q hp = some v) : loadV P hp t n q = some v := by
  unfold ldX at h
  split at h
  · rename_i d i hd hi
    split at h
    · rename_i cs hcs
      unfold loadV
      rw [undX_ok hc hd, hc.ti _ _ hi, hcs]
      simp only
      cases hr : d.isRow with
      | true =>
        rw [hr] at h
        replace h : (Bool.rec none (some (.agg ⟨takeN (dropN cs q) i.size⟩)) (hasN cs (Nat.add q i.size)) : Option Value) = some v := h
        cases hb : hasN cs (Nat.add q i.size) with
        | false => rw [hb] at h; cases h
        | true =>
          rw [hb] at h
          rw [if_pos rfl, if_pos (show q + i.size ≤ cs.length from hasN_le hb)]
          exact h
      | false =>
        rw [hr] at h
        rw [if_neg (by simp)]
        exact h
    · cases h
  · cases h
abbrev ResF := Reg → Hp → (List Value → Option Oc) → Option Oc
def resB (cx : Cx) (l : List ResultVar) : Bx ResF := List.rec (Bx.mk fun _ _ k => k []) (fun x _ ih => match x with
  | .tmp t => (g3B t).on fun g => ih.on fun h => Bx.mk fun rg hp k => kO (g rg) fun v => h rg hp fun vs => k (v :: vs)
  | .cell a t => (g3B a).on fun g => ih.on fun h => Bx.mk fun rg hp k => kO (g rg) fun v => kPtr v fun n q => kO (ldX cx t n q hp) fun v => h rg hp fun vs => k (v :: vs)) l
theorem resB_inv (hc : CxOk P cx) {rg : Reg} {hp : Hp} : ∀ {l : List ResultVar} {k : List Value → Option Oc} {r}, (resB cx l).get rg hp k = some r → ∃ vs, resV P rg hp l = some vs ∧ k vs = some r
  | [], k, r, e => ⟨[], rfl, e⟩
  | .tmp t :: l, k, r, e => by
    replace e : ((g3B t).on fun g => (resB cx l).on fun h => Bx.mk fun rg hp (k : List Value → Option Oc) => kO (g rg) fun v => h rg hp fun vs => k (v :: vs)).get rg hp k = some r := e
    rw [Bx.on_eq, Bx.on_eq] at e
    obtain ⟨v, hv, e1⟩ := kO_inv (show kO (g3 t rg) _ = some r from e)
    obtain ⟨vs, hvs, e2⟩ := resB_inv hc e1
    refine ⟨v :: vs, ?_, e2⟩
    simp only [resV, hv, hvs]
  | .cell a t :: l, k, r, e => by
    replace e : ((g3B a).on fun g => (resB cx l).on fun h => Bx.mk fun rg hp (k : List Value → Option Oc) => kO (g rg) fun v => kPtr v fun n q => kO (ldX cx t n q hp) fun v => h rg hp fun vs => k (v :: vs)).get rg hp k = some r := e
    rw [Bx.on_eq, Bx.on_eq] at e
    obtain ⟨v, hv, e1⟩ := kO_inv (show kO (g3 a rg) _ = some r from e)
    obtain ⟨n, q, rfl, e2⟩ := kPtr_inv e1
    obtain ⟨u, hu, e3⟩ := kO_inv e2
    obtain ⟨vs, hvs, e4⟩ := resB_inv hc e3
    refine ⟨u :: vs, ?_, e4⟩
    simp only [resV, hv, ldX_ok hc hu, hvs]

/-! ### Functions -/
def one1 (a : An) (k : Option Ex → Reg → Hp → Nat → Nat → Option Oc) : Option Oc := Option.rec none (fun l => List.rec none (fun o m _ => List.rec (Prod.rec (fun e s => St.rec (fun rg hp nx wm => k e rg hp nx wm) s) o) (fun _ _ _ => none) m) l) a
theorem one1_inv {a : An} {k : Option Ex → Reg → Hp → Nat → Nat → Option Oc} {r} (h : one1 a k = some r) : ∃ e s, a = some [(e, s)] ∧ k e s.rg s.hp s.nx s.wm = some r := by
  match a, h with
  | some [(e, ⟨rg, hp, nx, wm⟩)], h => exact ⟨e, _, rfl, h⟩
  | none, h => cases h
  | some [], h => cases h
  | some (_ :: _ :: _), h => cases h
def runK (f : CC) (call : Call) (rg : Reg) (hp : Hp) (nx wm : Nat) : An := f call rg hp nx wm kn0 kx0
theorem runK_snd (hc : CxOk P cx) {call : Call} (hcall : CallOk P call) {N : Nat} {c : Code} {rg : Reg} {hp : Hp} {nx wm : Nat} {l : List (Option Ex × St)} {sg : Ht} (h : runK (codeB cx sg N c).get call rg hp nx wm = some l) : SimC P N c ⟨rg, hp, nx, wm⟩ l :=
  (codeB_snd hc hcall c rg hp nx wm kn0 kx0 l h).toC fun e s' ⟨l', h1, h2⟩ => by
    refine h2 _ ?_
    cases e with
    | none => rw [← Option.some.inj h1]; exact List.mem_singleton_self _
    | some x => rw [← Option.some.inj h1]; exact List.mem_singleton_self _

inductive FB where
  | mk (nt : Nat) (code : CC) (res : ResF)
def fnB (cx : Cx) (sg : Nat → Ht) (f : Nat) : Bx FB := match g5 f cx.fn with
  | none => Bx.mk ⟨0, fun _ _ _ _ _ _ _ => none, fun _ _ _ => none⟩
  | some fn => match fn.body with
    | none => Bx.mk ⟨0, fun _ _ _ _ _ _ _ => none, fun _ _ _ => none⟩
    | some c => fN fn.ntmps fun nt => (codeB cx (sg f) nt c).on fun g => (resB cx fn.results.toList).on fun r => Bx.mk ⟨nt, g, r⟩
def rOne (vs : List Value) (k : Value → Option Oc) : Option Oc := match vs with
  | [v] => k v
  | l => k (.tuple ⟨l⟩)
theorem rOne_eq (vs : List Value) (k : Value → Option Oc) : rOne vs k = k (resOne vs) := by
  match vs with
  | [] => rfl
  | [v] => rfl
  | _ :: _ :: _ => rfl
def exR (e : Option Ex) (x : Option Oc) : Option Oc := match e with
  | none => x
  | some .ret => x
  | some (.exit _) => none
def fnC (ih : Call) (nt : Nat) (code : CC) (res : ResF) (args : List Value) (hp : Hp) (nx wm : Nat) : Option Oc := kIf (Nat.ble (len args) nt) (kIf (Nat.ble (len args) 512)
  (one1 (runK code ih (regOf args 0 (t3 Value)) hp nx wm) fun e rg hp nx wm => exR e (res rg hp fun vs => rOne vs fun v => some ⟨v, hp, nx, wm⟩)))
def resS (res : ResF) (s : St) : Option Oc := res s.rg s.hp fun vs => some ⟨.tuple ⟨vs⟩, s.hp, 0, 0⟩
def okW (nx : Nat) (res : ResF) (vs : List Value) (o : Option Ex × St) : Bool := and (match o.1 with | some (.exit _) => false | _ => true) (and (Nat.ble nx o.2.wm)
  (match resS res o.2 with | some ⟨.tuple ⟨us⟩, _, _, _⟩ => sameVs vs us | _ => false))
def fnS (ih : Call) (nt : Nat) (code : CC) (res : ResF) (args : List Value) (hp : Hp) (nx wm : Nat) : Option Oc := kIf (Nat.ble (len args) nt) (kIf (Nat.ble (len args) 512)
  (kO (runK code ih (regOf args 0 (t3 Value)) hp nx nx) fun l => match l with
    | [] => none
    | o :: _ => match resS res o.2 with
      | some ⟨.tuple ⟨vs⟩, _, _, _⟩ => kIf (and (allB (blw nx) vs) (allB (okW nx res vs) l)) (rOne vs fun v => some ⟨v, hp, nx, wm⟩)
      | _ => none))
def boolV (e : Option Ex) : Bool := match e with | none => true | some _ => false
def ydC (cx : Cx) (ih : Call) (l : Nat) (args : List Value) (hp : Hp) (nx wm : Nat) : Option Oc := kO (g5 l hp) fun b => match b with
  | .lp N rgL ps asg body none => kO (setPs ps args rgL) fun rg1 => kIf (allB (fun p => and (Nat.blt p N) (Nat.blt p 512)) ps)
      ((s5B (Option Oc) l).get none hp fun hp => (codeB cx ht0 N asg).on fun fa => (codeB cx ht0 N body).on fun fb =>
        one1 (runK fa ih rg1 hp nx wm) fun e rg hp nx wm => match e with
          | none => one1 (runK fb ih rg hp nx wm) fun e _ hp nx wm => (s5B (Option Oc) l).get (some (.lp N rgL ps asg body (codeOf e))) hp fun hp => some ⟨.bool (boolV e), hp, nx, min wm l⟩
          | some _ => none)
  | _ => none
theorem resS_inv {cx : Cx} (hc : CxOk P cx) {l : List ResultVar} {s : St} {us : List Value} {h : Hp} {a b : Nat} (e : resS (resB cx l).get s = some ⟨.tuple ⟨us⟩, h, a, b⟩) : resV P s.rg s.hp l = some us := by
  obtain ⟨vs, h1, h2⟩ := resB_inv hc e
  have := Option.some.inj h2
  injection this with h3
  injection h3 with h3
  have : vs = us := congrArg Array.toList h3
  rw [← this]; exact h1
theorem fnS_ok (hc : CxOk P cx) {call : Call} (hcall : CallOk P call) {f : Nat} {fn : Func} (hf : g5 f cx.fn = some fn) {c : Code} (hb : fn.body = some c) {sg : Ht} {args : List Value} {hp : Hp} {nx wm : Nat} {oc : Oc}
    (e : fnS call fn.ntmps (codeB cx sg fn.ntmps c).get (resB cx fn.results.toList).get args hp nx wm = some oc) : SimF P (.func f) args hp nx wm oc := by
  obtain ⟨q1, q2⟩ := hc.fn _ _ hf
  obtain ⟨c1, e1⟩ := kIf_inv e
  obtain ⟨c2, e2⟩ := kIf_inv e1
  obtain ⟨l, hl, e3⟩ := kO_inv e2
  cases l with
  | nil => cases e3
  | cons o m =>
    replace e3 : (match resS (resB cx fn.results.toList).get o.2 with
      | some ⟨.tuple ⟨vs⟩, _, _, _⟩ => kIf (and (allB (blw nx) vs) (allB (okW nx (resB cx fn.results.toList).get vs) (o :: m))) (rOne vs fun v => some ⟨v, hp, nx, wm⟩)
      | _ => none) = some oc := e3
    split at e3
    · rename_i vs _ _ _ hr
      obtain ⟨c3, e4⟩ := kIf_inv e3
      simp only [Bool.and_eq_true] at c3
      rw [rOne_eq] at e4
      rw [← Option.some.inj e4]
      refine SimF.funcSeg q1 hb q2 (by rw [← len_eq]; exact Nat.le_of_ble_eq_true c1) (by rw [← len_eq]; exact Nat.le_of_ble_eq_true c2) (runK_snd hc hcall hl) (fun v hv => allB_inv c3.1 v hv) fun o' ho' => ?_
      have hw := allB_inv c3.2 o' ho'
      unfold okW at hw
      simp only [Bool.and_eq_true] at hw
      obtain ⟨h1, h2, h3⟩ := hw
      refine ⟨?_, Nat.le_of_ble_eq_true h2, ?_⟩
      · obtain ⟨e', s'⟩ := o'
        match e', h1 with
        | none, _ => exact .inl rfl
        | some .ret, _ => exact .inr rfl
      · split at h3
        · rename_i us _ _ _ hr'
          rw [sameVs_eq h3]
          exact resS_inv hc hr'
        · cases h3
    · cases e3
def okWM (nx : Nat) (res : ResF) (vs : List Value) (reach : List Nat) (R : List (Nat × Blk)) (o : Option Ex × St) : Bool := and (match o.1 with | some (.exit _) => false | _ => true) (and (Nat.ble nx o.2.wm)
  (match resS res o.2 with
    | some ⟨.tuple ⟨us⟩, _, _, _⟩ => and (okR nx (zipR reach (bfs nx o.2.hp 1000 (nsL us []) [])) R o.2.hp) (rn2L nx (zipR reach (bfs nx o.2.hp 1000 (nsL us []) [])) vs us)
    | _ => false))
def fnM (ih : Call) (nt : Nat) (code : CC) (res : ResF) (args : List Value) (hp : Hp) (nx wm : Nat) : Option Oc := kIf (Nat.ble (len args) nt) (kIf (Nat.ble (len args) 512)
  (kO (runK code ih (regOf args 0 (t3 Value)) hp nx nx) fun l => match l with
    | [] => none
    | o :: _ => match resS res o.2 with
      | some ⟨.tuple ⟨vs⟩, _, _, _⟩ => kO (rowsOf (bfs nx o.2.hp 1000 (nsL vs []) []) o.2.hp) fun R => kIf (and (bdR nx o.2.nx R) (allB (okWM nx res vs (bfs nx o.2.hp 1000 (nsL vs []) []) R) l)) (rowsK (Option Oc) R hp fun hp => rOne vs fun v => some ⟨v, hp, o.2.nx, wm⟩)
      | _ => none))
theorem fnM_ok (hc : CxOk P cx) {call : Call} (hcall : CallOk P call) {f : Nat} {fn : Func} (hf : g5 f cx.fn = some fn) {c : Code} (hb : fn.body = some c) {sg : Ht} {args : List Value} {hp : Hp} {nx wm : Nat} {oc : Oc}
    (e : fnM call fn.ntmps (codeB cx sg fn.ntmps c).get (resB cx fn.results.toList).get args hp nx wm = some oc) : SimF P (.func f) args hp nx wm oc := by
  obtain ⟨q1, q2⟩ := hc.fn _ _ hf
  obtain ⟨c1, e1⟩ := kIf_inv e
  obtain ⟨c2, e2⟩ := kIf_inv e1
  obtain ⟨l, hl, e3⟩ := kO_inv e2
  cases l with
  | nil => cases e3
  | cons o m =>
    replace e3 : (match resS (resB cx fn.results.toList).get o.2 with
      | some ⟨.tuple ⟨vs⟩, _, _, _⟩ => kO (rowsOf (bfs nx o.2.hp 1000 (nsL vs []) []) o.2.hp) fun R => kIf (and (bdR nx o.2.nx R) (allB (okWM nx (resB cx fn.results.toList).get vs (bfs nx o.2.hp 1000 (nsL vs []) []) R) (o :: m))) (rowsK (Option Oc) R hp fun hp => rOne vs fun v => some ⟨v, hp, o.2.nx, wm⟩)
      | _ => none) = some oc := e3
    split at e3
    · rename_i vs _ _ _ hr
      obtain ⟨R, hR, e4⟩ := kO_inv e3
      obtain ⟨c3, e5⟩ := kIf_inv e4
      simp only [Bool.and_eq_true] at c3
      obtain ⟨b1, b2, b3⟩ := bdR_ok c3.1
      rw [rowsK_eq, rOne_eq] at e5
      rw [← Option.some.inj e5]
      refine SimF.funcMerge q1 hb q2 (by rw [← len_eq]; exact Nat.le_of_ble_eq_true c1) (by rw [← len_eq]; exact Nat.le_of_ble_eq_true c2) (runK_snd hc hcall hl) b3 b1 b2 fun o' ho' => ?_
      have hw := allB_inv c3.2 o' ho'
      unfold okWM at hw
      simp only [Bool.and_eq_true] at hw
      obtain ⟨h1, h2, h3⟩ := hw
      refine ⟨?_, Nat.le_of_ble_eq_true h2, ?_⟩
      · obtain ⟨e', s'⟩ := o'
        match e', h1 with
        | none, _ => exact .inl rfl
        | some .ret, _ => exact .inr rfl
      · split at h3
        · rename_i us _ _ _ hr'
          simp only [Bool.and_eq_true] at h3
          exact ⟨_, us, okR_ok h3.1, resS_inv hc hr', h3.2⟩
        · cases h3
    · cases e3
abbrev Nat' := Nat → Option (List Value → Hp → Nat → Nat → Option Oc)
def NatOk (P : Program) (nt : Nat') : Prop := ∀ f h, nt f = some h → ∀ args hp nx wm oc, h args hp nx wm = some oc → SimF P (.func f) args hp nx wm oc
def orN (h : Option (List Value → Hp → Nat → Nat → Option Oc)) (args : List Value) (hp : Hp) (nx wm : Nat) (x : Option Oc) : Option Oc := Option.rec x (fun h => Option.rec x (fun oc => some oc) (h args hp nx wm)) h
def callB (cx : Cx) (sg : Nat → Ht) (nt : Nat') (n : Nat) : Call := Nat.rec (fun _ _ _ _ _ => none) (fun _ ih fn args hp nx wm => match fn with
  | .func f => orN (nt f) args hp nx wm ((fnB cx sg f).on fun b => FB.rec (fun nt code res => Nat.rec (fnC ih nt code res args hp nx wm) (fun j _ => Nat.rec (fnS ih nt code res args hp nx wm) (fun _ _ => fnM ih nt code res args hp nx wm) j) (sg f).fs) b)
  | .yield l => ydC cx ih l args hp nx wm
  | _ => none) n
theorem callB_ok (hc : CxOk P cx) {sg : Nat → Ht} {nt : Nat'} (hnt : NatOk P nt) : ∀ n, CallOk P (callB cx sg nt n)
  | 0 => fun fn args hp nx wm oc e => by cases e
  | n + 1 => fun fn args hp nx wm oc e => by
    have ih := callB_ok hc (sg := sg) hnt n
    cases fn with
    | func f =>
      have hcase : (∃ h, nt f = some h ∧ h args hp nx wm = some oc) ∨ ((fnB cx sg f).on fun b => (FB.rec (fun nt' code res => Nat.rec (fnC (callB cx sg nt n) nt' code res args hp nx wm) (fun j _ => Nat.rec (fnS (callB cx sg nt n) nt' code res args hp nx wm) (fun _ _ => fnM (callB cx sg nt n) nt' code res args hp nx wm) j) (sg f).fs) b : Option Oc)) = some oc := by
        replace e : orN (nt f) args hp nx wm ((fnB cx sg f).on fun b => (FB.rec (fun nt' code res => Nat.rec (fnC (callB cx sg nt n) nt' code res args hp nx wm) (fun j _ => Nat.rec (fnS (callB cx sg nt n) nt' code res args hp nx wm) (fun _ _ => fnM (callB cx sg nt n) nt' code res args hp nx wm) j) (sg f).fs) b : Option Oc)) = some oc := e
        unfold orN at e
        cases hN : nt f with
        | none => rw [hN] at e; exact .inr e
        | some h =>
          rw [hN] at e
          cases hh : h args hp nx wm with
          | none => simp only [hh] at e; exact .inr e
          | some oc' => simp only [hh] at e; exact .inl ⟨h, rfl, hh.trans e⟩
      rcases hcase with ⟨h, hN, hh⟩ | e
      · exact hnt f h hN _ _ _ _ _ hh
      · skip
        replace e : ((fnB cx sg f).on fun b => (FB.rec (fun nt' code res => Nat.rec (fnC (callB cx sg nt n) nt' code res args hp nx wm) (fun j _ => Nat.rec (fnS (callB cx sg nt n) nt' code res args hp nx wm) (fun _ _ => fnM (callB cx sg nt n) nt' code res args hp nx wm) j) (sg f).fs) b : Option Oc)) = some oc := e
        cases hfs : (sg f).fs with
        | succ j =>
          cases j with
          | zero =>
            rw [hfs, Bx.on_eq] at e
            unfold fnB at e
            cases hf : g5 f cx.fn with
            | none =>
              rw [hf] at e
              obtain ⟨_, e1⟩ := kIf_inv (show fnS _ _ _ _ _ _ _ _ = some oc from e)
              obtain ⟨_, e2⟩ := kIf_inv e1
              cases e2
            | some fn =>
              rw [hf] at e
              simp only at e
              cases hb : fn.body with
              | none =>
                rw [hb] at e
                obtain ⟨_, e1⟩ := kIf_inv (show fnS _ _ _ _ _ _ _ _ = some oc from e)
                obtain ⟨_, e2⟩ := kIf_inv e1
                cases e2
              | some c =>
                rw [hb] at e
                simp only [fN_eq, Bx.on_eq] at e
                exact fnS_ok hc ih hf hb e
          | succ j =>
            rw [hfs, Bx.on_eq] at e
            unfold fnB at e
            cases hf : g5 f cx.fn with
            | none =>
              rw [hf] at e
              obtain ⟨_, e1⟩ := kIf_inv (show fnM _ _ _ _ _ _ _ _ = some oc from e)
              obtain ⟨_, e2⟩ := kIf_inv e1
              cases e2
            | some fn =>
              rw [hf] at e
              simp only at e
              cases hb : fn.body with
              | none =>
                rw [hb] at e
                obtain ⟨_, e1⟩ := kIf_inv (show fnM _ _ _ _ _ _ _ _ = some oc from e)
                obtain ⟨_, e2⟩ := kIf_inv e1
                cases e2
              | some c =>
                rw [hb] at e
                simp only [fN_eq, Bx.on_eq] at e
                exact fnM_ok hc ih hf hb e
        | zero =>
        rw [hfs] at e
        replace e : ((fnB cx sg f).on fun b => (FB.rec (fun nt' code res => fnC (callB cx sg nt n) nt' code res args hp nx wm) b : Option Oc)) = some oc := e
        rw [Bx.on_eq] at e
        unfold fnB at e
        cases hf : g5 f cx.fn with
        | none =>
          rw [hf] at e
          obtain ⟨_, e1⟩ := kIf_inv (show fnC _ _ _ _ _ _ _ _ = some oc from e)
          obtain ⟨_, e2⟩ := kIf_inv e1
          cases e2
        | some fn =>
          rw [hf] at e
          simp only at e
          cases hb : fn.body with
          | none =>
            rw [hb] at e
            obtain ⟨_, e1⟩ := kIf_inv (show fnC _ _ _ _ _ _ _ _ = some oc from e)
            obtain ⟨_, e2⟩ := kIf_inv e1
            cases e2
          | some c =>
            rw [hb] at e
            simp only [fN_eq, Bx.on_eq] at e
            obtain ⟨c1, e1⟩ := kIf_inv (show fnC (callB cx sg nt n) fn.ntmps (codeB cx (sg f) fn.ntmps c).get (resB cx fn.results.toList).get args hp nx wm = some oc from e)
            obtain ⟨c2, e2⟩ := kIf_inv e1
            obtain ⟨ex, s, h1, h2⟩ := one1_inv e2
            obtain ⟨q1, q2⟩ := hc.fn _ _ hf
            have hex : (ex = none ∨ ex = some .ret) ∧ (resB cx fn.results.toList).get s.rg s.hp (fun vs => rOne vs fun v => some ⟨v, s.hp, s.nx, s.wm⟩) = some oc := by
              match ex, h2 with
              | none, h2 => exact ⟨.inl rfl, h2⟩
              | some .ret, h2 => exact ⟨.inr rfl, h2⟩
            obtain ⟨vs, h3, h4⟩ := resB_inv hc hex.2
            rw [rOne_eq] at h4
            refine SimF.func q1 hb q2 (by rw [← len_eq]; exact Nat.le_of_ble_eq_true c1) (by rw [← len_eq]; exact Nat.le_of_ble_eq_true c2) (runK_snd hc ih h1) fun o ho => ?_
            simp only [List.mem_singleton] at ho; subst ho
            exact ⟨hex.1, vs, h3, (Option.some.inj h4).symm⟩
    | yield l =>
      obtain ⟨b, hb, e1⟩ := kO_inv (show ydC cx (callB cx sg nt n) l args hp nx wm = some oc from e)
      cases b with
      | lp N rgL ps asg body pend => cases pend with
        | some p => cases e1
        | none =>
          obtain ⟨rg1, hps, e2⟩ := kO_inv (show kO (setPs ps args rgL) _ = some oc from e1)
          obtain ⟨hpN, e3⟩ := kIf_inv e2
          rw [s5_on] at e3
          simp only [Bx.on_eq] at e3
          obtain ⟨ex, s, h1, h2⟩ := one1_inv e3
          cases ex with
          | some x => cases h2
          | none =>
            obtain ⟨ex2, s2, h3, h4⟩ := one1_inv (show one1 _ _ = some oc from h2)
            rw [s5_on] at h4
            have := SimF.round (P := P) (wm := wm) hb hps (fun p hp' => by
              have := allB_inv hpN p hp'
              simp only [Bool.and_eq_true] at this
              exact ⟨Nat.blt_eq.mp this.1, Nat.blt_eq.mp this.2⟩) (runK_snd hc ih h1) (runK_snd hc ih h3)
            have hoc := Option.some.inj h4
            rw [← hoc]
            cases ex2 <;> exact this
      | _ => cases e1
    | _ => cases e
end
end Go.Proofs.YtdgllpcfmkjfhaaGreat
/- What a function gives at a small heap, it gives wherever the same lies. Over any program. -/
namespace Go.Proofs.YtdgllpcfmkjfhaaGreat
open Go.RowKit
set_option linter.unusedVariables false
noncomputable section
variable {P : Program}
def blw2 (n : Nat) (v : Value) : Bool := match v with
  | .tuple l => List.rec true (fun v _ ih => and (blw n v) ih) l.toList
  | v => blw n v
theorem LR.blw2 {E E' : Env} {n : Nat} (hE : ∀ m, m < n → E' m = E m) : ∀ {l m : List Value}, LR E' l m → (List.rec true (fun v _ ih => and (blw n v) ih) l : Bool) = true → LR E l m
  | [], _, .nil, _ => .nil
  | v :: l, _, .cons h h', hb => by
    replace hb : and (blw n v) (List.rec true (fun v _ ih => and (blw n v) ih) l : Bool) = true := hb
    rw [Bool.and_eq_true] at hb
    exact .cons (h.blw hE hb.1) (LR.blw2 hE h' hb.2)
theorem VR.blw2 {E E' : Env} {n : Nat} (hE : ∀ m, m < n → E' m = E m) {v v' : Value} (h : VR E' v v') (hb : blw2 n v = true) : VR E v v' := by
  cases v with
  | tuple l => cases h with | tup h => exact .tup (LR.blw2 hE h hb)
  | _ => exact h.blw hE hb
structure FrOk (ρ : List (Nat × Nat)) (R : List (Nat × Blk)) (nxc : Nat) (hp : Hp) : Prop where
  row : ∀ p ∈ R, ∃ m k', asc ρ p.1 = some m ∧ g5 m hp = some k' ∧ rnB 0 ρ p.2 k' = true
  inj : ∀ p ∈ R, ∀ q ∈ R, asc ρ p.1 = asc ρ q.1 → p.1 = q.1
  key : ∀ n m, asc ρ n = some m → n < nxc
  lt : ∀ p ∈ R, p.1 < nxc
  le : nxc ≤ 32768
def envR (E : Env) (ρ : List (Nat × Nat)) : Env := fun n => match asc ρ n with
  | none => none
  | some m => E m
theorem envR_nm {E : Env} {ρ : List (Nat × Nat)} : ∀ n m, nmR 0 ρ n m = true → envR E ρ n = E m := fun n m h => by
  unfold nmR at h
  unfold envR
  rw [show Nat.blt n 0 = false from by cases hb : Nat.blt n 0 with | false => rfl | true => exact absurd (Nat.blt_eq.mp hb) (by omega)] at h
  cases ha : asc ρ n with
  | none => rw [ha] at h; cases h
  | some k =>
    rw [ha] at h
    have := Nat.eq_of_beq_eq_true h
    subst this
    rfl
theorem rel_frame {G : Gh} {E : Env} {hp : Hp} {nx : Nat} {w : World} (hr : Rel G E hp nx w) {ρ : List (Nat × Nat)} {R : List (Nat × Blk)} {nxc : Nat} (h : FrOk ρ R nxc hp) : Rel G (envR E ρ) (rowsH R (t5 Blk)) nxc w := by
  have hR5 : ∀ p ∈ R, p.1 < 32768 := fun p hp => by have := h.lt p hp; have := h.le; omega
  have get : ∀ n k, g5 n (rowsH R (t5 Blk)) = some k → ∃ p ∈ R, p.1 = n ∧ k = p.2 := fun n k g => by
    rcases g5_rowsH hR5 n k g with h1 | ⟨_, g⟩
    · exact h1
    · rw [g5_t5] at g; cases g
  refine ⟨fun n hn => ?_, fun n x e => ?_, fun n x k e g => ?_, fun n m x y k k' e1 e2 g1 g2 hxy => ?_, fun n m rw ks es cl st g => ?_, fun n hn => ?_⟩
  · unfold envR
    split
    · rfl
    · rename_i m hm
      have := h.key n m hm; omega
  · unfold envR at e
    split at e
    · cases e
    · exact hr.lt _ x e
  · obtain ⟨p, hp, rfl, rfl⟩ := get n k g
    obtain ⟨m, cs', h1, h2, h3⟩ := h.row p hp
    unfold envR at e
    rw [h1] at e
    exact rnB_br envR_nm h3 (hr.blk m x _ e h2)
  · obtain ⟨p, hp, rfl, rfl⟩ := get n k g1
    obtain ⟨q, hq, rfl, rfl⟩ := get m k' g2
    obtain ⟨a, cs1, h1, h2, _⟩ := h.row p hp
    obtain ⟨b, cs2, h3, h4, _⟩ := h.row q hq
    unfold envR at e1 e2
    rw [h1] at e1
    rw [h3] at e2
    have := hr.inj a b x y _ _ e1 e2 h2 h4 hxy
    exact h.inj p hp q hq (by rw [h1, h3, this])
  · obtain ⟨p, hp, _, hh⟩ := get n _ g
    obtain ⟨_, _, _, _, q4⟩ := h.row p hp
    exact absurd hh.symm ((rnB_kind q4).1 _ _ _ _ _ _)
  · cases hg : g5 n (rowsH R (t5 Blk)) with
    | none => rfl
    | some k =>
      obtain ⟨p, hp, rfl, _⟩ := get n k hg
      have := h.lt p hp; omega
theorem SimF.frame {f : FuncId} {argsc : List Value} {R : List (Nat × Blk)} {nxc : Nat} {v : Value} {hp' : Hp} {nx' wm' : Nat} (hS : SimF P (.func f) argsc (rowsH R (t5 Blk)) nxc nxc ⟨v, hp', nx', wm'⟩) (hwm : nxc ≤ wm') (hv : blw2 0 v = true)
    {ρ : List (Nat × Nat)} {args : List Value} {hp : Hp} {nx wm : Nat} (h : FrOk ρ R nxc hp) (ha : rn2L 0 ρ argsc args = true) : SimF P (.func f) args hp nx wm ⟨v, hp, nx, wm⟩ := by
  refine ⟨hS.1, fun G E w args' ro n K hr hl hK => ?_⟩
  refine hS.2 G (envR E ρ) w args' ro n K (rel_frame hr h) (rn2L_vr envR_nm ha hl) fun E' v' w' hv' hp => ?_
  have hb := (rel_frame hr h).bound
  have hkeep : ∀ r, r < w.heap.size → w'.heap[r]? = w.heap[r]? := fun r hr => hp.kept.blk r hr fun m x q e _ hm => by rw [hb m (by simp only at hm; omega)] at e; cases e
  exact hK E v' w' (VR.blw2 (n := 0) (fun m hm => by omega) hv' hv) ((Post.refl hr wm).stay hp.kept.size hkeep hp.kept.io)
end
end Go.Proofs.YtdgllpcfmkjfhaaGreat
/- What is known of calls: at small heaps; and so wherever the same lies. Over any program. -/
namespace Go.Proofs.YtdgllpcfmkjfhaaGreat
open Go.RowKit
set_option linter.unusedVariables false
noncomputable section
variable {P : Program} {cx : Cx}
structure Fr where
  args : List Value
  R : List (Nat × Blk)
  nxc : Nat
  v : Value
def frH (e : Fr) : Hp := rowsK Hp e.R (t5 Blk) fun h => h
def frOk (call : Call) (f : Nat) (e : Fr) : Bool := and (blw2 0 e.v) (Option.rec false (fun oc => and (Nat.ble e.nxc oc.wm) (sameV e.v oc.v)) (call (.func f) e.args (frH e) e.nxc e.nxc))
def okF (ρ : List (Nat × Nat)) (R : List (Nat × Blk)) (nxc : Nat) (hp : Hp) : Bool := and (allB (fun p => and (Nat.blt p.1 nxc) (Option.rec false (fun m => (match g5 m hp with
  | some k' => rnB 0 ρ p.2 k'
  | _ => false)) (asc ρ p.1))) R) (and (allB (fun p => allB (fun q => impB (oeqN (asc ρ p.1) (asc ρ q.1)) (Nat.beq p.1 q.1)) R) R) (and (allB (fun e => Nat.blt e.1 nxc) ρ) (Nat.ble nxc 32768)))
theorem okF_ok {ρ : List (Nat × Nat)} {R : List (Nat × Blk)} {nxc : Nat} {hp : Hp} (h : okF ρ R nxc hp = true) : FrOk ρ R nxc hp := by
  unfold okF at h
  simp only [Bool.and_eq_true] at h
  obtain ⟨h1, h2, h3, h4⟩ := h
  refine ⟨fun p hpR => ?_, fun p hpR q hq e => ?_, fun n m hm => ?_, fun p hpR => ?_, Nat.le_of_ble_eq_true h4⟩
  · have := allB_inv h1 p hpR
    simp only [Bool.and_eq_true] at this
    have := this.2
    cases ha : asc ρ p.1 with
    | none => rw [ha] at this; cases this
    | some m =>
      rw [ha] at this
      replace this : (match g5 m hp with | some k' => rnB 0 ρ p.2 k' | _ => false) = true := this
      split at this
      · rename_i cs' hg
        exact ⟨m, cs', rfl, hg, this⟩
      · cases this
  · have := impB_inv (allB_inv (allB_inv h2 p hpR) q hq) (by rw [e]; exact oeqN_refl _)
    exact Nat.eq_of_beq_eq_true this
  · obtain ⟨e, he, rfl⟩ := asc_mem hm
    exact Nat.blt_eq.mp (allB_inv h3 e he)
  · have := allB_inv h1 p hpR
    simp only [Bool.and_eq_true] at this
    exact Nat.blt_eq.mp this.1
def frTry (e : Fr) (args : List Value) (hp : Hp) (nx wm : Nat) : Option Oc := kIf (and (okF (zipR (bfs 0 (frH e) 1000 (nsL e.args []) []) (bfs 0 hp 1000 (nsL args []) [])) e.R e.nxc hp) (rn2L 0 (zipR (bfs 0 (frH e) 1000 (nsL e.args []) []) (bfs 0 hp 1000 (nsL args []) [])) e.args args)) (some ⟨e.v, hp, nx, wm⟩)
def frAny (l : List Fr) (args : List Value) (hp : Hp) (nx wm : Nat) : Option Oc := List.rec none (fun e _ ih => Option.rec ih (fun oc => some oc) (frTry e args hp nx wm)) l
theorem frTry_ok {call : Call} (hcall : CallOk P call) {f : Nat} {e : Fr} (h : frOk call f e = true) {args : List Value} {hp : Hp} {nx wm : Nat} {oc : Oc} (ho : frTry e args hp nx wm = some oc) : SimF P (.func f) args hp nx wm oc := by
  unfold frOk at h
  simp only [Bool.and_eq_true] at h
  obtain ⟨h1, h2⟩ := h
  obtain ⟨c1, h3⟩ := kIf_inv ho
  simp only [Bool.and_eq_true] at c1
  rw [← Option.some.inj h3]
  cases hc : call (.func f) e.args (frH e) e.nxc e.nxc with
  | none => rw [hc] at h2; cases h2
  | some oc' =>
    rw [hc] at h2
    simp only [Bool.and_eq_true] at h2
    have hS := hcall _ _ _ _ _ _ hc
    obtain ⟨v, hp', nx', wm'⟩ := oc'
    have hv := sameV_eq h2.2
    simp only at hv
    subst hv
    rw [frH, rowsK_eq] at hS
    exact hS.frame (Nat.le_of_ble_eq_true h2.1) h1 (okF_ok c1.1) c1.2
theorem frAny_ok {call : Call} (hcall : CallOk P call) {f : Nat} : ∀ {l : List Fr}, (∀ e ∈ l, frOk call f e = true) → ∀ {args : List Value} {hp : Hp} {nx wm : Nat} {oc : Oc}, frAny l args hp nx wm = some oc → SimF P (.func f) args hp nx wm oc
  | [], _, _, _, _, _, _, h => by cases h
  | e :: l, hl, args, hp, nx, wm, oc, h => by
    replace h : (Option.rec (frAny l args hp nx wm) (fun oc => some oc) (frTry e args hp nx wm) : Option Oc) = some oc := h
    cases ht : frTry e args hp nx wm with
    | some oc' =>
      rw [ht] at h
      have := Option.some.inj h
      subst this
      exact frTry_ok hcall (hl e (List.mem_cons_self ..)) ht
    | none => rw [ht] at h; exact frAny_ok hcall (fun e he => hl e (List.mem_cons_of_mem _ he)) h
end
end Go.Proofs.YtdgllpcfmkjfhaaGreat
/- Tables of a program for the evaluator, and that they are right. Over any program. -/
namespace Go.Proofs.YtdgllpcfmkjfhaaGreat
open Go.RowKit
set_option linter.unusedVariables false
noncomputable section
def fillT {α : Type} (l : List α) : Nat → T5 α → T5 α := List.rec (fun _ t => t) (fun a _ ih n t => ih (Nat.succ n) (s5 n (some a) t)) l
def fillK (l : List (Nat × Bool × List Tk)) : T5 (Bool × List Tk) → T5 (Bool × List Tk) := List.rec (fun t => t) (fun a _ ih t => ih (s5 a.1 (some a.2) t)) l
theorem fillT_get {α : Type} : ∀ (l : List α) (n : Nat) (t : T5 α) (j : Nat) (x : α), n + l.length ≤ 32768 → g5 j (fillT l n t) = some x → (∃ k, j = n + k ∧ l[k]? = some x) ∨ g5 j t = some x
  | [], _, _, _, _, _, h => .inr h
  | a :: l, n, t, j, x, hl, h => by
    rw [List.length_cons] at hl
    rcases fillT_get l (n + 1) (s5 n (some a) t) j x (by omega) h with ⟨k, h1, h2⟩ | h1
    · exact .inl ⟨k + 1, by omega, by simpa using h2⟩
    · rcases Nat.lt_or_ge j 32768 with hj | hj
      · rw [g5_s5 _ _ _ _ hj (by omega)] at h1
        by_cases hjn : j = n
        · rw [if_pos hjn] at h1; injection h1 with h1; subst h1; exact .inl ⟨0, by omega, by simp⟩
        · rw [if_neg hjn] at h1; exact .inr h1
      · rw [g5_far _ _ (by omega)] at h1; cases h1
theorem fillK_get : ∀ (l : List (Nat × Bool × List Tk)) (t : T5 (Bool × List Tk)) (j : Nat) (x : Bool × List Tk), (∀ p ∈ l, p.1 < 32768) → g5 j (fillK l t) = some x → (j, x) ∈ l ∨ g5 j t = some x
  | [], _, _, _, _, h => .inr h
  | a :: l, t, j, x, hl, h => by
    rcases fillK_get l (s5 a.1 (some a.2) t) j x (fun p hp => hl p (List.mem_cons_of_mem _ hp)) h with h1 | h1
    · exact .inl (List.mem_cons_of_mem _ h1)
    · rcases Nat.lt_or_ge j 32768 with hj | hj
      · rw [g5_s5 _ _ _ _ hj (hl a (List.mem_cons_self ..))] at h1
        by_cases hjn : j = a.1
        · rw [if_pos hjn] at h1; injection h1 with h1; subst hjn; subst h1; exact .inl (List.mem_cons_self ..)
        · rw [if_neg hjn] at h1; exact .inr h1
      · rw [g5_far _ _ (by omega)] at h1; cases h1
def cxOf (P : Program) (l : List (Nat × Bool × List Tk)) : Cx := ⟨fillT P.types.toList 0 (t5 _), fillT P.funcs.toList 0 (t5 _), fillK l (t5 _)⟩
def chkK (P : Program) (p : Nat × Bool × List Tk) : Bool := and (Nat.blt p.1 32768) (and (match flatK P 30 p.1 with | some l => tksEq l p.2.2 | none => false)
  (and (match P.underlying p.1 with | some (.array _ _) | some (.struct _) => p.2.1 | _ => not p.2.1) (not (P.eqGuardType P.depth p.1))))
def chkN (f : Func) : Bool := not (decide (f.name = "runtime.NumGoroutine"))
theorem cxOf_ok {P : Program} {l : List (Nat × Bool × List Tk)} (h1 : P.types.toList.length ≤ 32768) (h2 : P.funcs.toList.length ≤ 32768) (h3 : P.funcs.toList.all chkN = true) (h4 : l.all (chkK P) = true) : CxOk P (cxOf P l) := by
  refine ⟨fun t i h => ?_, fun f x h => ?_, fun t p h => ?_⟩
  · rcases fillT_get _ 0 _ t i (by omega) h with ⟨k, rfl, hk⟩ | h
    · rw [Nat.zero_add]
      have hk' : P.types[k]? = some i := by simpa using hk
      have hlt : k < P.types.size := (Array.getElem?_eq_some_iff.1 hk').1
      unfold Tables.info?
      rw [if_pos hlt]; exact hk'
    · rw [g5_t5] at h; cases h
  · rcases fillT_get _ 0 _ f x (by omega) h with ⟨k, rfl, hk⟩ | h
    · refine ⟨by rw [Nat.zero_add]; simpa using hk, ?_⟩
      have := List.all_eq_true.1 h3 x (List.mem_of_getElem? hk)
      simpa [chkN] using this
    · rw [g5_t5] at h; cases h
  · have hl : ∀ p ∈ l, p.1 < 32768 := fun p hp => by
      have := List.all_eq_true.1 h4 p hp
      unfold chkK at this
      simp only [Bool.and_eq_true] at this
      exact Nat.blt_eq.mp this.1
    rcases fillK_get _ _ t p hl h with h | h
    · have := List.all_eq_true.1 h4 _ h
      unfold chkK at this
      simp only [Bool.and_eq_true, Bool.not_eq_true'] at this
      obtain ⟨_, q1, q2, q3⟩ := this
      refine ⟨⟨⟨30, by omega, ?_⟩, ?_⟩, q3⟩
      · split at q1
        · rename_i m hm
          rw [hm, tksEq_eq q1]
        · cases q1
      · split at q2 <;> simp_all
    · rw [g5_t5] at h; cases h
end
end Go.Proofs.YtdgllpcfmkjfhaaGreat
/- The types of keys of this program, and of what it compares. -/
namespace Go.Proofs.YtdgllpcfmkjfhaaGreat
open Go
noncomputable section
def i8 (n : Nat) : List Tk := rep [.i .i64] n
def ksT : List (Nat × Bool × List Tk) := [(3, false, i8 1), (116, true, i8 3), (179, true, i8 8), (206, true, i8 4), (337, true, i8 2), (231, true, i8 4), (380, true, i8 2), (74, true, i8 8), (157, true, i8 2), (167, true, i8 2), (221, true, i8 2), (127, true, i8 4), (192, true, i8 8), (355, true, i8 3), (313, true, i8 6), (331, true, i8 4), (33, true, i8 2)]
end
end Go.Proofs.YtdgllpcfmkjfhaaGreat
/- This program's tables for the evaluator, hints, and what they rest on. -/
namespace Go.Proofs.YtdgllpcfmkjfhaaGreat
open Go
noncomputable section
def cx1 : Cx := cxOf Tryz.prog ksT
set_option maxRecDepth 100000 in
theorem cx1_ok : CxOk Tryz.prog cx1 := cxOf_ok (by decide +kernel) (by decide +kernel) (by decide +kernel) (by decide +kernel)
def lk1 {α : Type} (n : Nat) (x : α) (f : Nat → Option α) : Nat → Option α := fun m => Bool.rec (f m) (some x) (Nat.beq m n)
def hts (f : Nat) : Ht := match f with
  | 336 => { ht0 with lf := lk1 2 (.flt [0] 7 1 none) fun _ => none }
  | 169 => { ht0 with lf := lk1 2 (.flt [1] 8 0 none) fun _ => none }
  | 360 => { ht0 with lf := lk1 12 (.flt [1, 3, 4] 39 38 (some 3)) fun _ => none }
  | 306 => { ht0 with sg := lk1 0 ([3], some 10) fun _ => none }
  | 292 => { ht0 with sg := lk1 4 ([0, 4, 6, 7, 8, 9, 10, 42, 43], some 47) fun _ => none }
  | 379 => { ht0 with lf := lk1 2 (.cnt 9) fun _ => none, sq := lk1 3 (4, [0, 1, 3, 7, 9]) fun _ => none }
  | 114 => { ht0 with fr := fun r => Nat.beq r 4 }
  | 115 => { ht0 with fr := fun r => Nat.beq r 5 }
  | 88 => { ht0 with fs := 2, sq := lk1 1 (3, [2, 3]) fun _ => none, lf := lk1 11 (.any [0, 2, 6, 23] 29 3 none) fun _ => none }
  | 111 => { ht0 with fs := 1 }
  | _ => ht0
def iv (n : Nat) : Value := .int .i64 (.ofNat n)
def frT : Fr := ⟨[], [], 1, .bool true⟩
end
end Go.Proofs.YtdgllpcfmkjfhaaGreat
/- New blocks that were made by a call get names. Over any program. -/
namespace Go.Proofs.YtdgllpcfmkjfhaaGreat
open Go.RowKit
set_option linter.unusedVariables false
noncomputable section
section
variable {G : Gh} {E E1 : Env} {w w1 : World} {hp hp1 : Hp} {nx nx1 wm wm1 : Nat}
def Unn (E : Env) (hp : Hp) (b : Nat) : Prop := ∀ n x k, E n = some x → g5 n hp = some k → x.1 ≠ b
theorem Post.name (h : Post G E hp nx wm w E1 hp1 nx1 wm1 w1) {b ext : Nat} {k : Blk} (hb : w.heap.size ≤ b) (hb1 : b < w1.heap.size) (hu : Unn E1 hp1 b) (hn : nx1 < 32768)
    (hk : BR G (E1.add nx1 (b, 0, ext)) w1 nx1 b 0 ext k) (hkf : ∀ m rw ks es cl st, k ≠ .fit m rw ks es cl st) : Post G E hp nx wm w (E1.add nx1 (b, 0, ext)) (s5 nx1 (some k) hp1) (nx1 + 1) wm1 w1 := by
  have hr := h.rel
  have hx := hr.ext_add (b, 0, ext)
  have hnx := h.nxle
  have get : ∀ m q, g5 m (s5 nx1 (some k) hp1) = some q → (m = nx1 ∧ q = k) ∨ (m ≠ nx1 ∧ g5 m hp1 = some q) := fun m q h => by
    have hm5 := g5_lt h
    rw [g5_s5 _ _ _ _ hm5 hn] at h
    by_cases h' : m = nx1
    · rw [if_pos h'] at h; injection h with h; exact .inl ⟨h', h.symm⟩
    · rw [if_neg h'] at h; exact .inr ⟨h', h⟩
  refine ⟨fun n h' => ?_, ⟨fun n h' => ?_, fun n x e => ?_, fun n x k' e g => ?_, fun n m x y k' k2 e1 e2 g1 g2 hxy => ?_, fun n m rw ks es cl st g => ?_, fun n h' => ?_⟩, by omega, h.wmle, h.kept, fun n h1 h2 => ?_, fun n h1 g => ?_, fun n x h1 e => ?_⟩
  · rw [Env.add_ne E1 _ (by omega)]; exact h.old n h'
  · rw [Env.add_ne E1 _ (by omega)]; exact hr.bound n (by omega)
  · simp only [Env.add] at e
    split at e
    · injection e with e; subst e; exact hb1
    · exact hr.lt n x e
  · rcases get n k' g with ⟨rfl, rfl⟩ | ⟨hne, g⟩
    · rw [Env.add_self] at e; injection e with e; subst e; exact hk
    · rw [Env.add_ne E1 _ hne] at e
      exact (hr.blk n x k' e g).keep hx rfl fun m rw ks es cl st bm x y _ hm => rfl
  · rcases get n k' g1 with ⟨h1, _⟩ | ⟨h1, g1'⟩
    · rcases get m k2 g2 with ⟨h2, _⟩ | ⟨h2, g2'⟩
      · rw [h1, h2]
      · rw [h1, Env.add_self] at e1; injection e1 with e1; subst e1
        rw [Env.add_ne E1 _ h2] at e2
        exact absurd hxy.symm (hu m y k2 e2 g2')
    · rw [Env.add_ne E1 _ h1] at e1
      rcases get m k2 g2 with ⟨h2, _⟩ | ⟨h2, g2'⟩
      · rw [h2, Env.add_self] at e2; injection e2 with e2; subst e2
        exact absurd hxy (hu n x k' e1 g1')
      · rw [Env.add_ne E1 _ h2] at e2
        exact hr.inj n m x y k' k2 e1 e2 g1' g2' hxy
  · rcases get n _ g with ⟨_, h1⟩ | ⟨h1, g'⟩
    · exact absurd h1.symm (hkf _ _ _ _ _ _)
    · have key := hr.own _ _ _ _ _ _ _ g'
      rw [g5_s5 _ _ _ _ (g5_lt key) hn, if_neg (by have := hr.lt_nx key; omega)]; exact key
  · rcases Nat.lt_or_ge n 32768 with h5 | h5
    · rw [g5_s5 _ _ _ _ h5 hn, if_neg (by omega)]; exact hr.top n (by omega)
    · exact g5_far _ _ (by omega)
  · rcases Nat.lt_or_ge n 32768 with h5 | h5
    · rw [g5_s5 _ _ _ _ h5 hn, if_neg (by omega)]; exact h.log n h1 h2
    · rw [g5_far _ _ (by omega), g5_far _ _ (by omega)]
  · rcases Nat.lt_or_ge n 32768 with h5 | h5
    · rw [g5_s5 _ _ _ _ h5 hn, if_neg (by omega)]; exact h.dead n h1 g
    · exact g5_far _ _ (by omega)
  · by_cases h' : n = nx1
    · subst h'
      rw [Env.add_self] at e
      injection e with e; subst e
      exact .inl hb
    · rw [Env.add_ne E1 _ h'] at e
      exact h.fresh n x h1 e
theorem Unn.name {a : Nat} (h : Unn E1 hp1 a) {nx1 b ext : Nat} {k : Blk} (hn : nx1 < 32768) (hab : b ≠ a) : Unn (E1.add nx1 (b, 0, ext)) (s5 nx1 (some k) hp1) a := fun n x q e g => by
  have h5 := g5_lt g
  rw [g5_s5 _ _ _ _ h5 hn] at g
  by_cases h' : n = nx1
  · subst h'
    rw [Env.add_self] at e
    injection e with e; subst e
    exact hab
  · rw [Env.add_ne E1 _ h'] at e
    rw [if_neg h'] at g
    exact h n x q e g

/-! ### Lists of numbers, each with a block of its own -/
def intV (x : Int) : Value := .int .i64 x
def rowsN (ls : List (List Int)) : Hp → Nat → Hp := List.rec (fun h _ => h) (fun l _ ih h n => ih (s5 n (some (.row (l.map intV))) h) (Nat.succ n)) ls
def valsN (ls : List (List Int)) : Nat → List Value := List.rec (fun _ => []) (fun l _ ih n => .slice (some ⟨n, 0, none⟩) (len l) (len l + OM * 2) :: ih (Nat.succ n)) ls
theorem valsN_len : ∀ (ls : List (List Int)) (n : Nat), (valsN ls n).length = ls.length
  | [], _ => rfl
  | l :: ls, n => congrArg Nat.succ (valsN_len ls (n + 1))
theorem valsN_one : ∀ (ls : List (List Int)) (n : Nat), (valsN ls n).all Value.oneCell' = true
  | [], _ => rfl
  | l :: ls, n => by
    show (Value.oneCell' _ && (valsN ls (n + 1)).all Value.oneCell') = true
    rw [valsN_one ls (n + 1)]; rfl
theorem lr_ints (E : Env) : ∀ l : List Int, LR E (l.map intV) (l.map intV)
  | [] => .nil
  | x :: l => .cons (.int _ _) (lr_ints E l)
theorem ints_one (l : List Int) : (l.map intV).all Value.oneCell' = true := by
  rw [List.all_eq_true]
  intro v hv
  obtain ⟨x, _, rfl⟩ := List.mem_map.1 hv
  rfl
theorem ownI_br {G : Gh} {w : World} {lo t n : Nat} {l : List Int} {v : Value} (h : w.ownsRow lo t 1 v l.length (l.map intV)) (hl : l ≠ []) : ∃ b c, v = .slice (some ⟨b, 0, none⟩) l.length c ∧ lo ≤ b ∧ b < w.heap.size ∧ l.length ≤ c ∧ ∀ E : Env, BR G E w n b 0 c (.row (l.map intV)) := by
  rcases h.2 with ⟨_, h2⟩ | ⟨g, cap, cur, h1, h2, h3, h4, h5, h6, h7⟩
  · exact absurd (List.eq_nil_of_length_eq_zero h2) hl
  · refine ⟨g, cap, h1, h2, (Array.getElem?_eq_some_iff.1 h3).1, h4, fun E => ⟨cur, t, h3, by omega, by simpa using h4, ints_one l, ?_⟩⟩
    rw [List.drop_zero, List.length_map]
    rw [Nat.mul_one] at h7
    rw [h7]
    exact lr_ints E l
theorem Post.rows {lo t : Nat} (hlo : w.heap.size ≤ lo) : ∀ (ls : List (List Int)) (vs : List Value) {E1 : Env} {hp1 : Hp} {nx1 : Nat}, vs.length = ls.length → (∀ l ∈ ls, l ≠ [] ∧ l.length < OM) → (∀ (k : Nat) (l : List Int), ls[k]? = some l → ∃ v, vs[k]? = some v ∧ w1.ownsRow lo t 1 v l.length (l.map intV)) → (vs.filterMap Value.ownBlock).Nodup →
    (∀ b ∈ vs.filterMap Value.ownBlock, Unn E1 hp1 b) → nx1 + ls.length ≤ 32768 → Post G E hp nx wm w E1 hp1 nx1 wm1 w1 →
    ∃ E2, Post G E hp nx wm w E2 (rowsN ls hp1 nx1) (nx1 + ls.length) wm1 w1 ∧ LR E2 (valsN ls nx1) vs ∧ Ext E1 E2 ∧ ∀ a, Unn E1 hp1 a → a ∉ vs.filterMap Value.ownBlock → Unn E2 (rowsN ls hp1 nx1) a
  | [], vs, E1, hp1, nx1, hl, _, _, _, _, _, h => by
    obtain rfl : vs = [] := List.eq_nil_of_length_eq_zero hl
    exact ⟨E1, h, .nil, Ext.refl _, fun a ha _ => ha⟩
  | l :: ls, [], E1, hp1, nx1, hl, _, _, _, _, _, h => by cases hl
  | l :: ls, v :: vs, E1, hp1, nx1, hl, hne, hk, hnd, hun, hn, h => by
    obtain ⟨v', hv, ho⟩ := hk 0 l rfl
    obtain rfl : v = v' := by simpa using hv
    obtain ⟨hne0, hlM⟩ := hne l (List.mem_cons_self ..)
    obtain ⟨b, c, rfl, h1, h2, h3, h4⟩ := ownI_br (G := G) (n := nx1) ho hne0
    have hfm : (Value.slice (some ⟨b, 0, none⟩) l.length c :: vs).filterMap Value.ownBlock = b :: vs.filterMap Value.ownBlock := rfl
    rw [hfm] at hnd hun
    have hnd' := List.nodup_cons.1 hnd
    rw [List.length_cons] at hn
    have hP := h.name (k := .row (l.map intV)) (ext := c) (by omega) h2 (hun b (List.mem_cons_self ..)) (by omega) (h4 _) (fun _ _ _ _ _ _ e => by cases e)
    obtain ⟨E2, q1, q2, q3, q4⟩ := Post.rows hlo ls vs (by simpa using hl) (fun l hl => hne l (List.mem_cons_of_mem _ hl)) (fun k l hl => by simpa using hk (k + 1) l (by simpa using hl)) hnd'.2 (fun a ha => (hun a (List.mem_cons_of_mem _ ha)).name (by omega) (fun e => hnd'.1 (by rw [e]; exact ha))) (by omega) hP
    refine ⟨E2, by rw [List.length_cons, show nx1 + (ls.length + 1) = nx1 + 1 + ls.length from by omega]; exact q1, .cons ?_ q2, (h.rel.ext_add _).trans q3, fun a ha hna => q4 a (ha.name (by omega) fun e => hna (e ▸ List.mem_cons_self ..)) fun hh => hna (List.mem_cons_of_mem _ hh)⟩
    have e2 : E2 nx1 = some (b, 0, c) := q3 _ _ (Env.add_self _ _ _)
    have := VR.opn (E := E2) 0 l.length l.length 1 c e2 hlM (by unfold OM; omega) h3 (by omega)
    rw [len_eq]
    exact this
end
end
end Go.Proofs.YtdgllpcfmkjfhaaGreat
/- Words for memory: what a slice value reads as; plain theorems on worlds. No program in sight. -/
namespace Go.Proofs.YtdgllpcfmkjfhaaGreat.Bl
open Go.RowKit

theorem hid {p : Prop} (h : p) : Hid p := h
theorem bcell {W w1 : World} {B : Nat} (hb : Below B W w1) : (∀ b o, b < B → w1.cell? ⟨b, o, none⟩ = W.cell? ⟨b, o, none⟩) ∧ (∀ b o, b < B → w1.frozen? ⟨b, o, none⟩ = W.frozen? ⟨b, o, none⟩) :=
  ⟨fun b o h => hb.cell (p := ⟨b, o, none⟩) h, fun b o h => hb.frozen (p := ⟨b, o, none⟩) h⟩
theorem below_drewN {B : Nat} {a w : World} (h : Below B a w) (n : Nat) : Below B a (w.drewN n) := ⟨h.os, h.tape, h.output, h.size, h.block⟩

def Sl (w : World) (B size : Nat) (A : Option Addr) (n : Nat) (xs : List Value) : Prop :=
  xs.length = n * size ∧ (0 < n → ∃ b off, A = some ⟨b, off, none⟩ ∧ b < B ∧ ∀ j u, xs[j]? = some u → w.cell? ⟨b, off + j, none⟩ = some u)

section
variable {w w' : World} {B B' size n : Nat} {A : Option Addr} {xs : List Value}
theorem Sl.none_ : Sl w B size A 0 [] := ⟨by simp, fun h => absurd h (by omega)⟩
theorem Sl.keep (h : Sl w B size A n xs) (hk : ∀ p : Addr, p.block < B → w'.cell? p = w.cell? p) : Sl w' B size A n xs :=
  ⟨h.1, fun hn => by
    obtain ⟨b, off, e, hb, hc⟩ := h.2 hn
    exact ⟨b, off, e, hb, fun j u hu => (hk ⟨b, off + j, none⟩ hb).trans (hc j u hu)⟩⟩
theorem Sl.more (h : Sl w B size A n xs) (hB : B ≤ B') : Sl w B' size A n xs :=
  ⟨h.1, fun hn => by
    obtain ⟨b, off, e, hb, hc⟩ := h.2 hn
    exact ⟨b, off, e, by omega, hc⟩⟩
theorem Sl.below (h : Sl w B size A n xs) (hb : Below B w w') : Sl w' B size A n xs := h.keep fun _ hp => hb.cell hp
theorem Sl.below' (h : Sl w B size A n xs) (hb : Below B w w') (hB : B ≤ B') : Sl w' B' size A n xs := (h.below hb).more hB
theorem Sl.of_own {base : Nat} {e : TypeId} {c : Nat} (h : w.ownsRow base e size (.slice A n c) n xs) : Sl w w.heap.size size A n xs := by
  refine ⟨h.1, fun hn => ?_⟩
  obtain ⟨g, cap, hv, _, hlt⟩ := h.form hn
  have hA : A = some ⟨g, 0, none⟩ := by injection hv
  subst hA
  refine ⟨g, 0, rfl, hlt, fun j u hu => ?_⟩
  have := h.cells (g := g) rfl j u hu
  rwa [Addr.add_lit] at this
end

def Blk (w : World) (g : Nat) (t : TypeId) (cs : Array Value) : Prop := w.heap[g]? = some (.cells cs t (0, 0))

section
variable {w w' : World} {g : Nat} {t : TypeId} {cs : Array Value}
theorem Blk.lt (h : Blk w g t cs) : g < w.heap.size := by
  rcases Nat.lt_or_ge g w.heap.size with hlt | hge
  · exact hlt
  · unfold Blk at h; rw [Array.getElem?_eq_none hge] at h; cases h
theorem Blk.cell (h : Blk w g t cs) (i : Nat) : w.cell? ⟨g, i, none⟩ = cs[i]? := cell_of_row w g i cs t (0, 0) h
theorem Blk.frozen (h : Blk w g t cs) (i : Nat) : w.frozen? ⟨g, i, none⟩ = false := by
  unfold Blk at h
  simp [World.frozen?, h]
theorem Blk.new (w : World) (t : TypeId) (cs : Array Value) : Blk (w.alloc (.cells cs t)) w.heap.size t cs := heap_alloc_new w _
theorem Blk.new' {w : World} {t : TypeId} {cs : Array Value} {g : Nat} (h : w.heap.size = g) : Blk (w.alloc (.cells cs t)) g t cs := by subst h; exact Blk.new w t cs
theorem Blk.alloc (h : Blk w g t cs) (o : Obj) : Blk (w.alloc o) g t cs := (Below.heap_alloc w o g h.lt).trans h
theorem Blk.set_ (h : Blk w g t cs) (i : Nat) (u : Value) : Blk (w.setCell ⟨g, i, none⟩ u) g t (cs.setIfInBounds i u) := by
  unfold Blk at h ⊢
  simp [World.setCell, Array.getElem?_modify, h]
theorem Blk.far (h : Blk w g t cs) {p : Addr} (hp : g ≠ p.block) (u : Value) : Blk (w.setCell p u) g t cs := (Below.heap_setCell w p u g hp).trans h
theorem Blk.below {B : Nat} (h : Blk w g t cs) (hb : Below B w w') (hg : g < B) : Blk w' g t cs := (hb.block g hg).trans h
theorem Blk.grown {row : Option Nat} (h : Blk w g t cs) (hb : w.grownBy w' row) (hg : some g ≠ row) : Blk w' g t cs := (hb.block g h.lt hg).trans h
end

def cI (x : Int) : List Value := [.int .i64 x]
theorem flat_at {α : Type} {f : α → List Value} {s : Nat} (hf : ∀ x, (f x).length = s) : ∀ (l : List α) (k j : Nat) (x : α), l[k]? = some x → j < s → (l.flatMap f)[k * s + j]? = (f x)[j]?
  | [], k, j, x, h, _ => by simp at h
  | y :: l, 0, j, x, h, hj => by
    obtain rfl : y = x := by simpa using h
    rw [List.flatMap_cons, List.getElem?_append_left (by rw [hf]; omega)]
    simp
  | y :: l, k + 1, j, x, h, hj => by
    rw [List.flatMap_cons, List.getElem?_append_right (by rw [hf, Nat.succ_mul]; omega), hf]
    have := flat_at hf l k j x (by simpa using h) hj
    rw [← this]
    congr 1
    rw [Nat.succ_mul]; omega
theorem flat_len {α : Type} {f : α → List Value} {s : Nat} (hf : ∀ x, (f x).length = s) (l : List α) : (l.flatMap f).length = l.length * s := by
  induction l with
  | nil => simp
  | cons x l ih => rw [List.flatMap_cons, List.length_append, hf, ih, List.length_cons, Nat.succ_mul]; omega

def InS (w : World) (B : Nat) (A : Option Addr) (n : Nat) (l : List Int) : Prop := Sl w B 1 A n (l.flatMap cI)


section
variable {w w' : World} {B B' n : Nat} {A : Option Addr}
theorem InS.len {l : List Int} (h : InS w B A n l) : l.length = n := by
  have := h.1; rw [flat_len (s := 1) (fun _ => rfl)] at this; omega
theorem InS.at_ {l : List Int} (h : InS w B A n l) {k : Nat} (hk : k < n) : ∃ b off x, A = some ⟨b, off, none⟩ ∧ b < B ∧ l[k]? = some x ∧
    w.cell? ⟨b, off + k, none⟩ = some (.int .i64 x) := by
  obtain ⟨b, off, hA, hb, hc⟩ := h.2 (by omega)
  have hl : k < l.length := by rw [h.len]; exact hk
  have hm : l[k]? = some l[k] := List.getElem?_eq_getElem hl
  refine ⟨b, off, l[k], hA, hb, hm, ?_⟩
  have := hc (k * 1 + 0) _ (by rw [flat_at (s := 1) (f := cI) (fun _ => rfl) l k 0 _ hm (by omega)]; rfl)
  simpa using this
theorem InS.below {l : List Int} (h : InS w B A n l) (hb : Below B w w') (hB : B ≤ B') : InS w' B' A n l := Sl.below' h hb hB
end
theorem add_at (b off j : Nat) : (⟨b, off, none⟩ : Addr).add j = ⟨b, off + j, none⟩ := by unfold Addr.add; split <;> simp_all
theorem one1 (x : Int) : ∀ u ∈ [Value.int .i64 x], u.oneCell' = true := by
  intro u hu
  simp only [List.mem_cons, List.not_mem_nil, or_false] at hu
  subst hu; rfl
theorem sl_of_owns {w : World} {base : Nat} {e : TypeId} {size : Nat} {v : Value} {n : Nat} {xs : List Value} (h : w.ownsRow base e size v n xs) : ∃ A c, v = .slice A n c ∧ Sl w w.heap.size size A n xs := by
  obtain ⟨hl, ⟨rfl, rfl⟩ | ⟨g, cap, cur, rfl, hb, hg, hn, hc, hs, ht⟩⟩ := h
  · exact ⟨none, 0, rfl, hl, fun h => absurd h (by omega)⟩
  · refine ⟨_, cap, rfl, hl, fun hn0 => ⟨g, 0, rfl, (Array.getElem?_eq_some_iff.1 hg).1, fun j u hj => ?_⟩⟩
    have hjl : j < n * size := by rw [← hl]; exact (List.getElem?_eq_some_iff.1 hj).1
    rw [← ht, List.getElem?_take_of_lt hjl] at hj
    simp only [Nat.zero_add]
    exact (cell_of_row w g j cur e (0, 0) hg).trans (by simpa using hj)
theorem own_form2 {w : World} {base : Nat} {e : TypeId} {size : Nat} {v : Value} {n : Nat} {xs : List Value} (h : w.ownsRow base e size v n xs) (hn : 0 < n) : ∃ g cap, v = .slice (some ⟨g, 0, none⟩) n cap ∧ base ≤ g ∧ g < w.heap.size := by
  obtain ⟨g, cap, h1, h2, h3⟩ := h.form hn
  exact ⟨g, cap, h1, h2, h3⟩
theorem own_cell {w : World} {base : Nat} {e : TypeId} {size g n cap : Nat} {xs : List Value} (h : w.ownsRow base e size (.slice (some ⟨g, 0, none⟩) n cap) n xs) {j : Nat} {u : Value} (hj : xs[j]? = some u) : w.cell? ⟨g, j, none⟩ = some u := by
  have := h.cells (g := g) rfl j u hj
  rwa [Addr.add_lit, Nat.zero_add] at this
theorem owns_below {w w' : World} {base : Nat} {e : TypeId} {size : Nat} {v : Value} {n : Nat} {xs : List Value} (h : w.ownsRow base e size v n xs) (hb : Below w.heap.size w w') : w'.ownsRow base e size v n xs :=
  h.kept (row := none) ⟨hb.os, hb.tape, hb.output, hb.size, fun k hk _ => hb.block k hk⟩ (by cases hv : v.ownBlock with | none => exact .inl rfl | some k => exact .inr (by simp))
theorem owns_mono {w : World} {base base' : Nat} {e : TypeId} {size : Nat} {v : Value} {n : Nat} {xs : List Value} (h : w.ownsRow base e size v n xs) (hb : base' ≤ base) : w.ownsRow base' e size v n xs := by
  obtain ⟨h1, h2 | ⟨g, cap, cur, hv, hb', h3⟩⟩ := h
  · exact ⟨h1, .inl h2⟩
  · exact ⟨h1, .inr ⟨g, cap, cur, hv, Nat.le_trans hb hb', h3⟩⟩
def Apart (v u : Value) : Prop := ∀ q, v.ownBlock = some q → u.ownBlock ≠ some q
theorem Apart.symm {v u : Value} (h : Apart v u) : Apart u v := fun q h1 h2 => h q h2 h1
theorem app_step {wr w6 : World} {o : Obj} {v v6 u : Value} {B e s m : Nat} {ys : List Value} (hD : Apart v u) (hu : wr.ownsRow B e s u m ys) (hgr : (wr.alloc o).grownBy w6 v.ownBlock) (hob : v6.ownBlock = v.ownBlock ∨ v6.ownBlock = some (wr.heap.size + 1)) : w6.ownsRow B e s u m ys ∧ Apart v6 u := by
  refine ⟨(hu.alloc o).kept hgr ?_, fun q h1 h2 => ?_⟩
  · cases h : u.ownBlock with
    | none => exact .inl rfl
    | some q => exact .inr fun e => hD q e.symm h
  · rcases hob with e | e
    · exact hD q (e.symm.trans h1) h2
    · rw [e] at h1
      have := (hu.lt q h2).2
      simp at h1
      omega
theorem flatI_len' (l : List Int) : (l.flatMap cI).length = l.length := by rw [flat_len (s := 1) (fun _ => rfl), Nat.mul_one]
theorem one_flatI (l : List Int) : ∀ u ∈ l.flatMap cI, u.oneCell' = true := by
  intro v hv
  obtain ⟨r, -, hr⟩ := List.mem_flatMap.1 hv
  simp only [cI, List.mem_cons, List.not_mem_nil, or_false] at hr
  subst hr; rfl
theorem ins_some {w : World} {B n : Nat} {A : Option Addr} {l : List Int} (h : InS w B A n l) (hn : 0 < n) : ∃ b off, A = some ⟨b, off, none⟩ ∧ b < B := by
  obtain ⟨b, off, e, hb, _⟩ := h.2 hn
  exact ⟨b, off, e, hb⟩
theorem own_cap {w : World} {base n e s : Nat} {A : Option Addr} {cap : Nat} {xs : List Value} (h : w.ownsRow base e s (.slice A n cap) n xs) : n ≤ cap := by
  rcases h.2 with ⟨e1, e2⟩ | ⟨g, cap', cur, e1, _, _, hn, _⟩
  · cases e1; omega
  · cases e1; exact hn
theorem ins_blk {w : World} {g t : Nat} {l : List Int} {B : Nat} (h : Blk w g t (l.flatMap cI).toArray) (hB : g < B) : InS w B (some ⟨g, 0, none⟩) l.length l :=
  ⟨flat_len (s := 1) (fun _ => rfl) l, fun _ => ⟨g, 0, rfl, hB, fun j u hj => by rw [Nat.zero_add, h.cell]; simpa using hj⟩⟩
end Go.Proofs.YtdgllpcfmkjfhaaGreat.Bl
/- Plain law of blames: sets as lists and as bits, the order of lists. No program in sight. -/
namespace Go.Proofs.YtdgllpcfmkjfhaaGreat.Bl
def isL (below : Int) : Int → List Int → Bool
  | _, [] => true
  | nx, x :: l => decide (nx ≤ x ∧ x < below) && isL below (x + 1) l
theorem isL_cons {below nx x : Int} {l : List Int} : isL below nx (x :: l) = true ↔ (nx ≤ x ∧ x < below) ∧ isL below (x + 1) l = true := by
  show (decide (nx ≤ x ∧ x < below) && isL below (x + 1) l) = true ↔ _
  rw [Bool.and_eq_true, decide_eq_true_eq]
theorem isL_snoc (below : Int) (x : Int) : ∀ (l : List Int) (nx : Int), isL below nx (l ++ [x]) = (isL below nx l && decide ((l.getLastD (nx - 1)) + 1 ≤ x ∧ x < below))
  | [], nx => by
    show (decide (nx ≤ x ∧ x < below) && true) = (true && decide (nx - 1 + 1 ≤ x ∧ x < below))
    rw [Bool.and_true, Bool.true_and, show nx - 1 + 1 = nx by omega]
  | y :: l, nx => by
    show (decide (nx ≤ y ∧ y < below) && isL below (y + 1) (l ++ [x])) = _
    rw [isL_snoc below x l (y + 1), ← Bool.and_assoc]
    congr 2
    cases l with
    | nil => simp
    | cons z l => simp [List.getLastD]
def lastL (l : List Int) : Int := l.getLastD (-1)
theorem isL_take {below : Int} {l : List Int} {k : Nat} {x : Int} (h : l[k]? = some x) : isL below 0 (l.take (k + 1)) = (isL below 0 (l.take k) && decide (lastL (l.take k) + 1 ≤ x ∧ x < below)) := by
  rw [List.take_add_one, h]
  exact isL_snoc below x _ 0
theorem lastL_take {l : List Int} {k : Nat} {x : Int} (h : l[k]? = some x) : lastL (l.take (k + 1)) = x := by
  rw [List.take_add_one, h]
  unfold lastL
  simp
theorem isL_off {below : Int} : ∀ {l : List Int} {k : Nat} {nx : Int}, isL below nx (l.take k) = false → isL below nx l = false
  | _, 0, _, h => by simp [isL] at h
  | [], _ + 1, _, h => by simp [isL] at h
  | x :: l, k + 1, nx, h => by
    have h1 : (decide (nx ≤ x ∧ x < below) && isL below (x + 1) (l.take k)) = false := h
    show (decide (nx ≤ x ∧ x < below) && isL below (x + 1) l) = false
    rcases Bool.and_eq_false_iff.1 h1 with h2 | h2
    · rw [h2]; rfl
    · rw [isL_off h2, Bool.and_false]
theorem isL_bd {below : Int} : ∀ {l : List Int} {nx : Int}, isL below nx l = true → ∀ x ∈ l, nx ≤ x ∧ x < below
  | y :: l, nx, h, x, hx => by
    have h1 := isL_cons.1 h
    rcases List.mem_cons.1 hx with rfl | hx
    · exact h1.1
    · have := isL_bd h1.2 x hx
      omega
theorem isL_len {below : Int} : ∀ {l : List Int} {nx : Int}, isL below nx l = true → l = [] ∨ nx + l.length ≤ below
  | [], _, _ => .inl rfl
  | x :: l, nx, h => by
    have h1 := isL_cons.1 h
    refine .inr ?_
    rcases isL_len h1.2 with rfl | h2
    · simp; omega
    · rw [List.length_cons]; omega
theorem isL_len8 {below : Int} {l : List Int} (h : isL below 0 l = true) (hb : 0 ≤ below) : (l.length : Int) ≤ below := by
  rcases isL_len h with rfl | h1
  · simpa using hb
  · omega
theorem isL_weak {below below' : Int} (hb : below ≤ below') : ∀ {l : List Int} {nx : Int}, isL below nx l = true → isL below' nx l = true
  | [], _, _ => rfl
  | x :: l, nx, h => by
    have h1 := isL_cons.1 h
    exact isL_cons.2 ⟨by omega, isL_weak hb h1.2⟩
theorem isL_nodup {below : Int} : ∀ {l : List Int} {nx : Int}, isL below nx l = true → l.Nodup
  | [], _, _ => List.nodup_nil
  | x :: l, nx, h => by
    have h1 := isL_cons.1 h
    exact List.nodup_cons.2 ⟨fun hm => by have := isL_bd h1.2 x hm; omega, isL_nodup h1.2⟩
def has (l : List Int) (x : Int) : Bool := l.any (· == x)
theorem has_iff {l : List Int} {x : Int} : has l x = true ↔ x ∈ l := by
  unfold has
  rw [List.any_eq_true]
  exact ⟨fun ⟨y, h1, h2⟩ => by rw [← eq_of_beq h2]; exact h1, fun h => ⟨x, h, by simp⟩⟩
theorem has_not {l : List Int} {x : Int} : has l x = false ↔ x ∉ l := by
  rw [← has_iff]; simp
/-! Bits. -/
def bitsL (l : List Int) : Nat := l.foldl (fun b x => b ||| 2 ^ x.toNat) 0
theorem bitsL_snoc (l : List Int) (x : Int) : bitsL (l ++ [x]) = bitsL l ||| 2 ^ x.toNat := by unfold bitsL; rw [List.foldl_append]; rfl
theorem bitsL_take {l : List Int} {k : Nat} {x : Int} (h : l[k]? = some x) : bitsL (l.take (k + 1)) = bitsL (l.take k) ||| 2 ^ x.toNat := by
  rw [List.take_add_one, h]
  exact bitsL_snoc _ _
theorem bitsL_testGo (i : Nat) : ∀ (l : List Int) (b : Nat), (∀ x ∈ l, 0 ≤ x) → (l.foldl (fun b x => b ||| 2 ^ x.toNat) b).testBit i = (b.testBit i || has l (i : Int))
  | [], b, _ => by simp [has]
  | x :: l, b, h => by
    rw [List.foldl_cons, bitsL_testGo i l _ fun y hy => h y (List.mem_cons_of_mem _ hy), Nat.testBit_or, Nat.testBit_two_pow, Bool.or_assoc]
    congr 1
    have hx := h x (List.mem_cons_self)
    unfold has
    rw [List.any_cons]
    congr 1
    by_cases e : x.toNat = i
    · have : x = (i : Int) := by omega
      simp [e, this]
    · have : ¬ x = (i : Int) := by omega
      simp [e, this]
theorem bitsL_test {l : List Int} (h : ∀ x ∈ l, 0 ≤ x) (i : Nat) : (bitsL l).testBit i = has l (i : Int) := by
  unfold bitsL
  rw [bitsL_testGo i l 0 h]; simp
theorem bitsL_lt {n : Nat} {l : List Int} (h : isL (n : Int) 0 l = true) : bitsL l < 2 ^ n := by
  refine Nat.lt_pow_two_of_testBit _ fun i hi => ?_
  rw [bitsL_test fun x hx => (isL_bd h x hx).1]
  rw [has_not]
  intro hm
  have := isL_bd h _ hm
  omega
def listed (b n : Nat) : List Int := ((List.range n).filter fun i => b.testBit i).map fun i : Nat => (i : Int)
theorem listed_succ (b k : Nat) : listed b (k + 1) = listed b k ++ (if b.testBit k then [(k : Int)] else []) := by
  unfold listed
  rw [List.range_succ, List.filter_append, List.map_append]
  cases h : b.testBit k <;> simp [h]
theorem listed_len (b : Nat) : ∀ n, (listed b n).length ≤ n
  | 0 => by simp [listed]
  | n + 1 => by
    rw [listed_succ, List.length_append]
    have := listed_len b n
    split <;> simp <;> omega
theorem mem_listed {b n : Nat} {x : Int} : x ∈ listed b n ↔ ∃ i : Nat, x = (i : Int) ∧ i < n ∧ b.testBit i = true := by
  unfold listed
  simp only [List.mem_map, List.mem_filter, List.mem_range]
  exact ⟨fun ⟨i, ⟨h1, h2⟩, e⟩ => ⟨i, e.symm, h1, h2⟩, fun ⟨i, e, h1, h2⟩ => ⟨i, ⟨h1, h2⟩, e.symm⟩⟩
theorem has_listed {b n i : Nat} : has (listed b n) (i : Int) = (decide (i < n) && b.testBit i) := by
  rw [Bool.eq_iff_iff, has_iff, mem_listed, Bool.and_eq_true, decide_eq_true_eq]
  exact ⟨fun ⟨j, e, h⟩ => by rw [show i = j by omega]; exact h, fun h => ⟨i, rfl, h⟩⟩
theorem isL_listed {b n : Nat} {below : Int} : ∀ (k : Nat), (k : Int) ≤ below → isL below 0 (listed b k) = true
  | 0, _ => rfl
  | k + 1, h => by
    rw [listed_succ]
    have ih := isL_listed (b := b) (n := n) k (below := below) (by omega)
    split
    · rw [isL_snoc, ih, Bool.true_and, decide_eq_true_eq]
      refine ⟨?_, by omega⟩
      have hl : ∀ x ∈ listed b k, x < (k : Int) := fun x hx => by
        obtain ⟨i, rfl, h1, -⟩ := mem_listed.1 hx
        omega
      rcases List.eq_nil_or_concat (listed b k) with e | ⟨l', y, e⟩
      · rw [e]; simp
      · rw [List.concat_eq_append] at e
        have := hl y (by rw [e]; simp)
        rw [e]
        simp
        omega
    · rw [List.append_nil]; exact ih
theorem isL_listed' (b n : Nat) : isL (n : Int) 0 (listed b n) = true := isL_listed (n := n) n (Int.le_refl _)
theorem bits_listed {b n : Nat} (h : b < 2 ^ n) : bitsL (listed b n) = b := by
  refine Nat.eq_of_testBit_eq fun i => ?_
  rw [bitsL_test fun x hx => by obtain ⟨i, rfl, -⟩ := mem_listed.1 hx; omega, has_listed]
  by_cases hi : i < n
  · simp [hi]
  · rw [Nat.testBit_lt_two_pow (Nat.lt_of_lt_of_le h (Nat.pow_le_pow_right (by omega) (by omega)))]; simp
theorem bits8_ext {a b : Nat} (ha : a < 256) (hb : b < 256) (h : ∀ i, i < 8 → a.testBit i = b.testBit i) : a = b := by
  refine Nat.eq_of_testBit_eq fun i => ?_
  by_cases hi : i < 8
  · exact h i hi
  · have e8 : (256 : Nat) ≤ 2 ^ i := Nat.le_trans (by decide : 256 ≤ 2 ^ 8) (Nat.pow_le_pow_right (by omega) (by omega))
    rw [Nat.testBit_lt_two_pow (Nat.lt_of_lt_of_le ha e8), Nat.testBit_lt_two_pow (Nat.lt_of_lt_of_le hb e8)]
/-! The order of lists. -/
def before : List Int → List Int → Bool
  | _, [] => false
  | [], _ :: _ => true
  | x :: a, y :: b => if x = y then before a b else decide (x < y)
theorem before_cons {x y : Int} {a b : List Int} : before (x :: a) (y :: b) = if x = y then before a b else decide (x < y) := rfl
theorem before_irr : ∀ (l : List Int), before l l = false
  | [] => rfl
  | x :: l => by rw [before_cons, if_pos rfl]; exact before_irr l
theorem before_trans : ∀ {a b c : List Int}, before a b = true → before b c = true → before a c = true
  | _, [], _, h, _ => by cases ‹List Int› <;> simp [before] at h
  | _, _ :: _, [], _, h => by simp [before] at h
  | [], _ :: _, _ :: _, _, _ => rfl
  | x :: a, y :: b, z :: c, h, h' => by
    rw [before_cons] at h h' ⊢
    by_cases e1 : x = y
    · subst e1
      rw [if_pos rfl] at h
      by_cases e2 : x = z
      · subst e2
        rw [if_pos rfl] at h' ⊢
        exact before_trans h h'
      · rw [if_neg e2] at h' ⊢; exact h'
    · rw [if_neg e1] at h
      have h1 := of_decide_eq_true h
      by_cases e2 : y = z
      · subst e2
        rw [if_neg e1]; exact h
      · rw [if_neg e2] at h'
        have h2 := of_decide_eq_true h'
        rw [if_neg (by omega)]
        exact decide_eq_true (by omega)
theorem before_tot : ∀ {a b : List Int}, a ≠ b → before a b = false → before b a = true
  | [], [], h, _ => absurd rfl h
  | [], _ :: _, _, h => by simp [before] at h
  | _ :: _, [], _, _ => rfl
  | x :: a, y :: b, hne, h => by
    rw [before_cons] at h ⊢
    by_cases e : x = y
    · subst e
      rw [if_pos rfl] at h ⊢
      exact before_tot (fun e => hne (by rw [e])) h
    · rw [if_neg e] at h
      rw [if_neg (Ne.symm e)]
      have := of_decide_eq_false h
      exact decide_eq_true (by omega)
theorem before_asym {a b : List Int} (h : before a b = true) : before b a = false := by
  cases h' : before b a
  · rfl
  · have := before_trans h h'
    rw [before_irr] at this; cases this
theorem before_ne {a b : List Int} (h : before a b = true) : a ≠ b := fun e => by rw [e, before_irr] at h; cases h
def Srt (L : List (List Int)) : Prop := L.Pairwise fun a b => before a b = true
theorem srt_ext : ∀ {L L' : List (List Int)}, Srt L → Srt L' → (∀ l, l ∈ L ↔ l ∈ L') → L = L'
  | [], [], _, _, _ => rfl
  | [], y :: _, _, _, hm => absurd ((hm y).2 (List.mem_cons_self)) (by simp)
  | x :: _, [], _, _, hm => absurd ((hm x).1 (List.mem_cons_self)) (by simp)
  | x :: L, y :: L', h, h', hm => by
    have h1 := List.pairwise_cons.1 h
    have h2 := List.pairwise_cons.1 h'
    have e : x = y := by
      rcases List.mem_cons.1 ((hm x).1 (List.mem_cons_self)) with e | hx
      · exact e
      · rcases List.mem_cons.1 ((hm y).2 (List.mem_cons_self)) with e | hy
        · exact e.symm
        · have := before_asym (h2.1 x hx)
          rw [h1.1 y hy] at this; cases this
    subst e
    refine congrArg (List.cons x) (srt_ext h1.2 h2.2 fun z => ⟨fun hz => ?_, fun hz => ?_⟩)
    · rcases List.mem_cons.1 ((hm z).1 (List.mem_cons_of_mem _ hz)) with e | hz'
      · exact absurd e.symm (before_ne (h1.1 z hz))
      · exact hz'
    · rcases List.mem_cons.1 ((hm z).2 (List.mem_cons_of_mem _ hz)) with e | hz'
      · exact absurd e.symm (before_ne (h2.1 z hz))
      · exact hz'
def insB (x : List Int) (o : List (List Int)) : List (List Int) := (o.reverse.dropWhile (before x)).reverse ++ x :: (o.reverse.takeWhile (before x)).reverse
def sortL (L : List (List Int)) : List (List Int) := L.foldl (fun o x => insB x o) []
theorem insB_parts (x : List Int) (o : List (List Int)) : (o.reverse.dropWhile (before x)).reverse ++ (o.reverse.takeWhile (before x)).reverse = o := by
  rw [← List.reverse_append, List.takeWhile_append_dropWhile, List.reverse_reverse]
theorem mem_insB {x y : List Int} {o : List (List Int)} : y ∈ insB x o ↔ y = x ∨ y ∈ o := by
  unfold insB
  conv => rhs; rw [← insB_parts x o]
  simp only [List.mem_append, List.mem_cons]
  constructor
  · rintro (h | h | h)
    · exact .inr (.inl h)
    · exact .inl h
    · exact .inr (.inr h)
  · rintro (h | h | h)
    · exact .inr (.inl h)
    · exact .inl h
    · exact .inr (.inr h)
theorem dropWhile_head {α : Type} {p : α → Bool} : ∀ {l : List α} {y : α} {r : List α}, l.dropWhile p = y :: r → p y = false
  | [], _, _, h => by simp at h
  | x :: l, y, r, h => by
    rw [List.dropWhile_cons] at h
    split at h
    · exact dropWhile_head h
    · rename_i hx
      obtain ⟨rfl, -⟩ := List.cons.inj h
      simpa using hx
theorem insB_srt {x : List Int} {o : List (List Int)} (h : Srt o) (hx : x ∉ o) : Srt (insB x o) := by
  have hp := insB_parts x o
  have hs : Srt ((o.reverse.dropWhile (before x)).reverse ++ (o.reverse.takeWhile (before x)).reverse) := by rw [hp]; exact h
  obtain ⟨h1, h2, h3⟩ := List.pairwise_append.1 hs
  have ht : ∀ y ∈ (o.reverse.takeWhile (before x)).reverse, before x y = true := fun y hy => by
    rw [List.mem_reverse] at hy
    exact List.all_eq_true.1 List.all_takeWhile y hy
  refine List.pairwise_append.2 ⟨h1, List.pairwise_cons.2 ⟨ht, h2⟩, fun a ha b hb => ?_⟩
  have hax : before a x = true := by
    cases hd : o.reverse.dropWhile (before x) with
    | nil => rw [hd] at ha; simp at ha
    | cons y r =>
      have hy := dropWhile_head hd
      rw [hd, List.reverse_cons] at h1 ha
      have hyo : y ∈ o := by rw [← hp]; exact List.mem_append_left _ (by rw [hd]; simp)
      have hyx : before y x = true := before_tot (fun e => hx (e ▸ hyo)) hy
      obtain ⟨-, -, h4⟩ := List.pairwise_append.1 h1
      rcases List.mem_append.1 ha with h5 | h5
      · exact before_trans (h4 a h5 y (by simp)) hyx
      · rw [List.mem_singleton.1 h5]; exact hyx
  rcases List.mem_cons.1 hb with rfl | hb
  · exact hax
  · exact h3 a ha b hb
theorem mem_sortGo {y : List Int} : ∀ {L o : List (List Int)}, y ∈ L.foldl (fun o x => insB x o) o ↔ y ∈ L ∨ y ∈ o
  | [], o => by simp
  | x :: L, o => by
    rw [List.foldl_cons, mem_sortGo, mem_insB, List.mem_cons]
    constructor
    · rintro (h | h | h)
      · exact .inl (.inr h)
      · exact .inl (.inl h)
      · exact .inr h
    · rintro ((h | h) | h)
      · exact .inr (.inl h)
      · exact .inl h
      · exact .inr (.inr h)
theorem mem_sortL {y : List Int} {L : List (List Int)} : y ∈ sortL L ↔ y ∈ L := by
  unfold sortL; rw [mem_sortGo]; simp
theorem sortGo_srt : ∀ {L o : List (List Int)}, Srt o → L.Nodup → (∀ y ∈ L, y ∉ o) → Srt (L.foldl (fun o x => insB x o) o)
  | [], o, h, _, _ => h
  | x :: L, o, h, hn, hd => by
    have h1 := List.nodup_cons.1 hn
    rw [List.foldl_cons]
    refine sortGo_srt (insB_srt h (hd x (List.mem_cons_self))) h1.2 fun y hy => ?_
    rw [mem_insB]
    rintro (e | e)
    · exact h1.1 (e ▸ hy)
    · exact hd y (List.mem_cons_of_mem _ hy) e
theorem sortL_srt {L : List (List Int)} (h : L.Nodup) : Srt (sortL L) := sortGo_srt List.Pairwise.nil h fun _ _ => by simp
end Go.Proofs.YtdgllpcfmkjfhaaGreat.Bl
/- Plain law: the least ones of some sets. -/
namespace Go.Proofs.YtdgllpcfmkjfhaaGreat.Bl
def S0 (ls : List (List Int)) (x : Nat) : Bool := ls.any fun l => bitsL l == x
def subB (y x : Nat) : Bool := (listed y 8).all fun i => x.testBit i.toNat
theorem subB_iff {y x : Nat} (hy : y < 256) : subB y x = true ↔ ∀ i, y.testBit i = true → x.testBit i = true := by
  unfold subB
  rw [List.all_eq_true]
  constructor
  · intro h i hi
    by_cases h8 : i < 8
    · have := h (i : Int) (mem_listed.2 ⟨i, rfl, h8, hi⟩)
      simpa using this
    · have e8 : (256 : Nat) ≤ 2 ^ i := Nat.le_trans (by decide : 256 ≤ 2 ^ 8) (Nat.pow_le_pow_right (by omega) (by omega))
      rw [Nat.testBit_lt_two_pow (Nat.lt_of_lt_of_le hy e8)] at hi; cases hi
  · intro h x hx
    obtain ⟨i, rfl, -, hi⟩ := mem_listed.1 hx
    simpa using h i hi
theorem subB_refl {x : Nat} (hx : x < 256) : subB x x = true := (subB_iff hx).2 fun _ h => h
theorem subB_trans {x y z : Nat} (hx : x < 256) (hy : y < 256) (h : subB x y = true) (h' : subB y z = true) : subB x z = true := (subB_iff hx).2 fun i hi => (subB_iff hy).1 h' i ((subB_iff hx).1 h i hi)
theorem subB_anti {x y : Nat} (hx : x < 256) (hy : y < 256) (h : subB x y = true) (h' : subB y x = true) : x = y := by
  refine bits8_ext hx hy fun i _ => ?_
  cases h1 : x.testBit i <;> cases h2 : y.testBit i
  · rfl
  · rw [(subB_iff hy).1 h' i h2] at h1; cases h1
  · rw [(subB_iff hx).1 h i h1] at h2; cases h2
  · rfl
def minB (S : Nat → Bool) (x : Nat) : Bool := S x && (List.range 256).all fun y => !(S y && y != x && subB y x)
theorem minB_iff {S : Nat → Bool} {x : Nat} : minB S x = true ↔ S x = true ∧ ∀ y, y < 256 → S y = true → y ≠ x → subB y x = false := by
  unfold minB
  rw [Bool.and_eq_true, List.all_eq_true]
  constructor
  · rintro ⟨h1, h2⟩
    refine ⟨h1, fun y hy hS hne => ?_⟩
    have := h2 y (List.mem_range.2 hy)
    simp only [hS, Bool.true_and] at this
    cases h : subB y x
    · rfl
    · rw [h] at this; simp [hne] at this
  · rintro ⟨h1, h2⟩
    refine ⟨h1, fun y hy => ?_⟩
    cases hS : S y
    · simp
    · by_cases e : y = x
      · simp [e]
      · rw [h2 y (List.mem_range.1 hy) hS e]; simp
theorem subB_le {x y : Nat} (hy : y < 256) (h : subB y x = true) : y ≤ x := by
  have e : y &&& x = y := Nat.eq_of_testBit_eq fun i => by
    rw [Nat.testBit_and]
    cases hi : y.testBit i
    · rfl
    · rw [(subB_iff hy).1 h i hi]; rfl
  rw [← e]
  exact Nat.and_le_right
theorem minB_below {S : Nat → Bool} (x : Nat) : x < 256 → S x = true → ∃ y, y < 256 ∧ minB S y = true ∧ subB y x = true := by
  induction x using Nat.strongRecOn with
  | _ x ih =>
    intro hx hS
    cases hm : minB S x
    · have : ∃ y, y < 256 ∧ S y = true ∧ y ≠ x ∧ subB y x = true := by
        rcases Classical.em (∃ y, y < 256 ∧ S y = true ∧ y ≠ x ∧ subB y x = true) with h | h
        · exact h
        · exfalso
          have : minB S x = true := minB_iff.2 ⟨hS, fun y hy hs hne => by
            cases hb : subB y x
            · rfl
            · exact absurd ⟨y, hy, hs, hne, hb⟩ h⟩
          rw [hm] at this; cases this
      obtain ⟨y, hy, hs, hne, hb⟩ := this
      have hle := subB_le hy hb
      obtain ⟨z, hz, hm', hb'⟩ := ih y (by omega) hy hs
      exact ⟨z, hz, hm', subB_trans hz hy hb' hb⟩
    · exact ⟨x, hx, hm, subB_refl hx⟩
def ordL (S : Nat → Bool) : List (List Int) := sortL (((List.range 256).filter S).map fun x => listed x 8)
def leastL (ls : List (List Int)) : List (List Int) := ordL (minB (S0 ls))
theorem listed_inj {x y : Nat} (hx : x < 256) (hy : y < 256) (h : listed x 8 = listed y 8) : x = y := by
  rw [← bits_listed (n := 8) hx, ← bits_listed (n := 8) hy, h]
theorem map_listed_nodup {xs : List Nat} (hn : xs.Nodup) (hx : ∀ x ∈ xs, x < 256) : (xs.map fun x => listed x 8).Nodup := by
  refine List.pairwise_map.2 (List.Pairwise.imp_of_mem ?_ hn)
  intro a b ha hb hne e
  exact hne (listed_inj (hx a ha) (hx b hb) e)
theorem ordL_srt (S : Nat → Bool) : Srt (ordL S) := sortL_srt (map_listed_nodup (List.Pairwise.sublist List.filter_sublist List.nodup_range) fun x hx => List.mem_range.1 (List.mem_filter.1 hx).1)
theorem mem_ordL {S : Nat → Bool} {l : List Int} : l ∈ ordL S ↔ ∃ x, x < 256 ∧ S x = true ∧ listed x 8 = l := by
  unfold ordL
  rw [mem_sortL, List.mem_map]
  constructor
  · rintro ⟨x, hx, rfl⟩
    have := List.mem_filter.1 hx
    exact ⟨x, List.mem_range.1 this.1, this.2, rfl⟩
  · rintro ⟨x, hx, hS, rfl⟩
    exact ⟨x, List.mem_filter.2 ⟨List.mem_range.2 hx, hS⟩, rfl⟩
theorem ordL_of {S : Nat → Bool} {xs : List Nat} {L : List (List Int)} (hn : xs.Nodup) (hx : ∀ x ∈ xs, x < 256) (hm : ∀ x, x < 256 → (x ∈ xs ↔ S x = true)) (hp : L.Perm (xs.map fun x => listed x 8)) (hs : L.Pairwise fun a b => before b a = false) : L = ordL S := by
  have hnd : L.Nodup := hp.nodup_iff.2 (map_listed_nodup hn hx)
  refine srt_ext ?_ (ordL_srt S) fun l => ?_
  · refine List.Pairwise.imp_of_mem ?_ (List.Pairwise.and hs hnd)
    rintro a b _ _ ⟨h1, h2⟩
    exact before_tot (Ne.symm h2) h1
  · rw [hp.mem_iff, mem_ordL, List.mem_map]
    constructor
    · rintro ⟨x, h, rfl⟩
      exact ⟨x, hx x h, (hm x (hx x h)).1 h, rfl⟩
    · rintro ⟨x, hx', hS, rfl⟩
      exact ⟨x, (hm x hx').2 hS, rfl⟩
/-! The sets are struck out, one by one. -/
structure Str (S0 S T : Nat → Bool) : Prop where
  sub : ∀ x, x < 256 → S x = true → S0 x = true
  off : ∀ x, x < 256 → S0 x = true → S x = false → ∃ y, y < 256 ∧ S0 y = true ∧ y ≠ x ∧ subB y x = true
  kept : ∀ x, x < 256 → S x = true → T x = false → ∀ y, y < 256 → S y = true → y ≠ x → subB y x = false
theorem Str.start (S : Nat → Bool) : Str S S S := ⟨fun _ _ h => h, (fun _ _ h h' => by rw [h] at h'; cases h'), (fun x _ h h' => by rw [h] at h'; cases h')⟩
theorem Str.mins {S0 S T : Nat → Bool} (h : Str S0 S T) {x : Nat} (hx : x < 256) (hm : minB S0 x = true) : S x = true := by
  obtain ⟨h1, h2⟩ := minB_iff.1 hm
  cases hS : S x
  · obtain ⟨y, hy, hs, hne, hb⟩ := h.off x hx h1 hS
    rw [h2 y hy hs hne] at hb; cases hb
  · rfl
theorem Str.done {S0 S T : Nat → Bool} (h : Str S0 S T) (hT : ∀ x, x < 256 → T x = false) : ∀ x, x < 256 → S x = minB S0 x := fun x hx => by
  cases hS : S x
  · cases hm : minB S0 x
    · rfl
    · rw [h.mins hx hm] at hS; cases hS
  · symm
    refine minB_iff.2 ⟨h.sub x hx hS, fun y hy hs hne => ?_⟩
    cases hb : subB y x
    · rfl
    · exfalso
      obtain ⟨z, hz, hm, hbz⟩ := minB_below y hy hs
      have hzx := subB_trans hz hy hbz hb
      by_cases e : z = x
      · subst e
        exact hne (subB_anti hy hx hb hbz)
      · rw [h.kept x hx hS (hT x hx) z hz (h.mins hz hm) e] at hzx; cases hzx
theorem Str.keep {S0 S T : Nat → Bool} (h : Str S0 S T) {x : Nat} (hk : ∀ y, y < 256 → S y = true → y ≠ x → subB y x = false) : Str S0 S fun y => T y && y != x :=
  ⟨h.sub, h.off, fun z hz hS hT y hy hs hne => by
    by_cases e : z = x
    · subst e; exact hk y hy hs hne
    · exact h.kept z hz hS (by simpa [e] using hT) y hy hs hne⟩
theorem Str.strike {S0 S T : Nat → Bool} (h : Str S0 S T) {x y : Nat} (hx : x < 256) (hy : y < 256) (hS : S y = true) (hne : y ≠ x) (hb : subB y x = true) : Str S0 (fun z => S z && z != x) fun z => T z && z != x :=
  ⟨fun z hz hs => h.sub z hz (by simp at hs; exact hs.1), fun z hz h0 hs => by
    by_cases e : z = x
    · subst e
      exact ⟨y, hy, h.sub y hy hS, hne, hb⟩
    · exact h.off z hz h0 (by simpa [e] using hs), fun z hz hs hT v hv hsv hnv => by
    simp only [Bool.and_eq_true, bne_iff_ne, ne_eq] at hs hsv
    exact h.kept z hz hs.1 (by simpa [hs.2] using hT) v hv hsv.1 hnv⟩
end Go.Proofs.YtdgllpcfmkjfhaaGreat.Bl
/- The least ones of some sets, by a quick way; lists of numbers read out of the evaluator's memory. -/
namespace Go.Proofs.YtdgllpcfmkjfhaaGreat
open Go.RowKit
set_option linter.unusedVariables false
noncomputable section
/-! ### Plain -/
def mapO {α β : Type} (f : α → Option β) (l : List α) : Option (List β) := List.rec (some []) (fun a _ ih => kO (f a) fun b => kO ih fun l => some (b :: l)) l
theorem mapO_inv {α β : Type} {f : α → Option β} : ∀ {l : List α} {m : List β}, mapO f l = some m → m.length = l.length ∧ ∀ (k : Nat) (b : β), m[k]? = some b → ∃ a, l[k]? = some a ∧ f a = some b
  | [], m, h => by
    have h := Option.some.inj h
    subst h
    exact ⟨rfl, fun k b hk => by simp at hk⟩
  | a :: l, m, h => by
    obtain ⟨b, h1, h2⟩ := kO_inv (show kO (f a) (fun b => kO (mapO f l) fun l => some (b :: l)) = some m from h)
    obtain ⟨m', h3, h4⟩ := kO_inv h2
    have h4 := Option.some.inj h4
    subst h4
    obtain ⟨h5, h6⟩ := mapO_inv h3
    refine ⟨by simp [h5], fun k b' hk => ?_⟩
    cases k with
    | zero => simp at hk; subst hk; exact ⟨a, rfl, h1⟩
    | succ k => exact h6 k b' (by simpa using hk)
def oneQ (l : List Nat) : List Nat := List.rec [] (fun a _ ih => Bool.rec (a :: ih) ih (ih.any fun b => Nat.beq b a)) l
theorem oneQ_mem : ∀ {l : List Nat} {x : Nat}, x ∈ oneQ l ↔ x ∈ l
  | [], x => Iff.rfl
  | a :: l, x => by
    show x ∈ (Bool.rec (a :: oneQ l) (oneQ l) ((oneQ l).any fun b => Nat.beq b a) : List Nat) ↔ _
    cases h : (oneQ l).any fun b => Nat.beq b a
    · show x ∈ a :: oneQ l ↔ _
      rw [List.mem_cons, List.mem_cons, oneQ_mem]
    · show x ∈ oneQ l ↔ _
      obtain ⟨b, hb, hba⟩ := List.any_eq_true.1 h
      have hba := Nat.eq_of_beq_eq_true hba
      subst hba
      rw [oneQ_mem, List.mem_cons]
      constructor
      · exact .inr
      · rintro (rfl | h)
        · exact oneQ_mem.1 hb
        · exact h
theorem oneQ_nodup : ∀ (l : List Nat), (oneQ l).Nodup
  | [] => List.nodup_nil
  | a :: l => by
    show (Bool.rec (a :: oneQ l) (oneQ l) ((oneQ l).any fun b => Nat.beq b a) : List Nat).Nodup
    cases h : (oneQ l).any fun b => Nat.beq b a
    · refine List.nodup_cons.2 ⟨fun ha => ?_, oneQ_nodup l⟩
      have := List.any_eq_false.1 h a ha
      exact this (Nat.beq_refl a)
    · exact oneQ_nodup l
def minQ (bs : List Nat) : List Nat := bs.filter fun x => bs.all fun y => Nat.beq y x || !(Nat.beq (Nat.land y x) y)
def leastQ (ls : List (List Int)) : List (List Int) := Bl.sortL ((oneQ (minQ (ls.map Bl.bitsL))).map fun x => Bl.listed x 8)
theorem land_sub {y x : Nat} (hy : y < 256) (hx : x < 256) : Nat.beq (Nat.land y x) y = Bl.subB y x := by
  rw [Bool.eq_iff_iff, Bl.subB_iff hy]
  constructor
  · intro h i hi
    have h := Nat.eq_of_beq_eq_true h
    rw [← h] at hi
    have : (y &&& x).testBit i = true := hi
    rw [Nat.testBit_and, Bool.and_eq_true] at this
    exact this.2
  · intro h
    have e : y &&& x = y := Nat.eq_of_testBit_eq fun i => by
      rw [Nat.testBit_and]
      cases hi : y.testBit i
      · rfl
      · rw [h i hi]; rfl
    show Nat.beq (y &&& x) y = true
    rw [e]; exact Nat.beq_refl y
theorem leastQ_eq {ls : List (List Int)} (h : ∀ l ∈ ls, Bl.isL 8 0 l = true) : leastQ ls = Bl.leastL ls := by
  have hb : ∀ x ∈ ls.map Bl.bitsL, x < 256 := fun x hx => by
    obtain ⟨l, hl, rfl⟩ := List.mem_map.1 hx
    exact Bl.bitsL_lt (n := 8) (h l hl)
  have hS : ∀ x, Bl.S0 ls x = true ↔ x ∈ ls.map Bl.bitsL := fun x => by
    unfold Bl.S0
    rw [List.any_eq_true, List.mem_map]
    constructor
    · rintro ⟨l, hl, e⟩; exact ⟨l, hl, by simpa using e⟩
    · rintro ⟨l, hl, e⟩; exact ⟨l, hl, by simpa using e⟩
  have hm : ∀ x, x ∈ oneQ (minQ (ls.map Bl.bitsL)) ↔ x ∈ ls.map Bl.bitsL ∧ Bl.minB (Bl.S0 ls) x = true := fun x => by
    rw [oneQ_mem]
    unfold minQ
    rw [List.mem_filter, List.all_eq_true]
    constructor
    · rintro ⟨h1, h2⟩
      refine ⟨h1, Bl.minB_iff.2 ⟨(hS x).2 h1, fun y hy hSy hne => ?_⟩⟩
      have h3 := h2 y ((hS y).1 hSy)
      rw [land_sub hy (hb x h1)] at h3
      have hbe : Nat.beq y x = false := by
        cases e : Nat.beq y x
        · rfl
        · exact absurd (Nat.eq_of_beq_eq_true e) hne
      rw [hbe] at h3
      simpa using h3
    · rintro ⟨h1, h2⟩
      refine ⟨h1, fun y hy => ?_⟩
      obtain ⟨-, h3⟩ := Bl.minB_iff.1 h2
      by_cases e : y = x
      · subst e; rw [Nat.beq_refl]; rfl
      · rw [land_sub (hb y hy) (hb x h1), h3 y (hb y hy) ((hS y).2 hy) e]
        simp
  have hlt : ∀ x ∈ oneQ (minQ (ls.map Bl.bitsL)), x < 256 := fun x hx => hb x ((hm x).1 hx).1
  refine Bl.srt_ext (Bl.sortL_srt (Bl.map_listed_nodup (oneQ_nodup _) hlt)) (Bl.ordL_srt _) fun l => ?_
  unfold leastQ Bl.leastL
  rw [Bl.mem_sortL, Bl.mem_ordL, List.mem_map]
  constructor
  · rintro ⟨x, hx, rfl⟩
    exact ⟨x, hlt x hx, ((hm x).1 hx).2, rfl⟩
  · rintro ⟨x, hx, hmin, rfl⟩
    exact ⟨x, (hm x).2 ⟨(hS x).1 (Bl.minB_iff.1 hmin).1, hmin⟩, rfl⟩

/-! ### Read out of the evaluator's memory -/
def rdRow (hp : Hp) (b o l : Nat) : Option (List Value) := match g5 b hp with
  | some (.row cs) => kIf (Nat.ble (Nat.add o l) (len cs)) (some (takeN (dropN cs o) l))
  | _ => none
theorem rdRow_inv {hp : Hp} {b o l : Nat} {vs : List Value} (h : rdRow hp b o l = some vs) : ∃ cs, g5 b hp = some (.row cs) ∧ o + l ≤ cs.length ∧ vs = (cs.drop o).take l := by
  unfold rdRow at h
  split at h
  · rename_i cs hg
    obtain ⟨h1, h2⟩ := kIf_inv h
    have h1 := Nat.le_of_ble_eq_true h1
    rw [len_eq] at h1
    exact ⟨cs, hg, h1, by rw [← Option.some.inj h2, takeN_eq, dropN_eq]⟩
  · cases h
def cInt (v : Value) : Option Int := kInt v fun k n => kIf (keq k .i64) (some n)
theorem cInt_inv {v : Value} {x : Int} (h : cInt v = some x) : v = .int .i64 x := by
  obtain ⟨k, n, rfl, h⟩ := kInt_inv h
  obtain ⟨h1, h2⟩ := kIf_inv h
  rw [← Option.some.inj h2, keq_eq h1]
def rdI (hp : Hp) (v : Value) : Option (List Int) := kSlc v (fun _ _ => none) fun b o l _ => kIf (Nat.blt 0 l) (kO (rdRow hp b o l) (mapO cInt))
def rdL (hp : Hp) (v : Value) : Option (List (List Int)) := kSlc v (fun _ _ => none) fun b o l _ => kIf (Nat.blt 0 l) (kO (rdRow hp b o l) (mapO (rdI hp)))
theorem flat_int (l : List Int) : l.flatMap Bl.cI = l.map intV := by
  induction l with
  | nil => rfl
  | cons x l ih => rw [List.flatMap_cons, ih]; rfl
section
variable {G : Gh} {E : Env} {w : World} {hp : Hp} {nx : Nat}
theorem rdI_ins (hr : Rel G E hp nx w) {v v' : Value} {l : List Int} (h : rdI hp v = some l) (hv : VR E v v') : l ≠ [] ∧ ∃ A m c, v' = .slice A m c ∧ Bl.InS w w.heap.size A m l := by
  rcases kSlc_inv h with ⟨_, _, _, h0⟩ | ⟨b, o, m, c, rfl, h⟩
  · cases h0
  obtain ⟨h1, h⟩ := kIf_inv h
  have h1 : 0 < m := Nat.blt_eq.mp h1
  obtain ⟨vs, h2, h⟩ := kO_inv h
  obtain ⟨cs, h3, h4, rfl⟩ := rdRow_inv h2
  obtain ⟨h5, h6⟩ := mapO_inv h
  obtain ⟨br, base, ext, c', e, rfl⟩ := hv.slice_inv h1
  have hB := hr.blk b _ _ e h3
  have hlen : l.length = m := by rw [h5, List.length_take, List.length_drop]; omega
  refine ⟨fun e => by rw [e] at hlen; simp at hlen; omega, _, m, c', rfl, ?_⟩
  refine ⟨by rw [Bl.flat_len (s := 1) (fun _ => rfl)]; omega, fun _ => ⟨br, base + o, rfl, hr.lt b _ e, fun j u hu => ?_⟩⟩
  rw [flat_int, List.getElem?_map] at hu
  cases hj : l[j]? with
  | none => rw [hj] at hu; cases hu
  | some x =>
    rw [hj] at hu
    have hu : intV x = u := Option.some.inj hu
    subst hu
    obtain ⟨a, ha, hx⟩ := h6 j x hj
    have ha' := cInt_inv hx
    subst ha'
    have hcs : cs[o + j]? = some (.int .i64 x) := by
      rw [List.getElem?_take] at ha
      split at ha
      · rwa [List.getElem?_drop] at ha
      · cases ha
    obtain ⟨v', h7, h8⟩ := hB.cell hcs
    cases h8
    rw [Nat.add_assoc]
    exact h7
theorem rdL_lis (hr : Rel G E hp nx w) {v v' : Value} {ls : List (List Int)} (h : rdL hp v = some ls) (hv : VR E v v') : (∀ l ∈ ls, l ≠ []) ∧ ls ≠ [] ∧ ∃ A n c, v' = .slice A n c ∧ ls.length = n ∧
    ∃ vs : List Value, Bl.Sl w w.heap.size 1 A n vs ∧ ∀ (k : Nat) (l : List Int), ls[k]? = some l → ∃ (A' : Option Addr) (m c' : Nat), vs[k]? = some (Value.slice A' m c') ∧ Bl.InS w w.heap.size A' m l := by
  rcases kSlc_inv h with ⟨_, _, _, h0⟩ | ⟨b, o, m, c, rfl, h⟩
  · cases h0
  obtain ⟨h1, h⟩ := kIf_inv h
  have h1 : 0 < m := Nat.blt_eq.mp h1
  obtain ⟨vs, h2, h⟩ := kO_inv h
  obtain ⟨cs, h3, h4, rfl⟩ := rdRow_inv h2
  obtain ⟨h5, h6⟩ := mapO_inv h
  obtain ⟨br, base, ext, c', e, rfl⟩ := hv.slice_inv h1
  have hB := hr.blk b _ _ e h3
  have hlen : ls.length = m := by rw [h5, List.length_take, List.length_drop]; omega
  obtain ⟨us, g1, g2, g3⟩ := hB.range o m h4
  have hget : ∀ (k : Nat) (l : List Int), ls[k]? = some l → ∃ u, us[k]? = some u ∧ ∃ a, VR E a u ∧ rdI hp a = some l := fun k l hk => by
    obtain ⟨a, ha, hx⟩ := h6 k l hk
    obtain ⟨u, hu, hr⟩ := g3.get k a ha
    exact ⟨u, hu, a, hr, hx⟩
  refine ⟨fun l hl => ?_, fun e => by rw [e] at hlen; simp at hlen; omega, _, m, c', rfl, hlen, us, ⟨by omega, fun _ => ⟨br, base + o, rfl, hr.lt b _ e, fun j u hu => ?_⟩⟩, fun k l hk => ?_⟩
  · obtain ⟨k, hk, rfl⟩ := List.getElem_of_mem hl
    obtain ⟨u, _, a, hr', hx⟩ := hget k _ (List.getElem?_eq_getElem hk)
    exact (rdI_ins hr hx hr').1
  · have := g1 j u hu
    simpa [Addr.add_lit] using this
  · obtain ⟨u, hu, a, hr', hx⟩ := hget k l hk
    obtain ⟨_, A', m', c2, rfl, hin⟩ := rdI_ins hr hx hr'
    exact ⟨A', m', c2, hu, hin⟩
end
def natL (args : List Value) (hp : Hp) (nx wm : Nat) : Option Oc := List.rec none (fun v r _ => List.rec (kO (rdL hp v) fun ls => kIf (and (allB (fun l => Bl.isL 8 0 l) ls) (and (Nat.blt (len ls) 1000) (Nat.blt (Nat.add nx (len (leastQ ls))) 32768)))
  (kIf (and (Nat.blt 0 (len (leastQ ls))) (allB (fun l => Nat.blt 0 (len l)) (leastQ ls))) (some ⟨.slice (some ⟨Nat.add nx (len (leastQ ls)), 0, none⟩) (len (leastQ ls)) (len (leastQ ls) + OM * 2), s5 (Nat.add nx (len (leastQ ls))) (some (.row (valsN (leastQ ls) nx))) (rowsN (leastQ ls) hp nx), Nat.succ (Nat.add nx (len (leastQ ls))), wm⟩))) (fun _ _ _ => none) r) args
theorem natL_inv {args : List Value} {hp : Hp} {nx wm : Nat} {oc : Oc} (h : natL args hp nx wm = some oc) : ∃ v ls, args = [v] ∧ rdL hp v = some ls ∧ ls.length < 1000 ∧ (∀ l ∈ ls, Bl.isL 8 0 l = true) ∧ nx + (Bl.leastL ls).length < 32768 ∧ 0 < (Bl.leastL ls).length ∧ (∀ l ∈ Bl.leastL ls, l ≠ []) ∧
    oc = ⟨.slice (some ⟨nx + (Bl.leastL ls).length, 0, none⟩) (Bl.leastL ls).length ((Bl.leastL ls).length + OM * 2), s5 (nx + (Bl.leastL ls).length) (some (.row (valsN (Bl.leastL ls) nx))) (rowsN (Bl.leastL ls) hp nx), nx + (Bl.leastL ls).length + 1, wm⟩ := by
  match args, h with
  | [v], h =>
    obtain ⟨ls, h1, h2⟩ := kO_inv (show kO (rdL hp v) _ = some oc from h)
    obtain ⟨h3, h2⟩ := kIf_inv h2
    obtain ⟨h4, h2⟩ := kIf_inv h2
    simp only [Bool.and_eq_true] at h3 h4
    have hL : ∀ l ∈ ls, Bl.isL 8 0 l = true := fun l hl => allB_inv h3.1 l hl
    have e := leastQ_eq hL
    rw [e, len_eq] at h2 h4
    rw [e, len_eq, len_eq] at h3
    refine ⟨v, ls, rfl, h1, Nat.blt_eq.mp h3.2.1, hL, Nat.blt_eq.mp h3.2.2, Nat.blt_eq.mp h4.1, fun l hl => ?_, (Option.some.inj h2).symm⟩
    have := Nat.blt_eq.mp (allB_inv h4.2 l hl)
    rw [len_eq] at this
    exact fun e => by rw [e] at this; simp at this
end
end Go.Proofs.YtdgllpcfmkjfhaaGreat
/- A law of our own for a region that draws its order: all operations but a tail yield, in every world that meets S, one and the same value, and keep S; then the region may be walked in the order of the text, the tail in the world at hand. Over any program. -/
namespace Go.Proofs.YtdgllpcfmkjfhaaGreat.Bl
open Go

section
variable {P : Program} {ops : Array Oper} {md : Region.Mode} {S : World → Prop}

def HUpon (P : Program) (S : World → Prop) (v : Value) : Result Next → Prop
  | .ok (.value u) W' => u = v ∧ S W'
  | .ok .skip W' => v = undef ∧ S W'
  | .ok (.enter f args) W' => Calls P f args W' fun e W'' => e = .returned v ∧ S W''
  | _ => False

def HYields (P : Program) (ops : Array Oper) (S : World → Prop) (o : Oper) (v : Value) (a : Act) : Prop :=
  (Region.wanted o (yielded ops a.tmps) = true ∧ ∀ W, S W → HUpon P S v ((execOp a.eval o).run P W)) ∨ (Region.wanted o (yielded ops a.tmps) = false ∧ v = undef)

theorem HYields.of_same {o : Oper} {v : Value} {a a' : Act} (hy : HYields P ops S o v a) (he : execOp a'.eval o = execOp a.eval o)
    (hw : Region.wanted o (yielded ops a'.tmps) = Region.wanted o (yielded ops a.tmps)) : HYields P ops S o v a' := by
  unfold HYields at *
  rw [he, hw]
  exact hy

def wpHd (P : Program) (ops : Array Oper) (S : World → Prop) (Q : Act → Prop) : List Oper → Act → Prop
  | [], a => Q a
  | o :: rest, a => ∃ v, HYields P ops S o v a ∧ wpHd P ops S Q rest (a.put o.dst v)

def hOp (P : Program) (ops : Array Oper) (S : World → Prop) (i : Nat) (K : Act → Prop) (a : Act) : Prop :=
  match ops[i]? with
  | none => K a
  | some o => ∃ v, HYields P ops S o v a ∧ K (a.put o.dst v)

theorem hOp_mono {i : Nat} {a : Act} {K K' : Act → Prop} (h : ∀ a, K a → K' a) (hh : hOp P ops S i K a) : hOp P ops S i K' a := by
  unfold hOp at *
  split
  · rename_i ho; simp only [ho] at hh; exact h _ hh
  · rename_i o ho; simp only [ho] at hh; obtain ⟨v, hy, hk⟩ := hh; exact ⟨v, hy, h _ hk⟩

theorem wpOp_of_hOp {i : Nat} {a : Act} {w : World} {K : Act → Prop} {K' : Act → World → Prop} {Q' : Exit → Act → World → Prop} (hS : S w) (h : ∀ a w, S w → K a → K' a w)
    (hh : hOp P ops S i K a) : wpOp P ops Q' i K' a w := by
  unfold hOp at hh
  unfold wpOp
  split
  · rename_i ho; simp only [ho] at hh; exact h _ _ hS hh
  · rename_i o ho
    simp only [ho] at hh
    obtain ⟨v, hy, hk⟩ := hh
    rcases hy with ⟨hw, hy⟩ | ⟨hw, rfl⟩
    · simp only [hw, if_true]
      refine .inl ?_
      have h1 := hy w hS
      unfold Oper.wp
      generalize (execOp a.eval o).run P w = r at h1
      cases r with
      | ok n w' =>
        cases n <;> simp only [HUpon] at h1 <;> simp only [Oper.upon]
        case value u => obtain ⟨rfl, h2⟩ := h1; exact h _ _ h2 hk
        case skip => obtain ⟨rfl, h2⟩ := h1; exact h _ _ h2 hk
        case enter f args => exact h1.mono fun e w'' ⟨he, hw'⟩ => by subst he; exact h _ _ hw' hk
      | halt x w' => simp only [HUpon] at h1
    · simp only [hw, Bool.false_eq_true, if_false]; exact h _ _ hS hk

theorem hOp_put {j : Nat} {oi oj : Oper} {v : Value} (hj : ops[j]? = some oj) (hap : oi.apart ops oj = true)
    (hsi : ∀ cs b, oi.op ≠ .select cs b) (hsj : ∀ cs b, oj.op ≠ .select cs b) {K : Act → Prop} {a : Act}
    (hy : HYields P ops S oi v a) (h : hOp P ops S j K (a.put oi.dst v)) :
    hOp P ops S j (fun a' => HYields P ops S oi v a' ∧ K (a'.put oi.dst v)) a := by
  obtain ⟨h1, h2, h3⟩ := Oper.apart_spec hap
  unfold hOp at *
  simp only [hj] at *
  obtain ⟨u, hu, hk⟩ := h
  refine ⟨u, hu.of_same (execOp_put oj hsj a oi.dst v h1).symm (wanted_put oj a oi.dst v h1).symm, hy.of_same (execOp_put oi hsi a oj.dst u h3) (wanted_put oi a oj.dst u h3), ?_⟩
  rw [← Act.put_comm a v u h2]
  exact hk

def wpAnyD (P : Program) (md : Region.Mode) (ops : Array Oper) (S : World → Prop) (n : Nat) (L : Array Bool → Act → Prop) : Nat → Array Bool → Act → Prop
  | 0, listed, a => L listed a
  | f + 1, listed, a =>
    Region.ready md ops listed ≠ [] ∧ ∀ i ∈ Region.ready md ops listed, i < n ∧ hOp P ops S i (wpAnyD P md ops S n L f (listed.setIfInBounds i true)) a

theorem wpAny_of_hd {n g : Nat} {L : Array Bool → Act → Prop} {Q' : Exit → Act → World → Prop} (hL : ∀ listed a w, S w → L listed a → wpAny P md ops Q' g listed a w) :
    ∀ (f : Nat) (listed : Array Bool) (a : Act) (w : World), S w → wpAnyD P md ops S n L f listed a → wpAny P md ops Q' (f + g) listed a w
  | 0, listed, a, w, hS, h => by rw [Nat.zero_add]; exact hL _ _ _ hS h
  | f + 1, listed, a, w, hS, h => by
    rw [show f + 1 + g = (f + g) + 1 by omega]
    exact ⟨fun h0 => absurd h0 h.1, fun i hi => wpOp_of_hOp hS (fun a' w' hS' h' => wpAny_of_hd hL f _ a' w' hS' h') (h.2 i hi).2⟩

theorem wpAnyD_first {n i : Nat} {oi : Oper} {v : Value} {L : Array Bool → Act → Prop} (hi : ops[i]? = some oi) (hsel : ∀ (j : Nat) (o : Oper) cs b, ops[j]? = some o → o.op ≠ .select cs b)
    (hin : i < n) (htail : ∀ listed, HeadInv md ops n listed → listed.getD i true = false → ∀ t, n ≤ t → t ∉ Region.ready md ops listed)
    (hdone : ∀ listed a, L listed a → ∀ j ∈ Region.ready md ops listed, n ≤ j) :
    ∀ (f : Nat) (listed : Array Bool) (a : Act), HeadInv md ops n listed →
      (∀ j oj, ops[j]? = some oj → j ≠ i → listed.getD j true = false → (∀ e ∈ oj.after, Region.binds md e = true → e.on ≠ i) → oi.apart ops oj = true) →
      i ∈ Region.ready md ops listed → HYields P ops S oi v a →
      wpAnyD P md ops S n L f (listed.setIfInBounds i true) (a.put oi.dst v) → wpAnyD P md ops S n L (f + 1) listed a := by
  intro f
  induction f with
  | zero =>
    intro listed a inv _ hr hy H
    have hun := (mem_ready.1 hr).1
    refine ⟨fun h => (by rw [h] at hr; cases hr), fun j hj => ?_⟩
    have hjn : j < n := by
      rcases Nat.lt_or_ge j n with h | h
      · exact h
      · exact absurd hj (htail listed inv hun j h)
    refine ⟨hjn, ?_⟩
    by_cases hji : j = i
    · subst hji
      unfold hOp
      simp only [hi]
      exact ⟨v, hy, H⟩
    · have := hdone _ _ H j (ready_mono hj hji)
      omega
  | succ f ih =>
    intro listed a inv hfree hr hy H
    have hun := (mem_ready.1 hr).1
    refine ⟨fun h => (by rw [h] at hr; cases hr), fun j hj => ?_⟩
    have hjn : j < n := by
      rcases Nat.lt_or_ge j n with h | h
      · exact h
      · exact absurd hj (htail listed inv hun j h)
    refine ⟨hjn, ?_⟩
    by_cases hji : j = i
    · subst hji
      unfold hOp
      simp only [hi]
      exact ⟨v, hy, H⟩
    · have h1 := (H.2 j (ready_mono hj hji)).2
      obtain ⟨hjun, oj, hoj, hall⟩ := mem_ready.1 hj
      have hnot : ∀ e ∈ oj.after, Region.binds md e = true → e.on ≠ i := fun e he hb heq => by
        have h1 := hall e he hb
        rw [heq, getD_both hun] at h1
        cases h1
      have h2 := hOp_put hoj (hfree j oj hoj hji hjun hnot) (fun cs b => hsel i oi cs b hi) (fun cs b => hsel j oj cs b hoj) hy h1
      have hfree' : ∀ k ok, ops[k]? = some ok → k ≠ i → (listed.setIfInBounds j true).getD k true = false →
          (∀ e ∈ ok.after, Region.binds md e = true → e.on ≠ i) → oi.apart ops ok = true := fun k ok hk hki hun hno => by
        refine hfree k ok hk hki ?_ hno
        by_cases hjk : j = k
        · subst hjk; exact hjun
        · rw [getD_set_ne true hjk] at hun; exact hun
      refine hOp_mono (fun a' h3 => ih (listed.setIfInBounds j true) a' (inv.set hj hjn) hfree' (ready_mono hr (Ne.symm hji)) h3.1 ?_) h2
      rw [Array.setIfInBounds_comm _ _ hji]
      exact h3.2

theorem wpAnyD_lex {n g : Nat} {Lq : Act → Prop} (hsel : Region.noSelect ops = true)
    (htail : ∀ i, i < n → ∀ listed, HeadInv md ops n listed → listed.getD i true = false → ∀ t, n ≤ t → t ∉ Region.ready md ops listed) :
    ∀ (l : List Oper) (k : Nat) (listed : Array Bool) (a : Act), (∀ j, j < l.length → l[j]? = ops[k + j]?) → k + l.length = n → HeadInv md ops n listed →
    Region.lexHead md ops g l.length k listed = true → wpHd P ops S Lq l a →
    wpAnyD P md ops S n (fun listed' a' => Region.seqB md ops g n listed' = true ∧ Lq a') l.length listed a
  | [], k, listed, a, _, hk, _, hB, h => by
    have : k = n := by simpa using hk
    subst this
    exact ⟨by simpa [Region.lexHead] using hB, h⟩
  | o :: l, k, listed, a, hl, hk, inv, hB, h => by
    have h0 : ops[k]? = some o := by simpa using (hl 0 (by simp)).symm
    simp only [List.length_cons, Region.lexHead, Bool.and_eq_true] at hB
    obtain ⟨⟨hr, hf⟩, hB'⟩ := hB
    have hkn : k < n := by simp only [List.length_cons] at hk; omega
    have hr' : k ∈ Region.ready md ops listed := by simpa using hr
    obtain ⟨v, hy, hK⟩ := h
    exact wpAnyD_first h0 (Region.noSelect_spec hsel) hkn (htail k hkn) (fun listed' a' hL => seqB_ready hL.1) l.length listed a inv (Region.free_spec h0 hf) hr' hy
      (wpAnyD_lex hsel htail l (k + 1) _ _ (fun j hj => by have := hl (j + 1) (by simp; omega); simpa [Nat.add_assoc, Nat.add_comm 1 j] using this) (by simp only [List.length_cons] at hk; omega) (inv.set hr' hkn) hB' hK)

theorem wp_region_hd {id : Nat} {Q : Exit → Act → World → Prop} {a : Act} {w : World} {l : List Oper} (n : Nat) (S : World → Prop) (hm : P.follows .mixedOrders = true) (hB : Region.lexTailB .any l.toArray n = true)
    (hS : S w.drew) (h : wpHd P l.toArray S (fun a' => ∀ W, S W → wpList P l.toArray Q (l.drop n) a' W) (l.take n) a) : (Code.region id l.toArray true).wp P Q a w := by
  simp only [Region.lexTailB, Bool.and_eq_true, decide_eq_true_eq] at hB
  obtain ⟨⟨⟨⟨hsel, hn⟩, hs⟩, hc⟩, hlex⟩ := hB
  have hn' : n < l.length := by simpa using hn
  have htl : (l.take n).length = n := by simp; omega
  have hdl : (l.drop n).length = l.toArray.size - n := by simp
  have inv0 : HeadInv .any l.toArray n (Array.replicate l.toArray.size false) :=
    ⟨by simp, fun j oj _ hl => (by rw [getD_replicate_false] at hl; cases hl), fun t _ ht => getD_in (by simpa using ht) (getD_replicate_false _ _)⟩
  have H := wpAnyD_lex (md := .any) (g := l.toArray.size - n) hsel (fun i hi listed inv hun => tail_waits hs hc hn inv _ i rfl hi hun) (l.take n) 0 _ a (fun j hj => by
    have hj' : j < n := by rw [htl] at hj; exact hj
    simp [hj']) (by simpa using htl) inv0 (by rw [htl]; exact hlex) h
  refine wp_region_any hm ?_
  have := wpAny_of_hd (Q' := Q) (g := l.toArray.size - n) (fun listed a' w' hS' hL => by
    have := wpAny_of_seq (md := .any) (Q' := Q) (l.drop n) n listed a' w' (fun j => by simp [List.getElem?_drop]) (by rw [hdl]; exact hL.1) (hL.2 w' hS')
    rwa [hdl] at this) _ _ _ _ hS H
  rw [htl, show n + (l.toArray.size - n) = l.toArray.size by omega] at this
  exact this

theorem lexHead_of_lexFrom : ∀ (f k : Nat) (listed : Array Bool), Region.lexFrom md ops f k listed = true → Region.lexHead md ops 0 f k listed = true
  | 0, k, listed, h => by simpa [Region.lexFrom, Region.lexHead, Region.seqB] using h
  | f + 1, k, listed, h => by
    simp only [Region.lexFrom, Bool.and_eq_true] at h
    simp only [Region.lexHead, Bool.and_eq_true]
    exact ⟨h.1, lexHead_of_lexFrom f (k + 1) _ h.2⟩

theorem wp_region_hd_all {id : Nat} {Q : Exit → Act → World → Prop} {a : Act} {w : World} {l : List Oper} (S : World → Prop) (hm : P.follows .mixedOrders = true) (hB : Region.lexB .any l.toArray = true)
    (hS : S w.drew) (h : wpHd P l.toArray S (fun a' => ∀ W, S W → wpList P l.toArray Q [] a' W) l a) : (Code.region id l.toArray true).wp P Q a w := by
  simp only [Region.lexB, Bool.and_eq_true] at hB
  have hsz : l.toArray.size = l.length := by simp
  have inv0 : HeadInv .any l.toArray l.length (Array.replicate l.toArray.size false) :=
    ⟨by simp, fun j oj _ hl => (by rw [getD_replicate_false] at hl; cases hl), fun t h1 h2 => by rw [hsz] at h2; omega⟩
  have H := wpAnyD_lex (md := .any) (g := 0) hB.1 (fun i hi listed inv hun t ht hr => by
    have := (mem_ready.1 hr).2
    obtain ⟨ot, hot, _⟩ := this
    have := (Array.getElem?_eq_some_iff.1 hot).1
    rw [hsz] at this
    omega) l 0 _ a (fun j hj => by simp) (by simp) inv0 (by rw [← hsz]; exact lexHead_of_lexFrom _ _ _ hB.2) h
  refine wp_region_any hm ?_
  have := wpAny_of_hd (Q' := Q) (g := 0) (fun listed a' w' hS' hL => ⟨by simpa [Region.seqB] using hL.1, hL.2 w' hS'⟩) _ _ _ _ hS H
  simpa using this

/-! Steps. -/
theorem wpHd_nil {Q : Act → Prop} {a : Act} (h : Q a) : wpHd P ops S Q [] a := h
theorem wpHd_val {Q : Act → Prop} {a : Act} {o : Oper} {rest : List Oper} {v : Value} (hw : Region.wanted o (yielded ops a.tmps) = true)
    (hv : ∀ W, S W → (execOp a.eval o).run P W = .ok (.value v) W) (h : wpHd P ops S Q rest (a.put o.dst v)) : wpHd P ops S Q (o :: rest) a :=
  ⟨v, .inl ⟨hw, fun W hW => by rw [hv W hW]; exact ⟨rfl, hW⟩⟩, h⟩
theorem wpHd_not {Q : Act → Prop} {a : Act} {o : Oper} {rest : List Oper} (hw : Region.wanted o (yielded ops a.tmps) = false)
    (h : wpHd P ops S Q rest (a.put o.dst undef)) : wpHd P ops S Q (o :: rest) a := ⟨undef, .inr ⟨hw, rfl⟩, h⟩
theorem wpHd_call {Q : Act → Prop} {a : Act} {o : Oper} {rest : List Oper} {v : Value} {f : FuncId} {args : Array Value} (hw : Region.wanted o (yielded ops a.tmps) = true)
    (hv : ∀ W, S W → (execOp a.eval o).run P W = .ok (.enter f args) W) (hc : ∀ W, S W → Calls P f args W fun e W' => e = .returned v ∧ S W')
    (h : wpHd P ops S Q rest (a.put o.dst v)) : wpHd P ops S Q (o :: rest) a :=
  ⟨v, .inl ⟨hw, fun W hW => by rw [hv W hW]; exact hc W hW⟩, h⟩
theorem wpHd_callB {Q : Act → Prop} {a : Act} {o : Oper} {rest : List Oper} {v : Value} {f : FuncId} {args : Array Value} {w0 : World} (hw : Region.wanted o (yielded ops a.tmps) = true)
    (hc : ∀ W, RowKit.Below w0.heap.size w0 W → Calls P f args W fun e W' => e = .returned v ∧ RowKit.Below W.heap.size W W')
    (hv : ∀ W, RowKit.Below w0.heap.size w0 W → (execOp a.eval o).run P W = .ok (.enter f args) W)
    (h : wpHd P ops (fun W => RowKit.Below w0.heap.size w0 W) Q rest (a.put o.dst v)) : wpHd P ops (fun W => RowKit.Below w0.heap.size w0 W) Q (o :: rest) a :=
  wpHd_call hw hv (fun W hW => (hc W hW).mono fun _ _ ⟨he, hb⟩ => ⟨he, hW.trans (hb.mono hW.size)⟩) h
end
end Go.Proofs.YtdgllpcfmkjfhaaGreat.Bl
/- The law on a region that draws its order (YtdgllpcfmkjfhaaGreatH), in a round of a range over a function: at the fence that shuts nothing out. Over any program. -/
namespace Go.Proofs.YtdgllpcfmkjfhaaGreat.Bl
open Go

def Wd (ro : Option Nat) : Fence := { Fence.wide with round := ro }
@[go_sem, simp] theorem Wd_round (ro : Option Nat) : (Wd ro).round = ro := rfl
@[go_sem, simp] theorem Wd_depth (ro : Option Nat) : (Wd ro).depth = none := rfl
@[go_sem, simp] theorem Wd_fn (ro : Option Nat) (f : FuncId) : (Wd ro).fn f = True := rfl
@[go_sem, simp] theorem Wd_in (ro : Option Nat) (l : Nat) : (Wd ro).inRound l = Wd (some l) := rfl
theorem calls_wd {ro : Option Nat} {n : Nat} {P : Program} {f : FuncId} {args : Array Value} {w : World} {R : Ending → World → Prop} (h : Calls P f args w R) : CallsIn (Wd ro) n P f args w R :=
  (callsIn_wide (n := n)).2 h

section
variable {P : Program} {ops : Array Oper} {md : Region.Mode} {S : World → Prop} {ro : Option Nat} {n : Nat}

def noDefer (ops : Array Oper) : Bool := ops.all fun o => match o.op with | .defer _ => false | _ => true
theorem noDefer_spec (h : noDefer ops = true) (j : Nat) (o : Oper) (ho : ops[j]? = some o) : ∀ c, o.op ≠ .defer c := by
  intro c hc
  have hm : o ∈ ops := Array.mem_of_getElem? ho
  have := Array.all_eq_true'.1 h o hm
  rw [hc] at this
  cases this

theorem wpOpIn_of_hOp {i : Nat} {a : Act} {w : World} {K : Act → Prop} {K' : Act → World → Prop} {Q' : Exit → Act → World → Prop} (hd : noDefer ops = true) (hS : S w) (h : ∀ a w, S w → K a → K' a w)
    (hh : hOp P ops S i K a) : wpOpIn (Wd ro) n P ops Q' i K' a w := by
  unfold hOp at hh
  unfold wpOpIn
  split
  · rename_i ho; simp only [ho] at hh; exact h _ _ hS hh
  · rename_i o ho
    simp only [ho] at hh
    obtain ⟨v, hy, hk⟩ := hh
    rcases hy with ⟨hw, hy⟩ | ⟨hw, rfl⟩
    · simp only [hw, if_true]
      have h1 := hy w hS
      unfold Oper.wpIn
      refine ⟨fun f _ => trivial, ?_⟩
      rw [Oper.semAt_eq _ _ _ (noDefer_spec hd i o ho)]
      generalize (execOp a.eval o).run P w = r at h1
      cases r with
      | ok n w' =>
        cases n <;> simp only [HUpon] at h1 <;> simp only [Oper.uponIn]
        case value u => obtain ⟨rfl, h2⟩ := h1; exact h _ _ h2 hk
        case skip => obtain ⟨rfl, h2⟩ := h1; exact h _ _ h2 hk
        case enter f args =>
          refine ⟨fun hx => (by cases hx), calls_wd (h1.mono ?_)⟩
          rintro e w'' ⟨rfl, hw'⟩
          exact h _ _ hw' hk
      | halt x w' => simp only [HUpon] at h1
    · simp only [hw, Bool.false_eq_true, if_false]; exact ⟨fun f _ => trivial, h _ _ hS hk⟩

theorem wpAnyIn_of_hd {m g : Nat} {L : Array Bool → Act → Prop} {Q' : Exit → Act → World → Prop} (hd : noDefer ops = true) (hL : ∀ listed a w, S w → L listed a → wpAnyIn (Wd ro) n P md ops Q' g listed a w) :
    ∀ (f : Nat) (listed : Array Bool) (a : Act) (w : World), S w → wpAnyD P md ops S m L f listed a → wpAnyIn (Wd ro) n P md ops Q' (f + g) listed a w
  | 0, listed, a, w, hS, h => by rw [Nat.zero_add]; exact hL _ _ _ hS h
  | f + 1, listed, a, w, hS, h => by
    rw [show f + 1 + g = (f + g) + 1 by omega]
    exact ⟨fun h0 => absurd h0 h.1, fun i hi => wpOpIn_of_hOp hd hS (fun a' w' hS' h' => wpAnyIn_of_hd hd hL f _ a' w' hS' h') (h.2 i hi).2⟩

theorem wpIn_region_hd_all {id : Nat} {Q : Exit → Act → World → Prop} {a : Act} {w : World} {l : List Oper} (S : World → Prop) (hm : P.follows .mixedOrders = true) (hB : (Region.lexB .any l.toArray && noDefer l.toArray) = true)
    (hS : S w.drew) (h : wpHd P l.toArray S (fun a' => ∀ W, S W → wpListIn (Wd ro) n P l.toArray Q [] a' W) l a) : (Code.region id l.toArray true).wpIn (Wd ro) n P Q a w := by
  simp only [Region.lexB, Bool.and_eq_true] at hB
  obtain ⟨hB, hd⟩ := hB
  have hsz : l.toArray.size = l.length := by simp
  have inv0 : HeadInv .any l.toArray l.length (Array.replicate l.toArray.size false) :=
    ⟨by simp, fun j oj _ hl => (by rw [getD_replicate_false] at hl; cases hl), fun t h1 h2 => by rw [hsz] at h2; omega⟩
  have H := wpAnyD_lex (md := .any) (g := 0) hB.1 (fun i hi listed inv hun t ht hr => by
    have := (mem_ready.1 hr).2
    obtain ⟨ot, hot, _⟩ := this
    have := (Array.getElem?_eq_some_iff.1 hot).1
    rw [hsz] at this
    omega) l 0 _ a (fun j hj => by simp) (by simp) inv0 (by rw [← hsz]; exact lexHead_of_lexFrom _ _ _ hB.2) h
  refine wpIn_region_any hm ?_
  have := wpAnyIn_of_hd (ro := ro) (n := n) (Q' := Q) (g := 0) hd (fun listed a' w' hS' hL => ⟨by simpa [Region.seqB] using hL.1, hL.2 w' hS'⟩) _ _ _ _ hS H
  simpa using this
end

/-! Leaving a function that holds marks. -/
structure Off (Ds : List Nat) (w w' : World) : Prop where
  os : w'.os = w.os
  tape : w'.tape = w.tape
  output : w'.output = w.output
  size : w'.heap.size = w.heap.size
  block : ∀ k, k ∉ Ds → w'.heap[k]? = w.heap[k]?
  was : ∀ D, D ∈ Ds → w.heap[D]? = some (.deferred (some []))
  now : ∀ D, D ∈ Ds → w'.heap[D]? = some (.deferred none)
theorem Off.cell {Ds : List Nat} {w w' : World} (h : Off Ds w w') (a : Addr) : w'.cell? a = w.cell? a := by
  by_cases hm : a.block ∈ Ds
  · simp [World.cell?, h.was _ hm, h.now _ hm]
  · exact World.cell?_of_block (h.block _ hm)
theorem Off.below {Ds : List Nat} {w w' w0 : World} {B : Nat} (h : Off Ds w w') (hb : RowKit.Below B w0 w) (hD : ∀ D ∈ Ds, B ≤ D) : RowKit.Below B w0 w' :=
  hb.trans ⟨h.os, h.tape, h.output, by rw [h.size]; exact Nat.le_refl _, fun k hk => h.block k (fun hm => by have := hD k hm; omega)⟩
def markOf (D : Nat) : Deferred := { target := .collected D, args := #[] }
theorem leavesM_marks {P : Program} {n : Nat} {fn : Func} {tmps : Array Value} {R : Ending → World → Prop} : ∀ (Ds : List Nat) (w : World), Ds.Nodup → (∀ D, D ∈ Ds → w.heap[D]? = some (.deferred (some []))) →
    (∀ w', Off Ds w w' → ∃ v, (results fn tmps).run P w' = .ok v w' ∧ R (.returned v) w') → LeavesInM (Wd none) n P fn tmps R (Ds.map markOf) .returning w
  | [], w, _, _, h => h w ⟨rfl, rfl, rfl, rfl, fun _ _ => rfl, fun _ hm => (by cases hm), fun _ hm => (by cases hm)⟩
  | D :: Ds, w, hnd, hD, h => by
    obtain ⟨hn1, hn2⟩ := List.nodup_cons.1 hnd
    have h0 := hD D (by simp)
    refine ⟨by simp, .inl ⟨D, _, rfl, run_takeDeferred h0, ?_⟩⟩
    refine leavesM_marks Ds (w.putObj D (.deferred none)) hn2 (fun D' hm => ?_) (fun w' ho => h w' ?_)
    · rw [World.putObj_heap_other (fun e => hn1 (by rw [← e]; exact hm))]
      exact hD D' (by simp [hm])
    · refine ⟨ho.os, ho.tape, ho.output, ho.size.trans (by simp [World.putObj]), fun k hk => ?_, hD, fun D' hm => ?_⟩
      · simp only [List.mem_cons, not_or] at hk
        rw [ho.block k hk.2, World.putObj_heap_other hk.1]
      · rcases List.mem_cons.1 hm with rfl | hm
        · rw [ho.block D' hn1, World.putObj_heap_same (Array.getElem?_eq_some_iff.1 h0).1]
        · exact ho.now D' hm

/-! For a range over a function: what lies in cells, or below, abides the law's own book-keeping. -/
theorem with_frame {F : Fence} {n : Nat} {P : Program} {c : Code} {Q : Exit → Act → World → Prop} {tmps : Array Value} {ds : List Deferred} {w : World} (h : ∀ T, T = tmps → c.wpIn F n P Q { tmps := T, defers := ds } w) : c.wpIn F n P Q { tmps, defers := ds } w := h _ rfl
end Go.Proofs.YtdgllpcfmkjfhaaGreat.Bl
/- A second law of our own for a region that draws its order: early operations yield one and the same value in every world that is behind a first one; the others (an allocation, a store, an append) come in whatever order is left, each in whatever world is behind the one before it. Over any program. -/
namespace Go.Proofs.YtdgllpcfmkjfhaaGreat.Bl
open Go

abbrev Ext (w W : World) : Prop := RowKit.Below w.heap.size w W
theorem Ext.trans' {a b c : World} (h : Ext a b) (k : Ext b c) : Ext a c := h.trans (k.mono h.size)

section
variable {P : Program} {ops : Array Oper} {md : Region.Mode} {X : World}

def EUpon (P : Program) (W0 : World) (v : Value) : Result Next → Prop
  | .ok (.value u) W' => u = v ∧ Ext W0 W'
  | .ok .skip W' => v = undef ∧ Ext W0 W'
  | .ok (.enter f args) W' => W' = W0 ∧ Calls P f args W0 fun e W'' => e = .returned v ∧ Ext W0 W''
  | _ => False
def EYields (P : Program) (ops : Array Oper) (X : World) (o : Oper) (v : Value) (a : Act) : Prop :=
  (Region.wanted o (yielded ops a.tmps) = true ∧ ∀ W, Ext X W → EUpon P W v ((execOp a.eval o).run P W)) ∨ (Region.wanted o (yielded ops a.tmps) = false ∧ v = undef)
theorem EYields.of_same {o : Oper} {v : Value} {a a' : Act} (hy : EYields P ops X o v a) (he : execOp a'.eval o = execOp a.eval o)
    (hw : Region.wanted o (yielded ops a'.tmps) = Region.wanted o (yielded ops a.tmps)) : EYields P ops X o v a' := by
  unfold EYields at *
  rw [he, hw]
  exact hy

def LUpon (P : Program) (o : Oper) (a : Act) (K : Act → World → Prop) : Result Next → Prop
  | .ok (.value u) W' => K (a.put o.dst u) W'
  | .ok .skip W' => K (a.put o.dst undef) W'
  | .ok (.enter f args) W' => Calls P f args W' fun e W'' => ∃ v, e = .returned v ∧ K (a.put o.dst v) W''
  | _ => False
def lOp (P : Program) (ops : Array Oper) (i : Nat) (K : Act → World → Prop) (a : Act) (w : World) : Prop :=
  match ops[i]? with
  | none => K a w
  | some o => if Region.wanted o (yielded ops a.tmps) = true then LUpon P o a K ((execOp a.eval o).run P w) else K (a.put o.dst undef) w

theorem LUpon_mono {o : Oper} {a : Act} {K K' : Act → World → Prop} (h : ∀ a w, K a w → K' a w) {r : Result Next} (hh : LUpon P o a K r) : LUpon P o a K' r := by
  cases r with
  | ok n w' =>
    cases n <;> simp only [LUpon] at hh ⊢
    case value u => exact h _ _ hh
    case skip => exact h _ _ hh
    case enter f args => exact hh.mono fun e W ⟨v, he, hk⟩ => ⟨v, he, h _ _ hk⟩
  | halt x w' => simp only [LUpon] at hh
theorem lOp_mono {i : Nat} {a : Act} {w : World} {K K' : Act → World → Prop} (h : ∀ a w, K a w → K' a w) (hh : lOp P ops i K a w) : lOp P ops i K' a w := by
  unfold lOp at *
  split
  · rename_i ho; simp only [ho] at hh; exact h _ _ hh
  · rename_i o ho
    simp only [ho] at hh
    split
    · rename_i hw; simp only [hw, if_true] at hh; exact LUpon_mono h hh
    · rename_i hw; simp only [hw] at hh; exact h _ _ hh

theorem lOp_put {j : Nat} {oi oj : Oper} {v : Value} (hj : ops[j]? = some oj) (hap : oi.apart ops oj = true)
    (hsi : ∀ cs b, oi.op ≠ .select cs b) (hsj : ∀ cs b, oj.op ≠ .select cs b) {K : Act → World → Prop} {a : Act} {w : World}
    (hy : EYields P ops X oi v a) (h : lOp P ops j K (a.put oi.dst v) w) :
    lOp P ops j (fun a' w' => EYields P ops X oi v a' ∧ K (a'.put oi.dst v) w') a w := by
  obtain ⟨h1, h2, h3⟩ := Oper.apart_spec hap
  have keep : ∀ (u : Value), EYields P ops X oi v (a.put oj.dst u) := fun u => hy.of_same (execOp_put oi hsi a oj.dst u h3) (wanted_put oi a oj.dst u h3)
  have swap : ∀ (u : Value) (W : World), K ((a.put oi.dst v).put oj.dst u) W → EYields P ops X oi v (a.put oj.dst u) ∧ K ((a.put oj.dst u).put oi.dst v) W := fun u W hk => ⟨keep u, by rw [← Act.put_comm a v u h2]; exact hk⟩
  unfold lOp at *
  simp only [hj] at *
  rw [wanted_put oj a oi.dst v h1] at h
  split
  · rename_i hw
    simp only [hw, if_true] at h
    rw [execOp_put oj hsj a oi.dst v h1] at h
    generalize (execOp a.eval oj).run P w = r at *
    cases r with
    | ok n w' =>
      cases n <;> simp only [LUpon] at h ⊢
      case value u => exact swap u _ h
      case skip => exact swap _ _ h
      case enter f args => exact h.mono fun e W ⟨u, he, hk⟩ => ⟨u, he, swap u _ hk⟩
    | halt x w' => simp only [LUpon] at h
  · rename_i hw
    simp only [hw] at h
    exact swap _ _ h

def wpM (P : Program) (md : Region.Mode) (ops : Array Oper) (X : World) (Q : Act → World → Prop) : Nat → Array Bool → Act → World → Prop
  | 0, listed, a, w => Region.ready md ops listed = [] ∧ ∀ W, Ext w W → Ext X W → Q a W
  | f + 1, listed, a, w => ∀ W, Ext w W → Ext X W → (Region.ready md ops listed = [] → Q a W) ∧
      ∀ i ∈ Region.ready md ops listed, lOp P ops i (fun a' W' => Ext X W' ∧ wpM P md ops X Q f (listed.setIfInBounds i true) a' W') a W
theorem wpM_ext {Q : Act → World → Prop} {f : Nat} {listed : Array Bool} {a : Act} {w w' : World} (h : wpM P md ops X Q f listed a w) (he : Ext w w') : wpM P md ops X Q f listed a w' := by
  cases f with
  | zero => exact ⟨h.1, fun W h1 h2 => h.2 W (he.trans' h1) h2⟩
  | succ f => exact fun W h1 h2 => h W (he.trans' h1) h2

theorem lOp_of_early {i : Nat} {oi : Oper} {v : Value} {a : Act} {W : World} {K : Act → World → Prop} (hi : ops[i]? = some oi) (hX : Ext X W) (hy : EYields P ops X oi v a) (hK : ∀ W', Ext W W' → K (a.put oi.dst v) W') : lOp P ops i K a W := by
  unfold lOp
  simp only [hi]
  rcases hy with ⟨hw, hy⟩ | ⟨hw, rfl⟩
  · simp only [hw, if_true]
    have h1 := hy W hX
    generalize (execOp a.eval oi).run P W = r at h1
    cases r with
    | ok n w' =>
      cases n <;> simp only [EUpon] at h1 <;> simp only [LUpon]
      case value u => obtain ⟨rfl, h2⟩ := h1; exact hK _ h2
      case skip => obtain ⟨rfl, h2⟩ := h1; exact hK _ h2
      case enter f args => obtain ⟨rfl, h2⟩ := h1; exact h2.mono fun e W'' ⟨he, hx⟩ => ⟨v, he, hK _ hx⟩
    | halt x w' => simp only [EUpon] at h1
  · simp only [hw, Bool.false_eq_true, if_false]; exact hK _ (RowKit.Below.refl _ _)

theorem wpM_first {Q : Act → World → Prop} {i : Nat} {oi : Oper} {v : Value} (hi : ops[i]? = some oi) (hsel : ∀ (j : Nat) (o : Oper) cs b, ops[j]? = some o → o.op ≠ .select cs b) :
    ∀ (f : Nat) (listed : Array Bool) (a : Act) (w : World),
      (∀ j oj, ops[j]? = some oj → j ≠ i → listed.getD j true = false → (∀ e ∈ oj.after, Region.binds md e = true → e.on ≠ i) → oi.apart ops oj = true) →
      i ∈ Region.ready md ops listed → EYields P ops X oi v a →
      wpM P md ops X Q f (listed.setIfInBounds i true) (a.put oi.dst v) w → wpM P md ops X Q (f + 1) listed a w := by
  intro f
  induction f with
  | zero =>
    intro listed a w hfree hr hy H W hwW hXW
    refine ⟨fun h => (by rw [h] at hr; cases hr), fun j hj => ?_⟩
    by_cases hji : j = i
    · subst hji
      exact lOp_of_early hi hXW hy fun W' hW' => ⟨hXW.trans' hW', wpM_ext H (hwW.trans' hW')⟩
    · have := ready_mono hj hji
      rw [H.1] at this
      cases this
  | succ f ih =>
    intro listed a w hfree hr hy H W hwW hXW
    refine ⟨fun h => (by rw [h] at hr; cases hr), fun j hj => ?_⟩
    by_cases hji : j = i
    · subst hji
      exact lOp_of_early hi hXW hy fun W' hW' => ⟨hXW.trans' hW', wpM_ext H (hwW.trans' hW')⟩
    · have h1 := (H W hwW hXW).2 j (ready_mono hj hji)
      obtain ⟨hjun, oj, hoj, hall⟩ := mem_ready.1 hj
      have hnot : ∀ e ∈ oj.after, Region.binds md e = true → e.on ≠ i := fun e he hb heq => by
        have h1 := hall e he hb
        have h0 := (mem_ready.1 hr).1
        rw [heq, getD_both h0] at h1
        cases h1
      have h2 := lOp_put hoj (hfree j oj hoj hji hjun hnot) (fun cs b => hsel i oi cs b hi) (fun cs b => hsel j oj cs b hoj) hy h1
      have hfree' : ∀ k ok, ops[k]? = some ok → k ≠ i → (listed.setIfInBounds j true).getD k true = false →
          (∀ e ∈ ok.after, Region.binds md e = true → e.on ≠ i) → oi.apart ops ok = true := fun k ok hk hki hun hno => by
        refine hfree k ok hk hki ?_ hno
        by_cases hjk : j = k
        · subst hjk; exact hjun
        · rw [getD_set_ne true hjk] at hun; exact hun
      refine lOp_mono (fun a' W' h3 => ⟨h3.2.1, ih (listed.setIfInBounds j true) a' W' hfree' (ready_mono hr (Ne.symm hji)) h3.1 ?_⟩) h2
      rw [Array.setIfInBounds_comm _ _ hji]
      exact h3.2.2

def wpE (P : Program) (ops : Array Oper) (X : World) (L : Act → Prop) : List (Nat × Oper) → Act → Prop
  | [], a => L a
  | (_, o) :: rest, a => ∃ v, EYields P ops X o v a ∧ wpE P ops X L rest (a.put o.dst v)
def setAll (listed : Array Bool) : List Nat → Array Bool
  | [] => listed
  | i :: l => setAll (listed.setIfInBounds i true) l
def earlyB (md : Region.Mode) (ops : Array Oper) : List Nat → Array Bool → Bool
  | [], _ => true
  | i :: l, listed => (Region.ready md ops listed).contains i && Region.free md ops listed i && earlyB md ops l (listed.setIfInBounds i true)
def pick (ops : Array Oper) : List Nat → List (Nat × Oper)
  | [] => []
  | i :: l => match ops[i]? with
    | some o => (i, o) :: pick ops l
    | none => pick ops l

theorem wpM_early {Q : Act → World → Prop} (hsel : Region.noSelect ops = true) {w : World} : ∀ (E : List Nat) (g : Nat) (listed : Array Bool) (a : Act), earlyB md ops E listed = true →
    wpE P ops X (fun a' => wpM P md ops X Q g (setAll listed E) a' w) (pick ops E) a → wpM P md ops X Q (E.length + g) listed a w
  | [], g, listed, a, _, h => by simpa [setAll, pick, wpE] using h
  | i :: E, g, listed, a, hB, h => by
    simp only [earlyB, Bool.and_eq_true] at hB
    obtain ⟨⟨hr, hf⟩, hB'⟩ := hB
    have hr' : i ∈ Region.ready md ops listed := by simpa using hr
    obtain ⟨_, oi, hoi, _⟩ := mem_ready.1 hr'
    simp only [pick, hoi, wpE] at h
    obtain ⟨v, hy, hK⟩ := h
    rw [List.length_cons, show E.length + 1 + g = (E.length + g) + 1 by omega]
    exact wpM_first hoi (Region.noSelect_spec hsel) _ _ _ _ (Region.free_spec hoi hf) hr' hy (wpM_early hsel E g _ _ hB' hK)

theorem wpOp_of_lOp {i : Nat} {a : Act} {w : World} {K K' : Act → World → Prop} {Q' : Exit → Act → World → Prop} (h : ∀ a w, K a w → K' a w) (hh : lOp P ops i K a w) : wpOp P ops Q' i K' a w := by
  unfold lOp at hh
  unfold wpOp
  split
  · rename_i ho; simp only [ho] at hh; exact h _ _ hh
  · rename_i o ho
    simp only [ho] at hh
    split
    · rename_i hw
      simp only [hw, if_true] at hh
      refine .inl ?_
      unfold Oper.wp
      generalize (execOp a.eval o).run P w = r at hh
      cases r with
      | ok n w' =>
        cases n <;> simp only [LUpon] at hh <;> simp only [Oper.upon]
        case value u => exact h _ _ hh
        case skip => exact h _ _ hh
        case enter f args =>
          refine hh.mono ?_
          rintro e W ⟨v, rfl, hk⟩
          exact h _ _ hk
      | halt x w' => simp only [LUpon] at hh
    · rename_i hw; simp only [hw] at hh; exact h _ _ hh
theorem wpAny_of_M {Q : Act → World → Prop} {Q' : Exit → Act → World → Prop} (hQ : ∀ a w, Q a w → Q' .normal a w) : ∀ (f : Nat) (listed : Array Bool) (a : Act) (w : World), Ext X w → wpM P md ops X Q f listed a w → wpAny P md ops Q' f listed a w
  | 0, _, _, _, hX, h => ⟨h.1, hQ _ _ (h.2 _ (RowKit.Below.refl _ _) hX)⟩
  | f + 1, _, _, w, hX, h =>
    have h' := h w (RowKit.Below.refl _ _) hX
    ⟨fun h0 => hQ _ _ (h'.1 h0), fun i hi => wpOp_of_lOp (fun _ _ hk => wpAny_of_M hQ f _ _ _ hk.1 hk.2) (h'.2 i hi)⟩

theorem wp_region_el {id : Nat} {Q : Exit → Act → World → Prop} {a : Act} {w : World} {l : List Oper} (E : List Nat) (g : Nat) (hm : P.follows .mixedOrders = true)
    (hB : (Region.noSelect l.toArray && decide (E.length + g = l.length) && earlyB .any l.toArray E (Array.replicate l.length false)) = true)
    (h : ∀ X, X = w.drew → wpE P l.toArray X (fun a' => wpM P .any l.toArray X (fun a w => wpList P l.toArray Q [] a w) g (setAll (Array.replicate l.length false) E) a' X) (pick l.toArray E) a) : (Code.region id l.toArray true).wp P Q a w := by
  simp only [Bool.and_eq_true, decide_eq_true_eq] at hB
  obtain ⟨⟨hsel, hn⟩, hE⟩ := hB
  refine wp_region_any hm ?_
  have := wpM_early (X := w.drew) hsel E g _ a hE (h _ rfl)
  rw [hn] at this
  have := wpAny_of_M (Q' := Q) (fun _ _ hk => hk) _ _ _ _ (RowKit.Below.refl _ _) this
  simpa using this

variable {ro : Option Nat} {n : Nat}
/-! Steps. -/
theorem wpE_val {L : Act → Prop} {a : Act} {i : Nat} {o : Oper} {rest : List (Nat × Oper)} {v : Value} (hw : Region.wanted o (yielded ops a.tmps) = true)
    (hv : ∀ W, Ext X W → (execOp a.eval o).run P W = .ok (.value v) W) (h : wpE P ops X L rest (a.put o.dst v)) : wpE P ops X L ((i, o) :: rest) a :=
  ⟨v, .inl ⟨hw, fun W hW => by rw [hv W hW]; exact ⟨rfl, RowKit.Below.refl _ _⟩⟩, h⟩
theorem wpM_end {Q : Act → World → Prop} {listed : Array Bool} {a : Act} {w : World} (hr : (Region.ready md ops listed).isEmpty = true) (h : ∀ W, Ext w W → Ext X W → Q a W) : wpM P md ops X Q 0 listed a w :=
  ⟨by simpa using hr, h⟩
theorem wpM_one {Q : Act → World → Prop} {f : Nat} {listed : Array Bool} {a : Act} {w : World} (k : Nat) (o : Oper) (ho : ops[k]? = some o) (hr : decide (Region.ready md ops listed = [k]) = true) (hw : Region.wanted o (yielded ops a.tmps) = true)
    (h : ∀ W, Ext w W → Ext X W → LUpon P o a (fun a' W' => Ext X W' ∧ wpM P md ops X Q f (listed.setIfInBounds k true) a' W') ((execOp a.eval o).run P W)) : wpM P md ops X Q (f + 1) listed a w := by
  intro W h1 h2
  rw [of_decide_eq_true hr]
  refine ⟨fun h => (by cases h), fun i hi => ?_⟩
  obtain rfl : i = k := by simpa using hi
  unfold lOp
  simp only [ho, hw, if_true]
  exact h W h1 h2
end
end Go.Proofs.YtdgllpcfmkjfhaaGreat.Bl
/- Regions that draw their order, with several things that write: what is free first, then the one that is ready, from there on anew. -/
namespace Go.Proofs.YtdgllpcfmkjfhaaGreat.Bl
open Go.RowKit
section
variable {P : Program} {md : Region.Mode} {ops : Array Oper}
end
end Go.Proofs.YtdgllpcfmkjfhaaGreat.Bl
