/- Texts of the proof, laid together by program. -/
import Derived.Test.YtdgllpcfmkjfhaaGreatMk
import Derived.Test.YtdgllpcfmkjfhaaGreatMl
import Derived.Test.YtdgllpcfmkjfhaaGreatMm
import Derived.Test.YtdgllpcfmkjfhaaGreatMn
import Derived.Test.YtdgllpcfmkjfhaaGreatMo
import Derived.Test.YtdgllpcfmkjfhaaGreatMp
import Derived.Test.YtdgllpcfmkjfhaaGreatMf
set_option linter.unusedSimpArgs false
set_option linter.unusedVariables false
/- The examples of all laws up to the sixth, by what is known of each. -/
namespace Go.Proofs.YtdgllpcfmkjfhaaGreat
open Go
noncomputable section
def nt5 : Nat' := fun f => match f with
  | 139 | 140 | 141 | 100 | 57 | 24 => some (frAny [frT])
  | _ => none
theorem nt5_ok : NatOk Tryz.prog nt5 := fun f h hf args hp nx wm oc ho => by
  unfold nt5 at hf
  split at hf
  · rw [← Option.some.inj hf] at ho; exact frOne_ok call1_ok T4a_ok ho
  · rw [← Option.some.inj hf] at ho; exact frOne_ok call0_ok T4b_ok ho
  · rw [← Option.some.inj hf] at ho; exact frOne_ok call0_ok T4c_ok ho
  · rw [← Option.some.inj hf] at ho; exact frOne_ok call0_ok T4d_ok ho
  · rw [← Option.some.inj hf] at ho; exact frOne_ok call0_ok T4e_ok ho
  · rw [← Option.some.inj hf] at ho; exact frOne_ok call0_ok T4f_ok ho
  · cases hf
def call5 : Call := callB cx1 hts nt5 200
theorem call5_ok : CallOk Tryz.prog call5 := callB_ok cx1_ok nt5_ok 200
set_option maxRecDepth 100000 in
theorem T6_ok : frOk call5 6 frT = true := by decide +kernel
def nt6 : Nat' := fun f => match f with
  | 88 => some natL
  | 6 => some (frAny [frT])
  | _ => none
theorem nt6_ok : NatOk Tryz.prog nt6 := fun f h hf args hp nx wm oc ho => by
  unfold nt6 at hf
  split at hf
  · rw [← Option.some.inj hf] at ho; exact natL_ok ho
  · rw [← Option.some.inj hf] at ho; exact frOne_ok call5_ok T6_ok ho
  · cases hf
def call6 : Call := callB cx1 hts nt6 200
theorem call6_ok : CallOk Tryz.prog call6 := callB_ok cx1_ok nt6_ok 200
end
end Go.Proofs.YtdgllpcfmkjfhaaGreat
/- Runs in which some registers' values stay unknown to the evaluator: registers as they are, and those that it looks at. Over any program. -/
namespace Go.Proofs.YtdgllpcfmkjfhaaGreat
open Go.RowKit
set_option linter.unusedVariables false
noncomputable section
variable {P : Program} {cx : Cx}
/-- Some of the registers. -/
def Sub (rg srg : Reg) : Prop := ∀ t v, g3 t rg = some v → g3 t srg = some v
theorem Sub.refl (rg : Reg) : Sub rg rg := fun _ _ h => h
theorem Sub.set {rg srg : Reg} (h : Sub rg srg) {t : Nat} (ht : t < 512) (v : Option Value) : Sub (s3 t v rg) (s3 t v srg) := fun u x hx => by
  by_cases hu : u < 512
  · rw [g3_s3 _ _ _ _ hu ht] at hx ⊢
    by_cases e : u = t
    · rw [if_pos e] at hx ⊢; exact hx
    · rw [if_neg e] at hx ⊢; exact h u x hx
  · rw [g3_far _ _ hu] at hx; cases hx
/-- A register that is not looked at may become anything. -/
theorem Sub.hide {rg srg : Reg} (h : Sub rg srg) {t : Nat} (ht : t < 512) (v : Option Value) : Sub (s3 t none rg) (s3 t v srg) := fun u x hx => by
  by_cases hu : u < 512
  · rw [g3_s3 _ _ _ _ hu ht] at hx ⊢
    by_cases e : u = t
    · rw [if_pos e] at hx; cases hx
    · rw [if_neg e] at hx ⊢; exact h u x hx
  · rw [g3_far _ _ hu] at hx; cases hx
theorem Sub.setD {rg srg : Reg} (h : Sub rg srg) {d : Option Nat} {N : Nat} (hd : dOk N d) (v : Value) : Sub (Go.Proofs.YtdgllpcfmkjfhaaGreat.setD d v rg) (Go.Proofs.YtdgllpcfmkjfhaaGreat.setD d v srg) := by
  cases d with
  | none => exact h
  | some t => exact h.set (hd t rfl).2 _
theorem opv_sub {rg srg : Reg} (h : Sub rg srg) {x : Operand} {v : Value} (hx : opv rg x = some v) : opv srg x = some v := by
  cases x with
  | tmp t => exact h t v hx
  | const c => exact hx
  | global g => exact hx
  | func f => exact hx
theorem ovs_sub {rg srg : Reg} (h : Sub rg srg) : ∀ {l : List Operand} {vs : List Value}, ovs rg l = some vs → ovs srg l = some vs
  | [], vs, hx => hx
  | x :: l, vs, hx => by
    rw [ovs_cons] at hx ⊢
    cases hv : opv rg x with
    | none => rw [hv] at hx; cases hx
    | some v =>
      rw [hv] at hx
      rw [opv_sub h hv]
      cases hl : ovs rg l with
      | none => rw [hl] at hx; cases hx
      | some us => rw [hl] at hx; rw [ovs_sub h hl]; exact hx
theorem gO_sub {rg srg : Reg} (h : Sub rg srg) {x : Operand} {k : Value → An} {r} (e : kO ((gO x).get rg) k = some r) : kO ((gO x).get srg) k = some r := by
  obtain ⟨v, hv, e1⟩ := kO_inv e
  rw [gO_eq] at hv ⊢
  rw [opv_sub h hv]; exact e1
theorem gL_sub {rg srg : Reg} (h : Sub rg srg) {l : List Operand} {k : List Value → An} {r} (e : (gL l).get rg k = some r) : (gL l).get srg k = some r := by
  rw [gL_eq] at e ⊢
  obtain ⟨vs, hv, e1⟩ := kO_inv e
  rw [ovs_sub h hv]; exact e1
theorem runC_sub {rg srg : Reg} (h : Sub rg srg) {c : OpC} {call : Call} {hp : Hp} {nx wm : Nat} {k : KV} {r} (e : (runC c).get call rg hp nx wm k = some r) : (runC c).get call srg hp nx wm k = some r := by
  cases c with
  | p1 x f =>
    simp only [runC, Bx.on_eq] at e ⊢
    exact gO_sub (k := fun a => f a fun v => k v hp nx wm) h e
  | p2 x y f =>
    simp only [runC, Bx.on_eq] at e ⊢
    obtain ⟨a, h1, h2⟩ := kO_inv (show kO ((gO x).get rg) (fun a => kO ((gO y).get rg) fun b => f a b fun v => k v hp nx wm) = some r from e)
    show kO ((gO x).get srg) (fun a => kO ((gO y).get srg) fun b => f a b fun v => k v hp nx wm) = some r
    rw [gO_eq] at h1 ⊢
    rw [opv_sub h h1]
    exact gO_sub (k := fun b => f a b fun v => k v hp nx wm) h h2
  | pl l f =>
    simp only [runC, Bx.on_eq] at e ⊢
    exact gL_sub h e
  | m0 f => exact e
  | m1 x f =>
    simp only [runC, Bx.on_eq] at e ⊢
    exact gO_sub (k := fun a => f a hp nx wm k) h e
  | m2 x y f =>
    simp only [runC, Bx.on_eq] at e ⊢
    obtain ⟨a, h1, h2⟩ := kO_inv (show kO ((gO x).get rg) (fun a => kO ((gO y).get rg) fun b => f a b hp nx wm k) = some r from e)
    show kO ((gO x).get srg) (fun a => kO ((gO y).get srg) fun b => f a b hp nx wm k) = some r
    rw [gO_eq] at h1 ⊢
    rw [opv_sub h h1]
    exact gO_sub (k := fun b => f a b hp nx wm k) h h2
  | ml l f =>
    simp only [runC, Bx.on_eq] at e ⊢
    exact gL_sub h e
  | n1 x f =>
    simp only [runC, Bx.on_eq] at e ⊢
    exact gO_sub (k := fun a => f a hp nx wm k) h e
  | cv x l =>
    simp only [runC, Bx.on_eq] at e ⊢
    obtain ⟨a, h1, h2⟩ := kO_inv (show kO ((gO x).get rg) (fun v => (gL l).get rg fun vs => hCv call v vs hp nx wm k) = some r from e)
    show kO ((gO x).get srg) (fun v => (gL l).get srg fun vs => hCv call v vs hp nx wm k) = some r
    rw [gO_eq] at h1 ⊢
    rw [opv_sub h h1]
    exact gL_sub h h2
  | bad => exact e
theorem wantedV_sub {rg srg : Reg} (h : Sub rg srg) {ops : List Oper} {o : Oper} {b : Bool} (e : wantedV ops rg o = some b) : wantedV ops srg o = some b := by
  unfold wantedV at e ⊢
  cases hg : o.guard with
  | none => rw [hg] at e; exact e
  | some p =>
    obtain ⟨j, w⟩ := p
    rw [hg] at e
    simp only at e ⊢
    cases hj : ops[j]? with
    | none => rw [hj] at e; cases e
    | some q =>
      rw [hj] at e
      simp only at e ⊢
      cases hd : q.dst with
      | none => rw [hd] at e; cases e
      | some d =>
        rw [hd] at e
        simp only at e ⊢
        cases hv : g3 d rg with
        | none => rw [hv] at e; cases e
        | some v => rw [hv] at e; rw [h d v hv]; exact e
end
end Go.Proofs.YtdgllpcfmkjfhaaGreat
/- Code in which some small numbers stay unknown to the evaluator, all but their rests. Over any program. -/
namespace Go.Proofs.YtdgllpcfmkjfhaaGreat
open Go.RowKit
set_option linter.unusedVariables false
noncomputable section
variable {P : Program} {cx : Cx}
/-- Registers that hold an unknown number (by its name), as a byte or converted. -/
abbrev Al := List (Nat × Nat × Bool)
def vAl (nv : Nat → Nat) (p : Nat × Bool) : Value := Bool.rec (.int .u8 (.ofNat (nv p.1))) (.int .i64 (.ofNat (nv p.1))) p.2
def InvA (nv : Nat → Nat) (al : Al) (srg : Reg) : Prop := ∀ p ∈ al, g3 p.1 srg = some (vAl nv p.2)
def lkA (al : Al) (u : Nat) : Option (Nat × Bool) := List.rec none (fun p _ ih => Bool.rec ih (some p.2) (Nat.beq p.1 u)) al
theorem lkA_inv {nv : Nat → Nat} {srg : Reg} {u : Nat} {p : Nat × Bool} : ∀ {al : Al}, InvA nv al srg → lkA al u = some p → g3 u srg = some (vAl nv p)
  | [], _, h => by cases h
  | e :: al, hi, h => by
    replace h : (Bool.rec (lkA al u) (some e.2) (Nat.beq e.1 u) : Option (Nat × Bool)) = some p := h
    cases hb : Nat.beq e.1 u with
    | true =>
      rw [hb] at h
      have h1 := Nat.eq_of_beq_eq_true hb
      have h2 : e.2 = p := Option.some.inj h
      rw [← h1, ← h2]
      exact hi e (List.mem_cons_self ..)
    | false => rw [hb] at h; exact lkA_inv (fun q hq => hi q (List.mem_cons_of_mem _ hq)) h
/-- A temporary that none of those is. -/
def offA (al : Al) (d : Option Nat) : Bool := allB (fun p => not (dEq d p.1)) al
theorem offA_inv {nv : Nat → Nat} {al : Al} {srg : Reg} {d : Option Nat} {N : Nat} (hd : dOk N d) (h : offA al d = true) (hi : InvA nv al srg) (v : Value) : InvA nv al (setD d v srg) := fun p hp => by
  have h1 := allB_inv h p hp
  cases d with
  | none => exact hi p hp
  | some t =>
    have hne : p.1 ≠ t := fun e => by
      rw [e] at h1
      have : dEq (some t) t = true := Nat.beq_refl t
      rw [this] at h1; cases h1
    have h5 : p.1 < 512 := by
      rcases Nat.lt_or_ge p.1 512 with h | h
      · exact h
      · have := hi p hp; rw [g3_far _ _ (by omega)] at this; cases this
    show g3 p.1 (s3 t (some v) srg) = _
    rw [g3_s3 _ _ _ _ h5 (hd t rfl).2, if_neg hne]
    exact hi p hp
theorem InvA.push {nv : Nat → Nat} {al : Al} {srg : Reg} {d : Nat} {N : Nat} (hd : dOk N (some d)) (h : offA al (some d) = true) (hi : InvA nv al srg) (p : Nat × Bool) : InvA nv ((d, p) :: al) (setD (some d) (vAl nv p) srg) := fun q hq => by
  rcases List.mem_cons.1 hq with rfl | hq
  · show g3 d (s3 d _ srg) = _
    rw [g3_s3 _ _ _ _ (hd d rfl).2 (hd d rfl).2, if_pos rfl]
  · exact offA_inv hd h hi _ q hq
inductive SpO where
  | no
  | al (d t : Nat) (b : Bool)
  | rem (d t : Nat) (y : Operand)
def is8 (d : Option TypeDesc) : Bool := match d with | some (.int .u8) => true | _ => false
def is64 (d : Option TypeDesc) : Bool := match d with | some (.int .i64) => true | _ => false
def spO (cx : Cx) (al : Al) (o : Oper) : SpO := match o with
  | ⟨some d, .move (.tmp u), _, _, _, none⟩ => (match lkA al u with | some (t, b) => .al d t b | none => .no)
  | ⟨some d, .convert s e (.tmp u), _, _, _, none⟩ => (match lkA al u with | some (t, false) => Bool.rec .no (.al d t true) (and (is8 (undX cx s)) (is64 (undX cx e))) | _ => .no)
  | ⟨some d, .binOp .rem _ (.tmp u) y _, _, _, _, none⟩ => (match lkA al u with | some (t, true) => .rem d t y | _ => .no)
  | _ => .no
def opsP (cx : Cx) (N : Nat) (ops : List Oper) (R : Nat → Nat → Option Nat) (l : List Oper) : Al → Bx RgF :=
  List.rec (fun _ => Bx.mk fun _ rg hp nx wm k => k rg hp nx wm) (fun o _ ih al => Bool.rec (Bx.mk fun _ _ _ _ _ _ => none) (SpO.rec
    ((gdB ops o).on fun gd => (runC (opC cx o)).on fun f => (sO o.dst).on fun s => (ih al).on fun g =>
      Bx.mk fun call rg hp nx wm k => gd rg (f call rg hp nx wm fun v hp nx wm => s v rg fun rg => g call rg hp nx wm k) (s (.tuple ⟨[]⟩) rg fun rg => g call rg hp nx wm k))
    (fun d t b => (ih ((d, t, b) :: al)).on fun g => (s3B An d).on fun s => Bx.mk fun call rg hp nx wm k => s none rg fun rg => g call rg hp nx wm k)
    (fun d t y => (ih al).on fun g => (gO y).on fun gy => (s3B An d).on fun s => Bx.mk fun call rg hp nx wm k => kO (gy rg) fun v => kInt v fun q n => kIf (keq q .i64) (Int.rec (fun m => kO (R t m) fun r => s (some (.int .i64 (.ofNat r))) rg fun rg => g call rg hp nx wm k) (fun _ => none) n))
    (spO cx al o)) (and (dOkB N o.dst) (offA al o.dst))) l
def SndRP (P : Program) (nv : Nat → Nat) (al : Al) (N : Nat) (ops : Array Oper) (l : List Oper) (f : Reg → Hp → Nat → Nat → KS → An) : Prop :=
  ∀ rg srg hp nx wm k r, Sub rg srg → InvA nv al srg → f rg hp nx wm k = some r → SimRP P N ops l ⟨srg, hp, nx, wm⟩ fun s' => ∃ rg', Sub rg' s'.rg ∧ InvA nv al s'.rg ∧ ∃ l', k rg' s'.hp s'.nx s'.wm = some l' ∧ ∀ q ∈ l', q ∈ r
theorem wrp8 {n : Nat} (h : n < 256) : wrp .i64 (.ofNat n) = .ofNat n := by
  unfold wrp
  have : fits (Int.ofNat n) = true := by
    show Nat.blt n 9223372036854775808 = true
    rw [Nat.blt_eq]; omega
  rw [this]; rfl
theorem is8_inv {d : Option TypeDesc} (h : is8 d = true) : d = some (.int .u8) := by
  unfold is8 at h; split at h <;> first | rfl | cases h
theorem is64_inv {d : Option TypeDesc} (h : is64 d = true) : d = some (.int .i64) := by
  unfold is64 at h; split at h <;> first | rfl | cases h
theorem opsP_snd (hc : CxOk P cx) {N : Nat} {ops : Array Oper} {call : Call} (hcall : CallOk P call) {nv : Nat → Nat} (hnv : ∀ t, nv t < 256) {R : Nat → Nat → Option Nat} (hR : ∀ t m r, R t m = some r → m ≠ 0 ∧ nv t % m = r) :
    ∀ (l : List Oper) (al : Al), SndRP P nv al N ops l ((opsP cx N ops.toList R l al).get call)
  | [], al => fun rg srg hp nx wm k r hs hi e => .nil ⟨rg, hs, hi, r, e, fun _ h => h⟩
  | o :: l, al => fun rg srg hp nx wm k r hs hi e => by
    replace e : (Bool.rec (Bx.mk fun _ _ _ _ _ _ => none) (SpO.rec
      ((gdB ops.toList o).on fun gd => (runC (opC cx o)).on fun f => (sO o.dst).on fun s => (opsP cx N ops.toList R l al).on fun g =>
        Bx.mk fun call rg hp nx wm k => gd rg (f call rg hp nx wm fun v hp nx wm => s v rg fun rg => g call rg hp nx wm k) (s (.tuple ⟨[]⟩) rg fun rg => g call rg hp nx wm k))
      (fun d t b => (opsP cx N ops.toList R l ((d, t, b) :: al)).on fun g => (s3B An d).on fun s => Bx.mk fun call rg hp nx wm k => s none rg fun rg => g call rg hp nx wm k)
      (fun d t y => (opsP cx N ops.toList R l al).on fun g => (gO y).on fun gy => (s3B An d).on fun s => Bx.mk fun call rg hp nx wm k => kO (gy rg) fun v => kInt v fun q n => kIf (keq q .i64) (Int.rec (fun m => kO (R t m) fun r => s (some (.int .i64 (.ofNat r))) rg fun rg => g call rg hp nx wm k) (fun _ => none) n))
      (spO cx al o)) (and (dOkB N o.dst) (offA al o.dst)) : Bx RgF).get call rg hp nx wm k = some r := e
    cases hb : and (dOkB N o.dst) (offA al o.dst) with
    | false => rw [hb] at e; cases e
    | true =>
    rw [hb] at e
    simp only [Bool.and_eq_true] at hb
    obtain ⟨hd, hoff⟩ := hb
    have hdo := dOkB_ok hd
    cases hsp : spO cx al o with
    | no =>
      rw [hsp] at e
      simp only [Bx.on_eq] at e
      replace e : (gdB ops.toList o).get rg ((runC (opC cx o)).get call rg hp nx wm fun v hp nx wm => (sO o.dst).get v rg fun rg => (opsP cx N ops.toList R l al).get call rg hp nx wm k) ((sO o.dst).get (.tuple ⟨[]⟩) rg fun rg => (opsP cx N ops.toList R l al).get call rg hp nx wm k) = some r := e
      rcases gdB_inv e with ⟨hw, e1⟩ | ⟨hw, e1⟩
      · refine .run (wantedV_sub hs hw) hdo ?_
        obtain ⟨ocs, h1, h2⟩ := runC_snd (opC_snd hc o) hcall hp nx wm _ r (runC_sub hs e1)
        refine ⟨ocs, h1, fun c hcm => ?_⟩
        obtain ⟨l', h3, h4⟩ := h2 c hcm
        rw [sO_eq] at h3
        exact (opsP_snd hc hcall hnv hR l al _ _ _ _ _ k l' (hs.setD hdo _) (offA_inv hdo hoff hi _) h3).mono fun s' ⟨rg', q0, q1, q, h5, h6⟩ => ⟨rg', q0, q1, q, h5, fun x hx => h4 x (h6 x hx)⟩
      · rw [sO_eq] at e1
        exact .skip (wantedV_sub hs hw) hdo (opsP_snd hc hcall hnv hR l al _ _ _ _ _ k r (hs.setD hdo _) (offA_inv hdo hoff hi _) e1)
    | al d t b =>
      rw [hsp] at e
      simp only [Bx.on_eq] at e
      replace e := (s3_on An d none rg _).symm.trans e
      have key : o.guard = none ∧ o.dst = some d ∧ SimO P o ⟨srg, hp, nx, wm⟩ [⟨vAl nv (t, b), hp, nx, wm⟩] := by
        unfold spO at hsp
        split at hsp
        · rename_i d' u _ _ _
          split at hsp
          · rename_i t' b' hl
            injection hsp with h1 h2 h3
            subst h1; subst h2; subst h3
            exact ⟨rfl, rfl, (does_move (x := .tmp u) (rg := srg) (.inl rfl) (lkA_inv hi hl)).sim⟩
          · cases hsp
        · rename_i d' sT eT u ty po af
          split at hsp
          · rename_i t' hl
            cases hq : and (is8 (undX cx sT)) (is64 (undX cx eT)) with
            | false => rw [hq] at hsp; cases hsp
            | true =>
              rw [hq] at hsp
              injection hsp with h1 h2 h3
              subst h1; subst h2; subst h3
              simp only [Bool.and_eq_true] at hq
              have := does_convInt (P := P) (o := ⟨some d', .convert sT eT (.tmp u), ty, po, af, none⟩) (hp := hp) (nx := nx) (wm := wm) rfl (undX_ok hc (is8_inv hq.1)) (undX_ok hc (is64_inv hq.2)) (x := .tmp u) (rg := srg) (q := .u8) (n := .ofNat (nv t')) (lkA_inv hi hl)
              rw [wrp8 (hnv t')] at this
              exact ⟨rfl, rfl, this.sim⟩
          · cases hsp
        · split at hsp <;> cases hsp
        · cases hsp
      obtain ⟨k1, k2, k3⟩ := key
      have hw : wantedV ops.toList srg o = some true := by unfold wantedV; rw [k1]
      rw [k2] at hdo hoff
      refine .run hw (by rw [k2]; exact hdo) (k3.one ?_)
      rw [k2]
      refine (opsP_snd hc hcall hnv hR l ((d, t, b) :: al) _ _ _ _ _ k r (hs.hide (hdo d rfl).2 (some (vAl nv (t, b)))) (hi.push hdo hoff (t, b)) e).mono fun s' ⟨rg', q0, q1, q⟩ => ⟨rg', q0, fun p hp => q1 p (List.mem_cons_of_mem _ hp), q⟩
    | rem d t y =>
      rw [hsp] at e
      simp only [Bx.on_eq] at e
      obtain ⟨v, hv, e1⟩ := kO_inv (show kO ((gO y).get rg) _ = some r from e)
      obtain ⟨q, n, rfl, e2⟩ := kInt_inv e1
      obtain ⟨hq, e3⟩ := kIf_inv e2
      have := keq_eq hq
      subst this
      cases n with
      | negSucc m => cases e3
      | ofNat m =>
        obtain ⟨rr, hrr, e4⟩ := kO_inv (show kO (R t m) _ = some r from e3)
        replace e4 := (s3_on An d _ rg _).symm.trans e4
        obtain ⟨hm0, hmod⟩ := hR t m rr hrr
        rw [gO_eq] at hv
        have hvs := opv_sub hs hv
        have key : o.guard = none ∧ o.dst = some d ∧ SimO P o ⟨srg, hp, nx, wm⟩ [⟨.int .i64 (.ofNat rr), hp, nx, wm⟩] := by
          unfold spO at hsp
          split at hsp
          · split at hsp <;> cases hsp
          · split at hsp
            · rename_i t' hl
              cases hq : and (is8 (undX cx _)) (is64 (undX cx _)) <;> (rw [hq] at hsp; cases hsp)
            · cases hsp
          · rename_i d' ty u y' _ _ _ _
            split at hsp
            · rename_i t' hl
              injection hsp with h1 h2 h3
              subst h1; subst h2; subst h3
              refine ⟨rfl, rfl, (does_iop (P := P) rfl (x := .tmp u) (k := .i64) (m := .ofNat (nv t')) (n := .ofNat m) (lkA_inv hi hl) hvs ?_).sim⟩
              show (Bool.rec (some (.int .i64 (Int.tmod (.ofNat (nv t')) (.ofNat m)))) none (ieq (.ofNat m) 0) : Option Value) = _
              have : ieq (.ofNat m) 0 = false := by
                rw [ieq_eq]
                simpa using hm0
              rw [this]
              show some (Value.int .i64 (Int.ofNat (nv t' % m))) = _
              rw [hmod]
            · cases hsp
          · cases hsp
        obtain ⟨k1, k2, k3⟩ := key
        have hw : wantedV ops.toList srg o = some true := by unfold wantedV; rw [k1]
        rw [k2] at hdo hoff
        refine .run hw (by rw [k2]; exact hdo) (k3.one ?_)
        rw [k2]
        exact opsP_snd hc hcall hnv hR l al _ _ _ _ _ k r (hs.set (hdo d rfl).2 _) (offA_inv hdo hoff hi _) e4
/-! ### Code -/
def codeP (cx : Cx) (N : Nat) (R : Nat → Nat → Option Nat) (al : Al) (c : Code) : Bx CC :=
  Code.rec (motive := fun _ => Bx CC)
    (Bx.mk fun _ rg hp nx wm kn _ => kn rg hp nx wm)
    (fun _ ops dr => Bool.rec ((opsP cx N ops.toList R ops.toList al).on fun f => Bx.mk fun call rg hp nx wm kn _ => f call rg hp nx wm kn) (Bx.mk fun _ _ _ _ _ _ _ => none) dr)
    (fun _ _ iha ihb => sqCC iha ihb)
    (fun c _ _ iha ihb => (gO c).on fun g => iha.on fun fa => ihb.on fun fb => Bx.mk fun call rg hp nx wm kn kx => kO (g rg) fun v => kBool v fun t => Bool.rec (fb call rg hp nx wm kn kx) (fa call rg hp nx wm kn kx) t)
    (fun id _ ih => ih.on fun f => Bx.mk (blF id f))
    (fun _ ih => ih.on fun f => Bx.mk fun call rg hp nx wm _ kx => iterB f call kx 100000 rg hp nx wm)
    (fun _ _ _ _ _ _ => Bx.mk fun _ _ _ _ _ _ _ => none)
    (fun id => Bx.mk fun _ rg hp nx wm _ kx => kx (.exit id) rg hp nx wm)
    (fun _ ih => ih)
    (fun _ => Bx.mk fun _ rg hp nx wm kn _ => kn rg hp nx wm)
    (fun _ => Bx.mk fun _ _ _ _ _ _ _ => none)
    (Bx.mk fun _ rg hp nx wm _ kx => kx .ret rg hp nx wm)
    (fun _ => Bx.mk fun _ _ _ _ _ _ _ => none)
    c
def SndKP (P : Program) (nv : Nat → Nat) (al : Al) (N : Nat) (c : Code) (f : Reg → Hp → Nat → Nat → KS → (Ex → KS) → An) : Prop :=
  ∀ rg srg hp nx wm kn kx r, Sub rg srg → InvA nv al srg → f rg hp nx wm kn kx = some r → SimP P N c ⟨srg, hp, nx, wm⟩ fun e s' => ∃ rg', Sub rg' s'.rg ∧ InvA nv al s'.rg ∧ ∃ l, kE kn kx e rg' s'.hp s'.nx s'.wm = some l ∧ ∀ q ∈ l, q ∈ r
theorem codeP_snd (hc : CxOk P cx) {call : Call} (hcall : CallOk P call) {nv : Nat → Nat} (hnv : ∀ t, nv t < 256) {R : Nat → Nat → Option Nat} (hR : ∀ t m r, R t m = some r → m ≠ 0 ∧ nv t % m = r) {N : Nat} {al : Al} (c : Code) : SndKP P nv al N c ((codeP cx N R al c).get call) := by
  induction c with
  | skip => exact fun rg srg hp nx wm kn kx r hs hi e => .skip ⟨rg, hs, hi, r, e, fun _ h => h⟩
  | region id ops dr =>
    intro rg srg hp nx wm kn kx r hs hi e
    cases dr with
    | true => cases e
    | false =>
      replace e : ((opsP cx N ops.toList R ops.toList al).on fun f => Bx.mk fun call rg hp nx wm kn (_ : Ex → KS) => f call rg hp nx wm kn).get call rg hp nx wm kn kx = some r := e
      rw [Bx.on_eq] at e
      exact .region ((opsP_snd hc hcall hnv hR ops.toList al rg srg hp nx wm kn r hs hi e).mono fun s' h => h)
  | seq a b iha ihb =>
    intro rg srg hp nx wm kn kx r hs hi e
    replace e : (sqCC (codeP cx N R al a) (codeP cx N R al b)).get call rg hp nx wm kn kx = some r := e
    unfold sqCC at e
    rw [Bx.on_eq, Bx.on_eq] at e
    refine .seq ((iha rg srg hp nx wm _ kx r hs hi e).mono fun e' s' ⟨rg', q0, q1, l, h1, h2⟩ => ?_)
    cases e' with
    | none => exact (ihb rg' s'.rg _ _ _ kn kx l q0 q1 h1).mono fun e2 s2 ⟨rg2, q2, q3, l2, h3, h4⟩ => ⟨rg2, q2, q3, l2, h3, fun q hq => h2 q (h4 q hq)⟩
    | some x => exact ⟨rg', q0, q1, l, h1, h2⟩
  | cond o a b iha ihb =>
    intro rg srg hp nx wm kn kx r hs hi e
    replace e : ((gO o).on fun g => (codeP cx N R al a).on fun fa => (codeP cx N R al b).on fun fb => Bx.mk fun call rg hp nx wm kn kx => kO (g rg) fun v => kBool v fun t => (Bool.rec (fb call rg hp nx wm kn kx) (fa call rg hp nx wm kn kx) t : An)).get call rg hp nx wm kn kx = some r := e
    rw [Bx.on_eq, Bx.on_eq, Bx.on_eq] at e
    obtain ⟨v, hv, e1⟩ := kO_inv (show kO ((gO o).get rg) _ = some r from e)
    rw [gO_eq] at hv
    obtain ⟨t, rfl, e2⟩ := kBool_inv e1
    refine .cond (opv_sub hs hv) ?_
    cases t with
    | true => exact iha rg srg hp nx wm kn kx r hs hi e2
    | false => exact ihb rg srg hp nx wm kn kx r hs hi e2
  | block id a ih =>
    intro rg srg hp nx wm kn kx r hs hi e
    replace e : ((codeP cx N R al a).on fun f => Bx.mk (blF id f)).get call rg hp nx wm kn kx = some r := e
    rw [Bx.on_eq] at e
    refine .block ((ih rg srg hp nx wm kn (kxB id kn kx) r hs hi e).mono fun e' s' ⟨rg', q0, q1, l, h1, h2⟩ => ?_)
    match e', h1 with
    | none, h1 => exact ⟨rg', q0, q1, l, h1, h2⟩
    | some .ret, h1 => exact ⟨rg', q0, q1, l, h1, h2⟩
    | some (.exit i), h1 =>
      replace h1 : (Bool.rec (kx (.exit i) rg' s'.hp s'.nx s'.wm) (kn rg' s'.hp s'.nx s'.wm) (Nat.beq i id) : An) = some l := h1
      show if i = id then _ else _
      cases hb : Nat.beq i id with
      | true => rw [hb] at h1; rw [if_pos (Nat.eq_of_beq_eq_true hb)]; exact ⟨rg', q0, q1, l, h1, h2⟩
      | false => rw [hb] at h1; rw [if_neg (Nat.ne_of_beq_eq_false hb)]; exact ⟨rg', q0, q1, l, h1, h2⟩
  | loop a ih =>
    intro rg srg hp nx wm kn kx r hs hi e
    replace e : ((codeP cx N R al a).on fun f => Bx.mk fun call rg hp nx wm (_ : KS) kx => iterB f call kx 100000 rg hp nx wm).get call rg hp nx wm kn kx = some r := e
    rw [Bx.on_eq] at e
    replace e : iterB (codeP cx N R al a).get call kx 100000 rg hp nx wm = some r := e
    refine SimP.loop (fun n s => ∃ rg', Sub rg' s.rg ∧ InvA nv al s.rg ∧ ∃ l, iterB (codeP cx N R al a).get call kx n rg' s.hp s.nx s.wm = some l ∧ ∀ q ∈ l, q ∈ r) (fun n s ⟨rg', q0, q1, l, h1, h2⟩ => ?_) (k := 100000) ⟨rg, hs, hi, r, e, fun _ h => h⟩
    cases n with
    | zero => cases h1
    | succ n =>
      refine (ih rg' s.rg s.hp s.nx s.wm _ kx l q0 q1 h1).mono fun e' s' ⟨rg2, q2, q3, l', h3, h4⟩ => ?_
      cases e' with
      | none => exact ⟨n, Nat.lt_succ_self n, rg2, q2, q3, l', h3, fun q hq => h2 q (h4 q hq)⟩
      | some x => exact ⟨rg2, q2, q3, l', h3, fun q hq => h2 q (h4 q hq)⟩
  | exit id => exact fun rg srg hp nx wm kn kx r hs hi e => .exit ⟨rg, hs, hi, r, e, fun _ h => h⟩
  | scope a ih => exact fun rg srg hp nx wm kn kx r hs hi e => .scope (ih rg srg hp nx wm kn kx r hs hi e)
  | label l => exact fun rg srg hp nx wm kn kx r hs hi e => .label ⟨rg, hs, hi, r, e, fun _ h => h⟩
  | ret => exact fun rg srg hp nx wm kn kx r hs hi e => .ret ⟨rg, hs, hi, r, e, fun _ h => h⟩
  | _ => exact fun rg srg hp nx wm kn kx r hs hi e => by cases e
theorem SimP.sub {N : Nat} {c : Code} {s : St} {O : Option Ex → St → Prop} (h : SimP P N c s fun e s' => ∃ rg', Sub rg' s'.rg ∧ O e ⟨rg', s'.hp, s'.nx, s'.wm⟩) : SimP P N c s O :=
  fun G E pv a w ro n Q hok hro hQ => h G E pv a w ro n Q hok hro fun e s' ⟨rg', h1, h2⟩ E' pv' a' w' hok' hp hpv => hQ e _ h2 E' pv' a' w' ⟨hok'.rel, fun t v hv => hok'.rr t v (h1 t v hv), hok'.size, hok'.prv, hok'.dfr⟩ hp hpv
/-- Of code: what it leaves, where it looks at no unknown number. -/
theorem codeP_simC (hc : CxOk P cx) {call : Call} (hcall : CallOk P call) {nv : Nat → Nat} (hnv : ∀ t, nv t < 256) {R : Nat → Nat → Option Nat} (hR : ∀ t m r, R t m = some r → m ≠ 0 ∧ nv t % m = r) {N : Nat} {al : Al} {c : Code}
    {srg : Reg} (hi : InvA nv al srg) {rg : Reg} (hs : Sub rg srg) {hp : Hp} {nx wm : Nat} {l : List (Option Ex × St)} (e : (codeP cx N R al c).get call rg hp nx wm kn0 kx0 = some l) : SimC P N c ⟨srg, hp, nx, wm⟩ l :=
  SimP.toC (SimP.sub ((codeP_snd hc hcall hnv hR c rg srg hp nx wm kn0 kx0 l hs hi e).mono fun e' s' ⟨rg', q0, _, l', h1, h2⟩ => ⟨rg', q0, (show (e', (⟨rg', s'.hp, s'.nx, s'.wm⟩ : St)) ∈ l from kn0_mem (s' := ⟨rg', s'.hp, s'.nx, s'.wm⟩) h1 h2)⟩)) fun e' s' h => h
end
end Go.Proofs.YtdgllpcfmkjfhaaGreat
/- What the evaluator finds of a call, said of the program. Over any program. -/
namespace Go.Proofs.YtdgllpcfmkjfhaaGreat
open Go.RowKit
set_option linter.unusedVariables false
noncomputable section
variable {P : Program} {cx : Cx}
def noE : Env := fun _ => none
theorem rel_none (G : Gh) (w : World) : Rel G noE (t5 Blk) 1 w :=
  ⟨fun _ _ => rfl, (fun _ _ e => nomatch e), (fun _ _ _ e => nomatch e), (fun _ _ _ _ _ _ e => nomatch e), (fun n m rw ks es cl st g => by rw [g5_t5] at g; cases g), fun n _ => g5_t5 n⟩
theorem Post.below {G : Gh} {w w' : World} {E' : Env} {hp' : Hp} {nx' wm wm' : Nat} (h : Post G noE (t5 Blk) 1 wm w E' hp' nx' wm' w') : Below w.heap.size w w' :=
  ⟨h.kept.io.1, h.kept.io.2.1, h.kept.io.2.2, h.kept.size, fun k hk => h.kept.blk k hk fun _ _ _ e => nomatch e⟩
/-- A value that is the same everywhere. -/
def Flat (v : Value) : Prop := ∀ (E : Env) (v' : Value), VR E v v' → v' = v
theorem flat_bool (b : Bool) : Flat (.bool b) := fun E v' h => by cases h; rfl
/-- A call at the empty memory gives this, whatever the world. -/
theorem SimF.calls {f : FuncId} {args : List Value} {v : Value} {hp' : Hp} {nx' wm' : Nat} (h : SimF P (.func f) args (t5 Blk) 1 1 ⟨v, hp', nx', wm'⟩) (ha : LR noE args args) (hv : Flat v) (w : World) : Calls P f ⟨args⟩ w fun e w' => e = .returned v ∧ Below w.heap.size w w' :=
  (callsIn_wide (n := 0)).1 (h.2 (fun _ => ([], [], ⟨false, [], [], 0⟩)) noE w args none 0 _ (rel_none _ w) ha fun E' v' w' hv' hp => ⟨by rw [hv E' v' hv'], hp.below⟩)
/-- The same, of code that has been run with some numbers unknown. -/
def okP (rs : List ResultVar) (v : Value) (l : List (Option Ex × St)) : Bool := allB (fun o => and (match o.1 with
  | none => true
  | some .ret => true
  | _ => false) (match rs with
  | [.tmp t] => Option.rec false (fun u => sameV v u) (g3 t o.2.rg)
  | _ => false)) l
theorem callsP {f : FuncId} {fn : Func} (hf : P.funcs[f]? = some fn) {c : Code} (hb : fn.body = some c) {args : List Value} (hN : args.length ≤ fn.ntmps) (h5 : args.length ≤ 512) {outs : List (Option Ex × St)} (h : SimC P fn.ntmps c ⟨regOf args 0 (t3 Value), t5 Blk, 1, 1⟩ outs)
    (ha : LR noE args args) {v : Value} (hv : Flat v) (ho : okP fn.results.toList v outs = true) (w : World) : Calls P f ⟨args⟩ w fun e w' => e = .returned v ∧ Below w.heap.size w w' := by
  suffices hs : CallsIn (Wd none) 0 P f ⟨args⟩ w fun e w' => e = .returned v ∧ Below w.heap.size w w' from (callsIn_wide (n := 0)).1 hs
  refine callsIn_of_wp_marks hf hb trivial ?_
  refine h (fun _ => ([], [], ⟨false, [], [], 0⟩)) noE [] _ w none 0 _ ⟨rel_none _ w, regOf_rr ha h5, ?_, (fun _ hp0 => nomatch hp0), ⟨[], rfl, List.nodup_nil, (fun _ h => nomatch h)⟩⟩ (fun _ h => nomatch h) fun o hmem E' pv' a' w' hok hpo hpv => ?_
  · simp; omega
  · have hc := allB_inv ho o hmem
    rw [Bool.and_eq_true] at hc
    obtain ⟨hc1, hc2⟩ := hc
    have he : o.1 = none ∨ o.1 = some .ret := by
      split at hc1
      · exact .inl ‹_›
      · exact .inr ‹_›
      · cases hc1
    obtain ⟨t, ht, u, hu, hs⟩ : ∃ t, fn.results.toList = [.tmp t] ∧ ∃ u, g3 t o.2.rg = some u ∧ sameV v u = true := by
      split at hc2
      · rename_i t ht
        cases hu : g3 t o.2.rg with
        | none => rw [hu] at hc2; cases hc2
        | some u => rw [hu] at hc2; exact ⟨t, ht, u, hu, hc2⟩
      · cases hc2
    have hs := sameV_eq hs
    subst hs
    have hvs : resV P o.2.rg o.2.hp fn.results.toList = some [v] := by rw [ht]; simp only [resV, hu]
    have key : LeavesInM (Wd none) 0 P fn a'.tmps (fun e w' => e = .returned v ∧ Below w.heap.size w w') a'.defers .returning w' := by
      obtain ⟨Ds, hds, hnd, hD⟩ := hok.dfr
      rw [hds]
      refine leaves_marks Ds w' hnd (fun D h => (hok.prv _ (hD D h)).1) fun w'' hs hw hio => ?_
      have hp2 := hpo.priv (w'' := w'') hs fun r hr => hw r fun hrD => by
        obtain ⟨h1, h2⟩ := hok.prv _ (hD r hrD)
        rcases hr with hr | ⟨m, x, k, e, g, ex⟩
        · rcases hpv.new _ (hD r hrD) with h | h
          · cases h
          · simp only at h; omega
        · exact h2 m x k e g ex
      obtain ⟨v', h1, h2⟩ := results_run hp2.rel hok.rr hvs
      exact ⟨v', h1, by rw [hv E' v' h2], hp2.below⟩
    rcases he with he | he <;> (rw [he]; exact key)
/-- Two bytes of which only rests are known. -/
def codeT (cx : Cx) (call : Call) (fn : Func) (R : Nat → Nat → Option Nat) (al : Al) (v : Value) : Bool := Option.rec false (fun c => Option.rec false (fun l => okP fn.results.toList v l) ((codeP cx fn.ntmps R al c).get call (t3 Value) (t5 Blk) 1 1 kn0 kx0)) fn.body
theorem codeT_calls (hc : CxOk P cx) {call : Call} (hcall : CallOk P call) {f : FuncId} {fn : Func} (hf : P.funcs[f]? = some fn) {nv : Nat → Nat} (hnv : ∀ t, nv t < 256) {R : Nat → Nat → Option Nat} (hR : ∀ t m r, R t m = some r → m ≠ 0 ∧ nv t % m = r) {al : Al} {args : List Value} (hN : args.length ≤ fn.ntmps) (h5 : args.length ≤ 512)
    (hi : InvA nv al (regOf args 0 (t3 Value))) (ha : LR noE args args) {v : Value} (hv : Flat v) (h : codeT cx call fn R al v = true) (w : World) : Calls P f ⟨args⟩ w fun e w' => e = .returned v ∧ Below w.heap.size w w' := by
  unfold codeT at h
  cases hb : fn.body with
  | none => rw [hb] at h; cases h
  | some c =>
    rw [hb] at h
    replace h : (Option.rec false (fun l => okP fn.results.toList v l) ((codeP cx fn.ntmps R al c).get call (t3 Value) (t5 Blk) 1 1 kn0 kx0) : Bool) = true := h
    cases hl : (codeP cx fn.ntmps R al c).get call (t3 Value) (t5 Blk) 1 1 kn0 kx0 with
    | none => rw [hl] at h; cases h
    | some l =>
      rw [hl] at h
      exact callsP hf hb hN h5 (codeP_simC hc hcall hnv hR hi (fun t v hv => by rw [g3_t3] at hv; cases hv) hl) ha hv h w
end
end Go.Proofs.YtdgllpcfmkjfhaaGreat
/- Inns round a lake, by the rests of the two numbers. -/
namespace Go.Proofs.YtdgllpcfmkjfhaaGreat
open Go Go.RowKit
noncomputable section
def RT (q s t m : Nat) : Option Nat := Nat.rec (Bool.rec none (some q) (Nat.beq m 6)) (fun t _ => Nat.rec (Bool.rec none (some s) (Nat.beq m (Nat.add 3 q))) (fun _ _ => none) t) t
def nv2 (a b : Nat) (t : Nat) : Nat := match t with
  | 0 => a
  | 1 => b
  | _ => 0
theorem RT_ok {a b : Nat} : ∀ t m r, RT (a % 6) (b % (3 + a % 6)) t m = some r → m ≠ 0 ∧ nv2 a b t % m = r
  | 0, m, r, h => by
    replace h : (Bool.rec none (some (a % 6)) (Nat.beq m 6) : Option Nat) = some r := h
    cases hb : Nat.beq m 6 with
    | false => rw [hb] at h; cases h
    | true =>
      rw [hb] at h
      have e := Nat.eq_of_beq_eq_true hb
      subst e
      exact ⟨by omega, Option.some.inj h⟩
  | 1, m, r, h => by
    replace h : (Bool.rec none (some (b % (3 + a % 6))) (Nat.beq m (Nat.add 3 (a % 6))) : Option Nat) = some r := h
    cases hb : Nat.beq m (Nat.add 3 (a % 6)) with
    | false => rw [hb] at h; cases h
    | true =>
      rw [hb] at h
      have e : m = 3 + a % 6 := Nat.eq_of_beq_eq_true hb
      subst e
      exact ⟨by omega, Option.some.inj h⟩
  | t + 2, m, r, h => by cases h
def rnd (q s : Nat) : Bool := codeT cx1 call6 Tryz.f4 (RT q s) [(0, 0, false), (1, 1, false)] (.bool true)
def bv8 (n : Nat) : Value := .int .u8 (.ofNat n)
theorem round_calls {a b : Nat} (ha : a < 256) (hb : b < 256) (h : rnd (a % 6) (b % (3 + a % 6)) = true) (w : World) : Calls Tryz.prog 4 #[bv8 a, bv8 b] w fun e w' => e = .returned (.bool true) ∧ Below w.heap.size w w' :=
  codeT_calls (args := [bv8 a, bv8 b]) cx1_ok call6_ok Tryz.func4 (nv := nv2 a b) (fun t => by unfold nv2; split <;> omega) RT_ok (show 2 ≤ Tryz.f4.ntmps by decide) (show 2 ≤ 512 by decide)
    (fun p hp => by
      simp only [List.mem_cons, List.not_mem_nil, or_false] at hp
      rcases hp with rfl | rfl
      · show g3 0 (regOf [bv8 a, bv8 b] 0 (t3 Value)) = _
        rw [g3_regOf _ _ _ _ (by simp) (by omega)]; rfl
      · show g3 1 (regOf [bv8 a, bv8 b] 0 (t3 Value)) = _
        rw [g3_regOf _ _ _ _ (by simp) (by omega)]; rfl)
    (.cons (.int _ _) (.cons (.int _ _) .nil)) (flat_bool true) h w
end
end Go.Proofs.YtdgllpcfmkjfhaaGreat
