/- Texts of the proof, laid together by program. -/
import Derived.Test.YtdcglphekafpdaaMk
import Derived.Test.YtdcglphekafpdaaMl
namespace Go.Proofs.Ytdcglphekafpdaa
open Go.RowKit Go.Shelf
theorem checkRow_many {row : List Mt} (h : 7 < row.length) : checkRow row ≠ 0 := by rw [checkRow_six (.inr h)]; decide
theorem checkScales_bad {row : List Mt} {sc : List Rg} (h : 12 < row.length ∨ 12 < sc.length) : checkScales row sc ≠ 0 := fun e => by
  obtain ⟨k1, k2, _⟩ := checkScales_ok e
  have := checkRow_ok k1
  omega
set_option maxRecDepth 100000 in
set_option maxHeartbeats 4000000 in
theorem read_any (w : World) (A A' : Option Addr) (n c n' c' : Nat) (row : List Mt) (sc : List Rg) (hr : MtS w w.heap.size A n row) (hr' : RgS w w.heap.size A' n' sc) :
    Calls Try.prog 48 #[.slice A n c, .slice A' n' c'] w fun e w' => e = .returned (.bool (decide (checkScales row sc = 0))) ∧ Below w.heap.size w w' := by
  have hl := hr.len
  have hl' := hr'.len
  cases h1 : decide ((12 : Int) < n) || decide ((12 : Int) < n')
  · have h2 : n ≤ 12 ∧ n' ≤ 12 := by simp at h1; omega
    obtain ⟨hn, hn'⟩ := h2
    have H1 := hid h1
    clear h1 hl hl'
    by_cases h0 : checkScales row sc = 0
    · have t0 : (checkScales row sc == 0) = true := by simp [h0]
      have hd := hid (decide_eq_true h0)
      clear h0
      go_enter Try.func48, Try.ntmps48
      go_wp2_with (first | (go_at_call 18; refine (great_any A A' n c n' c' _).mono ?_; rw [H1.out]; rintro e W1 ⟨rfl, hw1⟩; subst hw1) | (go_at_call 31; refine (checkScales_any _ A A' n c n' c' row sc hr hn hr' hn').mono ?_; rintro e W1 ⟨rfl, hb⟩))
      go_ret
      exact ⟨by rw [hd.out]; rfl, hb⟩
    · have t0 : (checkScales row sc == 0) = false := by simp [h0]
      have hd := hid (decide_eq_false h0)
      clear h0
      go_enter Try.func48, Try.ntmps48
      go_wp2_with (first | (go_at_call 18; refine (great_any A A' n c n' c' _).mono ?_; rw [H1.out]; rintro e W1 ⟨rfl, hw1⟩; subst hw1) | (go_at_call 31; refine (checkScales_any _ A A' n c n' c' row sc hr hn hr' hn').mono ?_; rintro e W1 ⟨rfl, hb⟩))
      go_ret
      exact ⟨by rw [hd.out]; rfl, hb⟩
  · have hd := hid (decide_eq_false (checkScales_bad (row := row) (sc := sc) (by simp at h1; omega)))
    have H1 := hid h1
    clear h1 hl hl'
    go_enter Try.func48, Try.ntmps48
    go_wp2_with (first | (go_at_call 18; refine (great_any A A' n c n' c' _).mono ?_; rw [H1.out]; rintro e W1 ⟨rfl, hw1⟩; subst hw1))
    go_ret
    exact ⟨by rw [hd.out]; rfl, Below.refl _ _⟩
set_option maxRecDepth 100000 in
set_option maxHeartbeats 4000000 in
theorem fine_any (w : World) (A : Option Addr) (n c : Nat) (row : List Mt) (hr : MtS w w.heap.size A n row) :
    Calls Try.prog 52 #[.slice A n c] w fun e w' => e = .returned (.bool (decide (checkRow row = 0))) ∧ Below w.heap.size w w' := by
  have hl := hr.len
  cases h1 : decide ((12 : Int) < n)
  · have hn : n ≤ 12 := by simp at h1; omega
    have H1 := hid h1
    clear h1 hl
    by_cases h0 : checkRow row = 0
    · have t0 : (checkRow row == 0) = true := by simp [h0]
      have hd := hid (decide_eq_true h0)
      clear h0
      go_enter Try.func52, Try.ntmps52
      go_wp2_with (first | (go_at_call 18; refine (great_any A none n c 0 0 _).mono ?_; rw [H1.out]; rintro e W1 ⟨rfl, hw1⟩; subst hw1; simp only [Bool.false_or]) | (go_at_call 25; refine (checkRow_any _ A n c row hr hn).mono ?_; rintro e W1 ⟨rfl, hb⟩))
      go_ret
      exact ⟨by rw [hd.out]; rfl, hb⟩
    · have t0 : (checkRow row == 0) = false := by simp [h0]
      have hd := hid (decide_eq_false h0)
      clear h0
      go_enter Try.func52, Try.ntmps52
      go_wp2_with (first | (go_at_call 18; refine (great_any A none n c 0 0 _).mono ?_; rw [H1.out]; rintro e W1 ⟨rfl, hw1⟩; subst hw1; simp only [Bool.false_or]) | (go_at_call 25; refine (checkRow_any _ A n c row hr hn).mono ?_; rintro e W1 ⟨rfl, hb⟩))
      go_ret
      exact ⟨by rw [hd.out]; rfl, hb⟩
  · have hd := hid (decide_eq_false (checkRow_many (row := row) (by simp at h1; omega)))
    have H1 := hid h1
    clear h1 hl
    go_enter Try.func52, Try.ntmps52
    go_wp2_with (first | (go_at_call 18; refine (great_any A none n c 0 0 _).mono ?_; rw [H1.out]; rintro e W1 ⟨rfl, hw1⟩; subst hw1; simp only [Bool.true_or]))
    go_ret
    exact ⟨by rw [hd.out]; rfl, Below.refl _ _⟩
set_option maxRecDepth 100000 in
set_option maxHeartbeats 4000000 in
theorem possible_any (w : World) (A A' : Option Addr) (n c n' c' : Nat) (row : List Mt) (sc : List Rg) (hr : MtS w w.heap.size A n row) (hr' : RgS w w.heap.size A' n' sc) (h0 : checkScales row sc = 0) :
    Calls Try.prog 49 #[.slice A n c, .slice A' n' c'] w fun e w' => e = .returned (.tuple #[.bool (possB row sc), .bool true]) ∧ Below w.heap.size w w' := by
  have HR := hid (fun V (h : Below w.heap.size w V) => hr.below h h.size)
  have HS := hid (fun V (h : Below w.heap.size w V) => hr'.below h h.size)
  have hks := checkScales_ok h0
  have hkr := checkRow_ok hks.1
  have hl := hr.len
  have hl' := hr'.len
  have hn : n ≤ 12 := by omega
  have hn' : n' ≤ 12 := by omega
  have HL := hid (show row.length ≤ 7 by omega)
  have H0 := hid h0
  clear hr hr' hks hkr hl hl'
  cases hp : possB row sc
  · have HE : Hid (truthErr row sc = 14) := hid (by unfold truthErr; rw [if_neg (by simp [h0]), hp]; rfl)

    clear h0 hp
    go_enter Try.func49, Try.ntmps49
    have hbel : Below w.heap.size w w := Below.refl _ _
    have hsz := hbel.size
    obtain ⟨W0, rfl⟩ : ∃ W0 : World, W0 = w := ⟨_, rfl⟩
    go_wp2_with (fail)
    refine (dTruth_any _ A A' n c n' c' row sc (HR.out _ ?_) hn (HS.out _ ?_) hn').mono ?_
    · exact (by repeat' (first | with_reducible assumption | with_reducible exact Below.refl _ _ | refine Below.alloc ?_ ?_ _ | refine Below.setCell ?_ ?_ _ | refine Below.drew ?_ | refine below_drewN ?_ _ | (simp; done) | (simp; omega) | omega))
    · exact (by repeat' (first | with_reducible assumption | with_reducible exact Below.refl _ _ | refine Below.alloc ?_ ?_ _ | refine Below.setCell ?_ ?_ _ | refine Below.drew ?_ | refine below_drewN ?_ _ | (simp; done) | (simp; omega) | omega))
    rintro e W1 ⟨Ax1, mx1, cx1, ts, rfl, hts, ht1, ht0, hb⟩
    have hst : Below W0.heap.size W0 W1 := Below.trans (by repeat' (first | with_reducible assumption | with_reducible exact Below.refl _ _ | refine Below.alloc ?_ ?_ _ | refine Below.setCell ?_ ?_ _ | refine Below.drew ?_ | refine below_drewN ?_ _ | (simp; done) | (simp; omega) | omega)) (hb.mono (by first | (simp; done) | (simp; omega) | omega))
    replace hbel := hbel.trans (hst.mono hsz)
    replace hsz := hbel.size
    replace HR := hid (fun V (h : Below W1.heap.size W1 V) => HR.out V (hst.trans (h.mono hst.size)))
    replace HS := hid (fun V (h : Below W1.heap.size W1 V) => HS.out V (hst.trans (h.mono hst.size)))
    rw [HE.out]
    have Hz := hid (show mx1 = 0 by rw [← hts.len, ht0 (by rw [HE.out]; decide)]; rfl)
    clear hts ht1 ht0
    clear hb hst
    obtain ⟨W0, rfl⟩ : ∃ W0 : World, W0 = W1 := ⟨_, rfl⟩
    have hz := Hz.out
    subst hz
    go_wp2
    refine bodyPost_ret (v := .tuple #[.bool false, .bool true]) (by first | (simp [results, Try.results49, go_sem]; done) | (simp [results, Try.results49, go_sem, World.cell?_setCell_same', *]; done) | (simp [results, Try.results49, go_sem]; first | exact ⟨rfl, rfl⟩ | rfl)) rfl ⟨rfl, hbel⟩
  · have HE : Hid (truthErr row sc = 0) := hid (by unfold truthErr; rw [if_neg (by simp [h0]), hp]; rfl)

    clear h0 hp
    go_enter Try.func49, Try.ntmps49
    have hbel : Below w.heap.size w w := Below.refl _ _
    have hsz := hbel.size
    obtain ⟨W0, rfl⟩ : ∃ W0 : World, W0 = w := ⟨_, rfl⟩
    go_wp2_with (fail)
    refine (dTruth_any _ A A' n c n' c' row sc (HR.out _ ?_) hn (HS.out _ ?_) hn').mono ?_
    · exact (by repeat' (first | with_reducible assumption | with_reducible exact Below.refl _ _ | refine Below.alloc ?_ ?_ _ | refine Below.setCell ?_ ?_ _ | refine Below.drew ?_ | refine below_drewN ?_ _ | (simp; done) | (simp; omega) | omega))
    · exact (by repeat' (first | with_reducible assumption | with_reducible exact Below.refl _ _ | refine Below.alloc ?_ ?_ _ | refine Below.setCell ?_ ?_ _ | refine Below.drew ?_ | refine below_drewN ?_ _ | (simp; done) | (simp; omega) | omega))
    rintro e W1 ⟨Ax1, mx1, cx1, ts, rfl, hts, ht1, ht0, hb⟩
    have hst : Below W0.heap.size W0 W1 := Below.trans (by repeat' (first | with_reducible assumption | with_reducible exact Below.refl _ _ | refine Below.alloc ?_ ?_ _ | refine Below.setCell ?_ ?_ _ | refine Below.drew ?_ | refine below_drewN ?_ _ | (simp; done) | (simp; omega) | omega)) (hb.mono (by first | (simp; done) | (simp; omega) | omega))
    replace hbel := hbel.trans (hst.mono hsz)
    replace hsz := hbel.size
    replace HR := hid (fun V (h : Below W1.heap.size W1 V) => HR.out V (hst.trans (h.mono hst.size)))
    replace HS := hid (fun V (h : Below W1.heap.size W1 V) => HS.out V (hst.trans (h.mono hst.size)))
    rw [HE.out]
    have Hts := hid hts
    have Hk := hid (ht1 HE.out)
    clear hts ht1 ht0
    clear hb hst
    obtain ⟨W0, rfl⟩ : ∃ W0 : World, W0 = W1 := ⟨_, rfl⟩
    have Hfin := hid (truthE_of H0.out Hk.out.1 Hk.out.2)
    have hmx : mx1 ≤ 100 := by have := Hts.out.len; have := Hk.out.1; have := HL.out; omega
    go_wp2_with (fail)
    refine (refCheckTruth_any _ A A' Ax1 n c n' c' mx1 cx1 row sc ts (HR.out _ ?_) hn (HS.out _ ?_) hn' (Hts.out.below (Below.refl _ _) (Nat.le_refl _)) hmx).mono ?_
    · exact (by repeat' (first | with_reducible assumption | with_reducible exact Below.refl _ _ | refine Below.alloc ?_ ?_ _ | refine Below.setCell ?_ ?_ _ | refine Below.drew ?_ | refine below_drewN ?_ _ | (simp; done) | (simp; omega) | omega))
    · exact (by repeat' (first | with_reducible assumption | with_reducible exact Below.refl _ _ | refine Below.alloc ?_ ?_ _ | refine Below.setCell ?_ ?_ _ | refine Below.drew ?_ | refine below_drewN ?_ _ | (simp; done) | (simp; omega) | omega))
    rw [Hfin.out]
    rintro e W1 ⟨rfl, hb⟩
    have hst : Below W0.heap.size W0 W1 := Below.trans (by repeat' (first | with_reducible assumption | with_reducible exact Below.refl _ _ | refine Below.alloc ?_ ?_ _ | refine Below.setCell ?_ ?_ _ | refine Below.drew ?_ | refine below_drewN ?_ _ | (simp; done) | (simp; omega) | omega)) (hb.mono (by first | (simp; done) | (simp; omega) | omega))
    replace hbel := hbel.trans (hst.mono hsz)
    replace hsz := hbel.size
    replace HR := hid (fun V (h : Below W1.heap.size W1 V) => HR.out V (hst.trans (h.mono hst.size)))
    replace HS := hid (fun V (h : Below W1.heap.size W1 V) => HS.out V (hst.trans (h.mono hst.size)))
    replace Hts := hid (Hts.out.below hst hst.size)
    clear hb hst
    obtain ⟨W0, rfl⟩ : ∃ W0 : World, W0 = W1 := ⟨_, rfl⟩
    go_wp2_with (fail)
    refine (dCheckTruth_any _ A A' Ax1 n c n' c' mx1 cx1 row sc ts (HR.out _ ?_) hn (HS.out _ ?_) hn' (Hts.out.below (Below.refl _ _) (Nat.le_refl _)) hmx).mono ?_
    · exact (by repeat' (first | with_reducible assumption | with_reducible exact Below.refl _ _ | refine Below.alloc ?_ ?_ _ | refine Below.setCell ?_ ?_ _ | refine Below.drew ?_ | refine below_drewN ?_ _ | (simp; done) | (simp; omega) | omega))
    · exact (by repeat' (first | with_reducible assumption | with_reducible exact Below.refl _ _ | refine Below.alloc ?_ ?_ _ | refine Below.setCell ?_ ?_ _ | refine Below.drew ?_ | refine below_drewN ?_ _ | (simp; done) | (simp; omega) | omega))
    rw [Hfin.out]
    rintro e W1 ⟨rfl, hb⟩
    have hst : Below W0.heap.size W0 W1 := Below.trans (by repeat' (first | with_reducible assumption | with_reducible exact Below.refl _ _ | refine Below.alloc ?_ ?_ _ | refine Below.setCell ?_ ?_ _ | refine Below.drew ?_ | refine below_drewN ?_ _ | (simp; done) | (simp; omega) | omega)) (hb.mono (by first | (simp; done) | (simp; omega) | omega))
    replace hbel := hbel.trans (hst.mono hsz)
    replace hsz := hbel.size
    replace HR := hid (fun V (h : Below W1.heap.size W1 V) => HR.out V (hst.trans (h.mono hst.size)))
    replace HS := hid (fun V (h : Below W1.heap.size W1 V) => HS.out V (hst.trans (h.mono hst.size)))
    replace Hts := hid (Hts.out.below hst hst.size)
    clear hb hst
    obtain ⟨W0, rfl⟩ : ∃ W0 : World, W0 = W1 := ⟨_, rfl⟩
    go_wp2
    refine bodyPost_ret (v := .tuple #[.bool true, .bool true]) (by first | (simp [results, Try.results49, go_sem]; done) | (simp [results, Try.results49, go_sem, World.cell?_setCell_same', *]; done) | (simp [results, Try.results49, go_sem]; first | exact ⟨rfl, rfl⟩ | rfl)) rfl ⟨rfl, hbel⟩
theorem chosen_any (x : Int) (h0 : 0 ≤ x) (h1 : x ≤ 4294967295) (w : World) : Calls Try.prog 51 #[.int .u32 x] w fun e w' => e = .returned (.int .i64 (x % 1000001)) ∧ w = w' := by
  go_enter Try.func51, Try.ntmps51
  go_wp2
  go_ret
  exact ⟨rfl, rfl⟩
end Go.Proofs.Ytdcglphekafpdaa
/- The second law again, with a condition on worlds in the place of a first world: what is free is read where the condition holds, and what writes has to keep it, wherever it writes. -/
namespace Go.Proofs.Ytdcglphekafpdaa.Sx
open Go
section
variable {P : Program} {ops : Array Oper} {md : Region.Mode} {S : World → Prop}

/-- In every world behind X. -/
def EYields (P : Program) (ops : Array Oper) (S : World → Prop) (o : Oper) (v : Value) (a : Act) : Prop :=
  (Region.wanted o (yielded ops a.tmps) = true ∧ ∀ W, S W → EUpon P W v ((execOp a.eval o).run P W)) ∨ (Region.wanted o (yielded ops a.tmps) = false ∧ v = undef)
theorem EYields.of_same {o : Oper} {v : Value} {a a' : Act} (hy : EYields P ops S o v a) (he : execOp a'.eval o = execOp a.eval o)
    (hw : Region.wanted o (yielded ops a'.tmps) = Region.wanted o (yielded ops a.tmps)) : EYields P ops S o v a' := by
  unfold EYields at *
  rw [he, hw]
  exact hy

theorem lOp_put {j : Nat} {oi oj : Oper} {v : Value} (hj : ops[j]? = some oj) (hap : oi.apart ops oj = true)
    (hsi : ∀ cs b, oi.op ≠ .select cs b) (hsj : ∀ cs b, oj.op ≠ .select cs b) {K : Act → World → Prop} {a : Act} {w : World}
    (hy : EYields P ops S oi v a) (h : lOp P ops j K (a.put oi.dst v) w) :
    lOp P ops j (fun a' w' => EYields P ops S oi v a' ∧ K (a'.put oi.dst v) w') a w := by
  obtain ⟨h1, h2, h3⟩ := Oper.apart_spec hap
  have keep : ∀ (u : Value), EYields P ops S oi v (a.put oj.dst u) := fun u => hy.of_same (execOp_put oi hsi a oj.dst u h3) (wanted_put oi a oj.dst u h3)
  have swap : ∀ (u : Value) (W : World), K ((a.put oi.dst v).put oj.dst u) W → EYields P ops S oi v (a.put oj.dst u) ∧ K ((a.put oj.dst u).put oi.dst v) W := fun u W hk => ⟨keep u, by rw [← Act.put_comm a v u h2]; exact hk⟩
  unfold lOp at *
  simp only [hj] at *
  rw [wanted_put oj a oi.dst v h1] at h
  split
  · rename_i hw
    simp only [hw, if_true] at h
    rw [execOp_put oj hsj a oi.dst v h1] at h
    generalize (execOp a.eval oj).run P w = r at *
    cases r with
    | ok n w' =>
      cases n <;> simp only [LUpon] at h ⊢
      case value u => exact swap u _ h
      case skip => exact swap _ _ h
      case enter f args => exact h.mono fun e W ⟨u, he, hk⟩ => ⟨u, he, swap u _ hk⟩
    | halt x w' => simp only [LUpon] at h
  · rename_i hw
    simp only [hw] at h
    exact swap _ _ h

/-- Whatever order is left, in whatever worlds. -/
def wpM (P : Program) (md : Region.Mode) (ops : Array Oper) (S : World → Prop) (Q : Act → World → Prop) : Nat → Array Bool → Act → World → Prop
  | 0, listed, a, w => Region.ready md ops listed = [] ∧ ∀ W, Ext w W → S W → Q a W
  | f + 1, listed, a, w => ∀ W, Ext w W → S W → (Region.ready md ops listed = [] → Q a W) ∧
      ∀ i ∈ Region.ready md ops listed, lOp P ops i (fun a' W' => S W' ∧ wpM P md ops S Q f (listed.setIfInBounds i true) a' W') a W
theorem wpM_ext {Q : Act → World → Prop} {f : Nat} {listed : Array Bool} {a : Act} {w w' : World} (h : wpM P md ops S Q f listed a w) (he : Ext w w') : wpM P md ops S Q f listed a w' := by
  cases f with
  | zero => exact ⟨h.1, fun W h1 h2 => h.2 W (he.trans' h1) h2⟩
  | succ f => exact fun W h1 h2 => h W (he.trans' h1) h2

theorem lOp_of_early {i : Nat} {oi : Oper} {v : Value} {a : Act} {W : World} {K : Act → World → Prop} (hi : ops[i]? = some oi) (hX : S W) (hy : EYields P ops S oi v a) (hK : ∀ W', Ext W W' → K (a.put oi.dst v) W') : lOp P ops i K a W := by
  unfold lOp
  simp only [hi]
  rcases hy with ⟨hw, hy⟩ | ⟨hw, rfl⟩
  · simp only [hw, if_true]
    have h1 := hy W hX
    generalize (execOp a.eval oi).run P W = r at h1
    cases r with
    | ok n w' =>
      cases n <;> simp only [EUpon] at h1 <;> simp only [LUpon]
      case value u => obtain ⟨rfl, h2⟩ := h1; exact hK _ h2
      case skip => obtain ⟨rfl, h2⟩ := h1; exact hK _ h2
      case enter f args => obtain ⟨rfl, h2⟩ := h1; exact h2.mono fun e W'' ⟨he, hx⟩ => ⟨v, he, hK _ hx⟩
    | halt x w' => simp only [EUpon] at h1
  · simp only [hw, Bool.false_eq_true, if_false]; exact hK _ (RowKit.Below.refl _ _)

theorem wpM_first (hS : ∀ W W', S W → Ext W W' → S W') {Q : Act → World → Prop} {i : Nat} {oi : Oper} {v : Value} (hi : ops[i]? = some oi) (hsel : ∀ (j : Nat) (o : Oper) cs b, ops[j]? = some o → o.op ≠ .select cs b) :
    ∀ (f : Nat) (listed : Array Bool) (a : Act) (w : World),
      (∀ j oj, ops[j]? = some oj → j ≠ i → listed.getD j true = false → (∀ e ∈ oj.after, Region.binds md e = true → e.on ≠ i) → oi.apart ops oj = true) →
      i ∈ Region.ready md ops listed → EYields P ops S oi v a →
      wpM P md ops S Q f (listed.setIfInBounds i true) (a.put oi.dst v) w → wpM P md ops S Q (f + 1) listed a w := by
  intro f
  induction f with
  | zero =>
    intro listed a w hfree hr hy H W hwW hXW
    refine ⟨fun h => (by rw [h] at hr; cases hr), fun j hj => ?_⟩
    by_cases hji : j = i
    · subst hji
      exact lOp_of_early hi hXW hy fun W' hW' => ⟨hS _ _ hXW hW', wpM_ext H (hwW.trans' hW')⟩
    · have := ready_mono hj hji
      rw [H.1] at this
      cases this
  | succ f ih =>
    intro listed a w hfree hr hy H W hwW hXW
    refine ⟨fun h => (by rw [h] at hr; cases hr), fun j hj => ?_⟩
    by_cases hji : j = i
    · subst hji
      exact lOp_of_early hi hXW hy fun W' hW' => ⟨hS _ _ hXW hW', wpM_ext H (hwW.trans' hW')⟩
    · have h1 := (H W hwW hXW).2 j (ready_mono hj hji)
      obtain ⟨hjun, oj, hoj, hall⟩ := mem_ready.1 hj
      have hnot : ∀ e ∈ oj.after, Region.binds md e = true → e.on ≠ i := fun e he hb heq => by
        have h1 := hall e he hb
        have h0 := (mem_ready.1 hr).1
        rw [heq, getD_both h0] at h1
        cases h1
      have h2 := lOp_put hoj (hfree j oj hoj hji hjun hnot) (fun cs b => hsel i oi cs b hi) (fun cs b => hsel j oj cs b hoj) hy h1
      have hfree' : ∀ k ok, ops[k]? = some ok → k ≠ i → (listed.setIfInBounds j true).getD k true = false →
          (∀ e ∈ ok.after, Region.binds md e = true → e.on ≠ i) → oi.apart ops ok = true := fun k ok hk hki hun hno => by
        refine hfree k ok hk hki ?_ hno
        by_cases hjk : j = k
        · subst hjk; exact hjun
        · rw [getD_set_ne true hjk] at hun; exact hun
      refine lOp_mono (fun a' W' h3 => ⟨h3.2.1, ih (listed.setIfInBounds j true) a' W' hfree' (ready_mono hr (Ne.symm hji)) h3.1 ?_⟩) h2
      rw [Array.setIfInBounds_comm _ _ hji]
      exact h3.2.2

/-- The early operations, by their numbers, in order. -/
def wpE (P : Program) (ops : Array Oper) (S : World → Prop) (L : Act → Prop) : List (Nat × Oper) → Act → Prop
  | [], a => L a
  | (_, o) :: rest, a => ∃ v, EYields P ops S o v a ∧ wpE P ops S L rest (a.put o.dst v)
theorem wpM_early (hS : ∀ W W', S W → Ext W W' → S W') {Q : Act → World → Prop} (hsel : Region.noSelect ops = true) {w : World} : ∀ (E : List Nat) (g : Nat) (listed : Array Bool) (a : Act), earlyB md ops E listed = true →
    wpE P ops S (fun a' => wpM P md ops S Q g (setAll listed E) a' w) (pick ops E) a → wpM P md ops S Q (E.length + g) listed a w
  | [], g, listed, a, _, h => by simpa [setAll, pick, wpE] using h
  | i :: E, g, listed, a, hB, h => by
    simp only [earlyB, Bool.and_eq_true] at hB
    obtain ⟨⟨hr, hf⟩, hB'⟩ := hB
    have hr' : i ∈ Region.ready md ops listed := by simpa using hr
    obtain ⟨_, oi, hoi, _⟩ := mem_ready.1 hr'
    simp only [pick, hoi, wpE] at h
    obtain ⟨v, hy, hK⟩ := h
    rw [List.length_cons, show E.length + 1 + g = (E.length + g) + 1 by omega]
    exact wpM_first hS hoi (Region.noSelect_spec hsel) _ _ _ _ (Region.free_spec hoi hf) hr' hy (wpM_early hS hsel E g _ _ hB' hK)

theorem wpAny_of_M {Q : Act → World → Prop} {Q' : Exit → Act → World → Prop} (hQ : ∀ a w, Q a w → Q' .normal a w) : ∀ (f : Nat) (listed : Array Bool) (a : Act) (w : World), S w → wpM P md ops S Q f listed a w → wpAny P md ops Q' f listed a w
  | 0, _, _, _, hX, h => ⟨h.1, hQ _ _ (h.2 _ (RowKit.Below.refl _ _) hX)⟩
  | f + 1, _, _, w, hX, h =>
    have h' := h w (RowKit.Below.refl _ _) hX
    ⟨fun h0 => hQ _ _ (h'.1 h0), fun i hi => wpOp_of_lOp (fun _ _ hk => wpAny_of_M hQ f _ _ _ hk.1 hk.2) (h'.2 i hi)⟩

/-- The law, outside a round. -/
theorem wp_region_el (S : World → Prop) (hS : ∀ W W', S W → Ext W W' → S W') {id : Nat} {Q : Exit → Act → World → Prop} {a : Act} {w : World} {l : List Oper} (E : List Nat) (g : Nat) (hm : P.follows .mixedOrders = true)
    (hB : (Region.noSelect l.toArray && decide (E.length + g = l.length) && earlyB .any l.toArray E (Array.replicate l.length false)) = true) (h0 : S w.drew)
    (h : wpE P l.toArray S (fun a' => wpM P .any l.toArray S (fun a w => wpList P l.toArray Q [] a w) g (setAll (Array.replicate l.length false) E) a' w.drew) (pick l.toArray E) a) : (Code.region id l.toArray true).wp P Q a w := by
  simp only [Bool.and_eq_true, decide_eq_true_eq] at hB
  obtain ⟨⟨hsel, hn⟩, hE⟩ := hB
  refine wp_region_any hm ?_
  have := wpM_early (w := w.drew) hS hsel E g _ a hE h
  rw [hn] at this
  have := wpAny_of_M (Q' := Q) (fun _ _ hk => hk) _ _ _ _ h0 this
  simpa using this
theorem wpE_val {L : Act → Prop} {a : Act} {i : Nat} {o : Oper} {rest : List (Nat × Oper)} {v : Value} (hw : Region.wanted o (yielded ops a.tmps) = true)
    (hv : ∀ W, S W → (execOp a.eval o).run P W = .ok (.value v) W) (h : wpE P ops S L rest (a.put o.dst v)) : wpE P ops S L ((i, o) :: rest) a :=
  ⟨v, .inl ⟨hw, fun W hW => by rw [hv W hW]; exact ⟨rfl, RowKit.Below.refl _ _⟩⟩, h⟩
theorem wpE_not {L : Act → Prop} {a : Act} {i : Nat} {o : Oper} {rest : List (Nat × Oper)} (hw : Region.wanted o (yielded ops a.tmps) = false)
    (h : wpE P ops S L rest (a.put o.dst undef)) : wpE P ops S L ((i, o) :: rest) a := ⟨undef, .inr ⟨hw, rfl⟩, h⟩
theorem wpE_call {L : Act → Prop} {a : Act} {i : Nat} {o : Oper} {rest : List (Nat × Oper)} {v : Value} {f : FuncId} {args : Array Value} (hw : Region.wanted o (yielded ops a.tmps) = true)
    (hc : ∀ W, S W → Calls P f args W fun e W' => e = .returned v ∧ RowKit.Below W.heap.size W W')
    (hv : ∀ W, S W → (execOp a.eval o).run P W = .ok (.enter f args) W)
    (h : wpE P ops S L rest (a.put o.dst v)) : wpE P ops S L ((i, o) :: rest) a :=
  ⟨v, .inl ⟨hw, fun W hW => by rw [hv W hW]; exact ⟨rfl, hc W hW⟩⟩, h⟩
theorem wpM_end {Q : Act → World → Prop} {listed : Array Bool} {a : Act} {w : World} (hr : (Region.ready md ops listed).isEmpty = true) (h : ∀ W, Ext w W → S W → Q a W) : wpM P md ops S Q 0 listed a w :=
  ⟨by simpa using hr, h⟩
/-- The one operation that is ready leaves a value. -/
theorem wpM_one {Q : Act → World → Prop} {f : Nat} {listed : Array Bool} {a : Act} {w : World} (k : Nat) (o : Oper) (ho : ops[k]? = some o) (hr : decide (Region.ready md ops listed = [k]) = true) (hw : Region.wanted o (yielded ops a.tmps) = true)
    (h : ∀ W, Ext w W → S W → LUpon P o a (fun a' W' => S W' ∧ wpM P md ops S Q f (listed.setIfInBounds k true) a' W') ((execOp a.eval o).run P W)) : wpM P md ops S Q (f + 1) listed a w := by
  intro W h1 h2
  rw [of_decide_eq_true hr]
  refine ⟨fun h => (by cases h), fun i hi => ?_⟩
  obtain rfl : i = k := by simpa using hi
  unfold lOp
  simp only [ho, hw, if_true]
  exact h W h1 h2
theorem wpM_two {P : Program} {md : Region.Mode} {ops : Array Oper}  {Q : Act → World → Prop} {f : Nat} {listed : Array Bool} {a : Act} {w : World} (i j : Nat) (o o' : Oper) (ho : ops[i]? = some o) (ho' : ops[j]? = some o') (hr : decide (Region.ready md ops listed = [i, j]) = true) (hw : Region.wanted o (yielded ops a.tmps) = true) (hw' : Region.wanted o' (yielded ops a.tmps) = true)
    (h : ∀ W, Ext w W → S W → LUpon P o a (fun a' W' => S W' ∧ wpM P md ops S Q f (listed.setIfInBounds i true) a' W') ((execOp a.eval o).run P W))
    (h' : ∀ W, Ext w W → S W → LUpon P o' a (fun a' W' => S W' ∧ wpM P md ops S Q f (listed.setIfInBounds j true) a' W') ((execOp a.eval o').run P W)) : wpM P md ops S Q (f + 1) listed a w := by
  intro W h1 h2
  rw [of_decide_eq_true hr]
  refine ⟨fun h => (by cases h), fun q hq => ?_⟩
  rcases List.mem_cons.1 hq with rfl | hq
  · unfold lOp
    simp only [ho, hw, if_true]
    exact h W h1 h2
  · obtain rfl : q = j := by simpa using hq
    unfold lOp
    simp only [ho', hw', if_true]
    exact h' W h1 h2
end
end Go.Proofs.Ytdcglphekafpdaa.Sx
namespace Go.Proofs.Ytdcglphekafpdaa
open Go.RowKit Go.Shelf
theorem chain_le : ∀ (row : List Mt), row.all okM = true → ∀ {x y : Int}, 0 ≤ x → x ≤ y → y ≤ 1000000 → chainOf row true x ≤ chainOf row false y
  | [], _, x, y, _, h, _ => h
  | m :: row, hok, x, y, h0, h, h1 => by
    simp only [List.all_cons, Bool.and_eq_true] at hok
    have a := one_bd hok.1 true h0 (Int.le_trans h h1)
    have b := one_bd hok.1 false (x := y) (Int.le_trans h0 h) h1
    have c := one_mono hok.1 true h
    have d := one_le hok.1 (x := y) (Int.le_trans h0 h)
    exact chain_le row hok.2 (x := one m true x) (y := one m false y) a.1 (Int.le_trans c d) (Int.le_trans b.2 h1)
theorem leftOf_bd {row : List Mt} {r : Rg} (hok : row.all okM = true) (hr : okR r 1000000 = true) : 0 ≤ (leftOf row r).lo ∧ (leftOf row r).lo ≤ (leftOf row r).hi ∧ (leftOf row r).hi ≤ 1000000 ∧ (leftOf row r).hi ≤ r.hi := by
  obtain ⟨h0, h1, h2⟩ := okR_t.1 hr
  rw [leftOf_lo, leftOf_hi]
  have a := chain_bd true row hok h0 (by omega)
  have b := chain_bd false row hok (x := r.hi) (by omega) h2
  have c := chain_le row hok h0 h1 h2
  omega
set_option maxRecDepth 100000 in
set_option maxHeartbeats 1000000 in
theorem left53_any (w : World) (A : Option Addr) (n c : Nat) (row : List Mt) (r : Rg) (hr : MtS w w.heap.size A n row) (h0 : checkRow row = 0) (h1 : okR r 1000000 = true) :
    Calls Try.prog 53 #[.slice A n c, .agg #[.int .i64 r.lo, .int .i64 r.hi]] w fun e w' => e = .returned (.tuple #[.agg #[.int .i64 (leftOf row r).lo, .int .i64 (leftOf row r).hi], .bool true]) ∧ Below w.heap.size w w' := by
  have hk := checkRow_ok h0
  have hl := hr.len
  have hn : n ≤ 12 := by omega
  have hS : Hid (leftS row r = leftOf row r) := hid (by unfold leftS; rw [if_pos ⟨h0, h1⟩])
  have hE : Hid (leftE row r = 0) := hid (by unfold leftE; rw [if_neg (by simp [h0]), if_pos h1])
  obtain ⟨b1, b2, b3, _⟩ := leftOf_bd hk.2.2 h1
  clear h0 h1 hk hl
  go_enter Try.func53, Try.ntmps53
  go_wp2_with (first | (go_at_call 20; refine (dLeft_any _ A n c row r (hr.below (by repeat' (first | with_reducible assumption | with_reducible exact Below.refl _ _ | refine Below.alloc ?_ ?_ _ | refine Below.setCell ?_ ?_ _ | refine Below.drew ?_ | refine below_drewN ?_ _ | (simp; done) | (simp; omega) | omega)) (by first | (simp; done) | (simp; omega) | omega)) hn).mono ?_; rw [hS.out, hE.out]; rintro e W1 ⟨rfl, hb⟩; have B4 := (((Blk.new' rfl : Blk ((w.alloc (.cells #[.int .i64 r.lo, .int .i64 r.hi] 24)).alloc (.cells #[.int .i64 0, .int .i64 0] 24)) (w.alloc (.cells #[.int .i64 r.lo, .int .i64 r.hi] 24)).heap.size 24 #[.int .i64 0, .int .i64 0])).below hb (by simp)); have hbel : Below w.heap.size w W1 := Below.trans (by repeat' (first | with_reducible assumption | with_reducible exact Below.refl _ _ | refine Below.alloc ?_ ?_ _ | refine Below.setCell ?_ ?_ _ | refine Below.drew ?_ | refine below_drewN ?_ _ | (simp; done) | (simp; omega) | omega)) (hb.mono (by first | (simp; done) | (simp; omega) | omega)); rw [World.size_alloc] at B4))
  generalize hL : leftOf row r = L at *
  have bl : Blk (W1.alloc (.cells #[.int .i64 L.lo, .int .i64 L.hi] 24)) W1.heap.size 24 #[.int .i64 L.lo, .int .i64 L.hi] := Blk.new _ _ _
  replace B4 := (B4.alloc (.cells #[.int .i64 L.lo, .int .i64 L.hi] 24))
  have hz : w.heap.size + 1 < W1.heap.size := by have := hb.size; simp at this; omega
  have hle : w.heap.size ≤ W1.heap.size := by omega
  have hbel' : Below w.heap.size w (W1.alloc (.cells #[.int .i64 L.lo, .int .i64 L.hi] 24)) := hbel.alloc hle _
  clear hb hbel hS hE hr
  generalize W1.heap.size = B9 at *
  generalize W1.alloc (.cells #[.int .i64 L.lo, .int .i64 L.hi] 24) = V at *
  have ll := bl.lt
  have l4 := B4.lt
  have hSx : ∀ W W' : World, (Below w.heap.size w W ∧ Blk W B9 24 #[.int .i64 L.lo, .int .i64 L.hi]) → Ext W W' → (Below w.heap.size w W' ∧ Blk W' B9 24 #[.int .i64 L.lo, .int .i64 L.hi]) := fun W W' h h' => ⟨h.1.trans (h'.mono h.1.size), h.2.below h' h.2.lt⟩
  refine Sx.wp_region_el (fun W => Below w.heap.size w W ∧ Blk W B9 24 #[.int .i64 L.lo, .int .i64 L.hi]) hSx [0, 1, 2, 3, 4, 5, 6, 7, 8, 9, 10, 11, 12, 13, 14, 15, 16] 5 (by kernel_rfl) (by kernel_rfl) (hSx _ _ ⟨hbel', bl⟩ (Below.refl _ _).drew) ?_
  replace B4 := B4.below (Below.refl _ _).drew l4
  simp only [pick, List.getElem?_toArray, List.getElem?_cons_zero, List.getElem?_cons_succ]
  iterate 17 (refine Sx.wpE_val (v := ?_) (by rfl) (fun W hW => ?_) ?_; rotate_left; (· have q0 := hW.2.cell 0; have q1 := hW.2.cell 1; go_simp; with_reducible rfl); simp only [Act.put, List.setIfInBounds_toArray, List.set_cons_zero, List.set_cons_succ])
  simp only [Sx.wpE]
  refine Sx.wpM_two 17 20 _ _ (by simp only [List.getElem?_toArray, List.getElem?_cons_zero, List.getElem?_cons_succ]; rfl) (by simp only [List.getElem?_toArray, List.getElem?_cons_zero, List.getElem?_cons_succ]; rfl) (by kernel_rfl) (by rfl) (by rfl) ?_ ?_
  · intro X3 hX3 hS3
    have q0 := hS3.2.cell 0
    have q1 := hS3.2.cell 1
    (go_simp; simp only [LUpon, Act.put]; try simp only [List.setIfInBounds_toArray, List.set_cons_zero, List.set_cons_succ])
    refine ⟨hS3, ?_⟩
    clear q0 q1
    replace B4 := B4.below hX3 B4.lt
    refine (Sx.wpM_early hSx (by kernel_rfl) [18, 19] 2 _ _ (by kernel_rfl) ?_ : Sx.wpM Try.prog .any _ _ _ 4 _ _ _)
    simp only [pick, List.getElem?_toArray, List.getElem?_cons_zero, List.getElem?_cons_succ]
    iterate 2 (refine Sx.wpE_val (v := ?_) (by rfl) (fun W hW => ?_) ?_; rotate_left; (· have q0 := hW.2.cell 0; have q1 := hW.2.cell 1; go_simp; with_reducible rfl); simp only [Act.put, List.setIfInBounds_toArray, List.set_cons_zero, List.set_cons_succ])
    simp only [Sx.wpE]
    refine Sx.wpM_one 20 _ (by simp only [List.getElem?_toArray, List.getElem?_cons_zero, List.getElem?_cons_succ]; rfl) (by kernel_rfl) (by rfl) ?_
    intro X1 hX1 hS1
    replace B4 := B4.below hX1 B4.lt
    have f0 := B4.frozen 0
    have f1 := B4.frozen 1
    have r0 := B4.cell 0
    have r1 := B4.cell 1
    (go_simp; simp only [LUpon, Act.put]; try simp only [List.setIfInBounds_toArray, List.set_cons_zero, List.set_cons_succ])
    have b4 := B4.set2 (a := .int .i64 L.lo) (b := .int .i64 L.hi)
    refine ⟨⟨(hS1.1.setCell (by simp) _).setCell (by simp) _, (hS1.2.far (by simp; omega) _).far (by simp; omega) _⟩, ?_⟩
    clear f0 f1 r0 r1 B4
    refine Sx.wpM_one 21 _ (by simp only [List.getElem?_toArray, List.getElem?_cons_zero, List.getElem?_cons_succ]; rfl) (by kernel_rfl) (by rfl) ?_
    intro X4 hX4 hS4
    replace b4 := b4.below hX4 b4.lt
    (go_simp; simp only [LUpon, Act.put]; try simp only [List.setIfInBounds_toArray, List.set_cons_zero, List.set_cons_succ])
    refine ⟨hS4, ?_⟩
    refine Sx.wpM_end (by kernel_rfl) ?_
    intro X5 hX5 hS5
    replace b4 := b4.below hX5 b4.lt
    go_wp2
    have k0 := b4.cell 0
    have k1 := b4.cell 1
    refine bodyPost_ret (v := .tuple #[.agg #[.int .i64 L.lo, .int .i64 L.hi], .bool true]) (by simp [results, Try.results53, go_sem, k0, k1]) rfl ⟨by first | rfl | rw [hL], hS5.1⟩
  · intro X1 hX1 hS1
    replace B4 := B4.below hX1 B4.lt
    have f0 := B4.frozen 0
    have f1 := B4.frozen 1
    have r0 := B4.cell 0
    have r1 := B4.cell 1
    (go_simp; simp only [LUpon, Act.put]; try simp only [List.setIfInBounds_toArray, List.set_cons_zero, List.set_cons_succ])
    have b4 := B4.set2 (a := .int .i64 L.lo) (b := .int .i64 L.hi)
    refine ⟨⟨(hS1.1.setCell (by simp) _).setCell (by simp) _, (hS1.2.far (by simp; omega) _).far (by simp; omega) _⟩, ?_⟩
    clear f0 f1 r0 r1 B4
    refine Sx.wpM_one 17 _ (by simp only [List.getElem?_toArray, List.getElem?_cons_zero, List.getElem?_cons_succ]; rfl) (by kernel_rfl) (by rfl) ?_
    intro X3 hX3 hS3
    have q0 := hS3.2.cell 0
    have q1 := hS3.2.cell 1
    (go_simp; simp only [LUpon, Act.put]; try simp only [List.setIfInBounds_toArray, List.set_cons_zero, List.set_cons_succ])
    refine ⟨hS3, ?_⟩
    clear q0 q1
    replace b4 := b4.below hX3 b4.lt
    refine (Sx.wpM_early hSx (by kernel_rfl) [18, 19] 1 _ _ (by kernel_rfl) ?_ : Sx.wpM Try.prog .any _ _ _ 3 _ _ _)
    simp only [pick, List.getElem?_toArray, List.getElem?_cons_zero, List.getElem?_cons_succ]
    iterate 2 (refine Sx.wpE_val (v := ?_) (by rfl) (fun W hW => ?_) ?_; rotate_left; (· have q0 := hW.2.cell 0; have q1 := hW.2.cell 1; go_simp; with_reducible rfl); simp only [Act.put, List.setIfInBounds_toArray, List.set_cons_zero, List.set_cons_succ])
    simp only [Sx.wpE]
    refine Sx.wpM_one 21 _ (by simp only [List.getElem?_toArray, List.getElem?_cons_zero, List.getElem?_cons_succ]; rfl) (by kernel_rfl) (by rfl) ?_
    intro X4 hX4 hS4
    replace b4 := b4.below hX4 b4.lt
    (go_simp; simp only [LUpon, Act.put]; try simp only [List.setIfInBounds_toArray, List.set_cons_zero, List.set_cons_succ])
    refine ⟨hS4, ?_⟩
    refine Sx.wpM_end (by kernel_rfl) ?_
    intro X5 hX5 hS5
    replace b4 := b4.below hX5 b4.lt
    go_wp2
    have k0 := b4.cell 0
    have k1 := b4.cell 1
    refine bodyPost_ret (v := .tuple #[.agg #[.int .i64 L.lo, .int .i64 L.hi], .bool true]) (by simp [results, Try.results53, go_sem, k0, k1]) rfl ⟨by first | rfl | rw [hL], hS5.1⟩
set_option maxHeartbeats 1000000 in
theorem has_any (w : World) (A : Option Addr) (n c : Nat) (l : List Int) (a b : Int) (hl : InS w w.heap.size A n l) (hn : n ≤ 100) :
    Calls Try.prog 64 #[.slice A n c, .int .i64 a, .int .i64 b] w fun e w' => e = .returned (.bool (l.any fun x => decide (a ≤ x) && decide (x ≤ b))) ∧ w = w' := by
  have hlen := hid hl.len
  go_enter Try.func64, Try.ntmps64
  go_wp2
  go_loop [7] (fun i => ∃ k : Nat, k ≤ n ∧ i = .int .i64 k ∧ Hid (((l.take k).any fun x => decide (a ≤ x) && decide (x ≤ b)) = false)) (fun i => n - (intOf i).toNat)
  case atStart => exact ⟨0, by omega, rfl, rfl⟩
  case round =>
    obtain ⟨k, hk, rfl, hf⟩ := hrel
    by_cases hlt : k < n
    · obtain ⟨b1, o1, x, rfl, hb1, hx, c1⟩ := hl.at_ hlt
      have hlti : (k : Int) < n := by omega
      have HX := hid hx
      have hnx : ((l.take (k + 1)).any fun x => decide (a ≤ x) && decide (x ≤ b)) = (decide (a ≤ x) && decide (x ≤ b)) := by rw [List.take_add_one, hx, List.any_append, hf.out]; simp
      have HN := hid hnx
      clear hx hnx
      cases t1 : decide (a ≤ x)
      · have hn1 := hid (HN.out.trans (by rw [t1]; rfl : _ = false))
        go_wp2
        exact ⟨⟨k + 1, by omega, by go_num, hn1.out⟩, by simp [intOf]; omega⟩
      · cases t2 : decide (x ≤ b)
        · have hn1 := hid (HN.out.trans (by rw [t1, t2]; rfl : _ = false))
          go_wp2
          exact ⟨⟨k + 1, by omega, by go_num, hn1.out⟩, by simp [intOf]; omega⟩
        · have hfin : Hid ((l.any fun x => decide (a ≤ x) && decide (x ≤ b)) = true) := hid (List.any_eq_true.2 ⟨x, List.mem_of_getElem? HX.out, by rw [t1, t2]; rfl⟩)
          go_wp2
          go_ret
          exact ⟨by rw [hfin.out]; rfl, rfl⟩
    · obtain rfl : k = n := by omega
      have hfin : Hid ((l.any fun x => decide (a ≤ x) && decide (x ≤ b)) = false) := hid (by have := hf.out; rwa [List.take_of_length_le (by rw [hlen.out]; omega)] at this)
      go_wp2
      go_ret
      exact ⟨by rw [hfin.out]; rfl, rfl⟩
theorem hasOne_any (w : World) (A : Option Addr) (n c : Nat) (l : List Int) (a : Int) (hl : InS w w.heap.size A n l) (hn : n ≤ 100) :
    Calls Try.prog 65 #[.slice A n c, .int .i64 a] w fun e w' => e = .returned (.bool (l.any fun x => decide (a ≤ x) && decide (x ≤ a))) ∧ w = w' := by
  go_enter Try.func65, Try.ntmps65
  go_wp2_with (first | (go_at_call 64; refine (has_any w A n c l a a hl hn).mono ?_; rintro e W1 ⟨rfl, rfl⟩))
  go_ret
  exact ⟨rfl, rfl⟩
end Go.Proofs.Ytdcglphekafpdaa
namespace Go.Proofs.Ytdcglphekafpdaa
open Go.RowKit Go.Shelf
theorem left_point {row : List Mt} {x : Int} : (leftOf row ⟨x, x⟩).lo = chainOf row true x ∧ (leftOf row ⟨x, x⟩).hi = chainOf row false x := ⟨leftOf_lo row _, leftOf_hi row _⟩
theorem need_cases {row : List Mt} (h0 : checkRow row = 0) {l : Int} (l0 : 0 ≤ l) (l1 : l ≤ 1000000) (s : Bool) :
    (needE row l s = 0 ∧ needS row l s = neededAll s l row ∧ 0 ≤ neededAll s l row ∧ neededAll s l row ≤ 1000000) ∨ (needE row l s = 4 ∧ needS row l s = 0 ∧ 1000000 < neededAll s l row) := by
  have hb := neededAll_bd s l0 row (checkRow_ok h0).2.2
  unfold needE needS
  rw [if_neg (by simp [h0]), if_neg (by omega)]
  by_cases h : 1000000 < neededAll s l row
  · exact .inr ⟨by rw [if_pos h], by rw [if_neg (by omega)], h⟩
  · exact .inl ⟨by rw [if_neg h], by rw [if_pos ⟨h0, l0, l1, by omega⟩], hb.1, by omega⟩
theorem need_mono {row : List Mt} (hok : row.all okM = true) {l m : Int} (l0 : 0 ≤ l) (h : l ≤ m) (s : Bool) (hm : neededAll s m row ≤ 1000000) : neededAll s l row ≤ neededAll s m row := by
  have hb := neededAll_bd s (Int.le_trans l0 h) row hok
  have := (neededAll_iff s (Int.le_trans l0 h) row hok hb.1 hm).2 (Int.le_refl _)
  exact (neededAll_iff s l0 row hok hb.1 hm).1 (Int.le_trans h this)
theorem need_sure {row : List Mt} (hok : row.all okM = true) {l : Int} (l0 : 0 ≤ l) (hm : neededAll true l row ≤ 1000000) : neededAll false l row ≤ neededAll true l row := by
  have hb := neededAll_bd true l0 row hok
  have := (neededAll_iff true l0 row hok hb.1 hm).2 (Int.le_refl _)
  exact (neededAll_iff false l0 row hok hb.1 hm).1 (Int.le_trans this (chain_le row hok hb.1 (Int.le_refl _) hm))
end Go.Proofs.Ytdcglphekafpdaa
