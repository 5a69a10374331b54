/- Texts of the proof, laid together by program. -/
import Derived.Test.YtolghmhodaphfaaMc
import Derived.Test.YtolghmhodaphfaaMa
import Derived.RangeFuncNested
import Derived.Lib.SliceRun
import Derived.Shelf.Abstract
/- Walks: the first place of a number, the errors of pans and of an amount. -/
namespace Go.Proofs.Ytolghmhodaphfaa
open Go.RowKit
/-- The first place where a test holds; -1: it holds nowhere. -/
def FirstAt (q : Int → Bool) (l : List Int) (z : Int) : Prop := (∃ k : Nat, z = k ∧ (∃ x, l[k]? = some x ∧ q x = true) ∧ (l.take k).all (fun x => !q x) = true) ∨ (z = -1 ∧ l.all (fun x => !q x) = true)
set_option maxHeartbeats 400000 in
theorem index_any (A : Option Addr) (n c : Nat) (l : List Int) (v : Int) (w : World) (hl : InS w w.heap.size A n l) (hn : n ≤ 1000) :
    Calls Try.prog 79 #[.slice A n c, .int .i64 v] w fun e w' => ∃ z : Int, e = .returned (.int .i64 z) ∧ FirstAt (fun x => v == x) l z ∧ Below w.heap.size w w' := by
  have hlen := hid hl.len
  go_enter Try.func79, Try.ntmps79
  go_wp2
  go_loop [8] (fun i => ∃ k : Nat, k ≤ n ∧ i = .int .i64 k ∧ Hid ((l.take k).all (fun x => !(v == x)) = true)) (fun i => n - (intOf i).toNat)
  case atStart => exact ⟨0, by omega, rfl, rfl⟩
  case round =>
    obtain ⟨k, hk, rfl, hall⟩ := hrel
    by_cases hlt : k < n
    · obtain ⟨b, off, x, rfl, hb, hm, c0⟩ := hl.at_ hlt
      have Hm := hid hm
      clear hm
      cases hx : (v == x)
      · have Hx := hid hx
        go_wp2
        exact ⟨⟨k + 1, by omega, by go_num, all_take_succ hall.out Hm.out (by rw [Hx.out]; rfl)⟩, by simp [intOf]; omega⟩
      · have Hx := hid hx
        go_wp2
        go_ret
        exact ⟨k, rfl, .inl ⟨k, rfl, ⟨x, Hm.out, Hx.out⟩, hall.out⟩, Below.refl _ _⟩
    · have hfin : Hid (l.all (fun x => !(v == x)) = true) := by have := hall.out; rwa [List.take_of_length_le (by rw [hlen.out]; omega)] at this
      go_wp2
      go_ret
      exact ⟨-1, rfl, .inr ⟨rfl, hfin.out⟩, Below.refl _ _⟩
def ofE (p a most : Int) : Int := if inR 1 2 p = false then 2 else if inR 1 most a = false then 3 else 0
set_option maxHeartbeats 400000 in
theorem of_any (p a most : Int) (w : World) : Calls Try.prog 86 #[.int .i64 p, .int .i64 a, .int .i64 most] w fun e w' => e = .returned (.int .i64 (ofE p a most)) ∧ Below w.heap.size w w' := by
  cases hp : inR 1 2 p
  · have he : Hid (ofE p a most = 2) := hid (by unfold ofE; rw [if_pos hp])
    have Hp := hid ((all_one (x := p) (lo := 1) (hi := 2)).trans hp)
    clear hp
    go_enter Try.func86, Try.ntmps86
    go_wp2_with (first | (go_at_call 66; refine (within_any _ _ _ [p] 1 2 _ (inS_lit1 _ (by first | (simp; done) | (simp; omega) | omega) (by first | (simp; done) | (simp; omega) | omega)) (by omega)).mono ?_; rw [Hp.out]; rintro e w1 ⟨rfl, hb1⟩))
    go_ret
    exact ⟨by rw [he.out]; rfl, Below.trans (by repeat' (first | with_reducible assumption | with_reducible exact Below.refl _ _ | refine Below.alloc ?_ ?_ _ | refine Below.setCell ?_ ?_ _ | refine Below.drew ?_ | refine below_drewN ?_ _ | (simp; done) | (simp; omega) | omega)) (hb1.mono (by first | (simp; done) | (simp; omega) | omega))⟩
  · cases ha : inR 1 most a
    all_goals
      have he : Hid (ofE p a most = bif inR 1 most a then 0 else 3) := hid (by unfold ofE; rw [if_neg (by simp [hp])]; cases inR 1 most a <;> rfl)
      rw [ha] at he
      have Hp := hid ((all_one (x := p) (lo := 1) (hi := 2)).trans hp)
      have Ha := hid ((all_one (x := a) (lo := 1) (hi := most)).trans ha)
      clear hp ha
      go_enter Try.func86, Try.ntmps86
      go_wp2_with (first | (have hq := hb1; clear hq; go_at_call 66; refine (within_any _ _ _ [a] 1 most _ (inS_lit1 _ (by first | (simp; done) | (simp; omega) | omega) (by first | (simp; done) | (simp; omega) | omega)) (by omega)).mono ?_; rw [Ha.out]; rintro e w2 ⟨rfl, hb2⟩; have hbel2 : Below w.heap.size w w2 := Below.trans (Below.alloc hbel hsz _) (hb2.mono (by first | (simp; done) | (simp; omega) | omega))) | (go_at_call 66; refine (within_any _ _ _ [p] 1 2 _ (inS_lit1 _ (by first | (simp; done) | (simp; omega) | omega) (by first | (simp; done) | (simp; omega) | omega)) (by omega)).mono ?_; rw [Hp.out]; rintro e w1 ⟨rfl, hb1⟩; have hbel : Below w.heap.size w w1 := Below.trans (by repeat' (first | with_reducible assumption | with_reducible exact Below.refl _ _ | refine Below.alloc ?_ ?_ _ | refine Below.setCell ?_ ?_ _ | refine Below.drew ?_ | refine below_drewN ?_ _ | (simp; done) | (simp; omega) | omega)) (hb1.mono (by first | (simp; done) | (simp; omega) | omega)); have hsz := hbel.size))
      go_ret
      exact ⟨by rw [he.out]; rfl, hbel2⟩
set_option maxHeartbeats 400000 in
theorem summed_any (p a : Int) (w : World) : Calls Try.prog 88 #[.int .i64 p, .int .i64 a] w fun e w' => e = .returned (.int .i64 (ofE p a 60)) ∧ Below w.heap.size w w' := by
  have he : Hid (ofE p a 60 = if (p < 1 ∨ 2 < p) then 2 else if (a < 1 ∨ 60 < a) then 3 else 0) := hid (by unfold ofE; simp only [inR_f])
  by_cases h0 : p = 1 ∨ p = 2
  · cases d3 : decide (a < 1)
    · cases d4 : decide (60 < a)
      all_goals
        have e4 := d4
        have e3 := of_decide_eq_false d3
        simp only [decide_eq_false_iff_not, decide_eq_true_eq] at e4
        have hf : Hid (ofE p a 60 = bif decide (60 < a) then 3 else 0) := hid (by rw [he.out, if_neg (by omega), d4]; first | exact if_pos (by omega) | exact if_neg (by omega))
        rw [d4] at hf
        clear he e3 e4
        rcases h0 with rfl | rfl
        all_goals
          go_enter Try.func88, Try.ntmps88
          go_wp2
          go_ret
          exact ⟨by rw [hf.out]; rfl, Below.refl _ _⟩
    · have e3 := of_decide_eq_true d3
      have hf : Hid (ofE p a 60 = 3) := hid (by rw [he.out, if_neg (by omega), if_pos (by omega)])
      clear he e3
      rcases h0 with rfl | rfl
      all_goals
        go_enter Try.func88, Try.ntmps88
        go_wp2
        go_ret
        exact ⟨by rw [hf.out]; rfl, Below.refl _ _⟩
  · have hf : Hid (ofE p a 60 = 2) := hid (by rw [he.out, if_pos (by omega)])
    have d1 : (p != 1) = true := by simp; omega
    have d2 : (p != 2) = true := by simp; omega
    clear he h0
    go_enter Try.func88, Try.ntmps88
    go_wp2
    go_ret
    exact ⟨by rw [hf.out]; rfl, Below.refl _ _⟩
end Go.Proofs.Ytolghmhodaphfaa
/- Walks: the first number that is not 1. -/
namespace Go.Proofs.Ytolghmhodaphfaa
open Go.RowKit
theorem pclo_any (x : Int) (w : World) : Calls Try.prog 85 #[.int .i64 x] w fun e w' => e = .returned (.bool (x != 1)) ∧ w = w' := by
  go_enter Try.func85, Try.ntmps85
  go_wp2
  go_ret
  exact ⟨rfl, rfl⟩
set_option maxHeartbeats 400000 in
theorem idxP_any (A : Option Addr) (n c : Nat) (l : List Int) (w : World) (hl : InS w w.heap.size A n l) (hn : n ≤ 1000) :
    Calls Try.prog 84 #[.slice A n c, .func (.func 85) #[] #[]] w fun e w' => ∃ z : Int, e = .returned (.int .i64 z) ∧ FirstAt (fun x => x != 1) l z ∧ Below w.heap.size w w' := by
  have hlen := hid hl.len
  go_enter Try.func84, Try.ntmps84
  go_wp2
  go_loop [8] (fun i => ∃ k : Nat, k ≤ n ∧ i = .int .i64 k ∧ Hid ((l.take k).all (fun x => !(x != 1)) = true)) (fun i => n - (intOf i).toNat)
  case atStart => exact ⟨0, by omega, rfl, rfl⟩
  case round =>
    obtain ⟨k, hk, rfl, hall⟩ := hrel
    by_cases hlt : k < n
    · obtain ⟨b, off, x, rfl, hb, hm, c0⟩ := hl.at_ hlt
      have Hm := hid hm
      clear hm
      cases hx : (x != 1)
      · have Hx := hid hx
        clear hx
        go_wp2_with (first | (go_at_call 85; refine (pclo_any x _).mono ?_; rw [Hx.out]; rintro e w1 ⟨rfl, rfl⟩))
        exact ⟨⟨k + 1, by omega, by go_num, all_take_succ hall.out Hm.out (by rw [Hx.out]; rfl)⟩, by simp [intOf]; omega⟩
      · have Hx := hid hx
        clear hx
        go_wp2_with (first | (go_at_call 85; refine (pclo_any x _).mono ?_; rw [Hx.out]; rintro e w1 ⟨rfl, rfl⟩))
        go_ret
        exact ⟨k, rfl, .inl ⟨k, rfl, ⟨x, Hm.out, Hx.out⟩, hall.out⟩, Below.refl _ _⟩
    · have hfin : Hid (l.all (fun x => !(x != 1)) = true) := by have := hall.out; rwa [List.take_of_length_le (by rw [hlen.out]; omega)] at this
      go_wp2
      go_ret
      exact ⟨-1, rfl, .inr ⟨rfl, hfin.out⟩, Below.refl _ _⟩
end Go.Proofs.Ytolghmhodaphfaa
/- Words over what a range-func keeps. Over any program. -/
namespace Go.Proofs.Ytolghmhodaphfaa
open Go.RowKit
theorem KpG.ownk {n₀ : Nat} {G : Nat → Prop} {A X Y : World} {row : Option Nat} (h : KpG n₀ G A X) (hg : X.grownBy Y row) (hr : ∀ r, row = some r → n₀ ≤ r) (hn : n₀ ≤ A.heap.size) : KpG n₀ G A Y :=
  ⟨Nat.le_trans h.1 hg.size, fun k hk hG => (hg.block k (by have := h.1; omega) (fun e => by have := hr k e.symm; omega)).trans (h.2 k hk hG)⟩
theorem KpG.blk {n₀ : Nat} {G : Nat → Prop} {A W : World} {g t : Nat} {cs : Array Value} (h : KpG n₀ G A W) (hb : Blk A g t cs) (hg : g < n₀) (hG : ¬ G g) : Blk W g t cs := (h.2 g hg hG).trans hb
theorem KpG.sl {n₀ : Nat} {G : Nat → Prop} {A W : World} {B s n : Nat} {a : Option Addr} {xs : List Value} (h : KpG n₀ G A W) (hs : Sl A B s a n xs) (hB : B ≤ n₀) (hG : ∀ k, k < B → ¬ G k) : Sl W B s a n xs :=
  hs.keep fun p hp => h.cell (by omega) (hG _ hp)
/-! Marks that a loop's rounds leave, each by a range over a function of its own. -/
def Marks (B M : Nat) (W : World) (ds : List Deferred) : Prop := ∃ Ds : List Nat, ds = Ds.map markOf ∧ Ds.Nodup ∧ ∀ D ∈ Ds, B ≤ D ∧ D < M ∧ W.heap[D]? = some (.deferred (some []))
theorem Marks.nil (B M : Nat) (W : World) : Marks B M W [] := ⟨[], rfl, List.nodup_nil, fun _ h => by cases h⟩
theorem Marks.step {B M M' : Nat} {W W' : World} {ds : List Deferred} (h : Marks B M W ds) (hM : M ≤ M') (hk : ∀ D, D < M → W.heap[D]? = some (.deferred (some [])) → W'.heap[D]? = some (.deferred (some []))) : Marks B M' W' ds := by
  obtain ⟨Ds, rfl, h1, h2⟩ := h
  exact ⟨Ds, rfl, h1, fun D hD => ⟨(h2 D hD).1, Nat.lt_of_lt_of_le (h2 D hD).2.1 hM, hk D (h2 D hD).2.1 (h2 D hD).2.2⟩⟩
theorem Marks.below {B M M' : Nat} {W W' : World} {ds : List Deferred} (h : Marks B M W ds) (hb : Below M W W') (hM : M ≤ M') : Marks B M' W' ds := h.step hM fun D hD h0 => (hb.block D hD).trans h0
theorem Marks.kp {B M n₀ : Nat} {G : Nat → Prop} {W W' : World} {ds : List Deferred} (h : Marks B M W ds) (hk : KpG n₀ G W W') (hM : M ≤ n₀) (hG : ∀ D, D < M → W.heap[D]? = some (.deferred (some [])) → ¬ G D) : Marks B M W' ds := h.step (Nat.le_refl _) fun D hD h0 => (hk.2 D (by omega) (hG D hD h0)).trans h0
theorem Marks.setCell {B M g t : Nat} {o : Nat} {cs : Array Value} {W : World} {ds : List Deferred} (h : Marks B M W ds) (hb : Blk W g t cs) (u : Value) : Marks B M (W.setCell ⟨g, o, none⟩ u) ds := h.step (Nat.le_refl _) fun D _ h0 =>
  (Below.heap_setCell _ _ _ _ (fun e => by simp at e; subst e; unfold Blk at hb; rw [hb] at h0; cases h0)).trans h0
theorem Marks.push {B M D : Nat} {W : World} {ds : List Deferred} (h : Marks B M W ds) (hB : B ≤ D) (hM : M ≤ D) (hD : W.heap[D]? = some (.deferred (some []))) : Marks B (D + 1) W ({ target := .collected D, args := #[] } :: ds) := by
  obtain ⟨Ds, rfl, h1, h2⟩ := h
  refine ⟨D :: Ds, rfl, List.nodup_cons.2 ⟨fun hm => by have := (h2 D hm).2.1; omega, h1⟩, fun D' hD' => ?_⟩
  rcases List.mem_cons.1 hD' with rfl | hm
  · exact ⟨hB, by omega, hD⟩
  · have := h2 D' hm
    exact ⟨this.1, by omega, this.2.2⟩
theorem Marks.leaves {B M : Nat} {P : Program} {n : Nat} {fn : Func} {tmps : Array Value} {R : Ending → World → Prop} {W : World} {ds : List Deferred} (h : Marks B M W ds)
    (hR : ∀ Ds w', (∀ D ∈ Ds, B ≤ D) → Off Ds W w' → ∃ v, (results fn tmps).run P w' = .ok v w' ∧ R (.returned v) w') : LeavesInM (Wd none) n P fn tmps R ds .returning W := by
  obtain ⟨Ds, rfl, h1, h2⟩ := h
  exact leavesM_marks Ds W h1 (fun D hD => (h2 D hD).2.2) (fun w' ho => hR Ds w' (fun D hD => (h2 D hD).1) ho)
end Go.Proofs.Ytolghmhodaphfaa
/- Plain law of the table of ways, by a list of numbers that are over. No program in sight. -/
namespace Go.Proofs.Ytolghmhodaphfaa
def accL (f : Int → Int) (wt : Int) (l : List Int) (x : Int) : Int := (l.map fun n => f (x - n * wt)).sum
theorem accL_nil (f : Int → Int) (wt x : Int) : accL f wt [] x = 0 := rfl
theorem accL_snoc (f : Int → Int) (wt : Int) (l : List Int) (n x : Int) : accL f wt (l ++ [n]) x = accL f wt l x + f (x - n * wt) := by unfold accL; rw [List.map_append, List.sum_append]; simp
theorem accL_le {f : Int → Int} {B wt : Int} (h : ∀ x, f x ≤ B) (x : Int) : ∀ l : List Int, accL f wt l x ≤ l.length * B
  | [] => by rw [accL_nil]; simp
  | n :: l => by
    have h1 := accL_le h x (wt := wt) l
    have h2 := h (x - n * wt)
    have e : accL f wt (n :: l) x = f (x - n * wt) + accL f wt l x := by unfold accL; simp
    rw [e, List.length_cons, Int.natCast_succ, Int.add_mul]; omega
theorem accL_nonneg {f : Int → Int} {wt : Int} (h : ∀ x, 0 ≤ f x) (x : Int) : ∀ l : List Int, 0 ≤ accL f wt l x
  | [] => by rw [accL_nil]; omega
  | n :: l => by
    have h1 := accL_nonneg h x (wt := wt) l
    have h2 := h (x - n * wt)
    have e : accL f wt (n :: l) x = f (x - n * wt) + accL f wt l x := by unfold accL; simp
    rw [e]; omega
theorem accL_all {p : Int} {ks : List Kd} {i : Nat} {m : Kd} (h : ks[i]? = some m) (x : Int) : accL (ways p (ks.take i)) m.wt ((List.range (m.many - leastK p m + 1).toNat).map fun j : Nat => leastK p m + j) x = ways p (ks.take (i + 1)) x := by
  rw [← accW_all h x]
  unfold accL accW
  rw [List.map_map]; rfl
/-- One cell of the next table while number n is under way and the amounts (places) below a are over. -/
def cellL (f : Int → Int) (wt most : Int) (l : List Int) (n a t : Int) : Int := accL f wt l (t - most) + if 0 ≤ t - n * wt ∧ t - n * wt < a then f (t - n * wt - most) else 0
theorem cellL_zero (f : Int → Int) (wt most : Int) (l : List Int) (n t : Int) : cellL f wt most l n 0 t = accL f wt l (t - most) := by unfold cellL; rw [if_neg (by omega)]; omega
theorem cellL_full {f : Int → Int} {wt most : Int} {l : List Int} {n t : Int} (hf : ∀ x, (x < -most ∨ most < x) → f x = 0) : cellL f wt most l n (2 * most + 1) t = accL f wt (l ++ [n]) (t - most) := by
  unfold cellL
  rw [accL_snoc]
  have e : t - n * wt - most = t - most - n * wt := by omega
  split
  · rw [e]
  · rw [hf (t - most - n * wt) (by omega)]
theorem cellL_step {f : Int → Int} {wt most : Int} {l : List Int} {n a t : Int} (ha : 0 ≤ a) : cellL f wt most l n (a + 1) t = cellL f wt most l n a t + if t = a + n * wt then f (a - most) else 0 := by
  unfold cellL
  generalize n * wt = s
  by_cases h : t = a + s
  · subst h
    have e : a + s - s = a := by omega
    rw [if_pos (by omega), if_neg (by omega), if_pos rfl, e]; omega
  · rw [if_neg h]
    by_cases h2 : 0 ≤ t - s ∧ t - s < a
    · rw [if_pos h2, if_pos (by omega)]; omega
    · rw [if_neg h2, if_neg (by omega)]; omega
theorem cellL_same {f : Int → Int} {wt most : Int} {l : List Int} {n a t : Int} (ha : 0 ≤ a) (h : f (a - most) = 0) : cellL f wt most l n (a + 1) t = cellL f wt most l n a t := by rw [cellL_step ha, h]; split <;> omega
theorem cellL_out {f : Int → Int} {wt most : Int} {l : List Int} {n a t : Int} (ha : 0 ≤ a) (h : t ≠ a + n * wt) : cellL f wt most l n (a + 1) t = cellL f wt most l n a t := by rw [cellL_step ha, if_neg h]; omega
theorem cellL_bd {f : Int → Int} {B wt most : Int} {l : List Int} {n a t : Int} (h0 : ∀ x, 0 ≤ f x) (h1 : ∀ x, f x ≤ B) (hB : 0 ≤ B) : 0 ≤ cellL f wt most l n a t ∧ cellL f wt most l n a t ≤ (l.length + 1) * B := by
  unfold cellL
  have h2 := accL_le h1 (t - most) (wt := wt) l
  have h3 := accL_nonneg h0 (t - most) (wt := wt) l
  have h4 := h0 (t - n * wt - most)
  have h5 := h1 (t - n * wt - most)
  rw [Int.add_mul]
  split <;> omega
end Go.Proofs.Ytolghmhodaphfaa
/- Walks: the table of ways. -/
namespace Go.Proofs.Ytolghmhodaphfaa
open Go.RowKit Go.Shelf
attribute [local go_sem] Oper.semAt_some
theorem zero2 : ∀ w, (zeroValue 2).run Try.prog w = .ok (.int .i64 0) w := fun w => by go_simp
theorem row0_list (n : Nat) : (rowOf n fun _ => 0).flatMap cI = List.replicate n (Value.int .i64 0) := by
  apply List.ext_getElem?
  intro j
  rw [flatI_get, List.getElem?_replicate]
  rcases Nat.lt_or_ge j n with h | h
  · rw [rowOf_at h, if_pos h]; rfl
  · rw [rowOf_far h, if_neg (by omega)]; rfl
theorem made_row (n : Nat) : madeCells #[.int .i64 0] n = ((rowOf n fun _ => 0).flatMap cI).toArray := by
  apply Array.toList_inj.1
  rw [toList_madeCells_one, row0_list]
theorem zero_row (n : Nat) : (Builtin.zeroCells #[.int .i64 0] n).toList = (rowOf n fun _ => 0).flatMap cI := by
  rw [row0_list, ← toList_madeCells_one]
  simp [Builtin.zeroCells, madeCells]
theorem flatI_set (l : List Int) (i : Nat) (v : Int) : (l.flatMap cI).set i (.int .i64 v) = (l.set i v).flatMap cI := by
  apply List.ext_getElem?
  intro j
  rw [flatI_get, List.getElem?_set, List.getElem?_set, flatI_len', flatI_get]
  by_cases h : i = j
  · rw [if_pos h, if_pos h]
    by_cases h2 : i < l.length
    · rw [if_pos h2, if_pos h2]; rfl
    · rw [if_neg h2, if_neg h2]; rfl
  · rw [if_neg h, if_neg h]
theorem row_set {L : Nat} {f g : Int → Int} {t : Nat} {v : Int} (h : ∀ s : Nat, s < L → g s = if s = t then v else f s) : (((rowOf L f).flatMap cI).toArray).setIfInBounds t (.int .i64 v) = ((rowOf L g).flatMap cI).toArray := by
  rw [List.setIfInBounds_toArray, flatI_set, rowOf_set h]
set_option maxRecDepth 100000 in
set_option maxHeartbeats 2000000 in
theorem ways_walk (w : World) (A : Option Addr) (g n c : Nat) (ks : List Kd) (p : Int) (hg : g < w.heap.size) (hsc : Sc w g (.slice A n c) p) (hk : KdS w w.heap.size A n ks) (hn : n ≤ 12) (h0 : checkSet ks = 0) (hp : p = 1 ∨ p = 2) :
    Calls Try.prog 76 #[.pointer (some ⟨g, 0, none⟩)] w fun e w' => (∃ B c', e = .returned (.slice (some B) ((sumOf ks).toNat + 1) c') ∧ InS w' w'.heap.size (some B) ((sumOf ks).toNat + 1) (rowOf ((sumOf ks).toNat + 1) (ways p ks))) ∧ Below w.heap.size w w' := by
  obtain ⟨h1, h2, h3, h4, h5⟩ := checkSet_good h0
  have hok0 := hid (fun k (hk : k ∈ ks) => List.all_eq_true.1 h3 k hk)
  have hsm := hid (fun k (hk : k ∈ ks) => smallK_of (List.all_eq_true.1 h3 k hk))
  have hs0 := sumOf_nonneg h3
  have sc0 := hsc.1
  have sc1 := hsc.2
  clear h1 h2 h3 h4
  (refine (callsIn_wide (n := 9)).1 ?_; refine callsIn_of_wp_marks (F := Wd none) Try.func76 rfl trivial ?_ rfl; simp only [Try.ntmps76, List.size_toArray, List.length_cons, List.length_nil, Nat.reduceAdd, Nat.reduceSub, Array.replicate_succ, Array.replicate_zero, List.push_toArray, List.append_toArray, List.nil_append, List.cons_append])
  gi_wp2_with (first | (gi_at_call 75; refine (calls_wd (sum_any _ A n c ks hk (by omega) hsm.out)).mono ?_; rintro e w1 ⟨rfl, hb1⟩; have hz1 := hb1.size))
  obtain ⟨S, hS⟩ : ∃ S : Nat, sumOf ks = S := ⟨(sumOf ks).toNat, by omega⟩
  have hSb : S ≤ 300 := by omega
  have hfar0 : Hid (∀ (k : Nat) (x : Int), (x < -(S : Int) ∨ (S : Int) < x) → ways p (ks.take k) x = 0) := hid (fun k x hx => by
    have h6 : (ks.take k).all okK = true := List.all_eq_true.2 fun y hy => hok0.out y (List.mem_of_mem_take hy)
    have h7 : sumOf (ks.take k) ≤ sumOf ks := by
      have e : sumOf ks = sumOf (ks.take k) + sumOf (ks.drop k) := by
        conv => lhs; rw [← List.take_append_drop k ks]
        unfold sumOf; rw [List.map_append, List.sum_append]
      have := sumOf_nonneg (ks := ks.drop k) (List.all_eq_true.2 fun y hy => hok0.out y (List.mem_of_mem_drop hy))
      omega
    have h8 := sumOf_nonneg h6
    exact ways_far hp h6 x (by rcases hp with rfl | rfl <;> omega))
  have hmk : ∀ w0 : World, (Instr.makeSlice 23 (.int .i64 (2 * (S : Int) + 1)) (.int .i64 (2 * (S : Int) + 1))).run Try.prog w0 = .ok (.slice (some ⟨w0.heap.size, 0, none⟩) (2 * (S : Int) + 1).toNat (2 * (S : Int) + 1).toNat) (w0.alloc (.cells (madeCells #[.int .i64 0] ((2 * (S : Int) + 1).toNat * 1)) 2)) := by
    intro w0
    have hso : (Try.prog.info? 2).isSome = true := by kernel_rfl
    obtain ⟨i, hi⟩ := Option.isSome_iff_exists.1 hso
    have hz : i.zero = some (.int .i64 0) ∧ i.size = 1 ∧ i.bytes = 8 := by
      have : (Try.prog.info? 2).map (fun i => (i.zero, i.size, i.bytes)) = some (some (.int .i64 0), 1, 8) := by kernel_rfl
      rw [hi] at this
      simpa using this
    have := run_makeSlice (P := Try.prog) (w := w0) 23 2 i (.int .i64 0) (by kernel_rfl) hi hz.1 .i64 .i64 (2 * (S : Int) + 1) (2 * (S : Int) + 1) (by omega) (Int.le_refl _) (by rw [hz.2.1]; omega) (by rw [hz.2.2]; omega) (by omega)
    rw [this, hz.2.1]
    rfl
  rw [hS]
  rw [hmk]
  gi_wp2
  rw [show (2 * (S : Int) + 1).toNat = 2 * S + 1 by omega]
  obtain ⟨cs, hcs⟩ : ∃ cs : Array Value, madeCells #[.int .i64 0] (2 * S + 1) = cs := ⟨_, rfl⟩
  rw [hcs]
  have B3 : Blk (((w1.alloc (.cells #[.int .i64 (S : Int)] 2)).alloc (.cells cs 2)).alloc (.cells #[.slice (some ⟨w1.heap.size + 1, 0, none⟩) (2 * S + 1) (2 * S + 1)] 23)) w1.heap.size 2 #[.int .i64 (S : Int)] := ((Blk.new' rfl).alloc _).alloc _
  have BR : Blk (((w1.alloc (.cells #[.int .i64 (S : Int)] 2)).alloc (.cells cs 2)).alloc (.cells #[.slice (some ⟨w1.heap.size + 1, 0, none⟩) (2 * S + 1) (2 * S + 1)] 23)) (w1.heap.size + 1) 2 cs := (Blk.new' (by first | (simp; done) | (simp; omega) | omega)).alloc _
  have B4 : Blk (((w1.alloc (.cells #[.int .i64 (S : Int)] 2)).alloc (.cells cs 2)).alloc (.cells #[.slice (some ⟨w1.heap.size + 1, 0, none⟩) (2 * S + 1) (2 * S + 1)] 23)) (w1.heap.size + 1 + 1) 23 #[.slice (some ⟨w1.heap.size + 1, 0, none⟩) (2 * S + 1) (2 * S + 1)] := Blk.new' (by first | (simp; done) | (simp; omega) | omega)
  generalize hW2 : ((w1.alloc (.cells #[.int .i64 (S : Int)] 2)).alloc (.cells cs 2)).alloc (.cells #[.slice (some ⟨w1.heap.size + 1, 0, none⟩) (2 * S + 1) (2 * S + 1)] 23) = W2 at *
  have hcl := run_clear_sz (P := Try.prog) W2 23 0 2 (.int .i64 0) (w1.heap.size + 1) 0 (2 * S + 1) (2 * S + 1) cs 2 (by kernel_rfl) (zero2 _) (by omega) BR cs.toList (by rw [← hcs, made_row]; exact zero_row _) (by simp) (by rw [← hcs, made_row]; exact one_flatI _)
  rw [show (cs.toList.take 0 ++ cs.toList ++ cs.toList.drop (0 + cs.toList.length)).toArray = cs by rw [List.drop_of_length_le (by simp)]; simp, clear_self BR] at hcl
  rw [hcl]
  have q3 := B3.cell 0
  have q4 := B4.cell 0
  have f4 := BR.frozen S
  have hlt3 := B3.lt
  have hltR := BR.lt
  have hlt4 := B4.lt
  have qR : W2.cell? ⟨w1.heap.size + 1, S, none⟩ = some (.int .i64 0) := by rw [BR.cell, ← hcs, made_row, List.getElem?_toArray, flatI_get, rowOf_at (by omega)]; rfl
  have hbel2 : Below w.heap.size w W2 := by rw [← hW2]; exact (by repeat' (first | with_reducible assumption | with_reducible exact Below.refl _ _ | refine Below.alloc ?_ ?_ _ | refine Below.setCell ?_ ?_ _ | refine Below.drew ?_ | refine below_drewN ?_ _ | (simp; done) | (simp; omega) | omega))
  have g0 : W2.cell? ⟨g, 0, none⟩ = some (.slice A n c) := ((bcell hbel2).1 _ _ hg).trans sc0
  have g1 : W2.cell? ⟨g, 1, none⟩ = some (.int .i64 p) := ((bcell hbel2).1 _ _ hg).trans sc1
  have hne : g ≠ w1.heap.size + 1 := by omega
  have hgW : g < W2.heap.size := by omega
  have HMK := hid hmk
  clear hW2 hcl hmk
  gi_wp2
  have hset := (BR.set_ S (.int .i64 1))
  refine wpIn_loop (fun a' wr => ∃ (ds : List Deferred) (u1 u2 u5 u6 u7 u8 u9 u10 u11 u12 u13 u14 u15 u16 u17 u18 u19 u20 u21 u22 u23 u24 u25 u26 u27 u28 u29 u32 u33 u34 u35 u36 u37 u38 u39 u40 u41 u42 u43 u44 u45 u46 u47 u48 u49 u50 u51 u52 u53 u54 u55 u56 u57 u58 u59 u60 u61 u62 u63 u64 u65 u66 u67 u68 u69 u70 u71 u72 u73 u74 u75 u76 u77 u78 u79 u80 u81 : Value), (∃ k : Nat, k ≤ n ∧ u32 = .int .i64 k ∧ Below w.heap.size w wr ∧ Marks w.heap.size wr.heap.size wr ds ∧ Blk wr w1.heap.size 2 #[.int .i64 (S : Int)] ∧ ∃ r, w1.heap.size < r ∧ r ≠ w1.heap.size + 1 + 1 ∧ Blk wr (w1.heap.size + 1 + 1) 23 #[.slice (some ⟨r, 0, none⟩) (2 * S + 1) (2 * S + 1)] ∧ Blk wr r 2 ((rowOf (2 * S + 1) fun t => ways p (ks.take k) (t - S)).flatMap cI).toArray) ∧ a' = { tmps := #[.pointer (some ⟨g, 0, none⟩), u1, u2, .pointer (some ⟨w1.heap.size, 0, none⟩), .pointer (some ⟨w1.heap.size + 1 + 1, 0, none⟩), u5, u6, u7, u8, u9, u10, u11, u12, u13, u14, u15, u16, u17, u18, u19, u20, u21, u22, u23, u24, u25, u26, u27, u28, u29, .slice A n c, .int .i64 n, u32, u33, u34, u35, u36, u37, u38, u39, u40, u41, u42, u43, u44, u45, u46, u47, u48, u49, u50, u51, u52, u53, u54, u55, u56, u57, u58, u59, u60, u61, u62, u63, u64, u65, u66, u67, u68, u69, u70, u71, u72, u73, u74, u75, u76, u77, u78, u79, u80, u81], defers := ds }) (fun a' wr => n - (intOf (a'.tmps.getD 32 undef)).toNat) ?_ ?_
  · (repeat apply Exists.intro); refine ⟨?_, rfl⟩
    refine ⟨0, by omega, rfl, Below.setCell hbel2 (by simp; omega) _, Marks.nil _ _ _, B3.far (by simp) _, w1.heap.size + 1, by omega, by omega, B4.far (by simp) _, ?_⟩
    have he : cs.setIfInBounds S (.int .i64 1) = ((rowOf (2 * S + 1) fun t => ways p (ks.take 0) (t - S)).flatMap cI).toArray := by
      rw [← hcs, made_row]
      refine row_set fun s hs => ?_
      simp only [List.take_zero, ways]
      by_cases e : s = S
      · rw [if_pos e, if_pos (by omega)]
      · rw [if_neg e, if_neg (by omega)]
    rw [← he]
    exact hset
  · intro _ wr hinv; obtain ⟨ds, hinv⟩ := hinv; obtain ⟨u1, hinv⟩ := hinv; obtain ⟨u2, hinv⟩ := hinv; obtain ⟨u5, hinv⟩ := hinv; obtain ⟨u6, hinv⟩ := hinv; obtain ⟨u7, hinv⟩ := hinv; obtain ⟨u8, hinv⟩ := hinv; obtain ⟨u9, hinv⟩ := hinv; obtain ⟨u10, hinv⟩ := hinv; obtain ⟨u11, hinv⟩ := hinv; obtain ⟨u12, hinv⟩ := hinv; obtain ⟨u13, hinv⟩ := hinv; obtain ⟨u14, hinv⟩ := hinv; obtain ⟨u15, hinv⟩ := hinv; obtain ⟨u16, hinv⟩ := hinv; obtain ⟨u17, hinv⟩ := hinv; obtain ⟨u18, hinv⟩ := hinv; obtain ⟨u19, hinv⟩ := hinv; obtain ⟨u20, hinv⟩ := hinv; obtain ⟨u21, hinv⟩ := hinv; obtain ⟨u22, hinv⟩ := hinv; obtain ⟨u23, hinv⟩ := hinv; obtain ⟨u24, hinv⟩ := hinv; obtain ⟨u25, hinv⟩ := hinv; obtain ⟨u26, hinv⟩ := hinv; obtain ⟨u27, hinv⟩ := hinv; obtain ⟨u28, hinv⟩ := hinv; obtain ⟨u29, hinv⟩ := hinv; obtain ⟨u32, hinv⟩ := hinv; obtain ⟨u33, hinv⟩ := hinv; obtain ⟨u34, hinv⟩ := hinv; obtain ⟨u35, hinv⟩ := hinv; obtain ⟨u36, hinv⟩ := hinv; obtain ⟨u37, hinv⟩ := hinv; obtain ⟨u38, hinv⟩ := hinv; obtain ⟨u39, hinv⟩ := hinv; obtain ⟨u40, hinv⟩ := hinv; obtain ⟨u41, hinv⟩ := hinv; obtain ⟨u42, hinv⟩ := hinv; obtain ⟨u43, hinv⟩ := hinv; obtain ⟨u44, hinv⟩ := hinv; obtain ⟨u45, hinv⟩ := hinv; obtain ⟨u46, hinv⟩ := hinv; obtain ⟨u47, hinv⟩ := hinv; obtain ⟨u48, hinv⟩ := hinv; obtain ⟨u49, hinv⟩ := hinv; obtain ⟨u50, hinv⟩ := hinv; obtain ⟨u51, hinv⟩ := hinv; obtain ⟨u52, hinv⟩ := hinv; obtain ⟨u53, hinv⟩ := hinv; obtain ⟨u54, hinv⟩ := hinv; obtain ⟨u55, hinv⟩ := hinv; obtain ⟨u56, hinv⟩ := hinv; obtain ⟨u57, hinv⟩ := hinv; obtain ⟨u58, hinv⟩ := hinv; obtain ⟨u59, hinv⟩ := hinv; obtain ⟨u60, hinv⟩ := hinv; obtain ⟨u61, hinv⟩ := hinv; obtain ⟨u62, hinv⟩ := hinv; obtain ⟨u63, hinv⟩ := hinv; obtain ⟨u64, hinv⟩ := hinv; obtain ⟨u65, hinv⟩ := hinv; obtain ⟨u66, hinv⟩ := hinv; obtain ⟨u67, hinv⟩ := hinv; obtain ⟨u68, hinv⟩ := hinv; obtain ⟨u69, hinv⟩ := hinv; obtain ⟨u70, hinv⟩ := hinv; obtain ⟨u71, hinv⟩ := hinv; obtain ⟨u72, hinv⟩ := hinv; obtain ⟨u73, hinv⟩ := hinv; obtain ⟨u74, hinv⟩ := hinv; obtain ⟨u75, hinv⟩ := hinv; obtain ⟨u76, hinv⟩ := hinv; obtain ⟨u77, hinv⟩ := hinv; obtain ⟨u78, hinv⟩ := hinv; obtain ⟨u79, hinv⟩ := hinv; obtain ⟨u80, hinv⟩ := hinv; obtain ⟨u81, hinv⟩ := hinv; obtain ⟨hrel, ha⟩ := hinv; subst ha; dsimp only
    obtain ⟨k, hk2, rfl, hbw, hmk, b3, r, hr1, hr2, b4, br⟩ := hrel
    have hszw := hbw.size
    by_cases hlt : k < n
    · obtain ⟨b, off, m, rfl, hb, hm, c0, c1⟩ := (hk.below hbw (Nat.le_refl _)).at_ hlt
      have q4' := b4.cell 0
      have Hm := hid hm
      have gg0 := ((bcell hbw).1 g 0 hg).trans sc0
      have gg1 := ((bcell hbw).1 g 1 hg).trans sc1
      have l4 := b4.lt
      have l3 := b3.lt
      have lr := br.lt
      have lg : g < wr.heap.size := by omega
      have lg1 : g < wr.heap.size + 1 := by omega
      have lg2 : g < wr.heap.size + 1 + 1 := by omega
      have hlti : (k : Int) < n := by omega
      gi_wp2
      rw [HMK.out]
      gi_wp2_with (first | (gi_at_call 94; refine (calls_wd (numbers_any _ _ _ _ _ _)).mono ?_; rintro e w4 ⟨rfl, hw4⟩))
      have hz4 : w4.heap.size = wr.heap.size + 5 := by rw [← hw4]; simp
      have hb4 : Below wr.heap.size wr w4 := by rw [← hw4]; exact (by repeat' (first | with_reducible assumption | with_reducible exact Below.refl _ _ | refine Below.alloc ?_ ?_ _ | refine Below.setCell ?_ ?_ _ | refine Below.drew ?_ | refine below_drewN ?_ _ | (simp; done) | (simp; omega) | omega))
      have K0 : Blk w4 wr.heap.size 61 #[.int .i64 m.wt, .int .i64 m.many] := by rw [← hw4]; exact ((((Blk.new' rfl).alloc _).alloc _).alloc _).alloc _
      have N0 : Blk w4 (wr.heap.size + 1) 2 cs := by rw [← hw4]; exact (((Blk.new' (by first | (simp; done) | (simp; omega) | omega)).alloc _).alloc _).alloc _
      have N7 : Blk w4 (wr.heap.size + 1 + 1) 23 #[.slice (some ⟨wr.heap.size + 1, 0, none⟩) (2 * S + 1) (2 * S + 1)] := by
        rw [← hw4]; exact ((Blk.new' (by first | (simp; done) | (simp; omega) | omega)).alloc _).alloc _
      have I0 : Blk w4 (wr.heap.size + 3) 76 #[.slice (some ⟨b, off, none⟩) n c, .int .i64 p] := by rw [← hw4]; exact (Blk.new' (by first | (simp; done) | (simp; omega) | omega)).alloc _
      have I1 : Blk w4 (wr.heap.size + 4) 3 #[.int .i64 (k : Int)] := by rw [← hw4]; exact Blk.new' (by first | (simp; done) | (simp; omega) | omega)
      replace b3 := b3.below hb4 l3
      replace b4 := b4.below hb4 l4
      replace br := br.below hb4 lr
      have hbw4 : Below w.heap.size w w4 := hbw.trans (hb4.mono hszw)
      have hkk : KdS w4 (wr.heap.size + 5) (some ⟨b, off, none⟩) n ks := (hk.below hbw4 (Nat.le_refl _)).more (by omega)
      have hok : okK m = true := hok0.out m (List.mem_of_getElem? Hm.out)
      have hf0 : ∀ x, 0 ≤ ways p (ks.take k) x := fun x => ways_nonneg p _ x
      have hf1 : ∀ x, ways p (ks.take k) x ≤ 1000000000000 := fun x => ways_valid h0 hp k x
      have hfar : ∀ x, (x < -(S : Int) ∨ (S : Int) < x) → ways p (ks.take k) x = 0 := hfar0.out k
      have hwt := okK_le hok
      generalize hf : ways p (ks.take k) = f at *
      clear hw4 hm q4' gg0 gg1 c0 c1 lg lg1 lg2 hset BR qR g0 g1 sc0 sc1 q3 q4 f4 B3 B4
      generalize hZ : wr.heap.size = Z at *
      refine with_frame fun T hT => ?_
      refine wpIn_rangeFunc_ownH (F := Wd none) (n := 9) rfl (by omega) (gf := 98) (lb := #[.pointer (some ⟨Z + 3, 0, none⟩), .pointer (some ⟨Z + 4, 0, none⟩)]) (by rw [hT]; rfl) trivial (enters_of Try.func98 (by kernel_rfl) rfl)
        (nums_stops 8 (Z + 3) (Z + 4) (Z + 5) (fun q => q = Z + 1) (some ⟨b, off, none⟩) n c k ks p m Hm.out hok hp (by omega) (by omega) (by omega) (by omega) (fun b' off' e => by cases e; omega) w4 (by omega) (I0.cell 0) (I0.cell 1) (I1.cell 0) hkk)
        (fun h k => h.trans k) (KpG.putObj (by omega)) (Below.refl _ _) (fun _ => rfl)
        (fun pre W => Blk W (Z + 1) 2 ((rowOf (2 * S + 1) fun t => accL f m.wt (pre.map (·.1)) (t - S)).flatMap cI).toArray ∧ KpG (Z + 5) (fun q => q = Z + 1) w4 W ∧ Below w.heap.size w W)
        (fun c pre W => False)
        (fun s X Y rw_ hs hg hrow => ?hI) (fun c s X Y rw_ hs hg hrow => hs.elim) ⟨?h0, KpG.refl _ _ _, hbw4⟩
        (fun x a' W => a' = { tmps := (T.setIfInBounds 46 (.int .i64 x.1)).setIfInBounds 8 (.int .i64 x.1), defers := [] })
        (fun x a' s X Y rw_ hs hg hrow => hs) ?assign ?body ?done ?stop
      case hI =>
        obtain ⟨b0, hkp, hb⟩ := hs
        have hr' : ∀ r, rw_ = some r → ∃ o : Obj, X.heap[r]? = some o ∧ o.isCells = false := fun r e => (hrow r e).2
        exact ⟨b0.ownk hg hr', hkp.ownk hg (fun r e => by have := (hrow r e).1; omega) (by omega), Below.ownk hb hg hb.size (fun r e => by have := (hrow r e).1; omega)⟩
      case h0 =>
        rw [← hcs, made_row] at N0
        exact N0
      case assign =>
        rintro l pre x W K ⟨hb, hkp, hbl⟩ hK
        simp only [encN, hT]
        gi_wp2
        exact hK _ _ ((KeepsOthers.refl _).from _) (KpG.refl _ _ _) ⟨hb, hkp, hbl⟩ (by rw [hT]; rfl)
      case body =>
        rintro l pre x a' W hl _ ⟨hb, hkp, hbl⟩ rfl hlt
        have hzW : Z + 5 ≤ W.heap.size := by have := hkp.1; omega
        have hlen : pre.length < 601 := Nat.lt_of_lt_of_le hlt (numsN_le hp hok).2.2.2
        obtain ⟨x, hx1, hx2⟩ := x
        obtain ⟨sx, hsx⟩ : ∃ sx, x * m.wt = sx := ⟨_, rfl⟩
        have hsx1 : -90000 ≤ sx ∧ sx ≤ 90000 := by
          have a1 : x * m.wt ≤ 300 * m.wt := Int.mul_le_mul_of_nonneg_right hx2 (by omega)
          have a2 : -300 * m.wt ≤ x * m.wt := Int.mul_le_mul_of_nonneg_right hx1 (by omega)
          omega
        obtain ⟨pl, hpl⟩ : ∃ pl, pre.map (·.1) = pl := ⟨_, rfl⟩
        have hpll : pl.length < 601 := by rw [← hpl, List.length_map]; exact hlen
        rw [hpl] at hb
        have zm : IntKind.i64.wrap sx = sx := wrap_ok (by omega)
        have z2 : IntKind.i64.wrap (2 * (S : Int)) = 2 * S := wrap_ok (by omega)
        have q4 := (hkp.blk b4 (by omega) (by omega)).cell 0
        have lw4 : w1.heap.size + 1 + 1 < W.heap.size := by omega
        have Hf0 := hid hf0
        have Hf1 := hid hf1
        have Hfar := hid hfar
        have Hcs := hid hcs
        simp only [hT, List.setIfInBounds_toArray, List.set_cons_zero, List.set_cons_succ]
        clear hf0 hf1 hfar hcs hT hlt hlen hkk hf
        gi_wp2
        gi_loopw [49] (fun i wr => ∃ a : Nat, a ≤ 2 * S + 1 ∧ i = .int .i64 a ∧ Blk wr (Z + 1) 2 ((rowOf (2 * S + 1) fun t => cellL f m.wt S pl x a t).flatMap cI).toArray ∧ KpG (Z + 5) (fun q => q = Z + 1) w4 wr ∧ Below w.heap.size w wr ∧ KeepsFrom w4.heap.size W wr ∧ KpG (Z + 5) (fun q => q = Z + 1) W wr) (fun i _ => 2 * S + 1 - (intOf i).toNat)
        case atStart =>
          refine ⟨0, by omega, rfl, ?_, hkp, hbl, (KeepsOthers.refl _).from _, KpG.refl _ _ _⟩
          rw [rowOf_congr (f := fun t => cellL f m.wt S pl x ((0 : Nat) : Int) t) (g := fun t => accL f m.wt pl (t - S)) (fun t _ => by simpa using cellL_zero f m.wt (S : Int) pl x (t : Int))]
          exact hb
        case round =>
          obtain ⟨a, ha, rfl, hb', hkp', hbl', hkf, hkW⟩ := hrel
          by_cases hlt : a < 2 * S + 1
          · have hv := (hkp'.blk br (by omega) (by omega)).cell a
            rw [List.getElem?_toArray, flatI_get, rowOf_at hlt] at hv
            simp only [Option.map_some] at hv
            have hlti : (a : Int) < 2 * S + 1 := by omega
            obtain ⟨v, hve⟩ : ∃ v, f ((a : Int) - S) = v := ⟨_, rfl⟩
            have hv1 : 0 ≤ v ∧ v ≤ 1000000000000 := by have h1 := Hf0.out ((a : Int) - S); have h2 := Hf1.out ((a : Int) - S); omega
            rw [hve] at hv
            have q3 := (hkp'.blk b3 (by omega) (by omega)).cell 0
            have q7 := (hkp'.blk N7 (by omega) (by omega)).cell 0
            have qk := (hkp'.blk K0 (by omega) (by omega)).cell 0
            have hzwr : Z + 5 ≤ wr.heap.size := by have := hkp'.1; omega
            have Hve := hid hve
            clear hve
            cases hv0 : decide (0 < v)
            · have hvz : v = 0 := by have := of_decide_eq_false hv0; omega
              subst hvz
              gi_wp2
              (first | exact ⟨⟨a + 1, by omega, by go_num, by rw [rowOf_congr (f := fun t => cellL f m.wt S pl x ((a + 1 : Nat) : Int) t) (g := fun t => cellL f m.wt S pl x a t) (fun t _ => by simpa using cellL_same (t := (t : Int)) (Int.natCast_nonneg a) Hve.out)]; exact hb', hkp', hbl', hkf, hkW⟩, (by first | (simp [intOf]; omega) | (simp [intOf]; done))⟩ | (refine ⟨?_, ?_⟩; (focus ((repeat apply Exists.intro); refine ⟨?_, rfl⟩; exact ⟨a + 1, by omega, by go_num, by rw [rowOf_congr (f := fun t => cellL f m.wt S pl x ((a + 1 : Nat) : Int) t) (g := fun t => cellL f m.wt S pl x a t) (fun t _ => by simpa using cellL_same (t := (t : Int)) (Int.natCast_nonneg a) Hve.out)]; exact hb', hkp', hbl', hkf, hkW⟩)); (first | (simp [intOf]; omega) | (simp [intOf]; done))))
            · have hvp := of_decide_eq_true hv0
              by_cases hq : 0 ≤ (a : Int) + sx ∧ (a : Int) + sx ≤ 2 * S
              · obtain ⟨q, hq'⟩ : ∃ q : Nat, (a : Int) + sx = q := ⟨((a : Int) + sx).toNat, by omega⟩
                have za : IntKind.i64.wrap ((a : Int) + sx) = (q : Int) := by rw [hq']; exact wrap_ok (by omega)
                have Hin := hid ((all_one (x := (q : Int)) (lo := 0) (hi := 2 * S)).trans (inR_t.2 (by omega)))
                have hbs := cellL_bd (B := 1000000000000) (wt := m.wt) (most := S) (l := pl) (n := x) (a := a) (t := q) Hf0.out Hf1.out (by omega)
                have hc := hb'.cell q
                have hfz := hb'.frozen q
                rw [List.getElem?_toArray, flatI_get, rowOf_at (by omega)] at hc
                simp only [Option.map_some] at hc
                obtain ⟨cv, hcv⟩ : ∃ cv, cellL f m.wt S pl x a q = cv := ⟨_, rfl⟩
                rw [hcv] at hc hbs
                have hb2 : 0 ≤ cv ∧ cv ≤ 602000000000000 := by
                  obtain ⟨g1, g2⟩ := hbs
                  have : ((pl.length : Int) + 1) * 1000000000000 ≤ 602 * 1000000000000 := by omega
                  omega
                have zs : IntKind.i64.wrap (cv + v) = cv + v := wrap_ok (by omega)
                have Hcv := hid hcv
                have hlq : Z + 1 < wr.heap.size := by omega
                clear hbs hcv
                gi_wp2_with (first | (gi_at_call 66; refine (calls_wd (within_any _ _ _ [(q : Int)] 0 (2 * S) _ (inS_lit1 _ (by first | (simp; done) | (simp; omega) | omega) (by first | (simp; done) | (simp; omega) | omega)) (by omega))).mono ?_; rw [Hin.out]; rintro e w5 ⟨rfl, hb5⟩; have hb6 : Below wr.heap.size wr w5 := Below.trans (by repeat' (first | with_reducible assumption | with_reducible exact Below.refl _ _ | refine Below.alloc ?_ ?_ _ | refine Below.setCell ?_ ?_ _ | refine Below.drew ?_ | refine below_drewN ?_ _ | (simp; done) | (simp; omega) | omega)) (hb5.mono (by first | (simp; done) | (simp; omega) | omega)); have hz6 := hb6.size; have hb7 := hb'.below hb6 hlq; have r7 := ((bcell hb6).1 _ 0 (by omega : Z + 1 + 1 < wr.heap.size)).trans q7; have rc := ((bcell hb6).1 _ q (by omega : Z + 1 < wr.heap.size)).trans hc; have rf := ((bcell hb6).2 _ q (by omega : Z + 1 < wr.heap.size)).trans hfz))
                have hst : (((rowOf (2 * S + 1) fun t => cellL f m.wt S pl x a t).flatMap cI).toArray).setIfInBounds q (.int .i64 (cv + v)) = ((rowOf (2 * S + 1) fun t => cellL f m.wt S pl x ((a + 1 : Nat) : Int) t).flatMap cI).toArray := by
                  refine row_set fun s hs => ?_
                  have e := cellL_step (f := f) (wt := m.wt) (most := S) (l := pl) (n := x) (a := (a : Int)) (t := (s : Int)) (by omega)
                  rw [Int.natCast_add, Int.natCast_one, e, hsx, hq']
                  by_cases hsq : s = q
                  · subst hsq; rw [if_pos rfl, if_pos rfl, Hcv.out, Hve.out]
                  · rw [if_neg hsq, if_neg (by omega)]; omega
                have hb8 := hb7.set_ q (.int .i64 (cv + v))
                rw [hst] at hb8
                have hk9 : KpG (Z + 5) (fun q => q = Z + 1) wr (w5.setCell ⟨Z + 1, q, none⟩ (.int .i64 (cv + v))) := (KpG.of_below (hb6.mono hzwr)).trans (KpG.setCell _ (show (⟨Z + 1, q, none⟩ : Addr).block = Z + 1 from rfl) _)
                (first | exact ⟨⟨a + 1, by omega, by go_num, hb8, hkp'.trans hk9, (hbl'.trans (hb6.mono (by omega))).setCell (by simp; omega) _, hkf.trans ((keepsFrom_below hb6).trans ((KeepsOthers.setCell _ _ _).from _)), hkW.trans hk9⟩, (by first | (simp [intOf]; omega) | (simp [intOf]; done))⟩ | (refine ⟨?_, ?_⟩; (focus ((repeat apply Exists.intro); refine ⟨?_, rfl⟩; exact ⟨a + 1, by omega, by go_num, hb8, hkp'.trans hk9, (hbl'.trans (hb6.mono (by omega))).setCell (by simp; omega) _, hkf.trans ((keepsFrom_below hb6).trans ((KeepsOthers.setCell _ _ _).from _)), hkW.trans hk9⟩)); (first | (simp [intOf]; omega) | (simp [intOf]; done))))
              · have za : IntKind.i64.wrap ((a : Int) + sx) = (a : Int) + sx := wrap_ok (by omega)
                have hlq : Z + 1 < wr.heap.size := by omega
                have Hin := hid ((all_one (x := (a : Int) + sx) (lo := 0) (hi := 2 * S)).trans (inR_f.2 (by omega)))
                gi_wp2_with (first | (gi_at_call 66; refine (calls_wd (within_any _ _ _ [(a : Int) + sx] 0 (2 * S) _ (inS_lit1 _ (by first | (simp; done) | (simp; omega) | omega) (by first | (simp; done) | (simp; omega) | omega)) (by omega))).mono ?_; rw [Hin.out]; rintro e w5 ⟨rfl, hb5⟩; have hb6 : Below wr.heap.size wr w5 := Below.trans (by repeat' (first | with_reducible assumption | with_reducible exact Below.refl _ _ | refine Below.alloc ?_ ?_ _ | refine Below.setCell ?_ ?_ _ | refine Below.drew ?_ | refine below_drewN ?_ _ | (simp; done) | (simp; omega) | omega)) (hb5.mono (by first | (simp; done) | (simp; omega) | omega))))
                have hk9 : KpG (Z + 5) (fun q => q = Z + 1) wr w5 := KpG.of_below (hb6.mono hzwr)
                (first | exact ⟨⟨a + 1, by omega, by go_num, by rw [rowOf_congr (f := fun t => cellL f m.wt S pl x ((a + 1 : Nat) : Int) t) (g := fun t => cellL f m.wt S pl x a t) (fun t _ => by simpa using cellL_out (t := (t : Int)) (Int.natCast_nonneg a) (by rw [hsx]; omega))]; exact hb'.below hb6 hlq, hkp'.trans hk9, hbl'.trans (hb6.mono (by omega)), hkf.trans (keepsFrom_below hb6), hkW.trans hk9⟩, (by first | (simp [intOf]; omega) | (simp [intOf]; done))⟩ | (refine ⟨?_, ?_⟩; (focus ((repeat apply Exists.intro); refine ⟨?_, rfl⟩; exact ⟨a + 1, by omega, by go_num, by rw [rowOf_congr (f := fun t => cellL f m.wt S pl x ((a + 1 : Nat) : Int) t) (g := fun t => cellL f m.wt S pl x a t) (fun t _ => by simpa using cellL_out (t := (t : Int)) (Int.natCast_nonneg a) (by rw [hsx]; omega))]; exact hb'.below hb6 hlq, hkp'.trans hk9, hbl'.trans (hb6.mono (by omega)), hkf.trans (keepsFrom_below hb6), hkW.trans hk9⟩)); (first | (simp [intOf]; omega) | (simp [intOf]; done))))
          · have hge : ¬ (a : Int) < 2 * S + 1 := by omega
            have ea : a = 2 * S + 1 := by omega
            gi_wp2
            refine ⟨by rw [hz4] at hkf; exact hkf, hkW, ?_, hkp', hbl'⟩
            subst ea
            rw [rowOf_congr (g := fun t => accL f m.wt (pl ++ [x]) (t - S)) (fun t _ => by simpa using cellL_full (t := (t : Int)) Hfar.out)] at hb'
            rw [List.map_append, hpl]
            exact hb'
      case done =>
        rintro D ys W hD hys ⟨hb, hkp, hbl⟩ hK
        have hrow : (rowOf (2 * S + 1) fun t => accL f m.wt (ys.map (·.1)) (t - S)) = rowOf (2 * S + 1) fun t => ways p (ks.take (k + 1)) (t - S) := by
          refine rowOf_congr fun t _ => ?_
          have e : ys.map (·.1) = (List.range (m.many - leastK p m + 1).toNat).map fun j : Nat => leastK p m + j := by
            rw [hys]
            unfold upto
            rw [List.map_map]
            refine List.map_congr_left fun j hj => ?_
            exact numAt_v hp hok (List.mem_range.1 hj)
          rw [e, ← hf]
          exact accL_all Hm.out _
        rw [hrow] at hb
        have hm2 : Marks w.heap.size Z W ds := (hmk.below hb4 (Nat.le_refl _)).kp hkp (by omega) (fun D hD _ e => by omega)
        have hm3 := hm2.push (by omega : w.heap.size ≤ D) (by omega) hK
        have e3 := hkp.blk b3 (by omega) (by omega)
        have e4 := hkp.blk b4 (by omega) (by omega)
        have e7 := (hkp.blk N7 (by omega) (by omega)).cell 0
        have f4 := e4.frozen 0
        have r4 := e4.cell 0
        have hl4 := e4.lt
        have hDW : D < W.heap.size := (Array.getElem?_eq_some_iff.1 hK).1
        have hm4 := (hm3.setCell e4 (o := 0) (.slice (some ⟨Z + 1, 0, none⟩) (2 * S + 1) (2 * S + 1))).step (M' := (W.setCell ⟨w1.heap.size + 1 + 1, 0, none⟩ (.slice (some ⟨Z + 1, 0, none⟩) (2 * S + 1) (2 * S + 1))).heap.size) (by simp; omega) (fun _ _ h => h)
        have e5 := e4.set_ 0 (.slice (some ⟨Z + 1, 0, none⟩) (2 * S + 1) (2 * S + 1))
        have e6 := e3.far (p := ⟨w1.heap.size + 1 + 1, 0, none⟩) (by simp; omega) (.slice (some ⟨Z + 1, 0, none⟩) (2 * S + 1) (2 * S + 1))
        have hb2 := hb.far (p := ⟨w1.heap.size + 1 + 1, 0, none⟩) (by simp; omega) (.slice (some ⟨Z + 1, 0, none⟩) (2 * S + 1) (2 * S + 1))
        have hb3 := hbl.setCell (p := ⟨w1.heap.size + 1 + 1, 0, none⟩) (by simp; omega) (.slice (some ⟨Z + 1, 0, none⟩) (2 * S + 1) (2 * S + 1))
        simp only [hT]
        clear hys hrow hm2 hm3
        gi_wp2
        (first | exact ⟨⟨k + 1, by omega, by go_num, hb3, hm4, e6, Z + 1, by omega, by omega, e5, hb2⟩, (by first | (simp [intOf]; omega) | (simp [intOf]; done))⟩ | (refine ⟨?_, ?_⟩; (focus ((repeat apply Exists.intro); refine ⟨?_, rfl⟩; exact ⟨k + 1, by omega, by go_num, hb3, hm4, e6, Z + 1, by omega, by omega, e5, hb2⟩)); (first | (simp [intOf]; omega) | (simp [intOf]; done))))
      case stop =>
        rintro D c pre W hD _ h
        exact h.elim
    · obtain rfl : k = n := by omega
      have q3' := b3.cell 0
      have q4' := b4.cell 0
      gi_wp2
      have hlen := hk.len
      have hr3 := br.lt
      have hS2 : (sumOf ks).toNat = S := by omega
      refine hmk.leaves (fun Ds w' hDs ho => ⟨.slice (some ⟨r, S, none⟩) (2 * S + 1 - S) (2 * S + 1 - S), by simp [results, Try.results76, go_sem, *], ⟨⟨⟨r, S, none⟩, 2 * S + 1 - S, ?_, ?_⟩, ho.below hbw hDs⟩⟩)
      · rw [hS2, show 2 * S + 1 - S = S + 1 by omega]
      · rw [hS2]
        have br' : Blk w' r _ _ := ho.blk br
        refine ⟨by rw [flatI_len', rowOf_len, Nat.mul_one], fun _ => ⟨r, S, rfl, br'.lt, fun j u hu => ?_⟩⟩
        rw [br'.cell, List.getElem?_toArray, flatI_get]
        rw [flatI_get] at hu
        rcases Nat.lt_or_ge j (S + 1) with h | h
        · rw [rowOf_at h] at hu
          rw [rowOf_at (by omega), ← hu, List.take_of_length_le (by omega), show ((S + j : Nat) : Int) - S = j by omega]
        · rw [rowOf_far h] at hu; cases hu
end Go.Proofs.Ytolghmhodaphfaa
/- Walks: Ways, Gap, Upto, CheckPerfect. -/
namespace Go.Proofs.Ytolghmhodaphfaa
open Go.RowKit
attribute [local go_sem] Oper.semAt_some
/-- In how many ways each amount from 0 to the sum is weighed. -/
def rowW (p : Int) (ks : List Kd) : List Int := rowOf ((sumOf ks).toNat + 1) (ways p ks)
theorem rowW_len (p : Int) (ks : List Kd) : (rowW p ks).length = (sumOf ks).toNat + 1 := rowOf_len _ _
def firstI (q : Int → Bool) (l : List Int) : Int := match l.findIdx? q with | some k => (k : Int) | none => -1
theorem first_eq {q : Int → Bool} {l : List Int} {z : Int} (h : FirstAt q l z) : z = firstI q l := by
  unfold firstI
  rcases h with ⟨k, rfl, ⟨x, hx, hq⟩, hall⟩ | ⟨rfl, hall⟩
  · have hlt := (List.getElem?_eq_some_iff.1 hx).1
    have : l.findIdx? q = some k := by
      rw [List.findIdx?_eq_some_iff_getElem]
      refine ⟨hlt, ?_, fun j hj => ?_⟩
      · rw [(List.getElem?_eq_some_iff.1 hx).2]; exact hq
      · have := List.all_eq_true.1 hall l[j] (List.mem_take_iff_getElem.2 ⟨j, by omega, rfl⟩)
        simpa using this
    rw [this]
  · have : l.findIdx? q = none := by
      rw [List.findIdx?_eq_none_iff]
      intro x hx
      have := List.all_eq_true.1 hall x hx
      simpa using this
    rw [this]
def waysV (p : Int) (ks : List Kd) (a : Int) : Int := if askedE ks p a = 0 then ways p ks a else 0
set_option maxHeartbeats 400000 in
theorem ways_any (w : World) (A : Option Addr) (n c : Nat) (ks : List Kd) (p a : Int) (hk : KdS w w.heap.size A n ks) (hn : n ≤ 12) :
    Calls Try.prog 31 #[.slice A n c, .int .i64 p, .int .i64 a] w fun e w' => e = .returned (.tuple #[.int .i64 (waysV p ks a), .int .i64 (askedE ks p a)]) ∧ Below w.heap.size w w' := by
  cases he : (askedE ks p a != 0)
  · have he0 : askedE ks p a = 0 := by simpa using he
    obtain ⟨ho, ha0, ha1⟩ := askedE_zero he0
    obtain ⟨hs, hp⟩ := openE_zero ho
    obtain ⟨-, -, h3, -, h5⟩ := checkSet_good hs
    have hS0 := sumOf_nonneg h3
    have hE := hid he0
    obtain ⟨k, rfl⟩ : ∃ k : Nat, a = k := ⟨a.toNat, by omega⟩
    have hv : Hid (waysV p ks k = ways p ks k) := hid (if_pos he0)
    have HP := hid hp
    obtain ⟨S, hS⟩ : ∃ S : Nat, (sumOf ks).toNat = S := ⟨_, rfl⟩
    have hSb : S ≤ 300 := by omega
    have hfar : Hid (S < k → ways p ks k = 0) := hid (fun h => ways_far HP.out h3 _ (Or.inr (by omega)))
    have hs' := hid hs
    have HS := hid hS
    clear he he0 ho hs hp h3
    cases hlt : decide ((S : Int) + 1 ≤ k)
    · have hlt' := of_decide_eq_false hlt
      go_enter Try.func31, Try.ntmps31
      go_wp2_with (first | (go_at_call 80; refine (asked_ok _ A n c ks p _ hk hn hE.out).mono ?_; rintro e w1 ⟨g, rfl, hg1, hg2, hsc, hb1⟩; have hz1 := hb1.size) | (go_at_call 76; refine (ways_walk _ A g n c ks p hg2 hsc (hk.below hb1 hz1) hn hs'.out HP.out).mono ?_; rintro e w2 ⟨⟨B, c', rfl, hB⟩, hb2⟩; rw [HS.out] at hB ⊢; obtain ⟨b, off, x, hBe, hb, hm, c0⟩ := hB.at_ (k := k) (by omega); cases hBe; rw [rowOf_at (by omega)] at hm; cases hm))
      refine bodyPost_ret (v := .tuple #[.int .i64 (ways p ks k), .int .i64 0]) (by first | (simp [results, Try.results31, go_sem]; done) | (simp [results, Try.results31, go_sem, *]; done) | (simp [results, Try.results31, go_sem, World.cell?_setCell_same', *]; done) | (simp [results, Try.results31, go_sem]; first | exact ⟨rfl, rfl⟩ | rfl)) rfl ⟨by rw [hv.out, hE.out], hb1.trans (hb2.mono hz1)⟩
    · have hlt' := of_decide_eq_true hlt
      have hw0 := hid (hfar.out (by omega))
      go_enter Try.func31, Try.ntmps31
      go_wp2_with (first | (go_at_call 80; refine (asked_ok _ A n c ks p _ hk hn hE.out).mono ?_; rintro e w1 ⟨g, rfl, hg1, hg2, hsc, hb1⟩; have hz1 := hb1.size) | (go_at_call 76; refine (ways_walk _ A g n c ks p hg2 hsc (hk.below hb1 hz1) hn hs'.out HP.out).mono ?_; rintro e w2 ⟨⟨B, c', rfl, hB⟩, hb2⟩; rw [HS.out] at hB ⊢))
      refine bodyPost_ret (v := .tuple #[.int .i64 0, .int .i64 0]) (by first | (simp [results, Try.results31, go_sem]; done) | (simp [results, Try.results31, go_sem, *]; done) | (simp [results, Try.results31, go_sem, World.cell?_setCell_same', *]; done) | (simp [results, Try.results31, go_sem]; first | exact ⟨rfl, rfl⟩ | rfl)) rfl ⟨by rw [hv.out, hE.out, hw0.out], hb1.trans (hb2.mono hz1)⟩
  · have he0 : askedE ks p a ≠ 0 := by simpa using he
    have hv : Hid (waysV p ks a = 0) := hid (if_neg he0)
    have He := hid he
    go_enter Try.func31, Try.ntmps31
    go_wp2_with (first | (go_at_call 80; refine (asked_bad _ A n c ks p a hk hn he0).mono ?_; rintro e w1 ⟨rfl, hb1⟩))
    refine bodyPost_ret (v := .tuple #[.int .i64 0, .int .i64 (askedE ks p a)]) (by first | (simp [results, Try.results31, go_sem]; done) | (simp [results, Try.results31, go_sem, *]; done) | (simp [results, Try.results31, go_sem, World.cell?_setCell_same', *]; done) | (simp [results, Try.results31, go_sem]; first | exact ⟨rfl, rfl⟩ | rfl)) rfl ⟨by rw [hv.out], hb1⟩
def gapZ (p : Int) (ks : List Kd) : Int := firstI (fun x => 0 == x) (rowW p ks)
def gapV (p : Int) (ks : List Kd) : Int := if openE ks p = 0 ∧ 0 < gapZ p ks then gapZ p ks else 0
def gapE (p : Int) (ks : List Kd) : Int := if openE ks p ≠ 0 then openE ks p else if 0 < gapZ p ks then 0 else 5
set_option maxHeartbeats 400000 in
theorem gap_any (w : World) (A : Option Addr) (n c : Nat) (ks : List Kd) (p : Int) (hk : KdS w w.heap.size A n ks) (hn : n ≤ 12) :
    Calls Try.prog 28 #[.slice A n c, .int .i64 p] w fun e w' => e = .returned (.tuple #[.int .i64 (gapV p ks), .int .i64 (gapE p ks)]) ∧ Below w.heap.size w w' := by
  cases he : (openE ks p != 0)
  · have he0 : openE ks p = 0 := by simpa using he
    obtain ⟨hs, hp⟩ := openE_zero he0
    obtain ⟨-, -, h3, -, h5⟩ := checkSet_good hs
    have hS0 := sumOf_nonneg h3
    have hE := hid he0
    have HP := hid hp
    have hs' := hid hs
    obtain ⟨S, hS⟩ : ∃ S : Nat, (sumOf ks).toNat = S := ⟨_, rfl⟩
    have hSb : S ≤ 300 := by omega
    have HS := hid hS
    obtain ⟨z0, hz0⟩ : ∃ z0, gapZ p ks = z0 := ⟨_, rfl⟩
    have HZ := hid hz0
    cases hlt : decide (0 < z0)
    all_goals
      have hv : Hid (gapV p ks = bif decide (0 < z0) then z0 else 0) := hid (by unfold gapV; rw [hz0]; first | (rw [if_neg (by have := of_decide_eq_false hlt; omega), hlt]; rfl) | (rw [if_pos ⟨he0, of_decide_eq_true hlt⟩, hlt]; rfl))
      have hg : Hid (gapE p ks = bif decide (0 < z0) then 0 else 5) := hid (by unfold gapE; rw [hz0, if_neg (by omega)]; first | (rw [if_neg (by have := of_decide_eq_false hlt; omega), hlt]; rfl) | (rw [if_pos (of_decide_eq_true hlt), hlt]; rfl))
      rw [hlt] at hv hg
      have Hlt := hid hlt
      have hlt' := hlt
      simp only [decide_eq_false_iff_not, decide_eq_true_eq] at hlt'
      clear he he0 hs hp h3 hlt hz0
      go_enter Try.func28, Try.ntmps28
      go_wp2_with (first | (go_at_call 64; refine (open_ok _ A n c ks p hk hn hE.out).mono ?_; rintro e w1 ⟨g, rfl, hg1, hg2, hsc, hb1⟩; have hz1 := hb1.size) | (go_at_call 76; refine (ways_walk _ A g n c ks p hg2 hsc (hk.below hb1 hz1) hn hs'.out HP.out).mono ?_; rintro e w2 ⟨⟨B, c', rfl, hB⟩, hb2⟩; rw [HS.out] at hB ⊢; have hz2 := hb2.size) | (go_at_call 79; refine (index_any _ _ _ _ 0 _ hB (by omega)).mono ?_; rintro e w3 ⟨z, rfl, hz, hb3⟩; obtain rfl : z = z0 := (first_eq hz).trans (by rw [← HZ.out, ← HS.out]; rfl); have hz3 := hid hz; clear hz))
      first
        | refine bodyPost_ret (v := .tuple #[.int .i64 z, .int .i64 0]) (by first | (simp [results, Try.results28, go_sem]; done) | (simp [results, Try.results28, go_sem, *]; done)) rfl ⟨by rw [hv.out, hg.out]; rfl, hb1.trans ((hb2.mono hz1).trans (hb3.mono (by omega)))⟩
        | refine bodyPost_ret (v := .tuple #[.int .i64 0, .int .i64 5]) (by first | (simp [results, Try.results28, go_sem]; done) | (simp [results, Try.results28, go_sem, *]; done)) rfl ⟨by rw [hv.out, hg.out]; rfl, hb1.trans ((hb2.mono hz1).trans (hb3.mono (by omega)))⟩
  · have he0 : openE ks p ≠ 0 := by simpa using he
    have hv : Hid (gapV p ks = 0) := hid (if_neg (fun h => he0 h.1))
    have hg : Hid (gapE p ks = openE ks p) := hid (if_pos he0)
    go_enter Try.func28, Try.ntmps28
    go_wp2_with (first | (go_at_call 64; refine (open_bad _ A n c ks p hk hn he0).mono ?_; rintro e w1 ⟨rfl, hb1⟩))
    refine bodyPost_ret (v := .tuple #[.int .i64 0, .int .i64 (openE ks p)]) (by first | (simp [results, Try.results28, go_sem]; done) | (simp [results, Try.results28, go_sem, *]; done) | (simp [results, Try.results28, go_sem, World.cell?_setCell_same', *]; done) | (simp [results, Try.results28, go_sem]; first | exact ⟨rfl, rfl⟩ | rfl)) rfl ⟨by rw [hv.out, hg.out], hb1⟩
def perfZ (p : Int) (ks : List Kd) : Int := firstI (fun x => x != 1) (rowW p ks)
def perfV (p : Int) (ks : List Kd) : Int := if openE ks p ≠ 0 then 0 else if 0 ≤ perfZ p ks then perfZ p ks else sumOf ks
def perfE (p : Int) (ks : List Kd) : Int := if openE ks p ≠ 0 then openE ks p else if 0 ≤ perfZ p ks then 24 else 0
set_option maxHeartbeats 400000 in
theorem perfect_any (w : World) (A : Option Addr) (n c : Nat) (ks : List Kd) (p : Int) (hk : KdS w w.heap.size A n ks) (hn : n ≤ 12) :
    Calls Try.prog 37 #[.slice A n c, .int .i64 p] w fun e w' => e = .returned (.tuple #[.int .i64 (perfV p ks), .int .i64 (perfE p ks)]) ∧ Below w.heap.size w w' := by
  cases he : (openE ks p != 0)
  · have he0 : openE ks p = 0 := by simpa using he
    obtain ⟨hs, hp⟩ := openE_zero he0
    obtain ⟨-, -, h3, -, h5⟩ := checkSet_good hs
    have hS0 := sumOf_nonneg h3
    have hE := hid he0
    have HP := hid hp
    have hs' := hid hs
    have hsm := hid (fun k (hk : k ∈ ks) => smallK_of (List.all_eq_true.1 h3 k hk))
    obtain ⟨S, hS⟩ : ∃ S : Nat, (sumOf ks).toNat = S := ⟨_, rfl⟩
    have hSb : S ≤ 300 := by omega
    have HS := hid hS
    obtain ⟨z0, hz0⟩ : ∃ z0, perfZ p ks = z0 := ⟨_, rfl⟩
    have HZ := hid hz0
    cases hlt : decide (0 ≤ z0)
    all_goals
      have hv : Hid (perfV p ks = bif decide (0 ≤ z0) then z0 else sumOf ks) := hid (by unfold perfV; rw [hz0, if_neg (by omega)]; first | (rw [if_neg (by have := of_decide_eq_false hlt; omega), hlt]; rfl) | (rw [if_pos (of_decide_eq_true hlt), hlt]; rfl))
      have hg : Hid (perfE p ks = bif decide (0 ≤ z0) then 24 else 0) := hid (by unfold perfE; rw [hz0, if_neg (by omega)]; first | (rw [if_neg (by have := of_decide_eq_false hlt; omega), hlt]; rfl) | (rw [if_pos (of_decide_eq_true hlt), hlt]; rfl))
      rw [hlt] at hv hg
      have hlt' := hlt
      simp only [decide_eq_false_iff_not, decide_eq_true_eq] at hlt'
      clear he he0 hs hp h3 hlt hz0
      go_enter Try.func37, Try.ntmps37
      go_wp2_with (first | (go_at_call 64; refine (open_ok _ A n c ks p hk hn hE.out).mono ?_; rintro e w1 ⟨g, rfl, hg1, hg2, hsc, hb1⟩; have hz1 := hb1.size) | (go_at_call 76; refine (ways_walk _ A g n c ks p hg2 hsc (hk.below hb1 hz1) hn hs'.out HP.out).mono ?_; rintro e w2 ⟨⟨B, c', rfl, hB⟩, hb2⟩; rw [HS.out] at hB ⊢; have hz2 := hb2.size) | (go_at_call 84; refine (idxP_any _ _ _ _ _ hB (by omega)).mono ?_; rintro e w3 ⟨z, rfl, hz, hb3⟩; obtain rfl : z = z0 := (first_eq hz).trans (by rw [← HZ.out, ← HS.out]; rfl); have hz3 := hid hz; have hz4 := hb3.size; have hb4 := hb1.trans ((hb2.mono hz1).trans (hb3.mono (Nat.le_trans hz1 hz2))); clear hz) | (go_at_call 75; refine (sum_any _ A n c ks (hk.below hb4 hb4.size) (by omega) hsm.out).mono ?_; rintro e w5 ⟨rfl, hb5⟩))
      first
        | refine bodyPost_ret (v := .tuple #[.int .i64 (sumOf ks), .int .i64 0]) (by first | (simp [results, Try.results37, go_sem]; done) | (simp [results, Try.results37, go_sem, *]; done) | (simp [results, Try.results37, go_sem, World.cell?_setCell_same', *]; done) | (simp [results, Try.results37, go_sem]; first | exact ⟨rfl, rfl⟩ | rfl)) rfl ⟨by rw [hv.out, hg.out]; rfl, hb4.trans (hb5.mono hb4.size)⟩
        | refine bodyPost_ret (v := .tuple #[.int .i64 z, .int .i64 24]) (by first | (simp [results, Try.results37, go_sem]; done) | (simp [results, Try.results37, go_sem, *]; done) | (simp [results, Try.results37, go_sem, World.cell?_setCell_same', *]; done) | (simp [results, Try.results37, go_sem]; first | exact ⟨rfl, rfl⟩ | rfl)) rfl ⟨by rw [hv.out, hg.out]; rfl, hb4⟩
  · have he0 : openE ks p ≠ 0 := by simpa using he
    have hv : Hid (perfV p ks = 0) := hid (if_pos he0)
    have hg : Hid (perfE p ks = openE ks p) := hid (if_pos he0)
    go_enter Try.func37, Try.ntmps37
    go_wp2_with (first | (go_at_call 64; refine (open_bad _ A n c ks p hk hn he0).mono ?_; rintro e w1 ⟨rfl, hb1⟩))
    refine bodyPost_ret (v := .tuple #[.int .i64 0, .int .i64 (openE ks p)]) (by first | (simp [results, Try.results37, go_sem]; done) | (simp [results, Try.results37, go_sem, *]; done) | (simp [results, Try.results37, go_sem, World.cell?_setCell_same', *]; done) | (simp [results, Try.results37, go_sem]; first | exact ⟨rfl, rfl⟩ | rfl)) rfl ⟨by rw [hv.out, hg.out], hb1⟩
def uptoV (p : Int) (ks : List Kd) : Int := if openE ks p ≠ 0 then 0 else if 0 < gapZ p ks then gapZ p ks - 1 else sumOf ks
theorem openE_ne5 (ks : List Kd) (p : Int) : openE ks p ≠ 5 := by
  unfold openE checkSet
  repeat' split
  all_goals omega
end Go.Proofs.Ytolghmhodaphfaa
