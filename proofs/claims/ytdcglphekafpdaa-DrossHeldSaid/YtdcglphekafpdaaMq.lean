/- Texts of the proof, laid together by program. -/
import Derived.Test.YtdcglphekafpdaaMm
import Derived.Test.YtdcglphekafpdaaMf
import Derived.Test.YtdcglphekafpdaaMi
namespace Go.Proofs.Ytdcglphekafpdaa
open Go.RowKit
theorem possB_iff {row : List Mt} {sc : List Rg} (h : checkScales row sc = 0) : possB row sc = true ↔ ∃ T, Truth row.length (mAt row) (sAt sc) T := by
  obtain ⟨k1, k2, k3⟩ := checkScales_ok h
  exact poss_none (fun i hi => mAt_ok (checkRow_ok k1).2.2 hi) (okS_sAt k3)
theorem checkRow_of {row : List Mt} (h1 : 1 ≤ row.length) (h2 : row.length ≤ 7) (h : row.all okM = true) : checkRow row = 0 := by
  unfold checkRow
  rw [if_neg (by omega), if_pos h]
theorem checkScales_of {row : List Mt} {sc : List Rg} (h : checkRow row = 0) (hl : sc.length = row.length + 1) (hs : sc.all okW = true) : checkScales row sc = 0 := by
  unfold checkScales
  rw [if_neg (by simp [h]), if_neg (by simp [hl]), if_pos hs]
theorem all_take {α : Type} {p : α → Bool} {l : List α} (h : l.all p = true) (k : Nat) : (l.take k).all p = true := List.all_eq_true.2 fun x hx => List.all_eq_true.1 h x (List.mem_of_mem_take hx)
theorem all_drop {α : Type} {p : α → Bool} {l : List α} (h : l.all p = true) (k : Nat) : (l.drop k).all p = true := List.all_eq_true.2 fun x hx => List.all_eq_true.1 h x (List.mem_of_mem_drop hx)
theorem cut_scales {row : List Mt} {sc : List Rg} (h : checkScales row sc = 0) {k : Nat} (h1 : 1 ≤ k) (h2 : k < row.length) :
    checkScales (row.take k) (sc.take (k + 1)) = 0 ∧ checkScales (row.drop k) (sc.drop k) = 0 := by
  obtain ⟨k1, k2, k3⟩ := checkScales_ok h
  obtain ⟨k4, k5, k6⟩ := checkRow_ok k1
  exact ⟨checkScales_of (checkRow_of (by simp; omega) (by simp; omega) (all_take k6 _)) (by simp; omega) (all_take k3 _),
    checkScales_of (checkRow_of (by simp; omega) (by simp; omega) (all_drop k6 _)) (by simp; omega) (all_drop k3 _)⟩
theorem Truth.congr {n : Nat} {M M' : Nat → Mt} {s s' : Nat → Rg} {T T' : Nat → Int} (h : Truth n M s T) (hM : ∀ i, i < n → M' i = M i) (hs : ∀ i, i ≤ n → s' i = s i) (hT : ∀ i, i ≤ n → T' i = T i) : Truth n M' s' T' :=
  ⟨fun i hi => by rw [hs i hi, hT i hi]; exact h.1 i hi, fun i hi => by rw [hM i hi, hT i (by omega), hT (i + 1) (by omega)]; exact h.2 i hi⟩
theorem mAt_take {row : List Mt} {k i : Nat} (h : i < k) : mAt (row.take k) i = mAt row i := by unfold mAt; rw [List.getElem?_take_of_lt h]
theorem sAt_take {l : List Rg} {k i : Nat} (h : i < k) : sAt (l.take k) i = sAt l i := by unfold sAt; rw [List.getElem?_take_of_lt h]
theorem mAt_drop {row : List Mt} {k i : Nat} : mAt (row.drop k) i = mAt row (k + i) := by unfold mAt; rw [List.getElem?_drop]
theorem sAt_drop {l : List Rg} {k i : Nat} : sAt (l.drop k) i = sAt l (k + i) := by unfold sAt; rw [List.getElem?_drop]
/-- A truth of the whole is one of both parts, and two that share the weight are one of the whole. -/
theorem truth_first {row : List Mt} {sc : List Rg} {k : Nat} (h2 : k < row.length) {T : Nat → Int} (h : Truth row.length (mAt row) (sAt sc) T) : Truth (row.take k).length (mAt (row.take k)) (sAt (sc.take (k + 1))) T := by
  have hl : (row.take k).length = k := by simp; omega
  rw [hl]
  refine Truth.congr (M := mAt row) (s := sAt sc) (T := T) ⟨fun i hi => h.1 i (by omega), fun i hi => h.2 i (by omega)⟩ (fun i hi => mAt_take hi) (fun i hi => sAt_take (by omega)) (fun _ _ => rfl)
theorem truth_last {row : List Mt} {sc : List Rg} {k : Nat} (h2 : k < row.length) {T : Nat → Int} (h : Truth row.length (mAt row) (sAt sc) T) : Truth (row.drop k).length (mAt (row.drop k)) (sAt (sc.drop k)) (fun i => T (k + i)) := by
  have hl : (row.drop k).length = row.length - k := by simp
  rw [hl]
  exact ⟨fun i hi => by rw [sAt_drop]; exact h.1 (k + i) (by omega), fun i hi => by rw [mAt_drop]; exact h.2 (k + i) (by omega)⟩
theorem truth_glue {row : List Mt} {sc : List Rg} {k : Nat} (h1 : 1 ≤ k) (h2 : k < row.length) {T U : Nat → Int} (h : Truth (row.take k).length (mAt (row.take k)) (sAt (sc.take (k + 1))) T) (h' : Truth (row.drop k).length (mAt (row.drop k)) (sAt (sc.drop k)) U) (he : T k = U 0) :
    ∃ V, Truth row.length (mAt row) (sAt sc) V := by
  have hl : (row.take k).length = k := by simp; omega
  have hl' : (row.drop k).length = row.length - k := by simp
  rw [hl] at h
  rw [hl'] at h'
  refine ⟨fun i => if i ≤ k then T i else U (i - k), fun i hi => ?_, fun i hi => ?_⟩
  · by_cases hik : i ≤ k
    · simp only [if_pos hik]
      have := h.1 i hik
      rwa [sAt_take (by omega)] at this
    · simp only [if_neg hik]
      have := h'.1 (i - k) (by omega)
      rwa [sAt_drop, show k + (i - k) = i by omega] at this
  · by_cases hik : i < k
    · simp only [if_pos (Nat.le_of_lt hik), if_pos (show i + 1 ≤ k from hik)]
      have := h.2 i hik
      rwa [mAt_take hik] at this
    · have hi' := h'.2 (i - k) (by omega)
      rw [mAt_drop, show k + (i - k) = i by omega] at hi'
      simp only [if_neg (show ¬ i + 1 ≤ k by omega)]
      rw [show i + 1 - k = i - k + 1 by omega]
      by_cases hk : i = k
      · subst hk
        simp only [Nat.le_refl, if_true]
        rw [he]
        simpa using hi'
      · simp only [if_neg (show ¬ i ≤ k by omega)]
        exact hi'
theorem truthErr_zero {row : List Mt} {sc : List Rg} (h : checkScales row sc = 0) : truthErr row sc = if possB row sc then 0 else 14 := by
  unfold truthErr
  rw [if_neg (by simp [h])]
theorem parted_none {row : List Mt} {sc : List Rg} (h : checkScales row sc = 0) {k : Nat} (h1 : 1 ≤ k) (h2 : k < row.length) (hp : possB (row.take k) (sc.take (k + 1)) = false ∨ possB (row.drop k) (sc.drop k) = false) : possB row sc = false := by
  obtain ⟨c1, c2⟩ := cut_scales h h1 h2
  by_cases hq : possB row sc = true
  · obtain ⟨T, hT⟩ := (possB_iff h).1 hq
    rcases hp with hp | hp
    · rw [(possB_iff c1).2 ⟨T, truth_first h2 hT⟩] at hp; cases hp
    · rw [(possB_iff c2).2 ⟨_, truth_last h2 hT⟩] at hp; cases hp
  · simpa using hq
theorem parted_law {row : List Mt} {sc : List Rg} (h : checkScales row sc = 0) {k : Nat} (h1 : 1 ≤ k) (h2 : k < row.length) (hp : possB (row.take k) (sc.take (k + 1)) = true) (hp' : possB (row.drop k) (sc.drop k) = true) :
    possB row sc = decide (max (sAt (btwAll (row.take k) (sc.take (k + 1))) k).lo (sAt (btwAll (row.drop k) (sc.drop k)) 0).lo ≤ min (sAt (btwAll (row.take k) (sc.take (k + 1))) k).hi (sAt (btwAll (row.drop k) (sc.drop k)) 0).hi) := by
  obtain ⟨c1, c2⟩ := cut_scales h h1 h2
  obtain ⟨j1, j2, j3⟩ := checkScales_ok c1
  obtain ⟨i1, i2, i3⟩ := checkScales_ok c2
  have t1 := btw_tight (fun i hi => mAt_ok (checkRow_ok j1).2.2 hi) (okS_sAt j3) ((possB_iff c1).1 hp)
  have t2 := btw_tight (fun i hi => mAt_ok (checkRow_ok i1).2.2 hi) (okS_sAt i3) ((possB_iff c2).1 hp')
  have hl : (row.take k).length = k := by simp; omega
  have e1 : sAt (btwAll (row.take k) (sc.take (k + 1))) k = btw (row.take k).length (mAt (row.take k)) (sAt (sc.take (k + 1))) k := by
    unfold sAt btwAll
    rw [List.getElem?_map, List.getElem?_range (by omega)]
    rfl
  have e2 : sAt (btwAll (row.drop k) (sc.drop k)) 0 = btw (row.drop k).length (mAt (row.drop k)) (sAt (sc.drop k)) 0 := by
    unfold sAt btwAll
    rw [List.getElem?_map, List.getElem?_range (by omega)]
    rfl
  rw [e1, e2]
  have t1 := t1 k (by omega)
  have t2 := t2 0 (by omega)
  generalize btw (row.take k).length (mAt (row.take k)) (sAt (sc.take (k + 1))) k = a at *
  generalize btw (row.drop k).length (mAt (row.drop k)) (sAt (sc.drop k)) 0 = b at *
  rw [Bool.eq_iff_iff, decide_eq_true_eq, possB_iff h]
  constructor
  · rintro ⟨T, hT⟩
    have u1 := t1.1 T (truth_first h2 hT)
    have u2 := t2.1 _ (truth_last h2 hT)
    simp only [Nat.add_zero] at u2
    omega
  · intro hle
    obtain ⟨T, hT, ht⟩ := t1.2 (max a.lo b.lo) (by omega) (by omega)
    obtain ⟨U, hU, hu⟩ := t2.2 (max a.lo b.lo) (by omega) (by omega)
    exact truth_glue h1 h2 hT hU (by rw [ht, hu])
end Go.Proofs.Ytdcglphekafpdaa
/- Plain law: weights of a row by numbers; scales around them. -/
namespace Go.Proofs.Ytdcglphekafpdaa
/-- A number out of a list that is gone through round and round. -/
def byN (l : List Int) (i : Nat) : Int := if l.length = 0 then 0 else (l[i % l.length]?).getD 0
def wgh (M : Nat → Mt) (first : Int) (N : Nat → Int) : Nat → Int
  | 0 => first
  | i + 1 => one (M i) true (wgh M first N i) + N i % (one (M i) false (wgh M first N i) - one (M i) true (wgh M first N i) + 1)
def wghL (row : List Mt) (first : Int) (by_ : List Int) : List Int := (List.range (row.length + 1)).map (wgh (mAt row) first (byN by_))
theorem wghL_len (row : List Mt) (first : Int) (by_ : List Int) : (wghL row first by_).length = row.length + 1 := by simp [wghL]
theorem wghL_at {row : List Mt} {first : Int} {by_ : List Int} {i : Nat} (h : i ≤ row.length) : wAt (wghL row first by_) i = wgh (mAt row) first (byN by_) i := by
  unfold wghL wAt
  rw [List.getElem?_map, List.getElem?_range (by omega)]; rfl
theorem byN_bd {l : List Int} {b : Int} (hb : 0 ≤ b) (h : ∀ x ∈ l, 0 ≤ x ∧ x ≤ b) (i : Nat) : 0 ≤ byN l i ∧ byN l i ≤ b := by
  unfold byN
  split
  · omega
  · have hl : i % l.length < l.length := Nat.mod_lt _ (by omega)
    rw [List.getElem?_eq_getElem hl]
    exact h _ (List.getElem_mem hl)
theorem wgh_next {M : Nat → Mt} {first : Int} {N : Nat → Int} {i : Nat} (hM : okM (M i) = true) (hw : 0 ≤ wgh M first N i ∧ wgh M first N i ≤ 1000000) :
    one (M i) true (wgh M first N i) ≤ wgh M first N (i + 1) ∧ wgh M first N (i + 1) ≤ one (M i) false (wgh M first N i) := by
  have h1 := one_le hM (x := wgh M first N i) hw.1
  show one (M i) true (wgh M first N i) ≤ one (M i) true (wgh M first N i) + N i % (one (M i) false (wgh M first N i) - one (M i) true (wgh M first N i) + 1) ∧ _
  have h2 := Int.emod_nonneg (N i) (b := one (M i) false (wgh M first N i) - one (M i) true (wgh M first N i) + 1) (by omega)
  have h3 := Int.emod_lt_of_pos (N i) (b := one (M i) false (wgh M first N i) - one (M i) true (wgh M first N i) + 1) (by omega)
  show _ ∧ one (M i) true (wgh M first N i) + N i % (one (M i) false (wgh M first N i) - one (M i) true (wgh M first N i) + 1) ≤ _
  omega
theorem wgh_bd {M : Nat → Mt} {first : Int} {N : Nat → Int} {n : Nat} (hM : ∀ i, i < n → okM (M i) = true) (h0 : 0 ≤ first) (h1 : first ≤ 1000000) : ∀ i, i ≤ n → 0 ≤ wgh M first N i ∧ wgh M first N i ≤ 1000000
  | 0, _ => ⟨h0, h1⟩
  | i + 1, hi => by
    have ih := wgh_bd (N := N) hM h0 h1 i (by omega)
    have h2 := wgh_next (N := N) (first := first) (hM i (by omega)) ih
    have h3 := one_bd (hM i (by omega)) true ih.1 ih.2
    have h4 := one_bd (hM i (by omega)) false ih.1 ih.2
    omega
/-- Scales around weights. -/
def arnd (t : Int) (n : Int) : Rg := ⟨max 0 (t - n % 16), min 1000000 (t + n / 16)⟩
def arndL (t : List Int) (wide : List Int) : List Rg := (List.range t.length).map fun i => arnd (wAt t i) (byN wide i)
theorem arndL_len (t wide : List Int) : (arndL t wide).length = t.length := by simp [arndL]
theorem arndL_at {t wide : List Int} {i : Nat} (h : i < t.length) : sAt (arndL t wide) i = arnd (wAt t i) (byN wide i) := by
  unfold arndL sAt
  rw [List.getElem?_map, List.getElem?_range h]; rfl
theorem arnd_bd {t n : Int} (h0 : 0 ≤ t) (h1 : t ≤ 1000000) (hn : 0 ≤ n) : 0 ≤ (arnd t n).lo ∧ (arnd t n).lo ≤ t ∧ t ≤ (arnd t n).hi ∧ (arnd t n).hi ≤ 1000000 := by
  unfold arnd
  simp only
  have a := Int.emod_nonneg n (b := 16) (by omega)
  have b := Int.ediv_nonneg hn (b := 16) (by omega)
  omega
/-- The numbers that bits say, and those with one more. -/
def ownN (b : Int) (n : Nat) : List Int := ((List.range n).filter fun i => (b.toNat).testBit i).map fun (i : Nat) => (i : Int)
def withN (b : Int) (more : Int) (n : Nat) : List Int := ((List.range n).filter fun i => (b.toNat).testBit i || decide ((i : Int) = more)).map fun (i : Nat) => (i : Int)
theorem filt_inc (p : Nat → Bool) (n : Nat) : Inc n 0 (((List.range n).filter p).map fun (i : Nat) => (i : Int)) := by
  suffices h : ∀ k f, f + k = n → Inc n f (((List.range' f k).filter p).map fun (i : Nat) => (i : Int)) by
    have := h n 0 (by omega)
    rwa [← List.range_eq_range'] at this
  intro k
  induction k with
  | zero => intro f _; exact trivial
  | succ k ih =>
    intro f hf
    have h1 := ih (f + 1) (by omega)
    rw [List.range'_succ, List.filter_cons]
    split
    · exact ⟨f, rfl, Nat.le_refl _, by omega, h1⟩
    · generalize ((List.range' (f + 1) k).filter p).map (fun (i : Nat) => (i : Int)) = l at h1
      rcases l with _ | ⟨x, l⟩
      · exact trivial
      · obtain ⟨i, a, b, c, d⟩ := h1
        exact ⟨i, a, by omega, c, d⟩
theorem filt_succ {p : Nat → Bool} {k : Nat} : ((List.range (k + 1)).filter p).map (fun (i : Nat) => (i : Int)) = ((List.range k).filter p).map (fun (i : Nat) => (i : Int)) ++ (if p k then [(k : Int)] else []) := by
  rw [List.range_succ, List.filter_append, List.map_append]
  congr 1
  by_cases h : p k = true
  · simp [h]
  · simp [h]
end Go.Proofs.Ytdcglphekafpdaa
/- Plain law: what is left of a row that is cut; which weights are reached. -/
namespace Go.Proofs.Ytdcglphekafpdaa
theorem leftOf_cut (row : List Mt) (k : Nat) (r : Rg) : leftOf (row.drop k) (leftOf (row.take k) r) = leftOf row r := by
  unfold leftOf
  rw [← List.foldl_append, List.take_append_drop]
theorem chain_take {row : List Mt} {k : Nat} (h : k < row.length) (s : Bool) (x : Int) : chainOf (row.take (k + 1)) s x = one (mAt row k) s (chainOf (row.take k) s x) := by
  unfold chainOf
  rw [List.take_add_one, List.getElem?_eq_getElem h, List.foldl_append]
  simp only [Option.toList_some, List.foldl_cons, List.foldl_nil]
  congr 1
  unfold mAt
  rw [List.getElem?_eq_getElem h]; rfl
theorem left_law {row : List Mt} (hok : row.all okM = true) {a b : Int} (h0 : 0 ≤ a) (hab : a ≤ b) (hb : b ≤ 1000000) :
    leftOf row ⟨a, b⟩ = ⟨(leftOf row ⟨a, a⟩).lo, (leftOf row ⟨b, b⟩).hi⟩ ∧ (leftOf row ⟨a, a⟩).lo ≤ (leftOf row ⟨b, b⟩).lo ∧ (leftOf row ⟨a, a⟩).hi ≤ (leftOf row ⟨b, b⟩).hi ∧ (leftOf row ⟨b, b⟩).hi ≤ b := by
  refine ⟨Rg.eq_of ?_ ?_, ?_, ?_, ?_⟩
  · rw [leftOf_lo, leftOf_lo]
  · rw [leftOf_hi, leftOf_hi]
  · rw [leftOf_lo, leftOf_lo]; exact chain_mono true row hok hab
  · rw [leftOf_hi, leftOf_hi]; exact chain_mono false row hok hab
  · rw [leftOf_hi]; exact (chain_bd false row hok (by show (0 : Int) ≤ b; omega) hb).2
theorem wgh_in {row : List Mt} (hok : row.all okM = true) {first : Int} (h0 : 0 ≤ first) (h1 : first ≤ 1000000) (N : Nat → Int) : ∀ k, k ≤ row.length → chainOf (row.take k) true first ≤ wgh (mAt row) first N k ∧ wgh (mAt row) first N k ≤ chainOf (row.take k) false first
  | 0, _ => ⟨Int.le_refl _, Int.le_refl _⟩
  | k + 1, hk => by
    have ih := wgh_in hok h0 h1 N k (by omega)
    have hm := mAt_ok hok (k := k) (by omega)
    have hb := wgh_bd (n := row.length) (N := N) (fun i hi => mAt_ok hok hi) h0 h1 k (by omega)
    have hn := wgh_next (N := N) (first := first) hm hb
    rw [chain_take (by omega), chain_take (by omega)]
    exact ⟨Int.le_trans (one_mono hm true ih.1) hn.1, Int.le_trans hn.2 (one_mono hm false ih.2)⟩
theorem wgh_last {row : List Mt} (hok : row.all okM = true) {first : Int} (h0 : 0 ≤ first) (h1 : first ≤ 1000000) (N : Nat → Int) : inR (leftOf row ⟨first, first⟩) (wgh (mAt row) first N row.length) = true := by
  have := wgh_in hok h0 h1 N row.length (Nat.le_refl _)
  rw [List.take_length] at this
  rw [inR_t, leftOf_lo, leftOf_hi]
  exact this
theorem okR_left {row : List Mt} {r : Rg} (hok : row.all okM = true) (hr : okR r 1000000 = true) : okR (leftOf row r) 1000000 = true := by
  have := leftOf_bd hok hr
  exact okR_t.2 ⟨this.1, this.2.1, this.2.2.1⟩
/-- The scales of a range of weights, and of what is left. -/
def scR (r q : Rg) (n : Nat) : List Rg := r :: (List.replicate (n - 1) ⟨0, 1000000⟩ ++ [q])
theorem scR_len {r q : Rg} {n : Nat} (h : 1 ≤ n) : (scR r q n).length = n + 1 := by simp [scR]; omega
theorem scR_zero (r q : Rg) (n : Nat) : sAt (scR r q n) 0 = r := rfl
theorem scR_mid {r q : Rg} {n k : Nat} (h : k + 1 < n) : sAt (scR r q n) (k + 1) = ⟨0, 1000000⟩ := by
  unfold sAt scR
  rw [List.getElem?_cons_succ, List.getElem?_append_left (by simp; omega), List.getElem?_replicate, if_pos (by omega)]; rfl
theorem scR_last {r q : Rg} {n : Nat} (h : 1 ≤ n) : sAt (scR r q n) n = q := by
  obtain ⟨k, rfl⟩ : ∃ k, n = k + 1 := ⟨n - 1, by omega⟩
  unfold sAt scR
  rw [List.getElem?_cons_succ, List.getElem?_append_right (by simp)]
  simp
theorem scR_ok {row : List Mt} (h : checkRow row = 0) {r q : Rg} (hr : okR r 1000000 = true) (hq : okR q 1000000 = true) : checkScales row (scR r q row.length) = 0 := by
  obtain ⟨k4, k5, k6⟩ := checkRow_ok h
  refine checkScales_of h (scR_len k4) ?_
  unfold scR
  rw [List.all_cons, List.all_append]
  simp only [Bool.and_eq_true]
  refine ⟨hr, ?_, ?_⟩
  · rw [List.all_eq_true]
    intro x hx
    rw [List.eq_of_mem_replicate hx]
    rfl
  · rw [List.all_cons]; simp only [List.all_nil, Bool.and_true]; exact hq
theorem scR_fw {row : List Mt} (hok : row.all okM = true) {r q : Rg} (hr : okR r 1000000 = true) : ∀ k, k < row.length → fw (mAt row) (sAt (scR r q row.length)) (fun _ => false) k = leftOf (row.take k) r
  | 0, _ => rfl
  | k + 1, hk => by
    show meet (sAt (scR r q row.length) (k + 1)) (melted (mAt row k) (fw (mAt row) (sAt (scR r q row.length)) (fun _ => false) k)) = _
    rw [scR_fw hok hr k (by omega), scR_mid (by omega)]
    have e : melted (mAt row k) (leftOf (row.take k) r) = leftOf (row.take (k + 1)) r := by
      unfold leftOf
      rw [List.take_add_one, List.getElem?_eq_getElem (by omega), List.foldl_append]
      simp only [Option.toList_some, List.foldl_cons, List.foldl_nil]
      congr 1
      unfold mAt
      rw [List.getElem?_eq_getElem (by omega)]; rfl
    rw [e]
    have hb := leftOf_bd (all_take hok (k + 1)) hr
    refine Rg.eq_of ?_ ?_ <;> simp only [meet] <;> omega
theorem scR_poss {row : List Mt} (h : checkRow row = 0) {r q : Rg} (hr : okR r 1000000 = true) :
    possB row (scR r q row.length) = decide (max q.lo (leftOf row r).lo ≤ min q.hi (leftOf row r).hi) := by
  obtain ⟨k4, k5, k6⟩ := checkRow_ok h
  obtain ⟨j, hj⟩ : ∃ j, row.length = j + 1 := ⟨row.length - 1, by omega⟩
  have hl : fw (mAt row) (sAt (scR r q row.length)) (fun _ => false) row.length = meet q (leftOf row r) := by
    have e1 : fw (mAt row) (sAt (scR r q row.length)) (fun _ => false) (j + 1) = meet (sAt (scR r q row.length) (j + 1)) (melted (mAt row j) (fw (mAt row) (sAt (scR r q row.length)) (fun _ => false) j)) := rfl
    rw [scR_fw k6 hr j (by omega), ← hj, scR_last k4] at e1
    have e : melted (mAt row j) (leftOf (row.take j) r) = leftOf row r := by
      conv => rhs; rw [← List.take_length (l := row), hj]
      unfold leftOf
      rw [List.take_add_one, List.getElem?_eq_getElem (by omega), List.foldl_append]
      simp only [Option.toList_some, List.foldl_cons, List.foldl_nil]
      congr 1
      unfold mAt
      rw [List.getElem?_eq_getElem (by omega)]; rfl
    rw [e] at e1
    exact e1
  rw [Bool.eq_iff_iff, decide_eq_true_eq]
  unfold possB
  rw [poss_t]
  constructor
  · intro hp
    have := hp row.length (Nat.le_refl _)
    rw [hl] at this
    exact this
  · intro hle k hk
    rcases Nat.lt_or_ge k row.length with h1 | h1
    · rw [scR_fw k6 hr k h1]
      exact (leftOf_bd (all_take k6 k) hr).2.1
    · obtain rfl : k = row.length := by omega
      rw [hl]; exact hle
end Go.Proofs.Ytdcglphekafpdaa
/- Plain law: either there is a truth, or two scales contradict each other. -/
namespace Go.Proofs.Ytdcglphekafpdaa
theorem chain_sub {row : List Mt} {i k : Nat} (hik : i ≤ k) (hk : k < row.length) (s : Bool) (x : Int) : chainOf (sub row i (k + 1)) s x = one (mAt row k) s (chainOf (sub row i k) s x) := by
  have e : sub row i (k + 1) = sub row i k ++ [mAt row k] := by
    unfold sub
    rw [show k + 1 - i = (k - i) + 1 by omega, List.take_add_one, List.getElem?_drop, show i + (k - i) = k by omega, List.getElem?_eq_getElem hk]
    congr 1
    unfold mAt
    rw [List.getElem?_eq_getElem hk]; rfl
  rw [e]
  unfold chainOf
  rw [List.foldl_append]; rfl
theorem sub_self (row : List Mt) (i : Nat) : sub row i i = [] := by unfold sub; simp
theorem sub_ok {row : List Mt} (h : row.all okM = true) (i k : Nat) : (sub row i k).all okM = true := all_take (all_drop h i) _
theorem chain_join {row : List Mt} {i j : Nat} (hij : i ≤ j) (s : Bool) (x : Int) : ∀ k, j ≤ k → k ≤ row.length → chainOf (sub row i k) s x = chainOf (sub row j k) s (chainOf (sub row i j) s x) := by
  intro k hk h
  obtain ⟨d, rfl⟩ : ∃ d, k = j + d := ⟨k - j, by omega⟩
  clear hk
  induction d with
  | zero => rw [Nat.add_zero, sub_self]; rfl
  | succ d ih => rw [← Nat.add_assoc, chain_sub (by omega) (by omega), chain_sub (by omega) (by omega), ih (by omega)]
theorem fw_lo {row : List Mt} {s : Nat → Rg} : ∀ k, k ≤ row.length → ∃ i, i ≤ k ∧ (fw (mAt row) s (fun _ => false) k).lo = chainOf (sub row i k) true (s i).lo
  | 0, _ => ⟨0, Nat.le_refl _, by rw [sub_self]; rfl⟩
  | k + 1, hk => by
    obtain ⟨i, hi, e⟩ := fw_lo (row := row) (s := s) k (by omega)
    have e1 : (fw (mAt row) s (fun _ => false) (k + 1)).lo = max (s (k + 1)).lo (one (mAt row k) true (fw (mAt row) s (fun _ => false) k).lo) := rfl
    rw [e, ← chain_sub hi (by omega)] at e1
    by_cases h : (s (k + 1)).lo ≤ chainOf (sub row i (k + 1)) true (s i).lo
    · exact ⟨i, by omega, by rw [e1]; omega⟩
    · exact ⟨k + 1, Nat.le_refl _, by rw [e1, sub_self]; show _ = (s (k + 1)).lo; omega⟩
theorem fw_hi {row : List Mt} {s : Nat → Rg} : ∀ k, k ≤ row.length → ∃ i, i ≤ k ∧ (fw (mAt row) s (fun _ => false) k).hi = chainOf (sub row i k) false (s i).hi
  | 0, _ => ⟨0, Nat.le_refl _, by rw [sub_self]; rfl⟩
  | k + 1, hk => by
    obtain ⟨i, hi, e⟩ := fw_hi (row := row) (s := s) k (by omega)
    have e1 : (fw (mAt row) s (fun _ => false) (k + 1)).hi = min (s (k + 1)).hi (one (mAt row k) false (fw (mAt row) s (fun _ => false) k).hi) := rfl
    rw [e, ← chain_sub hi (by omega)] at e1
    by_cases h : chainOf (sub row i (k + 1)) false (s i).hi ≤ (s (k + 1)).hi
    · exact ⟨i, by omega, by rw [e1]; omega⟩
    · exact ⟨k + 1, Nat.le_refl _, by rw [e1, sub_self]; show _ = (s (k + 1)).hi; omega⟩
/-- In a truth a weight behind some melts is what they may leave. -/
theorem truth_chain {row : List Mt} (hok : row.all okM = true) {mask : Nat → Bool} {s : Nat → Rg} {T : Nat → Int} (hT : TruthM row.length (mAt row) s mask T) {i : Nat} : ∀ k, i ≤ k → k ≤ row.length → (∀ j, i ≤ j → j < k → mask j = false) → chainOf (sub row i k) true (T i) ≤ T k ∧ T k ≤ chainOf (sub row i k) false (T i) := by
  intro k hk
  obtain ⟨d, rfl⟩ : ∃ d, k = i + d := ⟨k - i, by omega⟩
  clear hk
  induction d with
  | zero => intro _ _; rw [Nat.add_zero, sub_self]; exact ⟨Int.le_refl _, Int.le_refl _⟩
  | succ d ih =>
    rw [← Nat.add_assoc]
    intro h hm
    have a := ih (by omega) (fun j h1 h2 => hm j h1 (by omega))
    have b := hT.2 (i + d) (by omega) (hm (i + d) (by omega) (by omega))
    have hmk := mAt_ok hok (k := i + d) (by omega)
    rw [chain_sub (by omega) (by omega), chain_sub (by omega) (by omega)]
    exact ⟨Int.le_trans (one_mono hmk true a.1) b.1, Int.le_trans b.2 (one_mono hmk false a.2)⟩
theorem sideV_zero {row : List Mt} {sc : List Rg} {i k : Nat} : sideV row sc i k = 0 ↔ chainOf (sub row i k) true (sAt sc i).lo ≤ (sAt sc k).hi ∧ (sAt sc k).lo ≤ chainOf (sub row i k) false (sAt sc i).hi := by
  unfold sideV
  rw [leftOf_lo, leftOf_hi]
  split
  · constructor
    · intro h; omega
    · intro h; omega
  · split
    · constructor
      · intro h; omega
      · intro h; omega
    · constructor
      · intro _; omega
      · intro _; rfl
/-- Scales that contradict each other: no truth, wherever the melts between them are right, and both scales. -/
theorem side_none {row : List Mt} (hok : row.all okM = true) {sc : List Rg} {s : Nat → Rg} {mask : Nat → Bool} {i k : Nat} (hik : i < k) (hk : k ≤ row.length) (hs : sideV row sc i k ≠ 0) (e1 : s i = sAt sc i) (e2 : s k = sAt sc k) (hm : ∀ j, i ≤ j → j < k → mask j = false) (T : Nat → Int) : ¬ TruthM row.length (mAt row) s mask T := fun hT => hs (sideV_zero.2 (by
  have a := truth_chain hok hT k (by omega) hk hm
  have b := hT.1 i (by omega)
  have c := hT.1 k hk
  rw [e1] at b
  rw [e2] at c
  have d := chain_mono true (sub row i k) (sub_ok hok i k) b.1
  have e := chain_mono false (sub row i k) (sub_ok hok i k) b.2
  omega))
theorem either_law {row : List Mt} {sc : List Rg} (h : checkScales row sc = 0) : possB row sc = true ↔ ∀ i k, i < k → k ≤ row.length → sideV row sc i k = 0 := by
  obtain ⟨k1, k2, k3⟩ := checkScales_ok h
  obtain ⟨k4, k5, k6⟩ := checkRow_ok k1
  have hs := okS_sAt k3
  constructor
  · intro hp i k hik hk
    obtain ⟨T, hT⟩ := (possB_iff h).1 hp
    by_cases h0 : sideV row sc i k = 0
    · exact h0
    · exact absurd (truthM_none.2 hT) (side_none k6 hik hk h0 rfl rfl (fun _ _ _ => rfl) T)
  · intro hn
    unfold possB
    rw [poss_t]
    intro k hk
    obtain ⟨i, hi, e1⟩ := fw_lo (s := sAt sc) k hk
    obtain ⟨j, hj, e2⟩ := fw_hi (s := sAt sc) k hk
    rw [e1, e2]
    rcases Nat.lt_trichotomy i j with hij | hij | hij
    · have a := (sideV_zero.1 (hn i j hij (by omega))).1
      rw [chain_join (Nat.le_of_lt hij) true _ k hj hk]
      exact chain_le _ (sub_ok k6 j k) (chain_bd true _ (sub_ok k6 i j) (hs i).1 (hs i).2.1).1 a (hs j).2.2.2
    · subst hij
      exact chain_le _ (sub_ok k6 i k) (hs i).1 (sAt_ne k3 i) (hs i).2.2.2
    · have a := (sideV_zero.1 (hn j i hij (by omega))).2
      rw [chain_join (Nat.le_of_lt hij) false _ k hi hk]
      have b := chain_bd false _ (sub_ok k6 j i) (hs j).2.2.1 (hs j).2.2.2
      exact chain_le _ (sub_ok k6 i k) (hs i).1 a (by have := (hs j).2.2.2; omega)
theorem opp_iff {row : List Mt} {sc : List Rg} {i k : Nat} : opp row sc i k = true ↔ i < k ∧ sideV row sc i k ≠ 0 := by simp [opp]
theorem firstC_good {row : List Mt} {sc : List Rg} {p : Nat × Nat} (h : firstC row sc = some p) : p.1 < p.2 ∧ p.2 ≤ row.length ∧ sideV row sc p.1 p.2 ≠ 0 := by
  unfold firstC at h
  split at h
  · cases h
  · rename_i i _
    simp only [Option.map_eq_some_iff] at h
    obtain ⟨k, hk, rfl⟩ := h
    have h1 := List.find?_some hk
    have h2 := List.mem_range.1 (List.mem_of_find?_eq_some hk)
    have := opp_iff.1 h1
    exact ⟨this.1, by show k ≤ _; omega, this.2⟩
theorem firstC_no {row : List Mt} {sc : List Rg} (h : firstC row sc = none) : ∀ i k, i < k → k ≤ row.length → sideV row sc i k = 0 := by
  intro i k hik hk
  by_cases h0 : sideV row sc i k = 0
  · exact h0
  · exfalso
    unfold firstC at h
    split at h
    · rename_i hn
      have := List.find?_eq_none.1 hn i (List.mem_range.2 (by omega))
      exact this (List.any_eq_true.2 ⟨k, List.mem_range.2 (by omega), opp_iff.2 ⟨hik, h0⟩⟩)
    · rename_i i' hi'
      rw [Option.map_eq_none_iff] at h
      have h1 := List.find?_some hi'
      obtain ⟨b, hb, hb2⟩ := List.any_eq_true.1 h1
      exact List.find?_eq_none.1 h b hb hb2
theorem either_yes {row : List Mt} {sc : List Rg} (h : checkScales row sc = 0) (hp : possB row sc = true) : clashR row sc = .tuple #[.int .i64 0, .int .i64 0, .int .i64 5] := by
  unfold clashR
  rw [if_neg (by simp [h])]
  cases hf : firstC row sc with
  | none => rfl
  | some p =>
    have h1 := firstC_good hf
    exact absurd ((either_law h).1 hp _ _ h1.1 h1.2.1) h1.2.2
theorem either_no {row : List Mt} {sc : List Rg} (h : checkScales row sc = 0) (hp : possB row sc = false) : ∃ i k : Nat, i < k ∧ k ≤ row.length ∧ sideV row sc i k ≠ 0 ∧ clashR row sc = .tuple #[.int .i64 i, .int .i64 k, .int .i64 0] := by
  cases hf : firstC row sc with
  | none => rw [(either_law h).2 (firstC_no hf)] at hp; cases hp
  | some p =>
    have h1 := firstC_good hf
    refine ⟨p.1, p.2, h1.1, h1.2.1, h1.2.2, ?_⟩
    unfold clashR
    rw [if_neg (by simp [h]), hf]
theorem clash_eq {row : List Mt} {sc : List Rg} (h : checkScales row sc = 0) {x y : Nat} (hxy : x < y) (hy : y ≤ row.length) : clashV row sc x y = sideV row sc x y ∧ clashE row sc x y = if sideV row sc x y = 0 then 5 else 0 := by
  obtain ⟨k1, k2, k3⟩ := checkScales_ok h
  have hn : ¬ ((x : Int) < 0 ∨ (y : Int) ≤ x ∨ (sc.length : Int) ≤ y) := by omega
  unfold clashV clashE
  have h' : ¬ checkScales row sc ≠ 0 := fun e => e h
  rw [if_neg h', if_neg h', if_neg hn, if_neg hn]
  exact ⟨rfl, rfl⟩
theorem sideV_or {row : List Mt} {sc : List Rg} {i k : Nat} : sideV row sc i k = 0 ∨ sideV row sc i k = 1 ∨ sideV row sc i k = 2 := by
  unfold sideV
  split
  · exact .inr (.inl rfl)
  · split
    · exact .inr (.inr rfl)
    · exact .inl rfl
theorem clash_yes {row : List Mt} {sc : List Rg} (h : checkScales row sc = 0) (hp : possB row sc = true) {x y : Nat} (hxy : x < y) (hy : y ≤ row.length) : clashV row sc x y = 0 ∧ clashE row sc x y = 5 := by
  have := (either_law h).1 hp x y hxy hy
  obtain ⟨a, b⟩ := clash_eq h hxy hy
  rw [a, b, if_pos this, this]
  exact ⟨rfl, rfl⟩
theorem clash_some {row : List Mt} {sc : List Rg} (h : checkScales row sc = 0) {x y : Nat} (hxy : x < y) (hy : y ≤ row.length) (hs : sideV row sc x y ≠ 0) : clashE row sc x y = 0 ∧ (clashV row sc x y = 1 ∨ clashV row sc x y = 2) := by
  obtain ⟨a, b⟩ := clash_eq h hxy hy
  rw [a, b, if_neg hs]
  exact ⟨rfl, sideV_or.resolve_left hs⟩
theorem clash_or {row : List Mt} {sc : List Rg} (h : checkScales row sc = 0) {x y : Nat} (hxy : x < y) (hy : y ≤ row.length) : (clashE row sc x y = 0 ∧ (clashV row sc x y = 1 ∨ clashV row sc x y = 2)) ∨ (clashE row sc x y = 5 ∧ clashV row sc x y = 0) := by
  by_cases hs : sideV row sc x y = 0
  · right
    obtain ⟨a, b⟩ := clash_eq h hxy hy
    rw [a, b, if_pos hs, hs]
    exact ⟨rfl, rfl⟩
  · exact .inl (clash_some h hxy hy hs)
/-- Weights by numbers are a truth, or break the rule. -/
theorem own_or {row : List Mt} {sc : List Rg} (h : checkScales row sc = 0) {first : Int} (h0 : 0 ≤ first) (h1 : first ≤ 1000000) (by_ : List Int) : (truthE row sc (wghL row first by_) = 0 ∧ possB row sc = true) ∨ truthE row sc (wghL row first by_) = 16 := by
  obtain ⟨k1, k2, k3⟩ := checkScales_ok h
  obtain ⟨k4, k5, k6⟩ := checkRow_ok k1
  unfold truthE
  rw [if_neg (by simp [h]), if_neg (by rw [wghL_len]; omega), if_pos]
  · cases ht : isT row.length (mAt row) (sAt sc) (wAt (wghL row first by_))
    · exact .inr rfl
    · exact .inl ⟨rfl, (possB_iff h).2 ⟨_, isT_iff.1 ht⟩⟩
  · refine List.all_eq_true.2 fun x hx => ?_
    unfold wghL at hx
    obtain ⟨i, hi, rfl⟩ := List.mem_map.1 hx
    have := wgh_bd (M := mAt row) (n := row.length) (N := byN by_) (fun i hi => mAt_ok k6 hi) h0 h1 i (by have := List.mem_range.1 hi; omega)
    exact inR_t.2 this
end Go.Proofs.Ytdcglphekafpdaa
/- Plain law: scales that lie around a truth. -/
namespace Go.Proofs.Ytdcglphekafpdaa
theorem held_ok {row : List Mt} (h : checkRow row = 0) {first : Int} (h0 : 0 ≤ first) (h1 : first ≤ 1000000) (by_ wide : List Int) (hw : ∀ x ∈ wide, 0 ≤ x ∧ x ≤ 255) : checkScales row (arndL (wghL row first by_) wide) = 0 := by
  obtain ⟨k4, k5, k6⟩ := checkRow_ok h
  refine checkScales_of h (by rw [arndL_len, wghL_len]) (List.all_eq_true.2 fun r hr => ?_)
  unfold arndL at hr
  obtain ⟨i, hi, rfl⟩ := List.mem_map.1 hr
  rw [List.mem_range, wghL_len] at hi
  rw [wghL_at (by omega)]
  have a := wgh_bd (M := mAt row) (n := row.length) (N := byN by_) (fun i hi => mAt_ok k6 hi) h0 h1 i (by omega)
  have b := byN_bd (b := 255) (by omega) hw i
  have c := arnd_bd a.1 a.2 b.1
  exact okR_t.2 ⟨c.1, by omega, c.2.2.2⟩
theorem held_truth {row : List Mt} (h : checkRow row = 0) {first : Int} (h0 : 0 ≤ first) (h1 : first ≤ 1000000) (by_ wide : List Int) (hw : ∀ x ∈ wide, 0 ≤ x ∧ x ≤ 255) :
    Truth row.length (mAt row) (sAt (arndL (wghL row first by_) wide)) (wAt (wghL row first by_)) := by
  obtain ⟨k4, k5, k6⟩ := checkRow_ok h
  have hb := wgh_bd (M := mAt row) (n := row.length) (N := byN by_) (fun i hi => mAt_ok k6 hi) h0 h1
  refine ⟨fun i hi => ?_, fun i hi => ?_⟩
  · rw [arndL_at (by rw [wghL_len]; omega), wghL_at hi]
    have a := hb i hi
    have b := byN_bd (b := 255) (by omega) hw i
    have c := arnd_bd a.1 a.2 b.1
    omega
  · rw [wghL_at (by omega), wghL_at (by omega)]
    exact wgh_next (mAt_ok k6 hi) (hb i (by omega))
theorem truthE_zero {row : List Mt} {sc : List Rg} {ts : List Int} (h0 : checkScales row sc = 0) (hl : ts.length = row.length + 1) (ht : Truth row.length (mAt row) (sAt sc) (wAt ts)) : truthE row sc ts = 0 := truthE_of h0 hl (isT_iff.2 ht)
theorem btwAll_at {row : List Mt} {sc : List Rg} {i : Nat} (h : i ≤ row.length) : sAt (btwAll row sc) i = btw row.length (mAt row) (sAt sc) i := by
  unfold sAt btwAll
  rw [List.getElem?_map, List.getElem?_range (by omega)]; rfl
theorem btw_all {row : List Mt} {sc : List Rg} (h : checkScales row sc = 0) (hp : possB row sc = true) : Tight row.length (mAt row) (sAt sc) (sAt (btwAll row sc)) := by
  obtain ⟨j1, j2, j3⟩ := checkScales_ok h
  have t := btw_tight (fun i hi => mAt_ok (checkRow_ok j1).2.2 hi) (okS_sAt j3) ((possB_iff h).1 hp)
  intro i hi
  rw [btwAll_at hi]
  exact t i hi
theorem tight_in {n : Nat} {M : Nat → Mt} {s r : Nat → Rg} (h : Tight n M s r) {T : Nat → Int} (hT : Truth n M s T) {i : Nat} (hi : i ≤ n) : (r i).lo ≤ T i ∧ T i ≤ (r i).hi ∧ (s i).lo ≤ (r i).lo ∧ (r i).hi ≤ (s i).hi := by
  have a := (h i hi).1 T hT
  obtain ⟨U, hU, e1⟩ := (h i hi).2 (r i).lo (Int.le_refl _) (by omega)
  obtain ⟨V, hV, e2⟩ := (h i hi).2 (r i).hi (by omega) (Int.le_refl _)
  have b := hU.1 i hi
  have c := hV.1 i hi
  omega
theorem set_ok {row : List Mt} {sc : List Rg} (h : checkScales row sc = 0) {i : Nat} {r : Rg} (hr : okR r 1000000 = true) : checkScales row (sc.set i r) = 0 := by
  obtain ⟨j1, j2, j3⟩ := checkScales_ok h
  refine checkScales_of j1 (by rw [List.length_set]; exact j2) (List.all_eq_true.2 fun x hx => ?_)
  rcases List.mem_or_eq_of_mem_set hx with hx | rfl
  · exact List.all_eq_true.1 j3 x hx
  · exact hr
theorem upd_truth {n : Nat} {M : Nat → Mt} {s : Nat → Rg} {i : Nat} {r : Rg} (hi : i ≤ n) (h1 : (s i).lo ≤ r.lo) (h2 : r.hi ≤ (s i).hi) {T : Nat → Int} : Truth n M (upd s i r) T ↔ Truth n M s T ∧ r.lo ≤ T i ∧ T i ≤ r.hi := by
  constructor
  · intro h
    have a := h.1 i hi
    rw [upd_same] at a
    refine ⟨⟨fun j hj => ?_, h.2⟩, a⟩
    by_cases e : j = i
    · subst e; omega
    · have := h.1 j hj
      rwa [upd_ne _ _ e] at this
  · rintro ⟨h, a⟩
    refine ⟨fun j hj => ?_, h.2⟩
    by_cases e : j = i
    · subst e; rw [upd_same]; exact a
    · rw [upd_ne _ _ e]; exact h.1 j hj
/-- A weight of its scale is in a truth just if it is between both ends. -/
theorem fixed_law {row : List Mt} {sc : List Rg} (h : checkScales row sc = 0) (hp : possB row sc = true) {i : Nat} (hi : i ≤ row.length) {v : Int} (h1 : (sAt sc i).lo ≤ v) (h2 : v ≤ (sAt sc i).hi) :
    checkScales row (sc.set i ⟨v, v⟩) = 0 ∧ possB row (sc.set i ⟨v, v⟩) = inR (sAt (btwAll row sc) i) v := by
  obtain ⟨j1, j2, j3⟩ := checkScales_ok h
  have hs := okS_sAt j3 i
  have hok : checkScales row (sc.set i ⟨v, v⟩) = 0 := set_ok h (okR_t.2 ⟨by show (0 : Int) ≤ v; omega, Int.le_refl _, by show v ≤ (1000000 : Int); omega⟩)
  refine ⟨hok, ?_⟩
  have ht := btw_all h hp
  rw [Bool.eq_iff_iff, possB_iff hok, inR_t, sAt_set sc (by omega)]
  constructor
  · rintro ⟨T, hT⟩
    obtain ⟨a, b⟩ := (upd_truth (r := ⟨v, v⟩) hi h1 h2).1 hT
    have e : T i = v := by simp only at b; omega
    rw [← e]
    exact (ht i hi).1 T a
  · rintro ⟨a, b⟩
    obtain ⟨T, hT, e⟩ := (ht i hi).2 v a b
    exact ⟨T, (upd_truth (r := ⟨v, v⟩) hi h1 h2).2 ⟨hT, by simp only; omega⟩⟩
/-- With a narrower scale none becomes wider. -/
theorem narrow_law {row : List Mt} {sc : List Rg} (h : checkScales row sc = 0) {T : Nat → Int} (hT : Truth row.length (mAt row) (sAt sc) T) {i : Nat} (hi : i ≤ row.length) :
    checkScales row (sc.set i ⟨T i, (sAt sc i).hi⟩) = 0 ∧ possB row (sc.set i ⟨T i, (sAt sc i).hi⟩) = true ∧ ∀ k, k ≤ row.length → (sAt (btwAll row sc) k).lo ≤ (sAt (btwAll row (sc.set i ⟨T i, (sAt sc i).hi⟩)) k).lo ∧ (sAt (btwAll row (sc.set i ⟨T i, (sAt sc i).hi⟩)) k).hi ≤ (sAt (btwAll row sc) k).hi := by
  obtain ⟨j1, j2, j3⟩ := checkScales_ok h
  have hs := okS_sAt j3 i
  have hti := hT.1 i hi
  have hok : checkScales row (sc.set i ⟨T i, (sAt sc i).hi⟩) = 0 := set_ok h (okR_t.2 ⟨by show (0 : Int) ≤ T i; omega, hti.2, hs.2.2.2⟩)
  have hp := (possB_iff h).2 ⟨T, hT⟩
  have hT' : Truth row.length (mAt row) (sAt (sc.set i ⟨T i, (sAt sc i).hi⟩)) T := by
    rw [sAt_set sc (by omega)]
    exact (upd_truth (r := ⟨T i, (sAt sc i).hi⟩) hi hti.1 (Int.le_refl _)).2 ⟨hT, Int.le_refl _, hti.2⟩
  have hp' := (possB_iff hok).2 ⟨T, hT'⟩
  refine ⟨hok, hp', fun k hk => ?_⟩
  have t1 := btw_all h hp k hk
  have t2 := btw_all hok hp' k hk
  have a := t2.1 T hT'
  have up : ∀ U, Truth row.length (mAt row) (sAt (sc.set i ⟨T i, (sAt sc i).hi⟩)) U → Truth row.length (mAt row) (sAt sc) U := fun U hU => by
    rw [sAt_set sc (by omega)] at hU
    exact ((upd_truth (r := ⟨T i, (sAt sc i).hi⟩) hi hti.1 (Int.le_refl _)).1 hU).1
  obtain ⟨U, hU, e1⟩ := t2.2 _ (Int.le_refl _) (by omega)
  obtain ⟨V, hV, e2⟩ := t2.2 _ (by omega) (Int.le_refl _)
  have b := t1.1 U (up U hU)
  have c := t1.1 V (up V hV)
  omega
end Go.Proofs.Ytdcglphekafpdaa
/- Plain law: the fewest that can be wrong together. -/
namespace Go.Proofs.Ytdcglphekafpdaa
theorem few_least {below k : Nat} {G : List Int → Bool} {l : List Int} (h : fewO below G k = some l) : ∀ l', Inc below 0 l' → G l' = true → l.length ≤ l'.length := fun l' hi hg => by
  rcases Nat.lt_or_ge l'.length l.length with hlt | hge
  · exfalso
    have hne := fewO_some (k := l.length) hi hlt hg
    cases hf : fewO below G l.length with
    | none => exact hne hf
    | some q =>
      have hq := fewO_good hf
      have hk := (fewO_good h).2.2
      have := fewO_mono hf (k - l.length)
      rw [show l.length + (k - l.length) = k by omega, h] at this
      obtain rfl : l = q := by simpa using this
      omega
  · exact hge
theorem Inc.weak {below : Nat} : ∀ {l : List Int} {f g : Nat}, Inc below f l → g ≤ f → Inc below g l
  | [], _, _, _, _ => trivial
  | x :: l, f, g, ⟨i, hx, h1, h2, h3⟩, h => ⟨i, hx, by omega, h2, h3⟩
theorem Inc.without {below : Nat} : ∀ {l : List Int} {f : Nat}, Inc below f l → ∀ i, Inc below f (l.take i ++ l.drop (i + 1))
  | [], _, _, i => by simp [Inc]
  | x :: l, f, ⟨j, hx, h1, h2, h3⟩, 0 => by
    simp only [List.take_zero, List.nil_append, List.drop_succ_cons, List.drop_zero]
    exact h3.weak (by omega)
  | x :: l, f, ⟨j, hx, h1, h2, h3⟩, i + 1 => by
    simp only [List.take_succ_cons, List.cons_append, List.drop_succ_cons]
    exact ⟨j, hx, h1, h2, h3.without i⟩
theorem wrongE_inc {row : List Mt} {sc : List Rg} (h : checkScales row sc = 0) {l : List Int} (hi : Inc sc.length 0 l) : wrongE row sc l = if wrongG row sc l then 0 else 14 := by
  unfold wrongE
  rw [if_neg (by simp [h]), inc_listB.2 hi]; rfl
theorem meltsE_inc {row : List Mt} {sc : List Rg} (h : checkScales row sc = 0) {l : List Int} (hi : Inc row.length 0 l) : meltsE row sc l = if meltsG row sc l then 0 else 14 := by
  unfold meltsE
  rw [if_neg (by simp [h]), inc_listB.2 hi]; rfl
/-- What holds of the fewest scales. -/
theorem wrong_law {row : List Mt} {sc : List Rg} (h : checkScales row sc = 0) : Inc sc.length 0 (wrongL row sc) ∧ wrongG row sc (wrongL row sc) = true ∧ (wrongL row sc).length < sc.length ∧ ∀ l, Inc sc.length 0 l → wrongG row sc l = true → (wrongL row sc).length ≤ l.length := by
  unfold wrongL
  rw [if_pos h]
  cases hf : fewO sc.length (wrongG row sc) sc.length with
  | none => exact absurd hf (wrong_some h)
  | some l =>
    have hg := fewO_good hf
    rw [fewL_of hf (by omega)]
    exact ⟨hg.2.1, hg.1, hg.2.2, few_least hf⟩
theorem melts_law {row : List Mt} {sc : List Rg} (h : checkScales row sc = 0) : Inc row.length 0 (meltsL row sc) ∧ meltsG row sc (meltsL row sc) = true ∧ (meltsL row sc).length ≤ row.length ∧ ∀ l, Inc row.length 0 l → meltsG row sc l = true → (meltsL row sc).length ≤ l.length := by
  unfold meltsL
  rw [if_pos h]
  cases hf : fewO row.length (meltsG row sc) (row.length + 1) with
  | none => exact absurd hf (melts_some h)
  | some l =>
    have hg := fewO_good hf
    rw [fewL_of hf (by omega)]
    exact ⟨hg.2.1, hg.1, by omega, few_least hf⟩
theorem wrongG_nil (row : List Mt) (sc : List Rg) : wrongG row sc [] = possB row sc := rfl
theorem meltsG_nil (row : List Mt) (sc : List Rg) : meltsG row sc [] = possB row sc := rfl
theorem wrong_nil {row : List Mt} {sc : List Rg} (h : checkScales row sc = 0) : ((wrongL row sc).length = 0 ↔ possB row sc = true) := by
  obtain ⟨a, b, c, d⟩ := wrong_law h
  constructor
  · intro e
    rw [List.length_eq_zero_iff.1 e, wrongG_nil] at b
    exact b
  · intro e
    have := d [] trivial (by rw [wrongG_nil]; exact e)
    simpa using this
theorem melts_nil {row : List Mt} {sc : List Rg} (h : checkScales row sc = 0) : ((meltsL row sc).length = 0 ↔ possB row sc = true) := by
  obtain ⟨a, b, c, d⟩ := melts_law h
  constructor
  · intro e
    rw [List.length_eq_zero_iff.1 e, meltsG_nil] at b
    exact b
  · intro e
    have := d [] trivial (by rw [meltsG_nil]; exact e)
    simpa using this
theorem wrong_less {row : List Mt} {sc : List Rg} (h : checkScales row sc = 0) {i : Nat} (hi : i < (wrongL row sc).length) : wrongE row sc ((wrongL row sc).take i ++ (wrongL row sc).drop (i + 1)) = 14 := by
  obtain ⟨a, b, c, d⟩ := wrong_law h
  have e := a.without i
  rw [wrongE_inc h e]
  cases hg : wrongG row sc ((wrongL row sc).take i ++ (wrongL row sc).drop (i + 1))
  · rfl
  · have := d _ e hg
    simp at this
    omega
theorem melts_less {row : List Mt} {sc : List Rg} (h : checkScales row sc = 0) {i : Nat} (hi : i < (meltsL row sc).length) : meltsE row sc ((meltsL row sc).take i ++ (meltsL row sc).drop (i + 1)) = 14 := by
  obtain ⟨a, b, c, d⟩ := melts_law h
  have e := a.without i
  rw [meltsE_inc h e]
  cases hg : meltsG row sc ((meltsL row sc).take i ++ (meltsL row sc).drop (i + 1))
  · rfl
  · have := d _ e hg
    simp at this
    omega
theorem frS_in {l : List Int} (hl : ∀ x ∈ l, 0 ≤ x) (s : Nat → Rg) (i : Nat) : frS s l i = if maskOf l i then ⟨0, 1000000⟩ else s i := by
  cases hm : maskOf l i
  · refine frS_not l s fun x hx e => ?_
    have : maskOf l i = true := List.any_eq_true.2 ⟨x, hx, by have := hl x hx; simp; omega⟩
    rw [hm] at this; cases this
  · obtain ⟨x, hx, e⟩ := List.any_eq_true.1 hm
    exact frS_all l s (.inl (by simp at e; rw [← e]; exact hx))
theorem Inc.nonneg {below : Nat} : ∀ {l : List Int} {f : Nat}, Inc below f l → ∀ x ∈ l, 0 ≤ x
  | [], _, _, x, hx => by cases hx
  | y :: l, f, ⟨j, hy, h1, h2, h3⟩, x, hx => by
    rcases List.mem_cons.1 hx with rfl | hx
    · omega
    · exact h3.nonneg x hx
theorem wrongG_iff {row : List Mt} {sc : List Rg} (h : checkScales row sc = 0) {l : List Int} : wrongG row sc l = true ↔ ∃ T, Truth row.length (mAt row) (frS (sAt sc) l) T := by
  obtain ⟨k1, k2, k3⟩ := checkScales_ok h
  exact poss_none (fun i hi => mAt_ok (checkRow_ok k1).2.2 hi) (okS_frS _ _ (okS_sAt k3))
theorem meltsG_iff {row : List Mt} {sc : List Rg} (h : checkScales row sc = 0) {l : List Int} : meltsG row sc l = true ↔ ∃ T, TruthM row.length (mAt row) (sAt sc) (maskOf l) T := by
  obtain ⟨k1, k2, k3⟩ := checkScales_ok h
  exact poss_iff (fun i hi => mAt_ok (checkRow_ok k1).2.2 hi) (okS_sAt k3)
theorem wrongG_more {row : List Mt} {sc : List Rg} (h : checkScales row sc = 0) {l l' : List Int} (h1 : ∀ x ∈ l, 0 ≤ x) (h2 : ∀ x ∈ l', 0 ≤ x) (hs : ∀ i, maskOf l i = true → maskOf l' i = true) (hg : wrongG row sc l = true) : wrongG row sc l' = true := by
  obtain ⟨k1, k2, k3⟩ := checkScales_ok h
  rw [wrongG_iff h] at hg ⊢
  obtain ⟨T, hT⟩ := hg
  have hb := okS_frS l _ (okS_sAt k3)
  refine ⟨T, fun i hi => ?_, hT.2⟩
  have a := hT.1 i hi
  have b := hb i
  rw [frS_in h2]
  cases hm : maskOf l' i
  · have hm' : maskOf l i = false := by
      cases hq : maskOf l i
      · rfl
      · rw [hs i hq] at hm; cases hm
    rw [frS_in h1, hm'] at a
    exact a
  · simp only [if_true]; omega
theorem meltsG_more {row : List Mt} {sc : List Rg} (h : checkScales row sc = 0) {l l' : List Int} (hs : ∀ i, maskOf l i = true → maskOf l' i = true) (hg : meltsG row sc l = true) : meltsG row sc l' = true := by
  rw [meltsG_iff h] at hg ⊢
  obtain ⟨T, hT⟩ := hg
  refine ⟨T, hT.1, fun i hi hm => hT.2 i hi ?_⟩
  cases hq : maskOf l i
  · rfl
  · rw [hs i hq] at hm; cases hm
theorem mask_own {p : Nat → Bool} {n i : Nat} : maskOf (((List.range n).filter p).map fun (i : Nat) => (i : Int)) i = (decide (i < n) && p i) := by
  rw [Bool.eq_iff_iff]
  simp only [maskOf, List.any_eq_true, List.mem_map, List.mem_filter, List.mem_range, beq_iff_eq, Bool.and_eq_true, decide_eq_true_eq]
  constructor
  · rintro ⟨x, ⟨j, hj, rfl⟩, e⟩
    obtain rfl : j = i := by omega
    exact hj
  · intro h
    exact ⟨(i : Int), ⟨i, h, rfl⟩, rfl⟩
theorem own_with (b more : Int) (n : Nat) : ∀ i, maskOf (ownN b n) i = true → maskOf (withN b more n) i = true := fun i => by
  unfold ownN withN
  rw [mask_own, mask_own]
  simp only [Bool.and_eq_true, Bool.or_eq_true]
  exact fun h => ⟨h.1, .inl h.2⟩
theorem inc_own (b : Int) (n : Nat) : Inc n 0 (ownN b n) := filt_inc _ n
theorem inc_with (b more : Int) (n : Nat) : Inc n 0 (withN b more n) := filt_inc _ n
/-- A given list, and with one more. -/
theorem wrong_own {row : List Mt} {sc : List Rg} (h : checkScales row sc = 0) (b more : Int) :
    (wrongE row sc (ownN b sc.length) = 0 ∧ (wrongL row sc).length ≤ (ownN b sc.length).length ∧ wrongE row sc (withN b more sc.length) = 0) ∨ wrongE row sc (ownN b sc.length) = 14 := by
  rw [wrongE_inc h (inc_own b _), wrongE_inc h (inc_with b more _)]
  cases hg : wrongG row sc (ownN b sc.length)
  · exact .inr rfl
  · refine .inl ⟨rfl, (wrong_law h).2.2.2 _ (inc_own b _) hg, ?_⟩
    rw [wrongG_more h (inc_own b _).nonneg (inc_with b more _).nonneg (own_with b more _) hg]; rfl
theorem melts_own {row : List Mt} {sc : List Rg} (h : checkScales row sc = 0) (b more : Int) :
    (meltsE row sc (ownN b row.length) = 0 ∧ (meltsL row sc).length ≤ (ownN b row.length).length ∧ meltsE row sc (withN b more row.length) = 0) ∨ meltsE row sc (ownN b row.length) = 14 := by
  rw [meltsE_inc h (inc_own b _), meltsE_inc h (inc_with b more _)]
  cases hg : meltsG row sc (ownN b row.length)
  · exact .inr rfl
  · refine .inl ⟨rfl, (melts_law h).2.2.2 _ (inc_own b _) hg, ?_⟩
    rw [meltsG_more h (own_with b more _) hg]; rfl
theorem own254 : ∀ n, n ≤ 7 → ownN 254 (n + 1) = from_ 1 n := by decide +kernel
theorem own255 : ∀ n, n ≤ 7 → ownN 255 n = from_ 0 n := by decide +kernel
theorem wrong_most {row : List Mt} {sc : List Rg} (h : checkScales row sc = 0) : wrongE row sc (ownN 254 sc.length) = 0 := by
  obtain ⟨k1, k2, k3⟩ := checkScales_ok h
  obtain ⟨k4, k5, k6⟩ := checkRow_ok k1
  rw [wrongE_inc h (inc_own 254 _), k2, own254 _ k5, wrong_all k6 k3]; rfl
theorem melts_most {row : List Mt} {sc : List Rg} (h : checkScales row sc = 0) : meltsE row sc (ownN 255 row.length) = 0 := by
  obtain ⟨k1, k2, k3⟩ := checkScales_ok h
  obtain ⟨k4, k5, k6⟩ := checkRow_ok k1
  rw [meltsE_inc h (inc_own 255 _), own255 _ k5, melts_all k3]; rfl
/-- Of two scales that contradict each other one is among those that are wrong; a melt between them is. -/
theorem shared_wrong {row : List Mt} {sc : List Rg} (h : checkScales row sc = 0) {i k : Nat} (hik : i < k) (hk : k ≤ row.length) (hs : sideV row sc i k ≠ 0) {l : List Int} (hl : ∀ x ∈ l, 0 ≤ x) (hg : wrongG row sc l = true) : maskOf l i = true ∨ maskOf l k = true := by
  obtain ⟨k1, k2, k3⟩ := checkScales_ok h
  obtain ⟨T, hT⟩ := (wrongG_iff h).1 hg
  cases h1 : maskOf l i
  · cases h2 : maskOf l k
    · exact absurd (truthM_none.2 hT) (side_none (checkRow_ok k1).2.2 hik hk hs (by rw [frS_in hl, h1]; rfl) (by rw [frS_in hl, h2]; rfl) (fun _ _ _ => rfl) T)
    · exact .inr rfl
  · exact .inl rfl
theorem shared_melts {row : List Mt} {sc : List Rg} (h : checkScales row sc = 0) {i k : Nat} (hik : i < k) (hk : k ≤ row.length) (hs : sideV row sc i k ≠ 0) {l : List Int} (hg : meltsG row sc l = true) : ∃ j, i ≤ j ∧ j < k ∧ maskOf l j = true := by
  obtain ⟨k1, k2, k3⟩ := checkScales_ok h
  obtain ⟨T, hT⟩ := (meltsG_iff h).1 hg
  by_cases hex : ∃ j, i ≤ j ∧ j < k ∧ maskOf l j = true
  · exact hex
  · exact absurd hT (side_none (checkRow_ok k1).2.2 hik hk hs rfl rfl (fun j h1 h2 => by
      cases hm : maskOf l j
      · rfl
      · exact absurd ⟨j, h1, h2, hm⟩ hex) T)
theorem any_one {l : List Int} {i : Nat} (h : maskOf l i = true) {a b : Int} (h1 : a ≤ i) (h2 : (i : Int) ≤ b) : (l.any fun x => decide (a ≤ x) && decide (x ≤ b)) = true := by
  obtain ⟨x, hx, e⟩ := List.any_eq_true.1 h
  refine List.any_eq_true.2 ⟨x, hx, ?_⟩
  simp only [beq_iff_eq] at e
  simp only [Bool.and_eq_true, decide_eq_true_eq]
  omega
/-- With a melt whose ranges are wider. -/
def widerM (m : Mt) (d : Int) : Mt := ⟨⟨max 0 (m.keep.lo - d), min 1000 (m.keep.hi + d / 2)⟩, ⟨max 0 (m.fixed.lo - d / 4), min 1000 (m.fixed.hi + d)⟩⟩
theorem wider_ok {m : Mt} (h : okM m = true) {d : Int} (hd : 0 ≤ d) : okM (widerM m d) = true := by
  obtain ⟨h1, h2, h3, h4, h5, h6⟩ := okM_t.1 h
  refine okM_t.2 ?_
  simp only [widerM]
  omega
theorem wider_one {m : Mt} (h : okM m = true) {d : Int} (hd : 0 ≤ d) {x : Int} (hx : 0 ≤ x) : one (widerM m d) true x ≤ one m true x ∧ one m false x ≤ one (widerM m d) false x := by
  obtain ⟨h1, h2, h3, h4, h5, h6⟩ := okM_t.1 h
  simp only [one, if_true, Bool.false_eq_true, if_false, widerM]
  have a : x * max 0 (m.keep.lo - d) ≤ x * m.keep.lo := Int.mul_le_mul_of_nonneg_left (by omega) hx
  have b : x * m.keep.hi ≤ x * min 1000 (m.keep.hi + d / 2) := Int.mul_le_mul_of_nonneg_left (by omega) hx
  generalize x * max 0 (m.keep.lo - d) = p at *
  generalize x * m.keep.lo = q at *
  generalize x * m.keep.hi = r at *
  generalize x * min 1000 (m.keep.hi + d / 2) = t at *
  omega
theorem mAt_set {row : List Mt} {i : Nat} (hi : i < row.length) (m : Mt) (j : Nat) : mAt (row.set i m) j = if j = i then m else mAt row j := by
  unfold mAt
  rw [List.getElem?_set]
  by_cases e : i = j
  · subst e; simp [hi]
  · rw [if_neg e, if_neg (fun h => e h.symm)]
theorem better_truth {row : List Mt} (hok : row.all okM = true) {s : Nat → Rg} (hs : okS s) {mask : Nat → Bool} {i : Nat} (hi : i < row.length) {d : Int} (hd : 0 ≤ d) {T : Nat → Int} (hT : TruthM row.length (mAt row) s mask T) : TruthM row.length (mAt (row.set i (widerM (mAt row i) d))) s mask T := by
  refine ⟨hT.1, fun j hj hm => ?_⟩
  have a := hT.2 j hj hm
  rw [mAt_set hi]
  split
  · subst_vars
    have b := wider_one (mAt_ok hok hj) hd (x := T j) (by have := hT.1 j (by omega); have := hs j; omega)
    omega
  · exact a
theorem better_ok {row : List Mt} {sc : List Rg} (h : checkScales row sc = 0) {i : Nat} (hi : i < row.length) {d : Int} (hd : 0 ≤ d) : checkScales (row.set i (widerM (mAt row i) d)) sc = 0 := by
  obtain ⟨k1, k2, k3⟩ := checkScales_ok h
  obtain ⟨k4, k5, k6⟩ := checkRow_ok k1
  refine checkScales_of (checkRow_of (by rw [List.length_set]; omega) (by rw [List.length_set]; omega) (List.all_eq_true.2 fun m hm => ?_)) (by rw [List.length_set]; omega) k3
  rcases List.mem_or_eq_of_mem_set hm with hm | rfl
  · exact List.all_eq_true.1 k6 m hm
  · exact wider_ok (mAt_ok k6 hi) hd
theorem better_law {row : List Mt} {sc : List Rg} (h : checkScales row sc = 0) {i : Nat} (hi : i < row.length) {d : Int} (hd : 0 ≤ d) :
    (possB row sc = true → possB (row.set i (widerM (mAt row i) d)) sc = true) ∧ (∀ t, truthE row sc t = 0 → truthE (row.set i (widerM (mAt row i) d)) sc t = 0) ∧
    (wrongL (row.set i (widerM (mAt row i) d)) sc).length ≤ (wrongL row sc).length ∧ (meltsL (row.set i (widerM (mAt row i) d)) sc).length ≤ (meltsL row sc).length := by
  obtain ⟨k1, k2, k3⟩ := checkScales_ok h
  obtain ⟨k4, k5, k6⟩ := checkRow_ok k1
  have hs := okS_sAt k3
  have h' := better_ok h hi hd
  have hl : (row.set i (widerM (mAt row i) d)).length = row.length := List.length_set ..
  have hT : ∀ (s : Nat → Rg), okS s → ∀ (mask : Nat → Bool) (T : Nat → Int), TruthM row.length (mAt row) s mask T → TruthM (row.set i (widerM (mAt row i) d)).length (mAt (row.set i (widerM (mAt row i) d))) s mask T := fun s hs mask T hT => by
    rw [hl]; exact better_truth k6 hs hi hd hT
  refine ⟨fun hp => ?_, fun t ht => ?_, ?_, ?_⟩
  · obtain ⟨T, h1⟩ := (possB_iff h).1 hp
    exact (possB_iff h').2 ⟨T, truthM_none.1 (hT _ hs _ T (truthM_none.2 h1))⟩
  · unfold truthE at ht ⊢
    rw [if_neg (by simp [h])] at ht
    rw [if_neg (by simp [h'])]
    split at ht
    · cases ht
    · rename_i e1
      rw [if_neg e1]
      split at ht
      · rename_i e2
        rw [if_pos e2]
        split at ht
        · rename_i e3
          rw [isT_iff.2 (truthM_none.1 (hT _ hs _ _ (truthM_none.2 (isT_iff.1 e3))))]; rfl
        · cases ht
      · cases ht
  · refine (wrong_law h').2.2.2 _ (wrong_law h).1 ?_
    obtain ⟨T, h1⟩ := (wrongG_iff h).1 (wrong_law h).2.1
    exact (wrongG_iff h').2 ⟨T, truthM_none.1 (hT _ (okS_frS _ _ hs) _ T (truthM_none.2 h1))⟩
  · refine (melts_law h').2.2.2 _ (by rw [hl]; exact (melts_law h).1) ?_
    obtain ⟨T, h1⟩ := (meltsG_iff h).1 (melts_law h).2.1
    exact (meltsG_iff h').2 ⟨T, hT _ hs _ T h1⟩
theorem keep_all {r : Rg} (h : okR r 1000000 = true) : leftOf [⟨⟨1000, 1000⟩, ⟨0, 0⟩⟩] r = r := by
  obtain ⟨h0, h1, h2⟩ := okR_t.1 h
  refine Rg.eq_of ?_ ?_
  · show max 0 (r.lo * 1000 / 1000 - 0) = r.lo
    rw [Int.mul_ediv_cancel _ (by omega)]; omega
  · show max 0 (r.hi * 1000 / 1000 - 0) = r.hi
    rw [Int.mul_ediv_cancel _ (by omega)]; omega
end Go.Proofs.Ytdcglphekafpdaa
