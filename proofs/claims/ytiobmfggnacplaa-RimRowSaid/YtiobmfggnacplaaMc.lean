/- Texts of the proof, laid together by program. -/
import Derived.Test.YtiobmfggnacplaaMa
import Derived.Test.YtiobmfggnacplaaMb
import Derived.ProofKit
import Derived.OpenShut
import Derived.Carry
import Derived.Deep.Slices
set_option linter.unusedSimpArgs false
set_option linter.unusedVariables false
/- Plain law of rims: borders and the period. -/
namespace Go.Proofs.Ytiobmfggnacplaa
/-- The least number by which a list is turned to be itself. -/
def perL (l : List Int) : Nat := ((List.range l.length).find? fun k => decide (0 < k) && decide (rot l k = l)).getD l.length
/-- q is a period: what stands q later is the same. -/
def isP (l : List Int) (q : Nat) : Prop := ∀ j, j + q < l.length → l[j]? = l[j + q]?
theorem isP_len (l : List Int) : isP l l.length := fun j h => by omega
theorem isP_rot {l : List Int} {q : Nat} (hq : q ≤ l.length) (h : rot l q = l) : isP l q := fun j hj => by
  have := rot_at (l := l) hq (i := j) (by omega)
  rw [h, Nat.mod_eq_of_lt hj] at this
  exact this
theorem isP_sub {l : List Int} {p q : Nat} (hp : isP l p) (hq : isP l q) (hpq : p < q) (hs : p + q ≤ l.length) : isP l (q - p) := fun j hj => by
  rcases Nat.lt_or_ge j p with h | h
  · have h1 := hq j (by omega)
    have h2 := hp (j + (q - p)) (by omega)
    rw [h1, h2]
    congr 1; omega
  · have h1 := hp (j - p) (by omega)
    have h2 := hq (j - p) (by omega)
    rw [show j - p + p = j by omega] at h1
    rw [← h1, h2]
    congr 1; omega
/-- A least period divides each period that is no longer than the rest. -/
theorem isP_dvd {l : List Int} {p : Nat} (h0 : 0 < p) (hp : isP l p) (hm : ∀ q, 0 < q → q < p → ¬ isP l q) : ∀ (f q : Nat), q ≤ f → 0 < q → isP l q → p + q ≤ l.length → p ∣ q
  | 0, q, hf, hq0, _, _ => by omega
  | f + 1, q, hf, hq0, hq, hs => by
    rcases Nat.lt_trichotomy q p with h | h | h
    · exact absurd hq (hm q hq0 h)
    · subst h; exact Nat.dvd_refl _
    · have h1 := isP_dvd h0 hp hm f (q - p) (by omega) (by omega) (isP_sub hp hq h hs) (by omega)
      have h2 : q = (q - p) + p := by omega
      rw [h2]
      exact Nat.dvd_add h1 (Nat.dvd_refl _)
theorem isP_mul {l : List Int} {p : Nat} (hp : isP l p) : ∀ (m j : Nat), j + m * p < l.length → l[j]? = l[j + m * p]?
  | 0, j, _ => by simp
  | m + 1, j, h => by
    rw [Nat.succ_mul] at h ⊢
    have h1 := isP_mul hp m j (by omega)
    have h2 := hp (j + m * p) (by omega)
    rw [h1, h2]
    congr 1; omega
/-- A period that divides the length turns the list into itself. -/
theorem rot_of_isP {l : List Int} {p : Nat} (h0 : 0 < p) (hle : p ≤ l.length) (hp : isP l p) (hd : p ∣ l.length) : rot l p = l := by
  refine rot_ext hle rfl fun i hi => ?_
  rcases Nat.lt_or_ge (i + p) l.length with h | h
  · rw [Nat.mod_eq_of_lt h]; exact hp i h
  · rw [Nat.mod_eq_sub_mod h, Nat.mod_eq_of_lt (by omega)]
    obtain ⟨m, hm⟩ := hd
    have hmp : 1 ≤ m := by
      rcases Nat.eq_zero_or_pos m with h1 | h1
      · subst h1; omega
      · exact h1
    have h3 : l.length = (m - 1) * p + p := by
      rw [← Nat.succ_mul, Nat.succ_eq_add_one, Nat.sub_add_cancel hmp, Nat.mul_comm]; exact hm
    have := isP_mul hp (m - 1) (i + p - l.length) (by omega)
    rw [this]
    congr 1; omega
theorem perL_pos {l : List Int} (h : 0 < l.length) : 0 < perL l ∧ perL l ≤ l.length := by
  unfold perL
  cases hf : (List.range l.length).find? fun k => decide (0 < k) && decide (rot l k = l) with
  | none => exact ⟨h, Nat.le_refl _⟩
  | some k =>
    have h1 := List.find?_some hf
    have h2 := List.mem_range.1 (List.mem_of_find?_eq_some hf)
    rw [Bool.and_eq_true, decide_eq_true_eq] at h1
    exact ⟨h1.1, by simp; omega⟩
theorem perL_rot (l : List Int) : rot l (perL l) = l := by
  unfold perL
  cases hf : (List.range l.length).find? fun k => decide (0 < k) && decide (rot l k = l) with
  | none => exact rot_all l
  | some k =>
    have h1 := List.find?_some hf
    rw [Bool.and_eq_true, decide_eq_true_eq, decide_eq_true_eq] at h1
    exact h1.2
theorem perL_min {l : List Int} {k : Nat} (h0 : 0 < k) (hk : k < perL l) : rot l k ≠ l := by
  intro e
  have hl : k < l.length := by
    rcases Nat.eq_zero_or_pos l.length with h | h
    · have := List.eq_nil_of_length_eq_zero h
      subst this
      simp [perL] at hk
    · have := perL_pos h; omega
  unfold perL at hk
  cases hf : (List.range l.length).find? fun k => decide (0 < k) && decide (rot l k = l) with
  | none =>
    have := List.find?_eq_none.1 hf k (List.mem_range.2 hl)
    simp [h0, e] at this
  | some j =>
    rw [hf] at hk
    have hj : k < j := hk
    have h1 := (List.find?_range_eq_some.1 hf).2.2 k hj
    simp [h0, e] at h1
/-- A list is turned into itself just by the multiples of its period. -/
theorem rot_mul {l : List Int} {k : Nat} (h0 : 0 < l.length) (hk : k ≤ l.length) (h : rot l k = l) : ∀ m, rot l (m * k % l.length) = l
  | 0 => by rw [Nat.zero_mul, Nat.zero_mod, rot_zero]
  | m + 1 => by
    have ih := rot_mul h0 hk h m
    have h1 : rot (rot l (m * k % l.length)) k = l := by rw [ih]; exact h
    rw [rot_rot (Nat.le_of_lt (Nat.mod_lt _ h0)) hk h0, Nat.mod_add_mod] at h1
    rw [Nat.succ_mul]; exact h1
theorem perL_dvd {l : List Int} {k : Nat} (h0 : 0 < l.length) (hk : k ≤ l.length) (h : rot l k = l) : perL l ∣ k := by
  have hp := perL_pos h0
  have hr : rot l (k % perL l) = l := by
    have h1 : perL l * (k / perL l) + k % perL l = k := Nat.div_add_mod k (perL l)
    have h2 := rot_mul h0 hp.2 (perL_rot l) (k / perL l)
    have h3 : k / perL l * perL l ≤ k := Nat.div_mul_le_self k (perL l)
    have h4 : k / perL l * perL l + k % perL l = k := by rw [Nat.mul_comm]; exact h1
    rcases Nat.lt_or_ge (k / perL l * perL l) l.length with h5 | h5
    · rw [Nat.mod_eq_of_lt h5] at h2
      have h6 : rot (rot l (k / perL l * perL l)) (k % perL l) = rot l ((k / perL l * perL l + k % perL l) % l.length) := rot_rot (by omega) (by omega) h0
      rw [h2, h4] at h6
      rw [h6]
      rcases Nat.lt_or_ge k l.length with h7 | h7
      · rw [Nat.mod_eq_of_lt h7]; exact h
      · obtain rfl : k = l.length := by omega
        rw [Nat.mod_self]; exact rot_zero l
    · have h6 : k % perL l = 0 := by omega
      rw [h6]; exact rot_zero l
  rcases Nat.eq_zero_or_pos (k % perL l) with h1 | h1
  · exact Nat.dvd_of_mod_eq_zero h1
  · exact absurd hr (perL_min h1 (Nat.mod_lt _ hp.1))
theorem perL_len {l : List Int} (h0 : 0 < l.length) : perL l ∣ l.length := perL_dvd h0 (Nat.le_refl _) (rot_all l)
/-- The period by the least period. -/
theorem perL_of {l : List Int} {p : Nat} (h0 : 0 < l.length) (hp0 : 0 < p) (hpl : p ≤ l.length) (hp : isP l p) (hm : ∀ q, 0 < q → q < p → ¬ isP l q) : perL l = if l.length % p = 0 then p else l.length := by
  have hL := perL_pos h0
  have hq := isP_rot hL.2 (perL_rot l)
  have hle : p ≤ perL l := by
    rcases Nat.lt_or_ge (perL l) p with h | h
    · exact absurd hq (hm _ hL.1 h)
    · exact h
  split
  · rename_i hd
    have h1 := rot_of_isP hp0 hpl hp (Nat.dvd_of_mod_eq_zero hd)
    have h2 := Nat.le_of_dvd hp0 (perL_dvd h0 hpl h1)
    omega
  · rename_i hd
    rcases Nat.lt_or_ge (perL l) l.length with h | h
    · exfalso
      obtain ⟨m, hm'⟩ := perL_len h0
      have hm2 : 2 ≤ m := by
        rcases Nat.lt_or_ge m 2 with h3 | h3
        · have : m = 0 ∨ m = 1 := by omega
          rcases this with rfl | rfl
          · omega
          · omega
        · exact h3
      have h4 : 2 * perL l ≤ l.length := by rw [hm', Nat.mul_comm]; exact Nat.mul_le_mul_left _ hm2
      have h5 := isP_dvd hp0 hp hm (perL l) (perL l) (Nat.le_refl _) hL.1 hq (by omega)
      exact hd (Nat.mod_eq_zero_of_dvd (Nat.dvd_trans h5 (perL_len h0)))
    · omega
/-- k is a border of the first i: a beginning that is an end, too. -/
def brdB (l : List Int) (i k : Nat) : Bool := (List.range k).all fun j => decide (l[j]? = l[i - k + j]?)
theorem brdB_t {l : List Int} {i k : Nat} : brdB l i k = true ↔ ∀ j, j < k → l[j]? = l[i - k + j]? := by
  unfold brdB
  rw [List.all_eq_true]
  exact ⟨fun h j hj => of_decide_eq_true (h j (List.mem_range.2 hj)), fun h j hj => decide_eq_true (h j (List.mem_range.1 hj))⟩
def mxTo (l : List Int) (i : Nat) : Nat → Nat
  | 0 => 0
  | k + 1 => if brdB l i k then k else mxTo l i k
/-- The longest border of the first i, shorter than i. -/
def mxB (l : List Int) (i : Nat) : Nat := mxTo l i i
theorem mxTo_le (l : List Int) (i : Nat) : ∀ k, mxTo l i k ≤ k - 1
  | 0 => by simp [mxTo]
  | k + 1 => by
    have := mxTo_le l i k
    unfold mxTo
    split <;> omega
theorem mxTo_brd (l : List Int) (i : Nat) : ∀ k, brdB l i (mxTo l i k) = true
  | 0 => by simp [mxTo, brdB]
  | k + 1 => by
    unfold mxTo
    split
    · assumption
    · exact mxTo_brd l i k
theorem mxTo_max (l : List Int) (i : Nat) : ∀ k j, j < k → brdB l i j = true → j ≤ mxTo l i k
  | k + 1, j, h, hb => by
    unfold mxTo
    split
    · omega
    · rename_i h1
      rcases Nat.lt_or_ge j k with h2 | h2
      · exact mxTo_max l i k j h2 hb
      · obtain rfl : j = k := by omega
        rw [hb] at h1; exact absurd rfl h1
theorem mxB_lt {l : List Int} {i : Nat} (h : 0 < i) : mxB l i < i := by
  have := mxTo_le l i i
  unfold mxB
  omega
theorem mxB_brd (l : List Int) (i : Nat) : brdB l i (mxB l i) = true := mxTo_brd l i i
theorem mxB_max {l : List Int} {i j : Nat} (h : j < i) (hb : brdB l i j = true) : j ≤ mxB l i := mxTo_max l i i j h hb
theorem mxB_one (l : List Int) : mxB l 1 = 0 := by have := mxB_lt (l := l) (i := 1) (by omega); omega
/-- A shorter border of a prefix is a border of a longer border. -/
theorem brd_brd {l : List Int} {i k j : Nat} (hk : k ≤ i) (hj : j ≤ k) (h1 : brdB l i k = true) (h2 : brdB l i j = true) : brdB l k j = true := by
  rw [brdB_t] at h1 h2 ⊢
  intro x hx
  rw [h2 x hx, h1 (k - j + x) (by omega)]
  congr 1; omega
theorem brd_of_brd {l : List Int} {i k j : Nat} (hk : k ≤ i) (hj : j ≤ k) (h1 : brdB l i k = true) (h2 : brdB l k j = true) : brdB l i j = true := by
  rw [brdB_t] at h1 h2 ⊢
  intro x hx
  rw [h2 x hx, h1 (k - j + x) (by omega)]
  congr 1; omega
theorem brd_succ {l : List Int} {i k : Nat} (hk : k ≤ i) : brdB l (i + 1) (k + 1) = true ↔ brdB l i k = true ∧ l[k]? = l[i]? := by
  rw [brdB_t, brdB_t]
  constructor
  · intro h
    refine ⟨fun j hj => ?_, ?_⟩
    · rw [h j (by omega)]; congr 1; omega
    · rw [h k (by omega)]; congr 1; omega
  · rintro ⟨h1, h2⟩ j hj
    rcases Nat.lt_or_ge j k with h | h
    · rw [h1 j h]; congr 1; omega
    · obtain rfl : j = k := by omega
      rw [h2]; congr 1; omega
/-- The next border: found at k, or none. -/
theorem mxB_found {l : List Int} {i k : Nat} (hk : k < i) (hb : brdB l i k = true) (he : l[k]? = l[i]?) (hm : ∀ j, j < i → brdB l i j = true → l[j]? = l[i]? → j ≤ k) : mxB l (i + 1) = k + 1 := by
  have h1 : k + 1 ≤ mxB l (i + 1) := mxB_max (by omega) ((brd_succ (by omega)).2 ⟨hb, he⟩)
  have h2 := mxB_lt (l := l) (i := i + 1) (by omega)
  have h3 := mxB_brd l (i + 1)
  obtain ⟨m, hm'⟩ : ∃ m, mxB l (i + 1) = m + 1 := ⟨mxB l (i + 1) - 1, by omega⟩
  rw [hm'] at h3 h2 h1 ⊢
  obtain ⟨h4, h5⟩ := (brd_succ (by omega)).1 h3
  have := hm m (by omega) h4 h5
  omega
theorem mxB_none {l : List Int} {i : Nat} (hm : ∀ j, j < i → brdB l i j = true → l[j]? ≠ l[i]?) : mxB l (i + 1) = 0 := by
  rcases Nat.eq_zero_or_pos (mxB l (i + 1)) with h | h
  · exact h
  · have h2 := mxB_lt (l := l) (i := i + 1) (by omega)
    have h3 := mxB_brd l (i + 1)
    obtain ⟨m, hm'⟩ : ∃ m, mxB l (i + 1) = m + 1 := ⟨mxB l (i + 1) - 1, by omega⟩
    rw [hm'] at h3 h2
    obtain ⟨h4, h5⟩ := (brd_succ (by omega)).1 h3
    exact absurd h5 (hm m (by omega) h4)
/-- The period out of the longest border. -/
theorem isP_brd {l : List Int} {k : Nat} (hk : k ≤ l.length) : isP l (l.length - k) ↔ brdB l l.length k = true := by
  rw [brdB_t]
  constructor
  · intro h j hj
    rw [h j (by omega)]; congr 1; omega
  · intro h j hj
    rw [h j (by omega)]; congr 1; omega
theorem perL_brd {l : List Int} (h0 : 0 < l.length) : perL l = if l.length % (l.length - mxB l l.length) = 0 then l.length - mxB l l.length else l.length := by
  have h1 := mxB_lt (l := l) h0
  refine perL_of h0 (by omega) (by omega) ((isP_brd (by omega)).2 (mxB_brd l _)) fun q hq0 hq hi => ?_
  have h2 := (isP_brd (l := l) (k := l.length - q) (by omega)).1 (by rw [show l.length - (l.length - q) = q by omega]; exact hi)
  have := mxB_max (l := l) (i := l.length) (j := l.length - q) (by omega) h2
  omega
end Go.Proofs.Ytiobmfggnacplaa
/- Plain law of rims: words (lists that come before all their turns), and how a row is cut into them. -/
namespace Go.Proofs.Ytiobmfggnacplaa
theorem bef_of_idx : ∀ {i : Nat} {a b : List Int} {x y : Int}, (∀ j, j < i → a[j]? = b[j]?) → a[i]? = some x → b[i]? = some y → x < y → bef a b = true
  | 0, u :: a, v :: b, x, y, _, h1, h2, h3 => by
    simp at h1 h2
    subst h1 h2
    rw [bef, if_neg (by omega), decide_eq_true_eq]; exact h3
  | i + 1, u :: a, v :: b, x, y, h, h1, h2, h3 => by
    have h0 : u = v := by simpa using h 0 (by omega)
    subst h0
    rw [bef_cons_same]
    exact bef_of_idx (i := i) (fun j hj => by simpa using h (j + 1) (by omega)) (by simpa using h1) (by simpa using h2) h3
  | _, [], _, _, _, _, h1, _, _ => by simp at h1
  | _, _ :: _, [], _, _, _, _, h2, _ => by simp at h2
theorem idx_of_bef : ∀ {a b : List Int}, bef a b = true → (∃ (i : Nat) (x y : Int), (∀ j, j < i → a[j]? = b[j]?) ∧ a[i]? = some x ∧ b[i]? = some y ∧ x < y) ∨ (a <+: b ∧ a.length < b.length)
  | [], [], h => by simp [bef] at h
  | [], _ :: _, _ => .inr ⟨List.nil_prefix, by simp⟩
  | _ :: _, [], h => by simp [bef] at h
  | u :: a, v :: b, h => by
    rw [bef] at h
    by_cases e : u = v
    · subst e
      rw [if_pos rfl] at h
      rcases idx_of_bef h with ⟨i, x, y, h1, h2, h3, h4⟩ | ⟨⟨t, ht⟩, h2⟩
      · exact .inl ⟨i + 1, x, y, fun j hj => by
          cases j with
          | zero => simp
          | succ j => simpa using h1 j (by omega), by simpa using h2, by simpa using h3, h4⟩
      · exact .inr ⟨⟨t, by rw [List.cons_append, ht]⟩, by simp; exact h2⟩
    · rw [if_neg e, decide_eq_true_eq] at h
      exact .inl ⟨0, u, v, fun j hj => by omega, by simp, by simp, h⟩
/-- A word: it comes before each of its turns. -/
def Wrd (l : List Int) : Prop := l ≠ [] ∧ ∀ k, 0 < k → k < l.length → bef l (rot l k) = true
def isW (l : List Int) : Bool := decide (0 < l.length) && (List.range l.length).all fun k => decide (k = 0) || bef l (rot l k)
theorem isW_t {l : List Int} : isW l = true ↔ Wrd l := by
  unfold isW Wrd
  rw [Bool.and_eq_true, decide_eq_true_eq, List.all_eq_true, List.length_pos_iff]
  refine and_congr_right fun _ => ⟨fun h k h1 h2 => ?_, fun h k hk => ?_⟩
  · have := h k (List.mem_range.2 h2)
    rw [Bool.or_eq_true, decide_eq_true_eq] at this
    rcases this with h3 | h3
    · omega
    · exact h3
  · rw [Bool.or_eq_true, decide_eq_true_eq]
    rcases Nat.eq_zero_or_pos k with h1 | h1
    · exact .inl h1
    · exact .inr (h k h1 (List.mem_range.1 hk))
theorem wd_one (x : Int) : Wrd [x] := ⟨by simp, fun k h1 h2 => by simp at h2; omega⟩
/-- A word comes before each of its ends. -/
theorem wd_end {l : List Int} (h : Wrd l) {k : Nat} (h0 : 0 < k) (hk : k < l.length) : bef l (l.drop k) = true := by
  obtain ⟨u, hu⟩ : ∃ u, l.take k = u := ⟨_, rfl⟩
  obtain ⟨v, hv⟩ : ∃ v, l.drop k = v := ⟨_, rfl⟩
  have hl : l = u ++ v := by rw [← hu, ← hv, List.take_append_drop]
  have hul : u.length = k := by rw [← hu, List.length_take]; omega
  have hvl : v.length = l.length - k := by rw [← hv, List.length_drop]
  have h1 : bef (u ++ v) (v ++ u) = true := by
    have := h.2 k h0 hk
    unfold rot at this
    rwa [hv, hu, hl] at this
  rw [hv]
  cases hb : bef l v
  · exfalso
    rcases bef_total hb with h2 | h2
    · rw [hl] at h2
      by_cases hp : v <+: u ++ v
      · obtain ⟨w, hw⟩ := hp
        have hwl : w.length = u.length := by
          have := congrArg List.length hw
          simp at this; omega
        have h3 := h.2 v.length (by omega) (by omega)
        have h4 : rot l v.length = w ++ v := by
          unfold rot
          rw [hl, ← hw]; simp
        rw [h4] at h3
        have h5 : bef (v ++ w) (v ++ u) = true := by rw [hw]; exact h1
        rw [bef_app] at h5
        rw [hl] at h3
        have h6 := bef_cut (by omega) h3 (fun e => by rw [e, bef_self] at h5; cases h5)
        have := bef_asymm h5
        rw [h6] at this; cases this
      · have h3 := bef_more u [] h2 hp
        rw [List.append_nil] at h3
        have := bef_asymm h1
        rw [h3] at this; cases this
    · have := congrArg List.length h2
      omega
  · rfl
theorem wd_of_end {l : List Int} (h0 : l ≠ []) (h : ∀ k, 0 < k → k < l.length → bef l (l.drop k) = true) : Wrd l := ⟨h0, fun k h1 h2 => by
  have h3 := bef_more [] (l.take k) (h k h1 h2) (fun hp => by have := hp.length_le; rw [List.length_drop] at this; omega)
  rw [List.append_nil] at h3
  exact h3⟩
/-- Two words, the one before the other, are together a word. -/
theorem wd_app {u v : List Int} (hu : Wrd u) (hv : Wrd v) (h : bef u v = true) : Wrd (u ++ v) := by
  have hul := List.length_pos_iff.2 hu.1
  have hvl := List.length_pos_iff.2 hv.1
  have h1 : bef (u ++ v) v = true := by
    by_cases hp : u <+: v
    · obtain ⟨w, rfl⟩ := hp
      rw [bef_app]
      have hw : w ≠ [] := fun e => by subst e; rw [List.append_nil, bef_self] at h; cases h
      have := wd_end hv (k := u.length) hul (by rw [List.length_append]; have := List.length_pos_iff.2 hw; omega)
      rwa [List.drop_left] at this
    · have := bef_more v [] h hp
      rwa [List.append_nil] at this
  refine wd_of_end (by simp [hu.1]) fun k h0 hk => ?_
  rcases Nat.lt_trichotomy k u.length with h2 | h2 | h2
  · rw [List.drop_append_of_le_length (by omega)]
    exact bef_more v v (wd_end hu h0 h2) (fun hp => by have := hp.length_le; rw [List.length_drop] at this; omega)
  · subst h2; rw [List.drop_left]; exact h1
  · rw [List.drop_append, List.drop_eq_nil_of_le (by omega), List.nil_append]
    rw [List.length_append] at hk
    exact bef_trans h1 (wd_end hv (by omega) (by omega))
/-- Words, none before the next one. -/
def CFL : List (List Int) → Prop
  | [] => True
  | f :: fs => Wrd f ∧ (∀ g ∈ fs.head?, bef f g = false) ∧ CFL fs
theorem cfl_all : ∀ {f : List Int} {fs : List (List Int)}, CFL (f :: fs) → ∀ g ∈ fs, bef f g = false
  | f, g :: fs, h, x, hx => by
    have h1 : bef f g = false := h.2.1 g (by simp)
    rcases List.mem_cons.1 hx with rfl | hx
    · exact h1
    · have h2 := cfl_all h.2.2 x hx
      exact bef_le_le h2 h1
/-- The end of a beginning of some lists is a beginning of one of them. -/
theorem end_of_pre : ∀ {fs : List (List Int)} {r : List Int}, r ≠ [] → r <+: fs.flatten → ∃ g ∈ fs, ∃ t, t ≠ [] ∧ t <+: g ∧ t <:+ r
  | [], r, h0, h => by
    have := List.prefix_nil.1 h
    exact absurd this h0
  | f :: fs, r, h0, h => by
    rw [List.flatten_cons] at h
    rcases Nat.lt_or_ge f.length r.length with h1 | h1
    · obtain ⟨t, ht⟩ := h
      have hf : f <+: r := List.prefix_of_prefix_length_le (List.prefix_append _ _) ⟨t, ht⟩ (by omega)
      obtain ⟨r', rfl⟩ := hf
      rw [List.append_assoc, List.append_cancel_left_eq] at ht
      obtain ⟨g, hg, t', h2, h3, h4⟩ := end_of_pre (fs := fs) (r := r') (fun e => by subst e; simp at h1) ⟨t, ht⟩
      exact ⟨g, List.mem_cons_of_mem _ hg, t', h2, h3, h4.trans (List.suffix_append _ _)⟩
    · exact ⟨f, List.mem_cons_self .., r, h0, List.prefix_of_prefix_length_le h (List.prefix_append _ _) h1, List.suffix_refl _⟩
/-- No longer beginning than the first of them is a word. -/
theorem cfl_longest {f : List Int} {fs : List (List Int)} (h : CFL (f :: fs)) {p : List Int} (hp : Wrd p) (hpre : p <+: (f :: fs).flatten) : p.length ≤ f.length := by
  rcases Nat.lt_or_ge f.length p.length with h1 | h1
  · exfalso
    rw [List.flatten_cons] at hpre
    obtain ⟨t, ht⟩ := hpre
    have hf : f <+: p := List.prefix_of_prefix_length_le (List.prefix_append _ _) ⟨t, ht⟩ (by omega)
    obtain ⟨r, rfl⟩ := hf
    rw [List.append_assoc, List.append_cancel_left_eq] at ht
    have hr : r ≠ [] := fun e => by subst e; simp at h1
    obtain ⟨g, hg, t', h2, h3, h4⟩ := end_of_pre (fs := fs) hr ⟨t, ht⟩
    have hfl := List.length_pos_iff.2 h.1.1
    have htl := List.length_pos_iff.2 h2
    -- p comes before t'
    obtain ⟨s, hs⟩ := h4
    have e : (f ++ r).drop (f.length + s.length) = t' := by rw [← hs, ← List.append_assoc, ← List.length_append, List.drop_left]
    have h5 := wd_end hp (k := f.length + s.length) (by omega) (by rw [List.length_append, ← hs, List.length_append]; omega)
    rw [e] at h5
    -- but t' is no greater than g, g than f, f than p
    obtain ⟨s', hs'⟩ := h3
    have h6 : bef g t' = false := by rw [← hs']; exact bef_pre t' s'
    have h7 := cfl_all h g hg
    have h8 : bef (f ++ r) f = false := bef_pre f r
    have h9 := bef_le_le h6 (bef_le_le h7 h8)
    rw [h9] at h5; cases h5
  · exact h1
theorem cfl_unique : ∀ {fs gs : List (List Int)}, CFL fs → CFL gs → fs.flatten = gs.flatten → fs = gs
  | [], [], _, _, _ => rfl
  | [], g :: gs, _, hg, h => by
    rw [List.flatten_cons, List.flatten_nil] at h
    exact absurd (List.append_eq_nil_iff.1 h.symm).1 hg.1.1
  | f :: fs, [], hf, _, h => by
    rw [List.flatten_cons, List.flatten_nil] at h
    exact absurd (List.append_eq_nil_iff.1 h).1 hf.1.1
  | f :: fs, g :: gs, hf, hg, h => by
    have h1 := cfl_longest hg (p := f) hf.1 (by rw [← h, List.flatten_cons]; exact List.prefix_append _ _)
    have h2 := cfl_longest hf (p := g) hg.1 (by rw [h, List.flatten_cons]; exact List.prefix_append _ _)
    have h3 := h
    rw [List.flatten_cons, List.flatten_cons] at h3
    obtain ⟨rfl, h4⟩ := List.append_inj h3 (by omega)
    rw [cfl_unique hf.2.2 hg.2.2 h4]
/-- Where lists that stand one behind the other begin. -/
def starts : Nat → List (List Int) → List Nat
  | _, [] => []
  | n, f :: fs => n :: starts (n + f.length) fs
/-- The longest beginning that is a word. -/
def lwTo (l : List Int) : Nat → Nat
  | 0 => 1
  | k + 1 => if isW (l.take (k + 1)) then k + 1 else lwTo l k
def lw (l : List Int) : Nat := lwTo l l.length
theorem lwTo_pos (l : List Int) : ∀ k, 1 ≤ lwTo l k
  | 0 => Nat.le_refl _
  | k + 1 => by
    unfold lwTo
    split
    · omega
    · exact lwTo_pos l k
theorem lwTo_wd {l : List Int} (h0 : l ≠ []) : ∀ k, Wrd (l.take (lwTo l k))
  | 0 => by
    cases l with
    | nil => exact absurd rfl h0
    | cons a l => exact wd_one a
  | k + 1 => by
    unfold lwTo
    split
    · rename_i h; exact isW_t.1 h
    · exact lwTo_wd h0 k
theorem lwTo_max {l : List Int} : ∀ k j, j ≤ k → Wrd (l.take j) → j ≤ lwTo l k
  | 0, j, h, _ => by omega
  | k + 1, j, h, hw => by
    unfold lwTo
    split
    · omega
    · rename_i h1
      rcases Nat.lt_or_ge j (k + 1) with h2 | h2
      · exact lwTo_max k j (by omega) hw
      · obtain rfl : j = k + 1 := by omega
        exact absurd (isW_t.2 hw) h1
theorem lwTo_le {l : List Int} (h0 : l ≠ []) : ∀ k, k ≤ l.length → lwTo l k ≤ l.length
  | 0, _ => List.length_pos_iff.2 h0
  | k + 1, h => by
    unfold lwTo
    split
    · exact h
    · exact lwTo_le h0 k (by omega)
/-- A row cut into words, each the longest beginning. -/
def cutW : Nat → List Int → List (List Int)
  | 0, _ => []
  | n + 1, l => if l = [] then [] else l.take (lw l) :: cutW n (l.drop (lw l))
theorem cutW_flat : ∀ n l, l.length ≤ n → (cutW n l).flatten = l
  | 0, l, h => by rw [List.eq_nil_of_length_eq_zero (by omega : l.length = 0)]; rfl
  | n + 1, l, h => by
    unfold cutW
    split
    · rename_i e; rw [e]; rfl
    · have := lwTo_pos l l.length
      rw [List.flatten_cons, cutW_flat n _ (by rw [List.length_drop]; unfold lw; omega), List.take_append_drop]
theorem cutW_cfl : ∀ n l, l.length ≤ n → CFL (cutW n l)
  | 0, l, h => trivial
  | n + 1, l, h => by
    unfold cutW
    split
    · trivial
    · rename_i h0
      have hp := lwTo_pos l l.length
      have hle := lwTo_le h0 l.length (Nat.le_refl _)
      have hw := lwTo_wd h0 l.length
      refine ⟨hw, fun g hg => ?_, cutW_cfl n _ (by rw [List.length_drop]; unfold lw; omega)⟩
      -- the next one would make a longer word
      cases hb : bef (l.take (lw l)) g
      · rfl
      · exfalso
        have hg2 : l.drop (lw l) ≠ [] ∧ g = (l.drop (lw l)).take (lw (l.drop (lw l))) := by
          cases n with
          | zero => simp [cutW] at hg
          | succ n =>
            unfold cutW at hg
            split at hg
            · simp at hg
            · rename_i hd
              simp at hg
              exact ⟨hd, hg.symm⟩
        obtain ⟨hd, hge⟩ := hg2
        have hw2 : Wrd g := by rw [hge]; exact lwTo_wd hd _
        have hle2 := lwTo_le hd _ (Nat.le_refl _)
        have hp2 := lwTo_pos (l.drop (lw l)) (l.drop (lw l)).length
        have hw3 := wd_app hw hw2 hb
        have e : l.take (lw l) ++ g = l.take (lw l + lw (l.drop (lw l))) := by
          rw [hge, List.take_add]
        have e2 : l.take (lwTo l l.length) ++ g = l.take (lw l + lw (l.drop (lw l))) := e
        rw [e2] at hw3
        have hll : lw l + lw (l.drop (lw l)) ≤ l.length := by
          have : (l.drop (lw l)).length = l.length - lw l := List.length_drop
          unfold lw at *
          omega
        have := lwTo_max (l := l) l.length _ hll hw3
        unfold lw at *
        omega
/-- The words of a row. -/
def wordsL (l : List Int) : List (List Int) := cutW l.length l
theorem wordsL_flat (l : List Int) : (wordsL l).flatten = l := cutW_flat _ _ (Nat.le_refl _)
theorem wordsL_cfl (l : List Int) : CFL (wordsL l) := cutW_cfl _ _ (Nat.le_refl _)
theorem wordsL_of {fs : List (List Int)} (h : CFL fs) : wordsL fs.flatten = fs := cfl_unique (wordsL_cfl _) h (wordsL_flat _)
/-- The last word is the least of all ends. -/
theorem cfl_last : ∀ {fs : List (List Int)} {g : List Int}, CFL (fs ++ [g]) → ∀ s, s ≠ [] → s <:+ (fs ++ [g]).flatten → bef s g = false
  | [], g, h, s, h0, hs => by
    simp at hs
    obtain ⟨t, ht⟩ := hs
    rcases Nat.eq_zero_or_pos t.length with h1 | h1
    · rw [List.eq_nil_of_length_eq_zero h1, List.nil_append] at ht
      rw [ht]; exact bef_self _
    · have h2 := wd_end h.1 (k := t.length) h1 (by rw [← ht, List.length_append]; have := List.length_pos_iff.2 h0; omega)
      have e : g.drop t.length = s := by rw [← ht, List.drop_left]
      rw [e] at h2
      exact bef_asymm h2
  | f :: fs, g, h, s, h0, hs => by
    rw [List.cons_append, List.flatten_cons] at hs
    obtain ⟨t, ht⟩ := hs
    rcases Nat.lt_or_ge t.length f.length with h1 | h1
    · -- s begins with an end of f
      have e : s = f.drop t.length ++ (fs ++ [g]).flatten := by
        have := congrArg (List.drop t.length) ht
        rw [List.drop_left, List.drop_append_of_le_length (by omega)] at this
        exact this
      have hg : bef f g = false := cfl_all h g (by simp)
      have h2 : bef (f.drop t.length) f = false := by
        rcases Nat.eq_zero_or_pos t.length with h3 | h3
        · rw [h3]; exact bef_self _
        · exact bef_asymm (wd_end h.1 h3 h1)
      rw [e]
      exact bef_le_le hg (bef_le_le h2 (bef_pre _ _))
    · refine cfl_last h.2.2 s h0 ?_
      have := congrArg (List.drop f.length) ht
      rw [List.drop_left, List.drop_append_of_le_length h1] at this
      exact ⟨t.drop f.length, this⟩
/-- Duval's step: a list with a period that is a word, followed by a greater touch. -/
theorem wd_step {w : List Int} {per : Nat} {c x : Int} (h0 : 0 < per) (hpl : per ≤ w.length) (hp : isP w per) (hw : Wrd (w.take per)) (hx : w[w.length - per]? = some x) (hc : x < c) : Wrd (w ++ [c]) := by
  have at_ : ∀ j, j < w.length → (w ++ [c])[j]? = w[j]? := fun j hj => List.getElem?_append_left hj
  have atE : (w ++ [c])[w.length]? = some c := by simp
  have pm : ∀ q j, j + q * per < w.length → w[j]? = w[j + q * per]? := fun q j h => isP_mul hp q j h
  refine wd_of_end (by simp) fun k hk0 hk => ?_
  rw [List.length_append] at hk
  simp at hk
  have dr : ∀ j, ((w ++ [c]).drop k)[j]? = (w ++ [c])[k + j]? := fun j => by rw [List.getElem?_drop]
  obtain ⟨q, r, hqr, hr⟩ : ∃ q r, k = q * per + r ∧ r < per := ⟨k / per, k % per, by rw [Nat.mul_comm]; exact (Nat.div_add_mod k per).symm, Nat.mod_lt _ h0⟩
  -- what stands at the end, by the period
  have hxq : ∀ q', 1 ≤ q' → q' * per ≤ w.length → w[w.length - q' * per]? = some x := by
    intro q' h1 h2
    have h3 : q' * per = (q' - 1) * per + per := by rw [← Nat.succ_mul]; congr 1; omega
    have h4 := pm (q' - 1) (w.length - q' * per) (by omega)
    rw [h4, ← hx]
    congr 1; omega
  rcases Nat.eq_zero_or_pos r with hr0 | hr0
  · subst hr0
    rw [Nat.add_zero] at hqr
    have hq1 : 1 ≤ q := by
      rcases Nat.eq_zero_or_pos q with h | h
      · subst h; omega
      · exact h
    refine bef_of_idx (i := w.length - k) (x := x) (y := c) (fun j hj => ?_) ?_ ?_ hc
    · rw [dr, at_ j (by omega), at_ (k + j) (by omega), pm q j (by omega)]
      congr 1; omega
    · rw [at_ _ (by omega), hqr]
      exact hxq q hq1 (by omega)
    · rw [dr, show k + (w.length - k) = w.length by omega]
      exact atE
  · have hul : (w.take per).length = per := by rw [List.length_take]; omega
    have hs := wd_end hw hr0 (by omega)
    rcases idx_of_bef hs with ⟨i, a, b, h1, h2, h3, h4⟩ | ⟨h1, h2⟩
    · rw [List.getElem?_drop] at h3
      have hi : r + i < per := by
        have := (List.getElem?_eq_some_iff.1 h3).1
        omega
      have tk : ∀ j, j < per → (w.take per)[j]? = w[j]? := fun j hj => by rw [List.getElem?_take, if_pos hj]
      rw [tk _ (by omega)] at h2
      rw [tk _ hi] at h3
      have h1' : ∀ j, j < i → w[j]? = w[r + j]? := fun j hj => by
        have := h1 j hj
        rw [List.getElem?_drop, tk _ (by omega), tk _ (by omega)] at this
        exact this
      rcases Nat.lt_or_ge (k + i) w.length with h5 | h5
      · refine bef_of_idx (i := i) (x := a) (y := b) (fun j hj => ?_) ?_ ?_ h4
        · rw [dr, at_ j (by omega), at_ (k + j) (by omega), h1' j hj, pm q (r + j) (by omega)]
          congr 1; omega
        · rw [at_ _ (by omega)]; exact h2
        · rw [dr, at_ _ h5, ← h3, pm q (r + i) (by omega)]
          congr 1; omega
      · have hq1 : 1 ≤ q := by
          rcases Nat.eq_zero_or_pos q with h | h
          · subst h; omega
          · exact h
        have hqp : q * per ≤ w.length := by omega
        have hz : w[w.length - k + r]? = some x := by
          have := hxq q hq1 hqp
          rw [show w.length - k + r = w.length - q * per by omega]
          exact this
        obtain ⟨z, hz2⟩ : ∃ z, w[w.length - k]? = some z := ⟨w[w.length - k], List.getElem?_eq_getElem (by omega)⟩
        have hzx : z ≤ x := by
          rcases Nat.lt_or_ge (w.length - k) i with h6 | h6
          · have := h1' (w.length - k) h6
            rw [hz2, Nat.add_comm, hz] at this
            have := Option.some.inj this
            omega
          · have e : w.length - k = i := by omega
            rw [e] at hz2 hz
            rw [h2] at hz2
            rw [Nat.add_comm, h3] at hz
            have e1 := Option.some.inj hz2
            have e2 := Option.some.inj hz
            omega
        refine bef_of_idx (i := w.length - k) (x := z) (y := c) (fun j hj => ?_) ?_ ?_ (by omega)
        · rw [dr, at_ j (by omega), at_ (k + j) (by omega), h1' j (by omega), pm q (r + j) (by omega)]
          congr 1; omega
        · rw [at_ _ (by omega)]; exact hz2
        · rw [dr, show k + (w.length - k) = w.length by omega]
          exact atE
    · have := h1.length_le
      rw [List.length_drop] at this
      omega
end Go.Proofs.Ytiobmfggnacplaa
/- Walks: which list comes before, as the reference says. -/
namespace Go.Proofs.Ytiobmfggnacplaa
open Go.RowKit
attribute [local go_sem] Oper.semAt_some
theorem take_idx {a b : List Int} {k : Nat} (h : a.take k = b.take k) : ∀ j, j < k → a[j]? = b[j]? := fun j hj => by
  have := congrArg (fun l => l[j]?) h
  simpa [List.getElem?_take, hj] using this
theorem bef_at {a b : List Int} {k : Nat} {x y : Int} (h : a.take k = b.take k) (ha : a[k]? = some x) (hb : b[k]? = some y) (hne : x ≠ y) : bef a b = decide (x < y) := by
  rcases Int.lt_or_gt_of_ne hne with h1 | h1
  · rw [bef_of_idx (take_idx h) ha hb h1, decide_eq_true h1]
  · rw [bef_asymm (bef_of_idx (take_idx h.symm) hb ha h1), decide_eq_false (by omega)]
theorem bef_endA {a b : List Int} {k : Nat} (h : a.take k = b.take k) (hk : k = a.length) (hb : k ≤ b.length) : bef a b = decide (a.length < b.length) := by
  have h1 : a = b.take k := by rw [← h, hk, List.take_length]
  have h2 : b = a ++ b.drop k := by
    have := List.take_append_drop k b
    rw [← h1] at this; exact this.symm
  rcases Nat.lt_or_ge a.length b.length with h3 | h3
  · have h4 := bef_pre_lt a (l := b.drop k) (fun e => by have := congrArg List.length e; rw [List.length_drop] at this; simp at this; omega)
    rw [← h2] at h4
    rw [h4, decide_eq_true h3]
  · have h4 : b.drop k = [] := List.drop_of_length_le (by omega)
    rw [h4, List.append_nil] at h2
    rw [h2, bef_self, decide_eq_false (by omega)]
theorem bef_endB {a b : List Int} {k : Nat} (h : a.take k = b.take k) (hk : k = b.length) (hb : k ≤ a.length) : bef a b = decide (a.length < b.length) := by
  have h1 : b = a.take k := by rw [h, hk, List.take_length]
  have h2 : a = b ++ a.drop k := by
    have := List.take_append_drop k a
    rw [← h1] at this; exact this.symm
  have h3 := bef_pre b (a.drop k)
  rw [← h2] at h3
  rw [h3, decide_eq_false (by omega)]
set_option maxRecDepth 10000 in
set_option maxHeartbeats 1600000 in
theorem before_any (w : World) (A B : Option Addr) (n c m d : Nat) (a b : List Int) (ha : InS w w.heap.size A n a) (hb : InS w w.heap.size B m b) (hn : n ≤ 1000000) (hm : m ≤ 1000000) :
    Calls Try.prog 50 #[.slice A n c, .slice B m d] w fun e w' => e = .returned (.bool (bef a b)) ∧ Below w.heap.size w w' := by
  have la := hid ha.len
  have lb := hid hb.len
  go_enter Try.func50, Try.ntmps50
  go_wp2
  go_loopw [5] (fun i wr => ∃ k : Nat, k ≤ n ∧ k ≤ m ∧ i = .int .i64 k ∧ Hid (a.take k = b.take k) ∧ Below w.heap.size w wr) (fun i _ => n - (intOf i).toNat)
  case atStart => exact ⟨0, by omega, by omega, rfl, by simp [Hid], Below.refl _ _⟩
  case round =>
    obtain ⟨k, hk, hkm, rfl, heq, hbel⟩ := hrel
    have hsz := hbel.size
    by_cases hlt : k < n
    · have hlti : (k : Int) < n := by omega
      by_cases hlm : k < m
      · have hlmi : (k : Int) < m := by omega
        obtain ⟨b1, o1, x, rfl, hb1, hx, c1⟩ := (ha.below hbel (Nat.le_refl _)).at_ hlt
        obtain ⟨b2, o2, y, rfl, hb2, hy, d1⟩ := (hb.below hbel (Nat.le_refl _)).at_ hlm
        have HX := hid hx
        have HY := hid hy
        clear hx hy
        by_cases hxy : x = y
        · subst hxy
          have t1 : (x != x) = false := by simp
          go_wp2
          go_quiet (fail)
          go_wp2
          exact ⟨⟨k + 1, by omega, by omega, by go_num, take_eq_succ heq.out HX.out HY.out, below_drewN hbel _⟩, by simp [intOf]; omega⟩
        · have t1 : (x != y) = true := by simpa using hxy
          have hfin : Hid (bef a b = decide (x < y)) := hid (bef_at heq.out HX.out HY.out hxy)
          clear hxy
          go_wp2
          go_quiet (fail)
          go_wp2
          go_quiet (fail)
          go_wp2
          go_ret
          exact ⟨by rw [hfin.out]; rfl, below_drewN (below_drewN hbel _) _⟩
      · have hlmi : ¬ (k : Int) < m := by omega
        have hfin : Hid (bef a b = decide (n < m)) := hid (by rw [bef_endB heq.out (by rw [lb.out]; omega) (by rw [la.out]; exact hk), la.out, lb.out])
        go_wp2
        go_ret
        exact ⟨by rw [hfin.out]; simp, hbel⟩
    · have hlti : ¬ (k : Int) < n := by omega
      have hfin : Hid (bef a b = decide (n < m)) := hid (by rw [bef_endA heq.out (by rw [la.out]; omega) (by rw [lb.out]; exact hkm), la.out, lb.out])
      go_wp2
      go_ret
      exact ⟨by rw [hfin.out]; simp, hbel⟩
end Go.Proofs.Ytiobmfggnacplaa
/- Walks: the least reading, the period, of the reference. -/
namespace Go.Proofs.Ytiobmfggnacplaa
open Go.RowKit
attribute [local go_sem] Oper.semAt_some
theorem lst_succ (l : List Int) (n : Nat) : lst l (n + 1) = if bef (rot l n) (rot l (lst l n)) then n else lst l n := rfl
theorem lst_one (l : List Int) : lst l 1 = 0 := by
  have := lst_lt l 1
  omega
set_option maxRecDepth 10000 in
set_option maxHeartbeats 4000000 in
theorem leastOf_any (A : Option Addr) (n c : Nat) (l : List Int) (w : World) (hl : InS w w.heap.size A n l) (hn : n ≤ 1000) (h1 : 1 ≤ n) :
    Calls Try.prog 54 #[.slice A n c] w fun e w' => ∃ A' c', e = .returned (.tuple #[.slice A' n c', .int .i64 (lstart l : Nat)]) ∧ InS w' w'.heap.size A' n (least l) ∧ Below w.heap.size w w' := by
  have HL := hid hl
  have hlen := hid hl.len
  clear hl
  have h1i : (1 : Int) ≤ n := by omega
  go_enter Try.func54, Try.ntmps54
  go_wp2
  go_loopw [4, 5, 6] (fun vb vs i wr => ∃ (k : Nat) (A' : Option Addr) (c' : Nat), 1 ≤ k ∧ k ≤ n ∧ i = .int .i64 k ∧ vs = .int .i64 (lst l k : Nat) ∧ vb = .slice A' n c' ∧ Below w.heap.size w wr ∧ Hid (InS wr wr.heap.size A' n (rot l (lst l k)))) (fun _ _ i _ => n - (intOf i).toNat)
  case atStart => exact ⟨1, A, c, by omega, h1, rfl, by rw [lst_one]; rfl, rfl, Below.refl _ _, hid (by rw [lst_one, rot_zero]; exact HL.out)⟩
  case round =>
    obtain ⟨k, A', c', hk1, hk, rfl, rfl, rfl, hbw, HB⟩ := hrel
    have hszw := hbw.size
    have HLw := hid (HL.out.below hbw hszw)
    obtain ⟨st, hst⟩ : ∃ st, lst l k = st := ⟨_, rfl⟩
    rw [hst] at HB ⊢
    have hs1 := hid (lst_succ l k)
    rw [hst] at hs1
    by_cases hlt : k < n
    · have hlti : (k : Int) < n := by omega
      go_wp2_with (fail)
      refine (turnOf_any A n c l k _ HLw.out hn (by omega)).mono ?_
      rintro e W1 ⟨v1, rfl, ho1, hb1⟩
      obtain ⟨A1, c1, rfl, hs⟩ := sl_of_owns ho1
      have HT := hid (show InS W1 W1.heap.size A1 n (rot l k) from hs)
      have HB1 := hid (HB.out.below hb1 hb1.size)
      have hbw1 := hbw.trans (hb1.mono hszw)
      have hsz1 := hbw1.size
      clear ho1 hs
      cases hbf : bef (rot l k) (rot l st)
      · have Hbf := hid hbf
        rw [hbf] at hs1
        clear hbf
        go_wp2_with (go_at_call 50; refine (before_any _ A1 A' n c1 n c' (rot l k) (rot l st) HT.out HB1.out (by omega) (by omega)).mono ?_; rw [Hbf.out]; rintro e W2 ⟨rfl, hb2⟩)
        have hbw2 := hbw1.trans (hb2.mono hsz1)
        exact ⟨⟨k + 1, A', c', by omega, by omega, by go_num, by rw [hs1.out]; rfl, rfl, hbw2, hid (by rw [hs1.out]; exact HB1.out.below hb2 hb2.size)⟩, by simp [intOf]; omega⟩
      · have Hbf := hid hbf
        rw [hbf] at hs1
        clear hbf
        go_wp2_with (fail)
        refine (before_any _ A1 A' n c1 n c' (rot l k) (rot l st) HT.out HB1.out (by omega) (by omega)).mono ?_
        rw [Hbf.out]
        rintro e W2 ⟨rfl, hb2⟩
        have hbw2 := hbw1.trans (hb2.mono hsz1)
        have hsz2 := hbw2.size
        go_wp2_with (fail)
        refine (turnOf_any A n c l k _ (HL.out.below hbw2 hsz2) hn (by omega)).mono ?_
        rintro e W3 ⟨v3, rfl, ho3, hb3⟩
        obtain ⟨A3, c3, rfl, hs3⟩ := sl_of_owns ho3
        have HT3 := hid (show InS W3 W3.heap.size A3 n (rot l k) from hs3)
        have hbw3 := hbw2.trans (hb3.mono hsz2)
        clear ho3 hs3
        go_wp2
        exact ⟨⟨k + 1, A3, c3, by omega, by omega, by go_num, by rw [hs1.out]; rfl, rfl, hbw3, hid (by rw [hs1.out]; exact HT3.out)⟩, by simp [intOf]; omega⟩
    · obtain rfl : n = k := by omega
      have hf : Hid (lstart l = st) := hid (by unfold lstart; rw [hlen.out]; exact hst)
      go_wp2
      refine bodyPost_ret (v := .tuple #[.slice A' n c', .int .i64 (st : Nat)]) (by first | (simp [results, Try.results54, go_sem]; done) | (simp [results, Try.results54, go_sem, *]; done) | (simp [results, Try.results54, go_sem, World.cell?_setCell_same', *]; done) | (simp [results, Try.results54, go_sem]; first | exact ⟨rfl, rfl⟩ | rfl)) rfl ⟨A', c', by rw [hf.out], ?_, hbw⟩
      unfold least
      rw [hf.out]; exact HB.out
theorem perL_go {l : List Int} {k : Nat} (h0 : 0 < k) (hk : k < l.length) (hm : ∀ j, 0 < j → j < k → rot l j ≠ l) (h : rot l k = l) : perL l = k := by
  have h1 := Nat.le_of_dvd h0 (perL_dvd (by omega) (by omega) h)
  have h2 := perL_pos (l := l) (by omega)
  rcases Nat.lt_or_ge (perL l) k with h3 | h3
  · exact absurd (perL_rot l) (hm _ h2.1 h3)
  · omega
theorem perL_end {l : List Int} (h0 : 0 < l.length) (hm : ∀ j, 0 < j → j < l.length → rot l j ≠ l) : perL l = l.length := by
  have h2 := perL_pos h0
  rcases Nat.lt_or_ge (perL l) l.length with h3 | h3
  · exact absurd (perL_rot l) (hm _ h2.1 h3)
  · omega
set_option maxRecDepth 10000 in
set_option maxHeartbeats 4000000 in
theorem periodOf_any (A : Option Addr) (n c : Nat) (l : List Int) (w : World) (hl : InS w w.heap.size A n l) (hn : n ≤ 1000) (h1 : 1 ≤ n) :
    Calls Try.prog 63 #[.slice A n c] w fun e w' => e = .returned (.int .i64 (perL l : Nat)) ∧ Below w.heap.size w w' := by
  have HL := hid hl
  have hlen := hid hl.len
  clear hl
  go_enter Try.func63, Try.ntmps63
  go_wp2
  go_loopw [3] (fun i wr => ∃ k : Nat, 1 ≤ k ∧ k ≤ n ∧ i = .int .i64 k ∧ Below w.heap.size w wr ∧ Hid (∀ j, 0 < j → j < k → rot l j ≠ l)) (fun i _ => n - (intOf i).toNat)
  case atStart => exact ⟨1, by omega, h1, rfl, Below.refl _ _, hid (fun j h2 h3 => by omega)⟩
  case round =>
    obtain ⟨k, hk1, hk, rfl, hbw, Hm⟩ := hrel
    have hszw := hbw.size
    have HLw := hid (HL.out.below hbw hszw)
    by_cases hlt : k < n
    · have hlti : (k : Int) < n := by omega
      go_wp2_with (fail)
      refine (turnOf_any A n c l k _ HLw.out hn (by omega)).mono ?_
      rintro e W1 ⟨v1, rfl, ho1, hb1⟩
      obtain ⟨A1, c1, rfl, hs⟩ := sl_of_owns ho1
      have HT := hid (show InS W1 W1.heap.size A1 n (rot l k) from hs)
      have hbw1 := hbw.trans (hb1.mono hszw)
      have hsz1 := hbw1.size
      clear ho1 hs
      cases heq : eqI (rot l k) l
      · have Heq := hid heq
        have hm2 : Hid (∀ j, 0 < j → j < k + 1 → rot l j ≠ l) := hid (fun j h2 h3 => by
          rcases Nat.lt_or_ge j k with h4 | h4
          · exact Hm.out j h2 h4
          · obtain rfl : j = k := by omega
            intro e; rw [eqI_t.2 e] at heq; cases heq)
        clear heq
        go_wp2_with (go_at_call 65; refine (same_any _ A1 A n c1 n c (rot l k) l HT.out (HL.out.below hbw1 hsz1) (by omega)).mono ?_; rw [Heq.out]; rintro e W2 ⟨rfl, hb2⟩)
        exact ⟨⟨k + 1, by omega, by omega, by go_num, hbw1.trans (hb2.mono hsz1), hm2⟩, by simp [intOf]; omega⟩
      · have Heq := hid heq
        have hf : Hid (perL l = k) := hid (perL_go (by omega) (by rw [hlen.out]; exact hlt) Hm.out (eqI_t.1 heq))
        clear heq
        go_wp2_with (go_at_call 65; refine (same_any _ A1 A n c1 n c (rot l k) l HT.out (HL.out.below hbw1 hsz1) (by omega)).mono ?_; rw [Heq.out]; rintro e W2 ⟨rfl, hb2⟩)
        refine bodyPost_ret (v := .int .i64 (k : Nat)) (by first | (simp [results, Try.results63, go_sem]; done) | (simp [results, Try.results63, go_sem, *]; done) | (simp [results, Try.results63, go_sem, World.cell?_setCell_same', *]; done) | (simp [results, Try.results63, go_sem]; first | exact ⟨rfl, rfl⟩ | rfl)) rfl ⟨by rw [hf.out], hbw1.trans (hb2.mono hsz1)⟩
    · obtain rfl : n = k := by omega
      have hf : Hid (perL l = n) := hid (by rw [perL_end (by rw [hlen.out]; exact h1) (by rw [hlen.out]; exact Hm.out), hlen.out])
      go_wp2
      refine bodyPost_ret (v := .int .i64 (n : Nat)) (by first | (simp [results, Try.results63, go_sem]; done) | (simp [results, Try.results63, go_sem, *]; done) | (simp [results, Try.results63, go_sem, World.cell?_setCell_same', *]; done) | (simp [results, Try.results63, go_sem]; first | exact ⟨rfl, rfl⟩ | rfl)) rfl ⟨by rw [hf.out], hbw⟩
end Go.Proofs.Ytiobmfggnacplaa
/- Walks: the period, as the program finds it by the borders. -/
namespace Go.Proofs.Ytiobmfggnacplaa
open Go.RowKit
attribute [local go_sem] Oper.semAt_some
theorem make_i64 {L : Nat} (hL : L ≤ 100000) (w0 : World) : (Instr.makeSlice 22 (.int .i64 (L : Int)) (.int .i64 (L : Int))).run Try.prog w0 = .ok (.slice (some ⟨w0.heap.size, 0, none⟩) L L) (w0.alloc (.cells (madeCells #[.int .i64 0] L) 3)) := by
  obtain ⟨i, hi, hz0, hz1, hz2⟩ := info_parts' info3
  have := run_makeSlice (P := Try.prog) (w := w0) 22 3 i (.int .i64 0) under22 hi hz0 .i64 .i64 (L : Int) (L : Int) (by omega) (Int.le_refl _) (by rw [hz1]; omega) (by rw [hz2]; omega) (by omega)
  rw [this, hz1]
  simp
  rfl
/-- What stands in the table of borders. -/
def bd (l : List Int) (j : Nat) : Int := if j = 0 then -1 else (mxB l j : Nat)
def BT (w : World) (M n i : Nat) (l : List Int) : Prop := ∃ cs, Blk w M 3 cs ∧ cs.size = n + 1 ∧ ∀ j, j ≤ i → cs[j]? = some (.int .i64 (bd l j))
theorem BT.at_ {w : World} {M n i : Nat} {l : List Int} (h : BT w M n i l) {j : Nat} (hj : j ≤ i) : w.cell? ⟨M, j, none⟩ = some (.int .i64 (bd l j)) := by
  obtain ⟨cs, h1, -, h3⟩ := h
  rw [h1.cell]; exact h3 j hj
theorem BT.lt {w : World} {M n i : Nat} {l : List Int} (h : BT w M n i l) : M < w.heap.size := by obtain ⟨cs, h, -⟩ := h; exact h.lt
theorem BT.below {w w' : World} {M n i : Nat} {l : List Int} (h : BT w M n i l) (hb : Below w.heap.size w w') : BT w' M n i l := by
  obtain ⟨cs, h1, h2⟩ := h
  exact ⟨cs, h1.below hb h1.lt, h2⟩
theorem BT.frozen {w : World} {M n i : Nat} {l : List Int} (h : BT w M n i l) (x : Nat) : w.frozen? ⟨M, x, none⟩ = false := by
  obtain ⟨cs, h1, -⟩ := h
  exact h1.frozen x
theorem BT.cell_some {w : World} {M n i : Nat} {l : List Int} (h : BT w M n i l) {x : Nat} (hx : x ≤ n) : ∃ v, w.cell? ⟨M, x, none⟩ = some v := by
  obtain ⟨cs, h1, h2, -⟩ := h
  exact ⟨cs[x]'(by omega), by rw [h1.cell]; exact Array.getElem?_eq_getElem (by omega)⟩
theorem BT.set_ {w : World} {M n i : Nat} {l : List Int} (h : BT w M n i l) (hi : i < n) {v : Int} (hv : v = bd l (i + 1)) : BT (w.setCell ⟨M, i + 1, none⟩ (.int .i64 v)) M n (i + 1) l := by
  obtain ⟨cs, h1, h2, h3⟩ := h
  refine ⟨_, h1.set_ (i + 1) _, by simpa using h2, fun j hj => ?_⟩
  rw [Array.getElem?_setIfInBounds]
  by_cases e : i + 1 = j
  · subst e; rw [if_pos rfl, if_pos (by omega), hv]
  · rw [if_neg e]; exact h3 j (by omega)
theorem bd_succ (l : List Int) (j : Nat) : bd l (j + 1) = (mxB l (j + 1) : Nat) := if_neg (by omega)
/-- The borders that may still be the next one's are no longer than the one under way. -/
def BI (l : List Int) (k : Nat) (v : Int) : Prop := (v = -1 ∧ ∀ j, j < k → brdB l k j = true → l[j]? ≠ l[k]?) ∨ ∃ q : Nat, v = q ∧ q < k ∧ brdB l k q = true ∧ ∀ j, j < k → brdB l k j = true → l[j]? = l[k]? → j ≤ q
theorem BI.start (l : List Int) (k : Nat) : BI l k (bd l k) := by
  unfold bd
  by_cases h : k = 0
  · subst h
    exact .inl ⟨rfl, fun j hj => by omega⟩
  · rw [if_neg h]
    exact .inr ⟨mxB l k, rfl, mxB_lt (by omega), mxB_brd l k, fun j hj hb _ => mxB_max hj hb⟩
theorem BI.next {l : List Int} {k q : Nat} (hq : q < k) (hb : brdB l k q = true) (hm : ∀ j, j < k → brdB l k j = true → l[j]? = l[k]? → j ≤ q) (hne : l[q]? ≠ l[k]?) : BI l k (bd l q) := by
  have hlt : ∀ j, j < k → brdB l k j = true → l[j]? = l[k]? → j < q := fun j h1 h2 h3 => by
    have := hm j h1 h2 h3
    rcases Nat.lt_or_ge j q with h | h
    · exact h
    · obtain rfl : j = q := by omega
      exact absurd h3 hne
  unfold bd
  by_cases h : q = 0
  · subst h
    exact .inl ⟨rfl, fun j h1 h2 h3 => by have := hlt j h1 h2 h3; omega⟩
  · rw [if_neg h]
    have h1 := mxB_lt (l := l) (i := q) (by omega)
    refine .inr ⟨mxB l q, rfl, by omega, brd_of_brd (by omega) (by omega) hb (mxB_brd l q), fun j h2 h3 h4 => ?_⟩
    have h5 := hlt j h2 h3 h4
    exact mxB_max h5 (brd_brd (by omega) (by omega) hb h3)
theorem BI.none {l : List Int} {k : Nat} (h : BI l k (-1)) : bd l (k + 1) = 0 := by
  rw [bd_succ]
  rcases h with ⟨_, h⟩ | ⟨q, h, _⟩
  · rw [mxB_none h]; rfl
  · omega
theorem BI.found {l : List Int} {k q : Nat} (h : BI l k q) (he : l[q]? = l[k]?) : bd l (k + 1) = (q : Int) + 1 := by
  rw [bd_succ]
  rcases h with ⟨h, _⟩ | ⟨q', h, h1, h2, h3⟩
  · omega
  · obtain rfl : q = q' := by omega
    rw [mxB_found h1 h2 he h3]; rfl
theorem BI.lt {l : List Int} {k : Nat} {v : Int} (h : BI l k v) : v = -1 ∨ ∃ q : Nat, v = q ∧ q < k := by
  rcases h with ⟨h, _⟩ | ⟨q, h, h1, _⟩
  · exact .inl h
  · exact .inr ⟨q, h, h1⟩
theorem BI.step {l : List Int} {k q : Nat} (h : BI l k q) (hne : l[q]? ≠ l[k]?) : BI l k (bd l q) := by
  rcases h with ⟨h, _⟩ | ⟨q', h, h1, h2, h3⟩
  · omega
  · obtain rfl : q = q' := by omega
    exact BI.next h1 h2 h3 hne
theorem bd_lt {l : List Int} {q : Nat} : bd l q < q := by
  unfold bd
  split
  · omega
  · have := mxB_lt (l := l) (i := q) (by omega)
    omega
set_option maxRecDepth 10000 in
set_option maxHeartbeats 8000000 in
theorem period_any (g : Nat) (K : Int) (A : Option Addr) (n c : Nat) (l : List Int) (w : World) (hR : Rd w g K A n c l) (hn : n ≤ 64) (h1 : 1 ≤ n) :
    Calls Try.prog 62 #[.pointer (some ⟨g, 0, none⟩)] w fun e w' => e = .returned (.int .i64 (perL l : Nat)) ∧ Below w.heap.size w w' := by
  have hlen := hid hR.2.len
  obtain ⟨b, off, rfl, hbB, hcl⟩ := hR.2.2 (by omega)
  have HL := hid hR.2
  have q1 : w.cell? ⟨g, 1, none⟩ = some (.slice (some ⟨b, off, none⟩) n c) := hR.1.cell 1
  have lg := hR.1.lt
  have HR := hid hR
  clear hR hcl
  have hmk : ∀ w0 : World, (Instr.makeSlice 22 (.int .i64 ((n : Int) + 1)) (.int .i64 ((n : Int) + 1))).run Try.prog w0 = .ok (.slice (some ⟨w0.heap.size, 0, none⟩) (n + 1) (n + 1)) (w0.alloc (.cells (madeCells #[.int .i64 0] (n + 1)) 3)) := fun w0 => by
    have := make_i64 (L := n + 1) (by omega) w0
    rwa [Int.natCast_succ] at this
  obtain ⟨W2, hW2⟩ : ∃ W2, (w.alloc (.cells (madeCells #[.int .i64 0] (n + 1)) 3)).setCell ⟨w.heap.size, 0, none⟩ (.int .i64 (-1)) = W2 := ⟨_, rfl⟩
  have b0 : Blk (w.alloc (.cells (madeCells #[.int .i64 0] (n + 1)) 3)) w.heap.size 3 (madeCells #[.int .i64 0] (n + 1)) := Blk.new' rfl
  have f0 := b0.frozen 0
  have l0 := b0.lt
  have cc0 : (w.alloc (.cells (madeCells #[.int .i64 0] (n + 1)) 3)).cell? ⟨w.heap.size, 0, none⟩ = some (.int .i64 0) := by
    rw [b0.cell, ← Array.getElem?_toList, toList_madeCells_one, List.getElem?_replicate, if_pos (by omega)]
  have hbt : BT W2 w.heap.size n 0 l := by
    rw [← hW2]
    refine ⟨_, b0.set_ 0 _, by simp [madeCells], fun j hj => ?_⟩
    obtain rfl : j = 0 := by omega
    rw [Array.getElem?_setIfInBounds, if_pos rfl, if_pos (by simp [madeCells])]; exact congrArg some rfl
  have hb2 : Below w.heap.size w W2 := by rw [← hW2]; exact ((Below.refl _ _).alloc (Nat.le_refl _) _).setCell (by simp) _
  have lg2 : g < W2.heap.size := Nat.lt_of_lt_of_le lg hb2.size
  have q2 : W2.cell? ⟨g, 1, none⟩ = some (.slice (some ⟨b, off, none⟩) n c) := (hb2.cell (p := ⟨g, 1, none⟩) lg).trans q1
  go_enter Try.func62, Try.ntmps62
  go_wp2_with (fail)
  clear hmk b0 f0 l0 cc0 hW2
  go_loopw [4, 24] (fun v i wr => ∃ k : Nat, k ≤ n ∧ i = .int .i64 k ∧ v = .int .i64 (bd l k) ∧ BT wr w.heap.size n k l ∧ Below w.heap.size w wr) (fun _ i _ => n - (intOf i).toNat)
  case atStart => exact ⟨0, by omega, rfl, rfl, hbt, hb2⟩
  case round =>
    clear hbt hb2 lg2 q2
    obtain ⟨k, hk, rfl, rfl, hbt, hbw⟩ := hrel
    have hszw := hbw.size
    have lgw : g < wr.heap.size := by omega
    have qw : wr.cell? ⟨g, 1, none⟩ = some (.slice (some ⟨b, off, none⟩) n c) := (hbw.cell (p := ⟨g, 1, none⟩) lg).trans q1
    have Hbt := hid hbt
    clear hbt
    have lM := Hbt.out.lt
    by_cases hlt : k < n
    · obtain ⟨b', off', x, e', hb1, hx, c0⟩ := (HL.out.below hbw hszw).at_ hlt
      cases e'
      have hlti : (k : Int) < n := by omega
      have HX := hid hx
      clear hx
      have fz := Hbt.out.frozen (k + 1)
      obtain ⟨vv, cv⟩ := Hbt.out.cell_some (x := k + 1) (by omega)
      have hki : (k : Int) + 1 < (n : Int) + 1 := by omega
      have hki2 : (k : Int) + 1 < ((n + 1 : Nat) : Int) := by omega
      go_wp2_with (fail)
      go_loopw [4] (fun v wr2 => ∃ z : Int, v = .int .i64 z ∧ Hid (BI l k z) ∧ wr = wr2) (fun v _ => (intOf v + 1).toNat)
      case atStart => exact ⟨bd l k, rfl, hid (BI.start l k), rfl⟩
      case round =>
        obtain ⟨z, rfl, HB, rfl⟩ := hrel
        rcases HB.out.lt with rfl | ⟨q, rfl, hq⟩
        · have hv := hid (BI.none HB.out)
          have hset := hid (Hbt.out.set_ (i := k) hlt (v := 0) hv.out.symm)
          go_wp2
          exact ⟨⟨k + 1, by omega, by go_num, by rw [hv.out], hset.out, hbw.setCell (by simp) _⟩, by simp [intOf]; omega⟩
        · obtain ⟨b', off', y, e', hb2, hy, c2⟩ := (HL.out.below hbw hszw).at_ (show q < n by omega)
          cases e'
          have HY := hid hy
          clear hy
          have hqi : (q : Int) < n := by omega
          have hqi0 : ¬ (q : Int) < 0 := by omega
          have hqi1 : (q : Int) < (n : Int) + 1 := by omega
          have hqi2 : (q : Int) < ((n + 1 : Nat) : Int) := by omega
          have hqk : (q : Int) < k := by omega
          by_cases hxy : y = x
          · subst hxy
            have hv := hid (HB.out.found (HY.out.trans HX.out.symm))
            have hset := hid (Hbt.out.set_ (i := k) hlt (v := (q : Int) + 1) hv.out.symm)
            go_wp2
            exact ⟨⟨k + 1, by omega, by go_num, by rw [hv.out], hset.out, hbw.setCell (by simp) _⟩, by simp [intOf]; omega⟩
          · have cq := Hbt.out.at_ (show q ≤ k by omega)
            have hst := hid (HB.out.step (fun e => hxy (Option.some.inj (HY.out.symm.trans (e.trans HX.out)))))
            have hbl := bd_lt (l := l) (q := q)
            have t1 : (y != x) = true := by simpa using hxy
            clear hxy
            go_wp2
            exact ⟨⟨bd l q, rfl, hst, trivial⟩, by simp [intOf]; omega⟩
    · obtain rfl : k = n := by omega
      have hbk : Hid (bd l k = (mxB l k : Nat)) := hid (if_neg (by omega))
      have hmx := mxB_lt (l := l) (i := k) (by omega)
      have hper := perL_brd (l := l) (by rw [hlen.out]; exact h1)
      rw [hlen.out] at hper
      obtain ⟨m, hm⟩ : ∃ m, mxB l k = m := ⟨_, rfl⟩
      rw [hm] at hbk hper hmx
      obtain ⟨p, hp⟩ : ∃ p, k - m = p := ⟨_, rfl⟩
      rw [hp] at hper
      obtain ⟨r, hr⟩ : ∃ r, k % p = r := ⟨_, rfl⟩
      rw [hr] at hper
      have cn0 : wr.cell? ⟨w.heap.size, k, none⟩ = some (.int .i64 (m : Nat)) := by have := Hbt.out.at_ (Nat.le_refl k); rwa [hbk.out] at this
      have hsub : (k : Int) - (m : Int) = (p : Int) := by omega
      have z0 : IntKind.i64.wrap (p : Int) = (p : Int) := IntWalk.i64_in _ (by omega)
      have z1 : Int.tmod (k : Int) (p : Int) = (r : Int) := by rw [← hr]; exact (Int.ofNat_tmod k p).symm
      have hp0 : ¬ p = 0 := by omega
      have hki : (k : Int) < (k : Int) + 1 := by omega
      have hki2 : (k : Int) < ((k + 1 : Nat) : Int) := by omega
      have Hper := hid hper
      clear hm hp hr hper hmx
      go_wp2_with (fail)
      refine wp_region_hd_all (fun W => Below wr.heap.size wr W) (by kernel_rfl) (by kernel_rfl) ((Below.refl _ _).drew) ?_
      iterate 17 (refine wpHd_val (v := ?_) (by rfl) (fun W hW => ?_) ?_; rotate_left; (· have q3 : W.cell? ⟨g, 1, none⟩ = some (.slice (some ⟨b, off, none⟩) k c) := ((bcell hW).1 g 1 lgw).trans qw; have q4 : W.cell? ⟨w.heap.size, k, none⟩ = some (.int .i64 (m : Nat)) := ((bcell hW).1 w.heap.size k lM).trans cn0; have l3 : g < W.heap.size := Nat.lt_of_lt_of_le lgw hW.size; have l4 : w.heap.size < W.heap.size := Nat.lt_of_lt_of_le lM hW.size; go_simp; with_reducible rfl); simp only [Act.put, List.setIfInBounds_toArray, List.set_cons_zero, List.set_cons_succ])
      refine wpHd_nil ?_
      intro W5 hW5
      have hbw5 := hbw.trans (hW5.mono hszw)
      have q5 : W5.cell? ⟨g, 1, none⟩ = some (.slice (some ⟨b, off, none⟩) k c) := ((bcell hW5).1 g 1 lgw).trans qw
      have l5 : g < W5.heap.size := Nat.lt_of_lt_of_le lgw hW5.size
      clear cn0 qw
      by_cases hr0 : r = 0
      · have hf : Hid (perL l = p) := hid (by rw [Hper.out, if_pos hr0])
        have t0 : ¬ (0 : Int) < r := by omega
        clear hr0
        go_wp2
        refine bodyPost_ret (v := .int .i64 (p : Nat)) (by first | (simp [results, Try.results62, go_sem]; done) | (simp [results, Try.results62, go_sem, *]; done) | (simp [results, Try.results62, go_sem, World.cell?_setCell_same', *]; done) | (simp [results, Try.results62, go_sem]; first | exact ⟨rfl, rfl⟩ | rfl)) rfl ⟨by rw [hf.out], hbw5⟩
      · have hf : Hid (perL l = k) := hid (by rw [Hper.out, if_neg hr0])
        have t0 : (0 : Int) < r := by omega
        clear hr0
        go_wp2
        refine bodyPost_ret (v := .int .i64 (k : Nat)) (by first | (simp [results, Try.results62, go_sem]; done) | (simp [results, Try.results62, go_sem, *]; done) | (simp [results, Try.results62, go_sem, World.cell?_setCell_same', *]; done) | (simp [results, Try.results62, go_sem]; first | exact ⟨rfl, rfl⟩ | rfl)) rfl ⟨by rw [hf.out], hbw5⟩
end Go.Proofs.Ytiobmfggnacplaa
/- Walks: slices.Compare; the start of the least reading. -/
namespace Go.Proofs.Ytiobmfggnacplaa
open Go.RowKit
attribute [local go_sem] Oper.semAt_some
def cmpI (x y : Int) : Int := if x < y then -1 else if y < x then 1 else 0
def cmpL (a b : List Int) : Int := if bef a b then -1 else if a = b then 0 else 1
theorem isNaN_any (x : Int) (w : World) : Calls Try.prog 104 #[.int .i64 x] w fun e w' => e = .returned (.bool false) ∧ w = w' := by
  go_enter Try.func104, Try.ntmps104
  go_wp2
  refine bodyPost_ret (v := .bool false) (by first | (simp [results, Try.results104, go_sem]; done) | (simp [results, Try.results104, go_sem, *]; done) | (simp [results, Try.results104, go_sem, World.cell?_setCell_same', *]; done) | (simp [results, Try.results104, go_sem]; first | exact ⟨rfl, rfl⟩ | rfl)) rfl ⟨rfl, rfl⟩
theorem cmp_any (x y : Int) (w : World) : Calls Try.prog 101 #[.int .i64 x, .int .i64 y] w fun e w' => e = .returned (.int .i64 (cmpI x y)) ∧ w = w' := by
  by_cases h1 : x < y
  · have hf : Hid (cmpI x y = -1) := hid (if_pos h1)
    go_enter Try.func101, Try.ntmps101
    go_wp2_with (go_at_call 104; refine (isNaN_any _ _).mono ?_; rintro e w1 ⟨rfl, rfl⟩)
    refine bodyPost_ret (v := .int .i64 (-1)) (by first | (simp [results, Try.results101, go_sem]; done) | (simp [results, Try.results101, go_sem, *]; done) | (simp [results, Try.results101, go_sem, World.cell?_setCell_same', *]; done) | (simp [results, Try.results101, go_sem]; first | exact ⟨rfl, rfl⟩ | rfl)) rfl ⟨by rw [hf.out], rfl⟩
  · by_cases h2 : y < x
    · have hf : Hid (cmpI x y = 1) := hid (by unfold cmpI; rw [if_neg h1, if_pos h2])
      go_enter Try.func101, Try.ntmps101
      go_wp2_with (go_at_call 104; refine (isNaN_any _ _).mono ?_; rintro e w1 ⟨rfl, rfl⟩)
      refine bodyPost_ret (v := .int .i64 1) (by first | (simp [results, Try.results101, go_sem]; done) | (simp [results, Try.results101, go_sem, *]; done) | (simp [results, Try.results101, go_sem, World.cell?_setCell_same', *]; done) | (simp [results, Try.results101, go_sem]; first | exact ⟨rfl, rfl⟩ | rfl)) rfl ⟨by rw [hf.out], rfl⟩
    · have hf : Hid (cmpI x y = 0) := hid (by unfold cmpI; rw [if_neg h1, if_neg h2])
      go_enter Try.func101, Try.ntmps101
      go_wp2_with (go_at_call 104; refine (isNaN_any _ _).mono ?_; rintro e w1 ⟨rfl, rfl⟩)
      refine bodyPost_ret (v := .int .i64 0) (by first | (simp [results, Try.results101, go_sem]; done) | (simp [results, Try.results101, go_sem, *]; done) | (simp [results, Try.results101, go_sem, World.cell?_setCell_same', *]; done) | (simp [results, Try.results101, go_sem]; first | exact ⟨rfl, rfl⟩ | rfl)) rfl ⟨by rw [hf.out], rfl⟩
theorem cmpI_ne {x y : Int} (h : x ≠ y) : cmpI x y ≠ 0 := by
  unfold cmpI
  split
  · omega
  · split <;> omega
theorem cmpL_at {a b : List Int} {k : Nat} {x y : Int} (h : a.take k = b.take k) (ha : a[k]? = some x) (hb : b[k]? = some y) (hne : x ≠ y) : cmpL a b = cmpI x y := by
  unfold cmpL cmpI
  rw [bef_at h ha hb hne]
  by_cases h1 : x < y
  · rw [if_pos (decide_eq_true h1), if_pos h1]
  · rw [if_neg (by simp [h1]), if_neg h1, if_neg (ne_of_at ha hb hne), if_pos (by omega)]
theorem cmpL_long {a b : List Int} {k : Nat} (h : a.take k = b.take k) (hk : k = b.length) (hb : k < a.length) : cmpL a b = 1 := by
  unfold cmpL
  rw [bef_endB h hk (by omega), if_neg (by simp; omega), if_neg (fun e => by have := congrArg List.length e; omega)]
theorem cmpL_end {a b : List Int} {k : Nat} (h : a.take k = b.take k) (hk : k = a.length) (hb : k ≤ b.length) : cmpL a b = if a.length < b.length then -1 else 0 := by
  unfold cmpL
  rw [bef_endA h hk hb]
  by_cases h1 : a.length < b.length
  · rw [if_pos (decide_eq_true h1), if_pos h1]
  · rw [if_neg (by simp [h1]), if_neg h1, if_pos]
    have h2 : a = a.take k := by rw [hk, List.take_length]
    have h3 : b = b.take k := by rw [List.take_of_length_le (by omega)]
    rw [h2, h, ← h3]
set_option maxRecDepth 10000 in
set_option maxHeartbeats 1600000 in
theorem compare_any (w : World) (A B : Option Addr) (n c m d : Nat) (a b : List Int) (ha : InS w w.heap.size A n a) (hb : InS w w.heap.size B m b) (hn : n ≤ 1000000) (hm : m ≤ 1000000) :
    Calls Try.prog 94 #[.slice A n c, .slice B m d] w fun e w' => e = .returned (.int .i64 (cmpL a b)) ∧ w = w' := by
  have la := hid ha.len
  have lb := hid hb.len
  have HA := hid ha
  have HB := hid hb
  clear ha hb
  go_enter Try.func94, Try.ntmps94
  go_wp2
  go_loopw [11] (fun i wr => ∃ k : Nat, k ≤ n ∧ k ≤ m ∧ i = .int .i64 k ∧ Hid (a.take k = b.take k) ∧ w = wr) (fun i _ => n - (intOf i).toNat)
  case atStart => exact ⟨0, by omega, by omega, rfl, by simp [Hid], rfl⟩
  case round =>
    obtain ⟨k, hk, hkm, rfl, heq, rfl⟩ := hrel
    by_cases hlt : k < n
    · have hlti : (k : Int) < n := by omega
      obtain ⟨b1, o1, x, rfl, hb1, hx, c1⟩ := HA.out.at_ hlt
      by_cases hlm : k < m
      · have hlmi : ¬ (m : Int) ≤ k := by omega
        have hlmj : (k : Int) < m := by omega
        obtain ⟨b2, o2, y, rfl, hb2, hy, d1⟩ := HB.out.at_ hlm
        have HX := hid hx
        have HY := hid hy
        clear hx hy
        by_cases hxy : x = y
        · subst hxy
          have hc : Hid (cmpI x x = 0) := hid (by unfold cmpI; rw [if_neg (by omega), if_neg (by omega)])
          go_wp2_with (go_at_call 101; refine (cmp_any _ _ _).mono ?_; rw [hc.out]; rintro e w1 ⟨rfl, rfl⟩)
          exact ⟨⟨k + 1, by omega, by omega, by go_num, take_eq_succ heq.out HX.out HY.out, trivial⟩, by simp [intOf]; omega⟩
        · have hfin : Hid (cmpL a b = cmpI x y) := hid (cmpL_at heq.out HX.out HY.out hxy)
          have hne := cmpI_ne hxy
          obtain ⟨z, hz⟩ : ∃ z, cmpI x y = z := ⟨_, rfl⟩
          have Hz := hid hz
          rw [hz] at hne hfin
          have t1 : (z != 0) = true := by simpa using hne
          clear hxy hz hne
          go_wp2_with (go_at_call 101; refine (cmp_any _ _ _).mono ?_; rw [Hz.out]; rintro e w1 ⟨rfl, rfl⟩)
          refine bodyPost_ret (v := .int .i64 z) (by first | (simp [results, Try.results94, go_sem]; done) | (simp [results, Try.results94, go_sem, *]; done) | (simp [results, Try.results94, go_sem, World.cell?_setCell_same', *]; done) | (simp [results, Try.results94, go_sem]; first | exact ⟨rfl, rfl⟩ | rfl)) rfl ⟨by rw [hfin.out], rfl⟩
      · have hlmi : (m : Int) ≤ k := by omega
        have hfin : Hid (cmpL a b = 1) := hid (cmpL_long heq.out (by rw [lb.out]; omega) (by rw [la.out]; exact hlt))
        clear hx
        go_wp2
        refine bodyPost_ret (v := .int .i64 1) (by first | (simp [results, Try.results94, go_sem]; done) | (simp [results, Try.results94, go_sem, *]; done) | (simp [results, Try.results94, go_sem, World.cell?_setCell_same', *]; done) | (simp [results, Try.results94, go_sem]; first | exact ⟨rfl, rfl⟩ | rfl)) rfl ⟨by rw [hfin.out], rfl⟩
    · have hlti : ¬ (k : Int) < n := by omega
      have hfin : Hid (cmpL a b = if n < m then -1 else 0) := hid (by rw [cmpL_end heq.out (by rw [la.out]; omega) (by rw [lb.out]; exact hkm), la.out, lb.out])
      by_cases hnm : n < m
      · have hnmi : (n : Int) < m := by omega
        have hf2 : Hid (cmpL a b = -1) := hid (by rw [hfin.out, if_pos hnm])
        go_wp2
        refine bodyPost_ret (v := .int .i64 (-1)) (by first | (simp [results, Try.results94, go_sem]; done) | (simp [results, Try.results94, go_sem, *]; done) | (simp [results, Try.results94, go_sem, World.cell?_setCell_same', *]; done) | (simp [results, Try.results94, go_sem]; first | exact ⟨rfl, rfl⟩ | rfl)) rfl ⟨by rw [hf2.out], rfl⟩
      · have hnmi : ¬ (n : Int) < m := by omega
        have hf2 : Hid (cmpL a b = 0) := hid (by rw [hfin.out, if_neg hnm])
        go_wp2
        refine bodyPost_ret (v := .int .i64 0) (by first | (simp [results, Try.results94, go_sem]; done) | (simp [results, Try.results94, go_sem, *]; done) | (simp [results, Try.results94, go_sem, World.cell?_setCell_same', *]; done) | (simp [results, Try.results94, go_sem]; first | exact ⟨rfl, rfl⟩ | rfl)) rfl ⟨by rw [hf2.out], rfl⟩
theorem cmpL_neg (a b : List Int) : decide (cmpL a b < 0) = bef a b := by
  unfold cmpL
  cases bef a b
  · by_cases h : a = b <;> simp [h]
  · simp
end Go.Proofs.Ytiobmfggnacplaa
/- Five and six parameters of a law; bounds of small kinds. -/
namespace Go.Proofs.Ytiobmfggnacplaa
open Go.ChangeShapes Go.WideShapes Go.ChangeAt Go.RowKit Go.Deep
section
variable {H : Type} {enc : TypeId × Value → H} {P : Program} {w : World} {base : Nat} {spare : Nat → Bool} {held : Bool}
theorem trodAll_five {t0 t1 t2 t3 t4 : TypeId} {args : Array Value} {ds : List (DataW H)} {ps : List MemPlace} (h : DataW.TrodAll enc P w base spare held [t0, t1, t2, t3, t4] args.toList ds ps) :
    ∃ v0 v1 v2 v3 v4 d0 d1 d2 d3 d4 p0 p1 p2 p3 p4, args = #[v0, v1, v2, v3, v4] ∧ ds = [d0, d1, d2, d3, d4] ∧ ps = p0 ++ p1 ++ p2 ++ p3 ++ p4 ∧ DataW.Trod enc P w base spare held t0 v0 d0 p0 ∧ DataW.Trod enc P w base spare held t1 v1 d1 p1 ∧ DataW.Trod enc P w base spare held t2 v2 d2 p2 ∧ DataW.Trod enc P w base spare held t3 v3 d3 p3 ∧ DataW.Trod enc P w base spare held t4 v4 d4 p4 := by
  obtain ⟨v0, vs0, d0, ds0, p0, q0, hargs, rfl, rfl, h0, r0⟩ := trodAll_cons h
  obtain ⟨v1, vs1, d1, ds1, p1, q1, rfl, rfl, rfl, h1, r1⟩ := trodAll_cons r0
  obtain ⟨v2, vs2, d2, ds2, p2, q2, rfl, rfl, rfl, h2, r2⟩ := trodAll_cons r1
  obtain ⟨v3, vs3, d3, ds3, p3, q3, rfl, rfl, rfl, h3, r3⟩ := trodAll_cons r2
  obtain ⟨v4, vs4, d4, ds4, p4, q4, rfl, rfl, rfl, h4, r4⟩ := trodAll_cons r3
  obtain ⟨rfl, rfl, rfl⟩ := trodAll_nil r4
  exact ⟨v0, v1, v2, v3, v4, d0, d1, d2, d3, d4, p0, p1, p2, p3, p4, by cases args; simp_all, rfl, by simp, h0, h1, h2, h3, h4⟩
theorem trodAll_six {t0 t1 t2 t3 t4 t5 : TypeId} {args : Array Value} {ds : List (DataW H)} {ps : List MemPlace} (h : DataW.TrodAll enc P w base spare held [t0, t1, t2, t3, t4, t5] args.toList ds ps) :
    ∃ v0 v1 v2 v3 v4 v5 d0 d1 d2 d3 d4 d5 p0 p1 p2 p3 p4 p5, args = #[v0, v1, v2, v3, v4, v5] ∧ ds = [d0, d1, d2, d3, d4, d5] ∧ ps = p0 ++ p1 ++ p2 ++ p3 ++ p4 ++ p5 ∧ DataW.Trod enc P w base spare held t0 v0 d0 p0 ∧ DataW.Trod enc P w base spare held t1 v1 d1 p1 ∧ DataW.Trod enc P w base spare held t2 v2 d2 p2 ∧ DataW.Trod enc P w base spare held t3 v3 d3 p3 ∧ DataW.Trod enc P w base spare held t4 v4 d4 p4 ∧ DataW.Trod enc P w base spare held t5 v5 d5 p5 := by
  obtain ⟨v0, vs0, d0, ds0, p0, q0, hargs, rfl, rfl, h0, r0⟩ := trodAll_cons h
  obtain ⟨v1, vs1, d1, ds1, p1, q1, rfl, rfl, rfl, h1, r1⟩ := trodAll_cons r0
  obtain ⟨v2, vs2, d2, ds2, p2, q2, rfl, rfl, rfl, h2, r2⟩ := trodAll_cons r1
  obtain ⟨v3, vs3, d3, ds3, p3, q3, rfl, rfl, rfl, h3, r3⟩ := trodAll_cons r2
  obtain ⟨v4, vs4, d4, ds4, p4, q4, rfl, rfl, rfl, h4, r4⟩ := trodAll_cons r3
  obtain ⟨v5, vs5, d5, ds5, p5, q5, rfl, rfl, rfl, h5, r5⟩ := trodAll_cons r4
  obtain ⟨rfl, rfl, rfl⟩ := trodAll_nil r5
  exact ⟨v0, v1, v2, v3, v4, v5, d0, d1, d2, d3, d4, d5, p0, p1, p2, p3, p4, p5, by cases args; simp_all, rfl, by simp, h0, h1, h2, h3, h4, h5⟩
end
theorem u8_bd {x : Int} (h : (Lit.int .u8 x).wf = true) : 0 ≤ x ∧ x ≤ 255 := by
  simp [Lit.wf, IntKind.min, IntKind.max, IntKind.signed, IntKind.bits] at h
  omega
theorem u16_bd {x : Int} (h : (Lit.int .u16 x).wf = true) : 0 ≤ x ∧ x ≤ 65535 := by
  simp [Lit.wf, IntKind.min, IntKind.max, IntKind.signed, IntKind.bits] at h
  omega
theorem u32_bd {x : Int} (h : (Lit.int .u32 x).wf = true) : 0 ≤ x ∧ x ≤ 4294967295 := by
  simp [Lit.wf, IntKind.min, IntKind.max, IntKind.signed, IntKind.bits] at h
  omega
end Go.Proofs.Ytiobmfggnacplaa
/- Walks: the start of the least reading. -/
namespace Go.Proofs.Ytiobmfggnacplaa
open Go.RowKit
attribute [local go_sem] Oper.semAt_some
set_option maxRecDepth 10000 in
set_option maxHeartbeats 4000000 in
theorem sclo_any (g bd : Nat) (K : Int) (A : Option Addr) (n c : Nat) (l : List Int) (x y : Nat) (w : World) (hR : Rd w g K A n c l) (hc : n ≤ c) (hn : n ≤ 64) (hx : x < n) (hy : y < n) (c1 : w.cell? ⟨bd, 0, none⟩ = some (.func (.func 60) #[.pointer (some ⟨g, 0, none⟩)] #[])) (lbd : bd < w.heap.size) :
    Calls Try.prog 93 #[.int .i64 x, .int .i64 y, .pointer (some ⟨bd, 0, none⟩)] w fun e w' => e = .returned (.int .i64 (cmpL (rot l x) (rot l y))) ∧ Below w.heap.size w w' := by
  have HR := hid hR
  clear hR
  go_enter Try.func93, Try.ntmps93
  go_wp2_with (fail)
  refine Sx.wp_region_el (fun W => Below w.heap.size w W) (hSb w) [0, 1, 3, 4] 4 (by kernel_rfl) (by kernel_rfl) ((Below.refl _ _).drew) ?_
  simp only [pick, List.getElem?_toArray, List.getElem?_cons_zero, List.getElem?_cons_succ]
  iterate 4 (refine Sx.wpE_val (v := ?_) (by rfl) (fun W hW => ?_) ?_; rotate_left; (· have q0 := ((bcell hW).1 bd 0 lbd).trans c1; have q1 : bd < W.heap.size := Nat.lt_of_lt_of_le lbd hW.size; go_simp; with_reducible rfl); simp only [Act.put, List.setIfInBounds_toArray, List.set_cons_zero, List.set_cons_succ])
  simp only [Sx.wpE]
  (refine Sx.wpM_one 2 _ (by simp only [List.getElem?_toArray, List.getElem?_cons_zero, List.getElem?_cons_succ]; rfl) (by kernel_rfl) (by rfl) ?_)
  intro X1 hu1 hs1
  (go_simp; simp only [LUpon, Act.put]; try simp only [List.setIfInBounds_toArray, List.set_cons_zero, List.set_cons_succ])
  refine (turned_any g K A n c l x X1 (HR.out.below hs1) hc hn hx).mono ?_
  rintro e X2 ⟨v, rfl, ho, hb⟩
  obtain ⟨A1, c1', rfl, hsl⟩ := sl_of_owns ho
  have hs2 : Below w.heap.size w X2 := hs1.trans (hb.mono hs1.size)
  refine ⟨_, rfl, hs2, ?_⟩
  have H1 := hid (show InS X2 X2.heap.size A1 n (rot l x) from hsl)
  clear ho hsl hb
  try simp only [Act.put, List.setIfInBounds_toArray, List.set_cons_zero, List.set_cons_succ]
  (refine Sx.wpM_one 5 _ (by simp only [List.getElem?_toArray, List.getElem?_cons_zero, List.getElem?_cons_succ]; rfl) (by kernel_rfl) (by rfl) ?_)
  intro X3 hu3 hs3
  (go_simp; simp only [LUpon, Act.put]; try simp only [List.setIfInBounds_toArray, List.set_cons_zero, List.set_cons_succ])
  have H3 := hid (H1.out.below hu3 hu3.size)
  clear H1
  refine (turned_any g K A n c l y X3 (HR.out.below hs3) hc hn hy).mono ?_
  rintro e X4 ⟨v, rfl, ho, hb⟩
  obtain ⟨A2, c2', rfl, hsl⟩ := sl_of_owns ho
  have hs4 : Below w.heap.size w X4 := hs3.trans (hb.mono hs3.size)
  refine ⟨_, rfl, hs4, ?_⟩
  have H4 := hid (H3.out.below hb hb.size)
  have H2 := hid (show InS X4 X4.heap.size A2 n (rot l y) from hsl)
  clear ho hsl hb H3
  try simp only [Act.put, List.setIfInBounds_toArray, List.set_cons_zero, List.set_cons_succ]
  (refine Sx.wpM_one 6 _ (by simp only [List.getElem?_toArray, List.getElem?_cons_zero, List.getElem?_cons_succ]; rfl) (by kernel_rfl) (by rfl) ?_)
  intro X5 hu5 hs5
  (go_simp; simp only [LUpon, Act.put]; try simp only [List.setIfInBounds_toArray, List.set_cons_zero, List.set_cons_succ])
  refine (compare_any X5 A1 A2 n c1' n c2' (rot l x) (rot l y) (H4.out.below hu5 hu5.size) (H2.out.below hu5 hu5.size) (by omega) (by omega)).mono ?_
  rintro e X6 ⟨rfl, rfl⟩
  refine ⟨_, rfl, hs5, ?_⟩
  try simp only [Act.put, List.setIfInBounds_toArray, List.set_cons_zero, List.set_cons_succ]
  refine Sx.wpM_early (hSb w) (by kernel_rfl) [7] 0 _ _ (by kernel_rfl) ?_
  simp only [pick, List.getElem?_toArray, List.getElem?_cons_zero, List.getElem?_cons_succ]
  iterate 1 (refine Sx.wpE_val (v := ?_) (by rfl) (fun W hW => ?_) ?_; rotate_left; (· skip; go_simp; with_reducible rfl); simp only [Act.put, List.setIfInBounds_toArray, List.set_cons_zero, List.set_cons_succ])
  simp only [Sx.wpE]
  refine Sx.wpM_end (by kernel_rfl) ?_
  intro X7 hu7 hs7
  go_wp2
  refine bodyPost_ret (v := .int .i64 (cmpL (rot l x) (rot l y))) (by first | (simp [results, Try.results93, go_sem]; done) | (simp [results, Try.results93, go_sem, *]; done) | (simp [results, Try.results93, go_sem, World.cell?_setCell_same', *]; done) | (simp [results, Try.results93, go_sem]; first | exact ⟨rfl, rfl⟩ | rfl)) rfl ⟨rfl, hs7⟩
end Go.Proofs.Ytiobmfggnacplaa
/- Walks: the first of several that is not greater than any; the start of the least reading. -/
namespace Go.Proofs.Ytiobmfggnacplaa
open Go.RowKit
attribute [local go_sem] Oper.semAt_some
def upI (n : Nat) : List Int := (List.range n).map fun i : Nat => (i : Int)
theorem upI_len (n : Nat) : (upI n).length = n := by simp [upI]
theorem upI_at {n k : Nat} (h : k < n) : (upI n)[k]? = some (k : Int) := by
  unfold upI
  rw [List.getElem?_map, List.getElem?_range h]; rfl
theorem upI_succ (n : Nat) : upI (n + 1) = upI n ++ [(n : Int)] := by
  unfold upI
  rw [List.range_succ, List.map_append]; rfl
set_option maxRecDepth 10000 in
set_option maxHeartbeats 4000000 in
theorem leastF_any (g bd : Nat) (K : Int) (A : Option Addr) (n c : Nat) (l : List Int) (A' : Option Addr) (c' : Nat) (w : World) (hR : Rd w g K A n c l) (hc : n ≤ c) (hn : n ≤ 64) (h1 : 1 ≤ n) (ha : InS w w.heap.size A' n (upI n)) (hc' : n ≤ c') (c1 : w.cell? ⟨bd, 0, none⟩ = some (.func (.func 60) #[.pointer (some ⟨g, 0, none⟩)] #[])) (lbd : bd < w.heap.size) :
    Calls Try.prog 92 #[.slice A' n c', .func (.func 93) #[] #[.pointer (some ⟨bd, 0, none⟩)]] w fun e w' => e = .returned (.int .i64 (lstart l : Nat)) ∧ Below w.heap.size w w' := by
  have HR := hid hR
  have hlen := hid hR.2.len
  clear hR
  obtain ⟨b, off, x0, rfl, hb0, hx0, d0⟩ := ha.at_ (show 0 < n by omega)
  obtain rfl : x0 = 0 := by rw [upI_at (by omega)] at hx0; exact (Option.some.inj hx0).symm
  have HA := hid ha
  have d0' : w.cell? ⟨b, off, none⟩ = some (.int .i64 0) := d0
  have h1i : (0 : Int) < n := by omega
  have h1c : (1 : Int) ≤ c' := by omega
  have h1n : (1 : Int) ≤ n := by omega
  clear ha hx0 d0
  by_cases hc1 : c' = 1
  · subst hc1
    have hf : Hid (lstart l = 0) := hid (by unfold lstart; rw [hlen.out]; have := lst_lt l n; omega)
    have hn1 : ¬ (0 : Int) < (n : Int) - 1 := by omega
    have hn2 : n - 1 = 0 := by omega
    go_enter Try.func92, Try.ntmps92
    go_wp2_with (fail)
    go_loopw [5, 14] (fun v i wr => v = .int .i64 0 ∧ i = .int .i64 0 ∧ w = wr) (fun _ _ _ => 0)
    case atStart => exact ⟨rfl, rfl, rfl⟩
    case round =>
      obtain ⟨rfl, rfl, rfl⟩ := hrel
      go_wp2
      refine bodyPost_ret (v := .int .i64 0) (by first | (simp [results, Try.results92, go_sem]; done) | (simp [results, Try.results92, go_sem, *]; done) | (simp [results, Try.results92, go_sem, World.cell?_setCell_same', *]; done) | (simp [results, Try.results92, go_sem]; first | exact ⟨rfl, rfl⟩ | rfl)) rfl ⟨by rw [hf.out]; rfl, Below.refl _ _⟩
  · go_enter Try.func92, Try.ntmps92
    go_wp2_with (fail)
    go_loopw [5, 14] (fun v i wr => ∃ k : Nat, k + 1 ≤ n ∧ i = .int .i64 k ∧ v = .int .i64 (lst l (k + 1) : Nat) ∧ Below w.heap.size w wr) (fun _ i _ => n - (intOf i).toNat)
    case atStart => exact ⟨0, by omega, rfl, by rw [lst_one]; rfl, Below.refl _ _⟩
    case round =>
      obtain ⟨k, hk, rfl, rfl, hbw⟩ := hrel
      have hszw := hbw.size
      obtain ⟨st, hst⟩ : ∃ st, lst l (k + 1) = st := ⟨_, rfl⟩
      have hstl : st < n := by have := lst_lt l (k + 1); omega
      have hs1 := hid (lst_succ l (k + 1))
      rw [hst] at hs1
      have Hst := hid hst
      rw [hst]
      clear hst
      by_cases hlt : k + 1 < n
      · have hlti : (k : Int) < ((n - 1 : Nat) : Int) := by omega
        have hlti2 : (k : Int) < (n : Int) - 1 := by omega
        obtain ⟨b', off', x, e', hb2, hx, d1⟩ := HA.out.at_ hlt
        cases e'
        obtain rfl : x = ((k + 1 : Nat) : Int) := by rw [upI_at hlt] at hx; exact (Option.some.inj hx).symm
        have d2 : wr.cell? ⟨b, off + 1 + k, none⟩ = some (.int .i64 ((k + 1 : Nat) : Int)) := by
          have := (hbw.cell (p := ⟨b, off + (k + 1), none⟩) hb2).trans d1
          rwa [show off + (k + 1) = off + 1 + k by omega] at this
        have hbw' : b < wr.heap.size := Nat.lt_of_lt_of_le hb2 hszw
        clear hx d1
        obtain ⟨z, hz⟩ : ∃ z, cmpL (rot l (k + 1)) (rot l st) = z := ⟨_, rfl⟩
        have hneg := cmpL_neg (rot l (k + 1)) (rot l st)
        rw [hz] at hneg
        have Hz := hid hz
        clear hz
        go_wp2_with (fail)
        refine (sclo_any g bd K A n c l (k + 1) st _ (HR.out.below hbw) hc hn hlt hstl ((hbw.cell (p := ⟨bd, 0, none⟩) lbd).trans c1) (Nat.lt_of_lt_of_le lbd hszw)).mono ?_
        rw [Hz.out]
        rintro e W1 ⟨rfl, hb3⟩
        have hbw2 := hbw.trans (hb3.mono hszw)
        cases hbf : bef (rot l (k + 1)) (rot l st)
        · rw [hbf] at hneg hs1
          have hz0 : ¬ z < 0 := of_decide_eq_false hneg
          clear hneg hbf
          go_wp2
          exact ⟨⟨k + 1, by omega, by go_num, by rw [hs1.out]; rfl, hbw2⟩, by simp [intOf]; omega⟩
        · rw [hbf] at hneg hs1
          have hz0 : z < 0 := of_decide_eq_true hneg
          clear hneg hbf
          go_wp2
          exact ⟨⟨k + 1, by omega, by go_num, by rw [hs1.out]; rfl, hbw2⟩, by simp [intOf]; omega⟩
      · have hlti : ¬ (k : Int) < ((n - 1 : Nat) : Int) := by omega
        have hlti2 : ¬ (k : Int) < (n : Int) - 1 := by omega
        have hf : Hid (lstart l = st) := hid (by unfold lstart; rw [hlen.out, ← Hst.out]; congr 1; omega)
        go_wp2
        refine bodyPost_ret (v := .int .i64 (st : Nat)) (by first | (simp [results, Try.results92, go_sem]; done) | (simp [results, Try.results92, go_sem, *]; done) | (simp [results, Try.results92, go_sem, World.cell?_setCell_same', *]; done) | (simp [results, Try.results92, go_sem]; first | exact ⟨rfl, rfl⟩ | rfl)) rfl ⟨by rw [hf.out], hbw⟩
end Go.Proofs.Ytiobmfggnacplaa
/- Walks: the start of the least reading, of a reader. -/
namespace Go.Proofs.Ytiobmfggnacplaa
open Go.RowKit
attribute [local go_sem] Oper.semAt_some
@[local go_sem] theorem run_store_func (P : Program) (a : Addr) (f : Fn) (b fr : Array Value) (m : Mode) (w : World) : (store a (.func f b fr) m).run P w = stored P w a (.func f b fr) m := run_store P w a _ m rfl
theorem own_capN {w : World} {base n c : Nat} {e : TypeId} {size : Nat} {A : Option Addr} {xs : List Value} (ho : w.ownsRow base e size (.slice A n c) n xs) : n ≤ c := by
  rcases ho.2 with ⟨h, h2⟩ | ⟨g, cap, cur, h, hb, hg, h3, _⟩
  · cases h; omega
  · cases h; exact h3
theorem upI_flat (k : Nat) : (upI (k + 1)).flatMap cI = (upI k).flatMap cI ++ [.int .i64 (k : Int)] := by rw [upI_succ, List.flatMap_append]; rfl
set_option maxRecDepth 10000 in
set_option maxHeartbeats 4000000 in
theorem start_any (g : Nat) (K : Int) (A : Option Addr) (n c : Nat) (l : List Int) (w : World) (hR : Rd w g K A n c l) (hc : n ≤ c) (hn : n ≤ 64) (h1 : 1 ≤ n) :
    Calls Try.prog 61 #[.pointer (some ⟨g, 0, none⟩)] w fun e w' => e = .returned (.int .i64 (lstart l : Nat)) ∧ Below w.heap.size w w' := by
  obtain ⟨i0, hi0, hi1, hi2, hi3⟩ := info_parts' info3
  have I0 := hid hi0; have I1 := hid hi1; have I2 := hid hi2; have I3 := hid hi3
  clear hi0 hi1 hi2 hi3
  have q1 : w.cell? ⟨g, 1, none⟩ = some (.slice A n c) := hR.1.cell 1
  have lg := hR.1.lt
  have HR := hid hR
  clear hR
  go_enter Try.func61, Try.ntmps61
  go_wp2_with (fail)
  go_loopw [3, 12] (fun v i wr => ∃ k : Nat, k ≤ n ∧ i = .int .i64 k ∧ Below w.heap.size w wr ∧ Hid (wr.ownsRow w.heap.size 3 1 v k ((upI k).flatMap cI))) (fun _ i _ => n - (intOf i).toNat)
  case atStart => exact ⟨0, by omega, rfl, Below.refl _ _, hid (World.ownsRow_nil _ _ _ _)⟩
  case round =>
    obtain ⟨k, hk2, rfl, hbw, hown⟩ := hrel
    have hszw := hbw.size
    by_cases hlt : k < n
    · have hlti : (k : Int) < n := by omega
      have Hf := hid (upI_flat k)
      go_wp2_with (at_builtin; refine wpList_append_own _ rfl _ _ 22 rfl w.heap.size 3 i0 _ 1 8 under22 I0.out I1.out I2.out I3.out rfl (by decide) _ k _ rfl (hown.out.alloc (.cells #[.int .i64 k] 3)) ⟨wr.heap.size, 0, none⟩ 1 1 [.int .i64 k] rfl rfl (fun j u hj => World.news_of_block (Blk.new' (by simp)) j u hj) (one1 _) (by unfold maxLen; omega) (by omega) (by simp; omega) ?_; intro v' w3 ho3 hg3 hv3)
      have hb3 : Below w.heap.size w w3 := (hbw.alloc hszw _).grown hg3 (by simp; omega) (fun r hr => (World.ownsRow.lt hown.out r hr).1)
      exact ⟨⟨k + 1, by omega, by go_num, hb3, hid (by rw [Hf.out]; exact ho3)⟩, by simp [intOf]; omega⟩
    · obtain rfl : n = k := by omega
      have ho := hown.out
      obtain ⟨A', c', rfl, hs⟩ := sl_of_owns ho
      have hcap := own_capN ho
      have HI := hid (show InS wr wr.heap.size A' n (upI n) from hs)
      clear ho hs hown
      obtain ⟨W1, hW1⟩ : ∃ W1, wr.alloc (.cells #[.func (.func 60) #[.pointer (some ⟨g, 0, none⟩)] #[]] 73) = W1 := ⟨_, rfl⟩
      have hb1 : Below wr.heap.size wr W1 := by rw [← hW1]; exact (Below.refl _ _).alloc (Nat.le_refl _) _
      have B5 : Blk W1 wr.heap.size 73 #[.func (.func 60) #[.pointer (some ⟨g, 0, none⟩)] #[]] := by rw [← hW1]; exact Blk.new' rfl
      have hz1 := hb1.size
      have hbw1 := hbw.trans (hb1.mono hszw)
      have c5 : W1.cell? ⟨wr.heap.size, 0, none⟩ = some (.func (.func 60) #[.pointer (some ⟨g, 0, none⟩)] #[]) := B5.cell 0
      have l5 := B5.lt
      have HI1 := hid (HI.out.below hb1 hz1)
      clear HI
      go_wp2_with (go_at_call 92; refine (leastF_any g wr.heap.size K A n c l A' c' _ (HR.out.below hbw1) hc hn h1 HI1.out hcap c5 l5).mono ?_; rintro e W2 ⟨rfl, hb2⟩)
      refine bodyPost_ret (v := .int .i64 (lstart l : Nat)) (by first | (simp [results, Try.results61, go_sem]; done) | (simp [results, Try.results61, go_sem, *]; done) | (simp [results, Try.results61, go_sem, World.cell?_setCell_same', *]; done) | (simp [results, Try.results61, go_sem]; first | exact ⟨rfl, rfl⟩ | rfl)) rfl ⟨rfl, hbw1.trans (hb2.mono hbw1.size)⟩
end Go.Proofs.Ytiobmfggnacplaa
