/- Texts of the proof, laid together by program. -/
import Derived.Test.YtiobmfggnacplaaMi
import Derived.Test.YtiobmfggnacplaaMj
import Derived.Test.YtiobmfggnacplaaMl
set_option linter.unusedSimpArgs false
set_option linter.unusedVariables false
/- Turns of a rim: which rims are the same; the period. Plain. -/
namespace Go.Proofs.Ytiobmfggnacplaa
theorem shK_spec {a b : List Int} {k : Nat} (h : shK a b = some k) : k < a.length ∧ rot a k = b ∧ ∀ j, j < k → rot a j ≠ b := by
  unfold shK at h
  rw [List.find?_range_eq_some] at h
  obtain ⟨h1, h2, h3⟩ := h
  exact ⟨List.mem_range.1 h2, by simpa using h1, fun j hj => by simpa using h3 j hj⟩
theorem shK_has {a b : List Int} {k : Nat} (hk : k < a.length) (h : rot a k = b) : ∃ j, shK a b = some j ∧ j ≤ k := by
  cases hs : shK a b with
  | none =>
    exfalso
    unfold shK at hs
    rw [List.find?_eq_none] at hs
    have := hs k (List.mem_range.2 hk)
    simp [h] at this
  | some j =>
    obtain ⟨-, -, h3⟩ := shK_spec hs
    refine ⟨j, rfl, Nat.le_of_not_lt fun hlt => h3 k hlt h⟩
theorem rot_back {a b : List Int} {k : Nat} (hk : k < a.length) (h : rot a k = b) : ∃ j, j < a.length ∧ rot b j = a := by
  refine ⟨(a.length - k) % a.length, Nat.mod_lt _ (by omega), ?_⟩
  rw [← h, rot_rot (by omega) (Nat.le_of_lt (Nat.mod_lt _ (by omega))) (by omega)]
  have : (k + (a.length - k) % a.length) % a.length = 0 := by
    rw [Nat.add_mod_mod, Nat.add_sub_cancel' (by omega), Nat.mod_self]
  rw [this, rot_zero]
theorem least_of_rot {a b : List Int} {k : Nat} (hk : k < a.length) (h : rot a k = b) : least b = least a := by rw [← h, least_rot hk]
theorem shK_least {a b : List Int} (h0 : 0 < a.length) (hl : a.length = b.length) (h : least a = least b) : ∃ k, shK a b = some k := by
  obtain ⟨j, hj, hb⟩ := rot_back (a := b) (lstart_lt (by omega)) (rfl : rot b (lstart b) = least b)
  have h1 : rot (rot a (lstart a)) j = b := by
    have : rot a (lstart a) = least b := h
    rw [this]; exact hb
  rw [rot_rot (Nat.le_of_lt (lstart_lt h0)) (by omega) h0] at h1
  obtain ⟨k, hk, -⟩ := shK_has (Nat.mod_lt _ h0) h1
  exact ⟨k, hk⟩
theorem checkRim_rot (K : Int) (l : List Int) (k : Nat) : checkRim K (rot l k) = checkRim K l := by
  unfold checkRim
  rw [rot_len]
  have e : (rot l k).all (inR 0 (K - 1)) = l.all (inR 0 (K - 1)) := by
    unfold rot
    rw [List.all_append, Bool.and_comm, ← List.all_append, List.take_append_drop]
  rw [e]
/-- What is told of two rims with as many touches. -/
theorem either_some {a b : List Int} (hl : a.length = b.length) {k : Nat} (h : shK a b = some k) : least a = least b ∧ rot a k = b ∧ k < a.length ∧ ∃ j, shK b a = some j ∧ rot b j = a ∧ j < b.length := by
  obtain ⟨h1, h2, -⟩ := shK_spec h
  obtain ⟨j, hj, hb⟩ := rot_back h1 h2
  obtain ⟨i, hi, -⟩ := shK_has (a := b) (b := a) (by omega) hb
  obtain ⟨h4, h5, -⟩ := shK_spec hi
  exact ⟨(least_of_rot h1 h2).symm, h2, h1, i, hi, h5, h4⟩
theorem either_none {a b : List Int} (h0 : 0 < a.length) (hl : a.length = b.length) (h : shK a b = none) : least a ≠ least b := fun e => by
  obtain ⟨k, hk⟩ := shK_least h0 hl e
  rw [h] at hk; cases hk
theorem either_turn {a : List Int} {i : Nat} (hi : i < a.length) : least (rot a i) = least a ∧ bef (rot a i) (least a) = false ∧ ∃ k, shK a (rot a i) = some k ∧ k ≤ i := by
  refine ⟨least_rot hi, least_min hi, shK_has hi rfl⟩
/-! The period. -/
theorem rot_per_iff {l : List Int} {i : Nat} (h0 : 0 < l.length) (hi : i < l.length) : rot l i = l ↔ i % perL l = 0 := by
  constructor
  · intro h
    exact Nat.mod_eq_zero_of_dvd (perL_dvd h0 (Nat.le_of_lt hi) h)
  · intro h
    obtain ⟨m, hm⟩ := Nat.dvd_of_mod_eq_zero h
    have := rot_mul h0 (perL_pos h0).2 (perL_rot l) m
    rw [Nat.mul_comm, ← hm, Nat.mod_eq_of_lt hi] at this
    exact this
theorem rot_minus {l : List Int} {i : Nat} (h0 : 0 < l.length) (hi : i < l.length) (hp : perL l ≤ i) : rot l (i - perL l) = rot l i := by
  have h1 := perL_rot l
  have h2 : rot (rot l (perL l)) (i - perL l) = rot l i := by
    rw [rot_rot (perL_pos h0).2 (by omega) h0, Nat.add_sub_cancel' hp, Nat.mod_eq_of_lt hi]
  rw [h1] at h2
  exact h2
theorem lstart_per {l : List Int} (h0 : 0 < l.length) : lstart l < perL l := by
  refine Nat.lt_of_not_le fun h => ?_
  have h1 := rot_minus h0 (lstart_lt h0) h
  have hp := (perL_pos h0).1
  have hlt : lstart l - perL l < lstart l := by omega
  have h2 := lst_first l l.length (lstart l - perL l) hlt
  have h3 : rot l (lst l l.length) = rot l (lstart l - perL l) := h1.symm
  rw [h3, bef_self] at h2
  cases h2
theorem per_lt {l : List Int} {k : Nat} (h0 : 0 < k) (hk : k < perL l) : rot l k ≠ l := perL_min h0 hk
theorem fineB_t {K : Int} {l : List Int} : fineB K l = true ↔ checkRim K l = 0 := by
  unfold fineB
  constructor
  · intro h; simp at h; exact h.2
  · intro h
    have := (rim_good h).2.1
    simp [h]; omega
end Go.Proofs.Ytiobmfggnacplaa
/- fine, whatever the length. -/
namespace Go.Proofs.Ytiobmfggnacplaa
open Go.RowKit
attribute [local go_sem] Oper.semAt_some
theorem fineW_any (K : Int) (A : Option Addr) (n c : Nat) (l : List Int) (w : World) (hl : InS w w.heap.size A n l) :
    Calls Try.prog 47 #[.int .i64 K, .slice A n c] w fun e w' => e = .returned (.bool (fineB K l)) ∧ Below w.heap.size w w' := by
  by_cases h80 : 80 < n
  · have hg : Hid (decide (80 < n) = true) := hid (decide_eq_true h80)
    have hf : Hid (fineB K l = false) := hid (by unfold fineB; rw [hl.len, decide_eq_true h80]; rfl)
    clear h80
    go_enter Try.func47, Try.ntmps47
    go_wp2_with (go_at_call 17; refine (great_any A n c _).mono ?_; rw [hg.out]; rintro e W1 ⟨rfl, hb⟩)
    refine bodyPost_ret (v := .bool false) (by first | (simp [results, Try.results47, go_sem]; done) | (simp [results, Try.results47, go_sem, *]; done) | (simp [results, Try.results47, go_sem, World.cell?_setCell_same', *]; done) | (simp [results, Try.results47, go_sem]; first | exact ⟨rfl, rfl⟩ | rfl)) rfl ⟨by rw [hf.out], hb⟩
  · exact fine_any K A n c l w hl (by omega)
theorem fineB_f {K : Int} {l : List Int} (h : fineB K l = false) : checkRim K l ≠ 0 := fun e => by rw [fineB_t.2 e] at h; cases h
end Go.Proofs.Ytiobmfggnacplaa
