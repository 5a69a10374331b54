/- Texts of the proof, laid together by program. -/
import Derived.Test.YtiobmfggnacplaaMo
import Derived.Test.YtiobmfggnacplaaMh
import Derived.Test.YtiobmfggnacplaaMi
set_option linter.unusedSimpArgs false
set_option linter.unusedVariables false
/- No row is before the given one: the kernel's check, and the law out of it. Plain. -/
namespace Go.Proofs.Ytiobmfggnacplaa
/-- The number of the window at a place. -/
def winN (K : Nat) (f : Nat → Nat) (i : Nat) : Nat → Nat
  | 0 => 0
  | k + 1 => K * winN K f i k + f (i + k)
def inB (v : Nat) (l : List Nat) : Bool := l.any (Nat.beq v)
def dupB : List Nat → Bool
  | [] => false
  | v :: l => inB v l || dupB l
/-- The windows that are whole within a list. -/
def wsN (K L : Nat) (q : List Nat) : List Nat := (List.range (q.length + 1 - L)).map fun i => winN K (fun t => q.getD t 0) i L
def reachN (K P : Nat) (ws : List Nat) : Nat → List Nat → List Nat → List Nat
  | 0, _, R => R
  | _, [], R => R
  | f + 1, r :: st, R =>
    let new := ((List.range K).map fun y => r % P * K + y).filter fun e => !(inB e ws) && !(inB e R)
    reachN K P ws f (new ++ st) (new ++ R)
/-- What is left can not be reached any more. -/
def stuckB (K L n : Nat) (ws : List Nat) : Bool :=
  let P := K ^ (L - 1)
  let last := ws.getLast?.getD 0
  let R := reachN K P ws 100 [last] []
  ((List.range K).all fun y => inB (last % P * K + y) ws || inB (last % P * K + y) R) &&
  (R.all fun r => (List.range K).all fun y => inB (r % P * K + y) ws || inB (r % P * K + y) R) &&
  (List.range n).any fun v => !(inB v ws) && !(inB v R)
def okJ (K L n : Nat) (q : List Nat) : Bool := dupB (wsN K L q) || (Nat.ble L q.length && stuckB K L n (wsN K L q))
def okRow (K L : Nat) (o : List Nat) : Bool := (List.range o.length).all fun j => (List.range (o.getD j 0)).all fun c => okJ K L (K ^ L) (o.take j ++ [c])
def rowN (K L : Nat) : List Nat := (rowF L (wdsL K L)).map Int.toNat
theorem rowN_ok : ∀ K : Fin 5, ∀ L : Fin 7, 1 ≤ K.1 → 1 ≤ L.1 → K.1 ^ L.1 ≤ 64 → okRow K.1 L.1 (rowN K.1 L.1) = true := by decide +kernel
end Go.Proofs.Ytiobmfggnacplaa
/- No row is before the given one: the law out of the kernel's check. Plain. -/
namespace Go.Proofs.Ytiobmfggnacplaa
theorem inB_t {v : Nat} {l : List Nat} : inB v l = true ↔ v ∈ l := by
  unfold inB
  rw [List.any_eq_true]
  constructor
  · rintro ⟨x, hx, h⟩
    rw [Nat.eq_of_beq_eq_true h]; exact hx
  · intro h
    exact ⟨v, h, Nat.beq_refl v⟩
theorem dupB_t : ∀ {l : List Nat}, dupB l = true → ∃ i j, i < j ∧ j < l.length ∧ l[i]? = l[j]?
  | [], h => by cases h
  | v :: l, h => by
    rw [dupB, Bool.or_eq_true] at h
    rcases h with h | h
    · obtain ⟨j, hj⟩ := List.getElem?_of_mem (inB_t.1 h)
      have := (List.getElem?_eq_some_iff.1 hj).1
      exact ⟨0, j + 1, by omega, by simp; omega, by simp [hj]⟩
    · obtain ⟨i, j, h1, h2, h3⟩ := dupB_t h
      exact ⟨i + 1, j + 1, by omega, by simp; omega, by simpa using h3⟩
theorem dupB_f : ∀ {l : List Nat}, dupB l = false → ∀ i j, i < j → j < l.length → l[i]? ≠ l[j]?
  | [], _, i, j, _, hj => by simp at hj
  | v :: l, h, i, j, hij, hj => by
    rw [dupB, Bool.or_eq_false_iff] at h
    obtain ⟨j', rfl⟩ : ∃ j', j = j' + 1 := ⟨j - 1, by omega⟩
    have hj2 : j' < l.length := by simpa using hj
    cases i with
    | zero =>
      intro e
      rw [List.getElem?_cons_zero, List.getElem?_cons_succ] at e
      have := inB_t.2 (List.mem_of_getElem? e.symm)
      rw [h.1] at this; cases this
    | succ i =>
      rw [List.getElem?_cons_succ, List.getElem?_cons_succ]
      exact dupB_f h.2 i j' (by omega) hj2
/-! Windows. -/
theorem winN_congr {K : Nat} {f g : Nat → Nat} {i : Nat} : ∀ k, (∀ t, i ≤ t → t < i + k → f t = g t) → winN K f i k = winN K g i k
  | 0, _ => rfl
  | k + 1, h => by
    rw [winN, winN, winN_congr k (fun t h1 h2 => h t h1 (by omega)), h (i + k) (by omega) (by omega)]
theorem winN_lt {K : Nat} {f : Nat → Nat} (hf : ∀ t, f t < K) (i : Nat) : ∀ k, winN K f i k < K ^ k
  | 0 => by simp [winN]
  | k + 1 => by
    have ih := winN_lt hf i k
    have h1 := hf (i + k)
    have h2 : K * (winN K f i k + 1) ≤ K * K ^ k := Nat.mul_le_mul_left K ih
    rw [Nat.mul_add, Nat.mul_one] at h2
    rw [winN, Nat.pow_succ, Nat.mul_comm (K ^ k) K]
    omega
theorem winN_left {K : Nat} {f : Nat → Nat} (i : Nat) : ∀ k, winN K f i (k + 1) = f i * K ^ k + winN K f (i + 1) k
  | 0 => by simp [winN]
  | k + 1 => by
    rw [winN, winN_left i k, winN, Nat.mul_add, Nat.pow_succ, show i + (k + 1) = i + 1 + k by omega, Nat.mul_left_comm K (f i), Nat.mul_comm K (K ^ k)]
    omega
theorem winN_step {K : Nat} {f : Nat → Nat} (hf : ∀ t, f t < K) (i k : Nat) : winN K f (i + 1) (k + 1) = winN K f i (k + 1) % K ^ k * K + f (i + 1 + k) := by
  rw [winN_left i k, winN, Nat.mul_comm (f i) (K ^ k), Nat.mul_add_mod, Nat.mod_eq_of_lt (winN_lt hf _ _), Nat.mul_comm K]
theorem no_inj : ∀ (n : Nat) (g : Nat → Nat), (∀ i, i < n + 1 → g i < n) → ∃ i j, i < j ∧ j < n + 1 ∧ g i = g j
  | 0, g, h => by have := h 0 (by omega); omega
  | n + 1, g, h => by
    by_cases hx : ∃ i, i < n + 1 ∧ g i = g (n + 1)
    · obtain ⟨i, hi, he⟩ := hx
      exact ⟨i, n + 1, hi, by omega, he⟩
    · have hne : ∀ i, i < n + 1 → g i ≠ g (n + 1) := fun i hi he => hx ⟨i, hi, he⟩
      have hm := h (n + 1) (by omega)
      obtain ⟨i, j, h1, h2, h3⟩ := no_inj n (fun i => if g i > g (n + 1) then g i - 1 else g i) (fun i hi => by
        have := h i (by omega); have := hne i hi
        split <;> omega)
      refine ⟨i, j, h1, by omega, ?_⟩
      have e1 := hne i (by omega); have e2 := hne j (by omega)
      split at h3 <;> split at h3 <;> omega
theorem all_hit {n : Nat} {f : Nat → Nat} (hf : ∀ i, i < n → f i < n) (hi : ∀ i j, i < j → j < n → f i ≠ f j) {v : Nat} (hv : v < n) : ∃ i, i < n ∧ f i = v := by
  by_cases hx : ∃ i, i < n ∧ f i = v
  · exact hx
  · exfalso
    have hne : ∀ i, i < n → f i ≠ v := fun i hi he => hx ⟨i, hi, he⟩
    obtain ⟨n', rfl⟩ : ∃ n', n = n' + 1 := ⟨n - 1, by omega⟩
    obtain ⟨i, j, h1, h2, h3⟩ := no_inj n' (fun i => if f i > v then f i - 1 else f i) (fun i hi => by
      have := hf i hi; have := hne i hi
      split <;> omega)
    have e1 := hne i (by omega); have e2 := hne j (by omega)
    refine hi i j h1 h2 ?_
    split at h3 <;> split at h3 <;> omega
/-- No walk through all windows begins so. -/
theorem no_walk {K L n : Nat} {f : Nat → Nat} (hL : 1 ≤ L) (hn : n = K ^ L) (hf : ∀ t, f t < K) (hi : ∀ i j, i < j → j < n → winN K f i L ≠ winN K f j L) {q : List Nat} (hq : ∀ t, t < q.length → q.getD t 0 = f t) (hq0 : 1 ≤ q.length) (hqn : q.length ≤ n) : okJ K L n q = false := by
  obtain ⟨P, rfl⟩ : ∃ P, L = P + 1 := ⟨L - 1, by omega⟩
  have hws : wsN K (P + 1) q = (List.range (q.length + 1 - (P + 1))).map fun i => winN K f i (P + 1) := by
    unfold wsN
    refine List.map_congr_left fun i hi => ?_
    have hi := List.mem_range.1 hi
    exact winN_congr _ (fun t h1 h2 => hq t (by omega))
  have hlt : ∀ i, winN K f i (P + 1) < n := fun i => by rw [hn]; exact winN_lt hf i _
  cases hok : okJ K (P + 1) n q
  · rfl
  · exfalso
    unfold okJ at hok
    rw [Bool.or_eq_true, Bool.and_eq_true, hws] at hok
    obtain ⟨m, hm⟩ : ∃ m, q.length + 1 - (P + 1) = m := ⟨_, rfl⟩
    rw [hm] at hok
    have hin : ∀ v, v ∈ (List.range m).map (fun i => winN K f i (P + 1)) ↔ ∃ i, i < m ∧ winN K f i (P + 1) = v := fun v => by
      rw [List.mem_map]
      exact ⟨fun ⟨i, h1, h2⟩ => ⟨i, List.mem_range.1 h1, h2⟩, fun ⟨i, h1, h2⟩ => ⟨i, List.mem_range.2 h1, h2⟩⟩
    rcases hok with hd | ⟨hl, hs⟩
    · obtain ⟨i, j, h1, h2, h3⟩ := dupB_t hd
      rw [List.length_map, List.length_range] at h2
      rw [List.getElem?_map, List.getElem?_map, List.getElem?_range (by omega), List.getElem?_range h2] at h3
      exact hi i j h1 (by omega) (Option.some.inj h3)
    · have hl := Nat.le_of_ble_eq_true hl
      obtain ⟨m', rfl⟩ : ∃ m', m = m' + 1 := ⟨m - 1, by omega⟩
      unfold stuckB at hs
      simp only at hs
      have hlast : (((List.range (m' + 1)).map fun i => winN K f i (P + 1)).getLast?.getD 0) = winN K f m' (P + 1) := by
        rw [List.range_succ, List.map_append]; simp
      rw [hlast, Nat.add_sub_cancel] at hs
      obtain ⟨R, hR⟩ : ∃ R, reachN K (K ^ P) ((List.range (m' + 1)).map fun i => winN K f i (P + 1)) 100 [winN K f m' (P + 1)] [] = R := ⟨_, rfl⟩
      rw [hR, Bool.and_eq_true, Bool.and_eq_true, List.all_eq_true, List.all_eq_true, List.any_eq_true] at hs
      obtain ⟨⟨hs1, hs2⟩, v, hv, hv2⟩ := hs
      have hnew : ∀ i, m' < i → i < n → winN K f i (P + 1) ∉ (List.range (m' + 1)).map fun i => winN K f i (P + 1) := fun i h1 h2 h3 => by
        obtain ⟨i', h4, h5⟩ := (hin _).1 h3
        exact hi i' i (by omega) h2 h5
      have hcl : ∀ i, m' < i → i < n → winN K f i (P + 1) ∈ R := by
        intro i
        induction i with
        | zero => intro h; omega
        | succ i ih =>
          intro h1 h2
          have hst := winN_step hf i P
          have hno := hnew (i + 1) h1 h2
          have hy := List.mem_range.2 (hf (i + 1 + P))
          rcases Nat.lt_or_ge m' i with h3 | h3
          · have h4 := hs2 _ (ih h3 (by omega))
            rw [List.all_eq_true] at h4
            have h5 := h4 _ hy
            rw [← hst, Bool.or_eq_true, inB_t, inB_t] at h5
            exact h5.resolve_left hno
          · obtain rfl : i = m' := by omega
            have h5 := hs1 _ hy
            rw [← hst, Bool.or_eq_true, inB_t, inB_t] at h5
            exact h5.resolve_left hno
      obtain ⟨i, h1, h2⟩ := all_hit (fun i _ => hlt i) hi (List.mem_range.1 hv)
      rw [Bool.and_eq_true, Bool.not_eq_true', Bool.not_eq_true'] at hv2
      rcases Nat.lt_or_ge i (m' + 1) with h3 | h3
      · have := inB_t.2 ((hin v).2 ⟨i, h3, h2⟩)
        rw [hv2.1] at this; cases this
      · have := inB_t.2 (hcl i (by omega) h1)
        rw [h2, hv2.2] at this; cases this
end Go.Proofs.Ytiobmfggnacplaa
/- Rows: the given one is a row, no row is before it, turned rows are rows, each list stands in a row. Plain. -/
namespace Go.Proofs.Ytiobmfggnacplaa
def cycF (l : List Int) (t : Nat) : Nat := (l.getD (t % l.length) 0).toNat
theorem rowN_all : ∀ K : Fin 5, ∀ L : Fin 7, 1 ≤ K.1 → 1 ≤ L.1 → K.1 ^ L.1 ≤ 64 → (rowF L.1 (wdsL K.1 L.1)).length = K.1 ^ L.1 ∧ ((rowF L.1 (wdsL K.1 L.1)).all fun x => decide (0 ≤ x) && decide (x < (K.1 : Int))) = true ∧ dupB ((List.range (K.1 ^ L.1)).map fun i => winN K.1 (cycF (rowF L.1 (wdsL K.1 L.1))) i L.1) = false := by decide +kernel
theorem cycF_lt {K : Nat} {l : List Int} (h0 : 0 < l.length) (h : ∀ x ∈ l, 0 ≤ x ∧ x < (K : Int)) (t : Nat) : cycF l t < K := by
  unfold cycF
  have hm := Nat.mod_lt t h0
  rw [List.getD_eq_getElem?_getD, List.getElem?_eq_getElem hm]
  have := h _ (List.getElem_mem hm)
  simp only [Option.getD_some]
  omega
theorem stI_win {K : Nat} {l : List Int} (h0 : 0 < l.length) (h : ∀ x ∈ l, 0 ≤ x ∧ x < (K : Int)) (i : Nat) : ∀ k, stI K l i k = (winN K (cycF l) i k : Nat)
  | 0 => rfl
  | k + 1 => by
    rw [stI, winN, stI_win h0 h i k]
    have hm := Nat.mod_lt (i + k) h0
    have h1 : l.getD ((i + k) % l.length) 0 = (cycF l (i + k) : Nat) := by
      unfold cycF
      rw [List.getD_eq_getElem?_getD, List.getElem?_eq_getElem hm]
      have := h _ (List.getElem_mem hm)
      simp only [Option.getD_some]
      omega
    rw [h1]; push_cast; rfl
theorem rowE_zero {K L : Nat} (h1 : 1 ≤ K) (h2 : K ≤ 4) (h3 : 1 ≤ L) (h4 : L ≤ 6) (h5 : K ^ L ≤ 64) : rowE K L = 0 := by
  unfold rowE
  have h6 : ((K : Int) ^ (L : Int).toNat) = ((K ^ L : Nat) : Int) := by rw [Int.toNat_natCast, Int.natCast_pow]
  rw [if_neg (by omega), if_neg (by rw [h6]; omega)]
theorem chkR_info {K L : Nat} {l : List Int} (h : chkR K L l = 0) : (1 ≤ K ∧ K ≤ 4) ∧ (1 ≤ L ∧ L ≤ 6) ∧ K ^ L ≤ 64 ∧ l.length = K ^ L ∧ checkRim K l = 0 ∧ ∀ i j, i < j → j < l.length → winN K (cycF l) i L ≠ winN K (cycF l) j L := by
  unfold chkR at h
  split at h
  · rename_i h1; exact absurd h h1
  · rename_i h1
    have h1 : rowE K L = 0 := by omega
    obtain ⟨a1, a2, a3⟩ := rowE_ok h1
    rw [Int.toNat_natCast, Int.toNat_natCast] at a3
    split at h
    · cases h
    · rename_i h2
      have h6 : ((K : Int) ^ (L : Int).toNat) = ((K ^ L : Nat) : Int) := by rw [Int.toNat_natCast, Int.natCast_pow]
      rw [h6] at h2
      split at h
      · rename_i h3; exact absurd h h3
      · rename_i h3
        have h3 : checkRim K l = 0 := by omega
        split at h
        · rename_i h4
          obtain ⟨-, b2, b3⟩ := rim_good h3
          rw [Int.toNat_natCast] at h4
          refine ⟨by omega, by omega, a3, by omega, h3, fun i j hij hj e => stD_t.1 h4 j hj i hij ?_⟩
          rw [stI_win (by omega) b3, stI_win (by omega) b3, e]
        · cases h
theorem chkR_mk {K L : Nat} {l : List Int} (h1 : 1 ≤ K ∧ K ≤ 4) (h2 : 1 ≤ L ∧ L ≤ 6) (h3 : K ^ L ≤ 64) (h4 : l.length = K ^ L) (h5 : checkRim K l = 0) (h6 : ∀ i j, i < j → j < l.length → winN K (cycF l) i L ≠ winN K (cycF l) j L) : chkR K L l = 0 := by
  obtain ⟨-, b2, b3⟩ := rim_good h5
  have e6 : ((K : Int) ^ (L : Int).toNat) = ((K ^ L : Nat) : Int) := by rw [Int.toNat_natCast, Int.natCast_pow]
  unfold chkR
  rw [if_neg (by rw [rowE_zero h1.1 h1.2 h2.1 h2.2 h3]; decide), if_neg (by rw [e6]; omega), if_neg (by rw [h5]; decide), if_pos]
  rw [Int.toNat_natCast]
  refine stD_t.2 fun j hj i hij e => h6 i j hij hj ?_
  rw [stI_win (by omega) b3, stI_win (by omega) b3] at e
  omega
theorem row_len {K L : Nat} (h1 : 1 ≤ K ∧ K ≤ 4) (h2 : 1 ≤ L ∧ L ≤ 6) (h3 : K ^ L ≤ 64) : (rowF L (wdsL K L)).length = K ^ L := (rowN_all ⟨K, by omega⟩ ⟨L, by omega⟩ h1.1 h2.1 h3).1
theorem row_in {K L : Nat} (h1 : 1 ≤ K ∧ K ≤ 4) (h2 : 1 ≤ L ∧ L ≤ 6) (h3 : K ^ L ≤ 64) : ∀ x ∈ rowF L (wdsL K L), 0 ≤ x ∧ x < (K : Int) := fun x hx => by
  have h := (rowN_all ⟨K, by omega⟩ ⟨L, by omega⟩ h1.1 h2.1 h3).2.1
  rw [List.all_eq_true] at h
  have := h x hx
  rw [Bool.and_eq_true, decide_eq_true_eq, decide_eq_true_eq] at this
  exact this
/-- The given one is a row. -/
theorem row_row {K L : Nat} (h1 : 1 ≤ K ∧ K ≤ 4) (h2 : 1 ≤ L ∧ L ≤ 6) (h3 : K ^ L ≤ 64) : chkR K L (rowF L (wdsL K L)) = 0 := by
  have hl := row_len h1 h2 h3
  have hd := (rowN_all ⟨K, by omega⟩ ⟨L, by omega⟩ h1.1 h2.1 h3).2.2
  have hp : 1 ≤ K ^ L := Nat.pow_pos h1.1
  refine chkR_mk h1 h2 h3 hl (checkRim_ok (by omega) (by omega) (by omega) (by omega) (row_in h1 h2 h3)) fun i j hij hj e => ?_
  rw [hl] at hj
  refine dupB_f hd i j hij (by simpa using hj) ?_
  rw [List.getElem?_map, List.getElem?_map, List.getElem?_range (show i < K ^ L by omega), List.getElem?_range hj]
  exact congrArg some e
theorem bef_first : ∀ {a o : List Int}, a.length = o.length → bef a o = true → ∃ (j : Nat) (x y : Int), a.take j = o.take j ∧ a[j]? = some x ∧ o[j]? = some y ∧ x < y
  | [], [], _, h => by cases h
  | [], _ :: _, h, _ => by simp at h
  | _ :: _, [], h, _ => by simp at h
  | x :: a, y :: o, hl, h => by
    rw [bef] at h
    by_cases e : x = y
    · rw [if_pos e] at h
      obtain ⟨j, u, v, h1, h2, h3, h4⟩ := bef_first (by simpa using hl) h
      exact ⟨j + 1, u, v, by rw [List.take_succ_cons, List.take_succ_cons, h1, e], by simpa using h2, by simpa using h3, h4⟩
    · rw [if_neg e, decide_eq_true_eq] at h
      exact ⟨0, x, y, rfl, rfl, rfl, h⟩
/-- No row is before the given one. -/
theorem no_less {K L : Nat} {a : List Int} (h : chkR K L a = 0) : bef a (rowF L (wdsL K L)) = false := by
  obtain ⟨h1, h2, h3, h4, h5, h6⟩ := chkR_info h
  obtain ⟨-, b2, b3⟩ := rim_good h5
  have hl := row_len h1 h2 h3
  have hin := row_in h1 h2 h3
  cases hb : bef a (rowF L (wdsL K L))
  · rfl
  · exfalso
    obtain ⟨j, x, y, e1, e2, e3, e4⟩ := bef_first (by rw [h4, hl]) hb
    have hj := (List.getElem?_eq_some_iff.1 e2).1
    have hx := b3 x (List.mem_of_getElem? e2)
    have hy := hin y (List.mem_of_getElem? e3)
    have hok := rowN_ok ⟨K, by omega⟩ ⟨L, by omega⟩ h1.1 h2.1 h3
    unfold okRow at hok
    rw [List.all_eq_true] at hok
    have h7 := hok j (List.mem_range.2 (by simp only [rowN, List.length_map]; rw [hl, ← h4]; exact hj))
    rw [List.all_eq_true] at h7
    have hyn : (rowN K L).getD j 0 = y.toNat := by
      unfold rowN
      rw [List.getD_eq_getElem?_getD, List.getElem?_map, e3]; rfl
    have h8 := h7 x.toNat (List.mem_range.2 (by simp only; rw [hyn]; omega))
    have hq : (rowN K L).take j ++ [x.toNat] = (a.take (j + 1)).map Int.toNat := by
      rw [List.take_add_one, e2, List.map_append, e1]
      unfold rowN
      rw [List.map_take]; rfl
    simp only at h8
    rw [hq] at h8
    have hql : ((a.take (j + 1)).map Int.toNat).length = j + 1 := by rw [List.length_map, List.length_take]; omega
    have := no_walk (q := (a.take (j + 1)).map Int.toNat) (f := cycF a) h2.1 h4 (cycF_lt (by omega) b3) h6 (fun t ht => by
      rw [hql] at ht
      unfold cycF
      rw [Nat.mod_eq_of_lt (by omega), List.getD_eq_getElem?_getD, List.getD_eq_getElem?_getD, List.getElem?_map, List.getElem?_take, if_pos ht, List.getElem?_eq_getElem (show t < a.length by omega)]
      rfl) (by omega) (by omega)
    rw [h4] at this
    rw [this] at h8; cases h8
end Go.Proofs.Ytiobmfggnacplaa
/- Rows turned are rows; each list stands in a row. Plain. -/
namespace Go.Proofs.Ytiobmfggnacplaa
theorem cyc_rot {l : List Int} {u : Nat} (h0 : 0 < l.length) (hu : u ≤ l.length) (t : Nat) : cycF (rot l u) t = cycF l (t + u) := by
  unfold cycF
  rw [rot_len, List.getD_eq_getElem?_getD, rot_at hu (Nat.mod_lt _ h0), Nat.mod_add_mod, ← List.getD_eq_getElem?_getD]
theorem winN_shift {K : Nat} {f g : Nat → Nat} {u : Nat} (h : ∀ t, g t = f (t + u)) (i : Nat) : ∀ k, winN K g i k = winN K f (i + u) k
  | 0 => rfl
  | k + 1 => by rw [winN, winN, winN_shift h i k, h, show i + k + u = i + u + k by omega]
theorem winN_cyc {K : Nat} {l : List Int} (i : Nat) : ∀ k, winN K (cycF l) (i % l.length) k = winN K (cycF l) i k
  | 0 => rfl
  | k + 1 => by
    have e : cycF l (i % l.length + k) = cycF l (i + k) := by unfold cycF; rw [Nat.mod_add_mod]
    rw [winN, winN, winN_cyc i k, e]
theorem mod_ne {n i j u : Nat} (hij : i < j) (hj : j < n) (hu : u ≤ n) : (i + u) % n ≠ (j + u) % n := by
  have e : ∀ i, i < n → (i + u) % n = i + u ∧ i + u < n ∨ (i + u) % n = i + u - n ∧ n ≤ i + u := fun i hi => by
    rcases Nat.lt_or_ge (i + u) n with h | h
    · exact .inl ⟨Nat.mod_eq_of_lt h, h⟩
    · rcases Nat.lt_or_ge (i + u - n) n with h2 | h2
      · exact .inr ⟨by rw [Nat.mod_eq_sub_mod h, Nat.mod_eq_of_lt h2], h⟩
      · omega
  have h1 := e i (by omega)
  have h2 := e j hj
  omega
theorem chkR_rot {K L : Nat} {l : List Int} {u : Nat} (h : chkR K L l = 0) (hu : u ≤ l.length) : chkR K L (rot l u) = 0 := by
  obtain ⟨h1, h2, h3, h4, h5, h6⟩ := chkR_info h
  have h0 : 0 < l.length := by have := (rim_good h5).2.1; omega
  refine chkR_mk h1 h2 h3 (by rw [rot_len]; exact h4) (by rw [checkRim_rot]; exact h5) fun i j hij hj e => ?_
  rw [rot_len] at hj
  rw [winN_shift (cyc_rot h0 hu), winN_shift (cyc_rot h0 hu), ← winN_cyc (i + u), ← winN_cyc (j + u)] at e
  have hne := mod_ne hij hj hu
  have p1 := Nat.mod_lt (i + u) h0
  have p2 := Nat.mod_lt (j + u) h0
  rcases Nat.lt_or_ge ((i + u) % l.length) ((j + u) % l.length) with h7 | h7
  · exact h6 _ _ h7 p2 e
  · exact h6 _ _ (by omega) p1 e.symm
theorem val_take {K : Nat} {l : List Int} {i : Nat} (h0 : 0 < l.length) (hi : i ≤ l.length) : ∀ k, k ≤ l.length → valN K ((rot l i).take k) = winN K (cycF l) i k
  | 0, _ => rfl
  | k + 1, hk => by
    have e : (rot l i)[k]? = some (l.getD ((i + k) % l.length) 0) := by
      have hm := Nat.mod_lt (i + k) h0
      rw [rot_at hi (by omega), Nat.add_comm k i, List.getD_eq_getElem?_getD, List.getElem?_eq_getElem hm]; rfl
    rw [List.take_add_one, e, Option.toList_some, valN_snoc, val_take h0 hi k (by omega), winN]; rfl
/-- Each list stands in a row. -/
theorem row_has {K L : Nat} {o g : List Int} (h : chkR K L o = 0) (hg : g.length = L) (hgi : ∀ x ∈ g, 0 ≤ x ∧ x < (K : Int)) (hL : L ≤ o.length) : ∃ k, k < o.length ∧ fdK o g = some k ∧ (rot o k).take L = g := by
  obtain ⟨h1, h2, h3, h4, h5, h6⟩ := chkR_info h
  obtain ⟨-, b2, b3⟩ := rim_good h5
  have h0 : 0 < o.length := by omega
  have hv : valN K g < o.length := by rw [h4, ← hg]; exact valN_lt g hgi
  obtain ⟨i, hi, he⟩ := all_hit (n := o.length) (f := fun i => winN K (cycF o) i L) (fun i _ => by rw [h4]; exact winN_lt (cycF_lt h0 b3) i L) h6 hv
  have hw : (rot o i).take L = g := by
    have h7 : valN K ((rot o i).take L) = valN K g := by rw [val_take h0 (by omega) L hL]; exact he
    have h8 : ((rot o i).take L).length = L := by rw [List.length_take, rot_len]; omega
    have h9 := numL_val (K := K) ((rot o i).take L) (fun x hx => b3 x (rot_mem.1 (List.mem_of_mem_take hx)))
    have h10 := numL_val (K := K) g hgi
    rw [h8, h7] at h9
    rw [hg] at h10
    rw [← h9, h10]
  obtain ⟨j, hj, p1, p2⟩ := first_le (P := fun j => (rot o j).take g.length = g) i (by rw [hg]; exact hw)
  refine ⟨j, by omega, fdK_some (by omega) p2 p1, by rw [← hg]; exact p1⟩
end Go.Proofs.Ytiobmfggnacplaa
