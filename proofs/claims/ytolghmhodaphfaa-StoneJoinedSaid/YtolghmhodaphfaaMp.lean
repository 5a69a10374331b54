/- Texts of the proof, laid together by program. -/
import Derived.Test.YtolghmhodaphfaaMj
import Derived.Test.YtolghmhodaphfaaMn
import Derived.Laws.AppendOwnNone
/- Plain law: all ways to go on; how many they are at most. No program in sight. -/
namespace Go.Proofs.Ytolghmhodaphfaa
/-- All ways to go on. -/
def goF (p : Int) : Nat → List Kd → Int → Int → List (List Kd)
  | 0, b, _, l => if l = 0 then [b] else []
  | d + 1, b, w, l => if l = 0 then [b] else (List.range (l / w).toNat).flatMap fun i : Nat => goF p d (b ++ [⟨w, (i : Int) + 1⟩]) (w * (p * ((i : Int) + 1) + 1)) (l - ((i : Int) + 1) * w)
def goTo (p : Int) (d : Nat) (b : List Kd) (w l : Int) (k : Nat) : List (List Kd) := (List.range k).flatMap fun i : Nat => goF p d (b ++ [⟨w, (i : Int) + 1⟩]) (w * (p * ((i : Int) + 1) + 1)) (l - ((i : Int) + 1) * w)
theorem goTo_succ (p : Int) (d : Nat) (b : List Kd) (w l : Int) (k : Nat) : goTo p d b w l (k + 1) = goTo p d b w l k ++ goF p d (b ++ [⟨w, (k : Int) + 1⟩]) (w * (p * ((k : Int) + 1) + 1)) (l - ((k : Int) + 1) * w) := by
  unfold goTo; rw [List.range_succ, List.flatMap_append]; simp
theorem goTo_all {p : Int} {d : Nat} {b : List Kd} {w l : Int} (h : l ≠ 0) : goF p (d + 1) b w l = goTo p d b w l (l / w).toNat := by
  show (if l = 0 then _ else _) = _
  rw [if_neg h]; rfl
theorem sum_step {A S y k : Int} (hk : 0 ≤ k) (hy : 0 ≤ y) (h1 : S * (k + 1) ≤ A * k) (h2 : y * ((k + 2) * (k + 2)) ≤ A) : (S + y) * (k + 2) ≤ A * (k + 1) := by
  have h3 : (S * (k + 1)) * (k + 2) ≤ (A * k) * (k + 2) := Int.mul_le_mul_of_nonneg_right h1 (by omega)
  have h4 : y * ((k + 2) * (k + 1)) ≤ y * ((k + 2) * (k + 2)) := Int.mul_le_mul_of_nonneg_left (Int.mul_le_mul_of_nonneg_left (by omega) (by omega)) hy
  have e1 : (S + y) * (k + 2) * (k + 1) = (S * (k + 1)) * (k + 2) + y * ((k + 2) * (k + 1)) := by
    rw [Int.mul_assoc, Int.add_mul, Int.mul_assoc S, Int.mul_comm (k + 1) (k + 2)]
  have e2 : A * (k + 1) * (k + 1) = (A * k) * (k + 2) + A := by
    rw [Int.mul_assoc, Int.mul_assoc, ← Int.mul_one A, Int.mul_assoc, Int.mul_assoc, ← Int.mul_add, Int.one_mul, Int.one_mul]
    congr 1
    simp only [Int.mul_add, Int.add_mul]
    omega
  exact Int.le_of_mul_le_mul_right (show (S + y) * (k + 2) * (k + 1) ≤ A * (k + 1) * (k + 1) by omega) (by omega)
theorem same_total (p w l m : Int) : w * (p * m + 1) + p * (l - m * w) = w + p * l := by
  rw [Int.mul_add, Int.mul_one, Int.mul_sub, Int.mul_left_comm p m w, Int.mul_left_comm w p m, Int.mul_comm w m]
  have := Int.mul_left_comm m p w
  omega
theorem goTo_len {p : Int} (hp : p = 1 ∨ p = 2) {d : Nat} (ih : ∀ (b : List Kd) (w l : Int), 1 ≤ w → 0 ≤ l → ((goF p d b w l).length : Int) * (w * w) ≤ (w + p * l) * (w + p * l)) {b : List Kd} {w l : Int} (hw : 1 ≤ w) :
    ∀ k : Nat, (k : Int) ≤ l / w → ((goTo p d b w l k).length : Int) * (w * w) * (k + 1) ≤ (w + p * l) * (w + p * l) * k := by
  intro k
  induction k with
  | zero => intro _; simp [goTo]
  | succ k ihk =>
    intro hk
    have h1 := ihk (by omega)
    rw [goTo_succ, List.length_append, Int.natCast_add, Int.add_mul, Int.natCast_add k 1]
    have hm : ((k : Int) + 1) * w ≤ l := Int.le_trans (Int.mul_le_mul_of_nonneg_right hk (by omega)) (Int.ediv_mul_le l (by omega))
    have hf : (k : Int) + 2 ≤ p * ((k : Int) + 1) + 1 := by rcases hp with rfl | rfl <;> omega
    have hw2 : 1 ≤ w * (p * ((k : Int) + 1) + 1) := by
      have h3 : 1 * 1 ≤ w * (p * ((k : Int) + 1) + 1) := Int.mul_le_mul hw (by omega) (by omega) (by omega)
      omega
    have h2 := ih (b ++ [⟨w, (k : Int) + 1⟩]) (w * (p * ((k : Int) + 1) + 1)) (l - ((k : Int) + 1) * w) hw2 (by omega)
    rw [same_total] at h2
    obtain ⟨f, hfe⟩ : ∃ f, p * ((k : Int) + 1) + 1 = f := ⟨_, rfl⟩
    rw [hfe] at h2 hf ⊢
    obtain ⟨x, hx⟩ : ∃ x : Nat, (goF p d (b ++ [⟨w, (k : Int) + 1⟩]) (w * f) (l - ((k : Int) + 1) * w)).length = x := ⟨_, rfl⟩
    rw [hx] at h2 ⊢
    have e1 : (x : Int) * (w * f * (w * f)) = (x * (w * w)) * (f * f) := by
      rw [Int.mul_assoc (x : Int), Int.mul_assoc w f, Int.mul_assoc w w, Int.mul_left_comm f w f]
    rw [e1] at h2
    have hy : 0 ≤ (x : Int) * (w * w) := Int.mul_nonneg (by omega) (Int.mul_nonneg (by omega) (by omega))
    have h4 : (x : Int) * (w * w) * (((k : Int) + 2) * ((k : Int) + 2)) ≤ (x * (w * w)) * (f * f) := Int.mul_le_mul_of_nonneg_left (Int.mul_le_mul hf hf (by omega) (by omega)) hy
    have h5 := sum_step (k := k) (by omega) hy h1 (Int.le_trans h4 h2)
    rw [show ((k : Int) + ((1 : Nat) : Int) + 1) = (k : Int) + 2 by omega, show ((k : Int) + ((1 : Nat) : Int)) = (k : Int) + 1 by omega]
    exact h5
theorem goF_len {p : Int} (hp : p = 1 ∨ p = 2) : ∀ (d : Nat) (b : List Kd) (w l : Int), 1 ≤ w → 0 ≤ l → ((goF p d b w l).length : Int) * (w * w) ≤ (w + p * l) * (w + p * l)
  | 0, b, w, l, hw, hl => by
    have hsq : 0 ≤ (w + p * l) * (w + p * l) := by
      have h0 : 0 ≤ p * l := Int.mul_nonneg (by omega) hl
      exact Int.mul_nonneg (by omega) (by omega)
    unfold goF
    split
    · rename_i h; subst h; simp
    · simpa using hsq
  | d + 1, b, w, l, hw, hl => by
    have hsq : 0 ≤ (w + p * l) * (w + p * l) := by
      have h0 : 0 ≤ p * l := Int.mul_nonneg (by omega) hl
      exact Int.mul_nonneg (by omega) (by omega)
    by_cases h : l = 0
    · subst h
      simp [goF]
    · rw [goTo_all h]
      have h0 : 0 ≤ l / w := Int.ediv_nonneg hl (by omega)
      obtain ⟨k, hk⟩ : ∃ k : Nat, l / w = k := ⟨(l / w).toNat, by omega⟩
      have h1 := goTo_len hp (goF_len hp d) (b := b) (l := l) hw k (by omega)
      rw [hk, Int.toNat_natCast]
      have h2 : (w + p * l) * (w + p * l) * k ≤ (w + p * l) * (w + p * l) * (k + 1) := Int.mul_le_mul_of_nonneg_left (by omega) hsq
      exact Int.le_of_mul_le_mul_right (Int.le_trans h1 h2) (by omega)
/-- No more than 14641. -/
theorem go_few {p : Int} (hp : p = 1 ∨ p = 2) (d : Nat) (b : List Kd) {w l : Int} (hw : 1 ≤ w) (hl : 0 ≤ l) (hb : w + p * l ≤ 121) : (goF p d b w l).length ≤ 14641 ∧ ∀ k : Nat, (k : Int) ≤ l / w → (goTo p d b w l k).length ≤ 14641 := by
  have h0 : 0 ≤ p * l := Int.mul_nonneg (by omega) hl
  have hA : (w + p * l) * (w + p * l) ≤ 121 * 121 := Int.mul_le_mul hb hb (by omega) (by omega)
  have hww : 1 * 1 ≤ w * w := Int.mul_le_mul hw hw (by omega) (by omega)
  have hgen : ∀ x : Nat, (x : Int) * (w * w) ≤ (w + p * l) * (w + p * l) → x ≤ 14641 := fun x hx => by
    have : (x : Int) * 1 ≤ x * (w * w) := Int.mul_le_mul_of_nonneg_left (by omega) (by omega)
    omega
  refine ⟨hgen _ (goF_len hp d b w l hw hl), fun k hk => hgen _ ?_⟩
  have h1 := goTo_len hp (goF_len hp d) (b := b) hw k hk
  have hsq : 0 ≤ (w + p * l) * (w + p * l) := Int.mul_nonneg (by omega) (by omega)
  have h2 : (w + p * l) * (w + p * l) * k ≤ (w + p * l) * (w + p * l) * (k + 1) := Int.mul_le_mul_of_nonneg_left (by omega) hsq
  exact Int.le_of_mul_le_mul_right (Int.le_trans h1 h2) (by omega)
end Go.Proofs.Ytolghmhodaphfaa
/- Plain law: the sets that go on are the sets of the factors. No program in sight. -/
namespace Go.Proofs.Ytolghmhodaphfaa
def prK (l : List (List Kd)) : List (List (Int × Int)) := l.map fun s => s.map fun k => (k.wt, k.many)
theorem go_one : ∀ a : Fin 61, a.val = 0 ∨ (prK (allSets 1 a.val) = prK (goF 1 a.val [] 1 a.val)) := by decide +kernel
theorem go_two : ∀ a : Fin 61, a.val = 0 ∨ (prK (allSets 2 a.val) = prK (goF 2 a.val [] 1 a.val)) := by decide +kernel
end Go.Proofs.Ytolghmhodaphfaa
/- Plain law: how many ways there are to write a number as factors; the sieve counts them. No program in sight. -/
namespace Go.Proofs.Ytolghmhodaphfaa
def ordT : List Nat := [0, 1, 1, 1, 2, 1, 3, 1, 4, 2, 3, 1, 8, 1, 3, 3, 8, 1, 8, 1, 8, 3, 3, 1, 20, 2, 3, 4, 8, 1, 13, 1, 16, 3, 3, 3, 26, 1, 3, 3, 20, 1, 13, 1, 8, 8, 3, 1, 48, 2, 8, 3, 8, 1, 20, 3, 20, 3, 3, 1, 44, 1, 3, 8, 32, 3, 13, 1, 8, 3, 13, 1, 76, 1, 3, 8, 8, 3, 13, 1, 48, 8, 3, 1, 44, 3, 3, 3, 20, 1, 44, 3, 8, 3, 3, 3, 112, 1, 8, 8, 26, 1, 13, 1, 20, 13, 3, 1, 76, 1, 13, 3, 48, 1, 13, 3, 8, 8, 3, 3, 132, 2]
def oT (n : Nat) : Nat := ordT.getD n 0
theorem oT_rec : ∀ m : Fin 122, m.val < 2 ∨ oT m.val = ((List.range m.val).map fun j => if 1 ≤ j ∧ m.val % j = 0 then oT j else 0).sum := by decide +kernel
theorem oT_le : ∀ m : Fin 122, oT m.val ≤ 200 := by decide +kernel
theorem oT_far {n : Nat} (h : 122 ≤ n) : oT n = 0 := by unfold oT; rw [List.getD_eq_getElem?_getD, List.getElem?_eq_none (by simpa [ordT] using h)]; rfl
theorem oT_bd (n : Nat) : oT n ≤ 200 := by
  rcases Nat.lt_or_ge n 122 with h | h
  · exact oT_le ⟨n, h⟩
  · rw [oT_far h]; omega
theorem all_one' : ∀ a : Fin 61, a.val = 0 ∨ (allSets 1 a.val).length = oT (a.val + 1) := by decide +kernel
theorem all_two' : ∀ a : Fin 61, a.val = 0 ∨ (allSets 2 a.val).length = oT (2 * a.val + 1) := by decide +kernel
/-- What stands at m after the numbers up to k. -/
def svS (k m : Nat) : Nat := (if m = 1 then 1 else 0) + ((List.range (k + 1)).map fun j => if 1 ≤ j ∧ j < m ∧ m % j = 0 then oT j else 0).sum
theorem svS_succ (k m : Nat) : svS (k + 1) m = svS k m + if k + 1 < m ∧ m % (k + 1) = 0 then oT (k + 1) else 0 := by
  unfold svS
  rw [List.range_succ, List.map_append, List.sum_append, ← Nat.add_assoc]
  congr 1
  simp
theorem sum_bd (l : List Nat) (f : Nat → Nat) (B : Nat) (h : ∀ j ∈ l, f j ≤ B) : (l.map f).sum ≤ l.length * B := by
  induction l with
  | nil => simp
  | cons a l ih =>
    rw [List.map_cons, List.sum_cons, List.length_cons, Nat.succ_mul]
    have := h a (by simp)
    have := ih (fun j hj => h j (by simp [hj]))
    omega
theorem svS_bd (k m : Nat) : svS k m ≤ 1 + (k + 1) * 200 := by
  unfold svS
  have h1 := sum_bd (List.range (k + 1)) (fun j => if 1 ≤ j ∧ j < m ∧ m % j = 0 then oT j else 0) 200 (fun j _ => by split; (· exact oT_bd j); omega)
  rw [List.length_range] at h1
  split <;> omega
theorem svS_self {m : Nat} (h1 : 1 ≤ m) (h : m < 122) {k : Nat} (hk : m ≤ k + 1) : svS k m = oT m := by
  have hz : ∀ d : Nat, svS (m - 1 + d) m = svS (m - 1) m := by
    intro d
    induction d with
    | zero => rfl
    | succ d ih => rw [← Nat.add_assoc, svS_succ, ih, if_neg (by omega)]; omega
  rw [show k = m - 1 + (k - (m - 1)) by omega, hz]
  rcases oT_rec ⟨m, h⟩ with h2 | h2
  · obtain rfl : m = 1 := by simp at h2; omega
    rfl
  · unfold svS
    rw [h2, Nat.sub_add_cancel h1]
    have hne : m ≠ 1 := by
      intro e
      subst e
      simp [oT, ordT] at h2
    rw [if_neg hne, Nat.zero_add]
    congr 1
    refine List.map_congr_left fun j hj => ?_
    have := List.mem_range.1 hj
    by_cases hc : 1 ≤ j ∧ m % j = 0
    · rw [if_pos hc, if_pos ⟨hc.1, this, hc.2⟩]
    · rw [if_neg hc, if_neg (fun h => hc ⟨h.1, h.2.2⟩)]
def rowN (n : Nat) (f : Nat → Nat) : List Int := (List.range (n + 1)).map fun m => (f m : Int)
theorem rowN_getD {n : Nat} {f : Nat → Nat} {m : Nat} (h : m ≤ n) : (rowN n f).getD m 0 = f m := by
  rw [List.getD_eq_getElem?_getD]
  simp [rowN, show m < n + 1 by omega]
theorem rowN_set {n : Nat} {f g : Nat → Nat} {m : Nat} {v : Int} (h : ∀ s, s ≤ n → (g s : Int) = if s = m then v else f s) : (rowN n f).set m v = rowN n g := by
  refine List.ext_getElem (by simp [rowN]) fun i h1 h2 => ?_
  rw [List.getElem_set]
  have hi : i ≤ n := by simp [rowN] at h2; omega
  simp only [rowN, List.getElem_map, List.getElem_range]
  rw [h i hi]
  by_cases e : m = i
  · rw [if_pos e, if_pos e.symm]
  · rw [if_neg e, if_neg (fun h => e h.symm)]
theorem rowN_congr {n : Nat} {f g : Nat → Nat} (h : ∀ m, m ≤ n → f m = g m) : rowN n f = rowN n g := List.map_congr_left fun m hm => by rw [h m (by have := List.mem_range.1 hm; omega)]
theorem svIn_row {n k : Nat} (hk : 1 ≤ k) (hn : n ≤ 121) {f : Nat → Nat} (hf : ∀ m, f m ≤ 1000000) : ∀ j : Nat, (j + 1) * k ≤ n → svIn k j (rowN n f) = rowN n fun m => f m + if m % k = 0 ∧ 2 * k ≤ m ∧ m ≤ (j + 1) * k then f k else 0
  | 0, _ => by
    show rowN n f = _
    refine rowN_congr fun m _ => ?_
    rw [if_neg (by omega)]; rfl
  | j + 1, h => by
    have e1 : (j + 1 + 1) * k = (j + 1) * k + k := by rw [Nat.succ_mul]
    have e3 : k ≤ (j + 1) * k := Nat.le_mul_of_pos_left k (by omega)
    unfold svIn sv1
    rw [svIn_row hk hn hf j (by omega)]
    rw [show j + 2 = j + 1 + 1 by rfl, e1, rowN_getD (by omega), rowN_getD (by omega), if_neg (by omega), if_neg (by omega)]
    have b1 := hf ((j + 1) * k + k)
    have b2 := hf k
    rw [wrap_ok (by omega)]
    refine rowN_set fun s hs => ?_
    by_cases he : s = (j + 1) * k + k
    · rw [if_pos he, if_pos (by refine ⟨?_, by omega, by omega⟩; rw [he, ← e1, Nat.mul_mod_left])]
      subst he; omega
    · rw [if_neg he]
      congr 2
      by_cases hc : s % k = 0 ∧ 2 * k ≤ s ∧ s ≤ (j + 1) * k
      · rw [if_pos hc, if_pos ⟨hc.1, hc.2.1, by omega⟩]
      · rw [if_neg hc, if_neg]
        rintro ⟨c1, c2, c3⟩
        refine hc ⟨c1, c2, ?_⟩
        obtain ⟨q, rfl⟩ := Nat.dvd_of_mod_eq_zero c1
        have c4 : k * q ≤ k * (j + 1 + 1) := by rw [Nat.mul_comm k (j + 1 + 1), e1]; exact c3
        have hq : q ≤ j + 1 + 1 := Nat.le_of_mul_le_mul_left c4 (by omega)
        have hq2 : q ≠ j + 1 + 1 := by
          intro e; subst e; exact he (by rw [Nat.mul_comm, e1])
        rw [Nat.mul_comm (j + 1) k]
        exact Nat.mul_le_mul_left k (by omega)
theorem svOut_row {n : Nat} (hn : n ≤ 121) (h1 : 1 ≤ n) : ∀ k : Nat, k ≤ n → svOut n k = rowN n (svS k)
  | 0, _ => by
    show (List.replicate (n + 1) (0 : Int)).set 1 1 = _
    rw [show List.replicate (n + 1) (0 : Int) = rowN n (fun _ => 0) by simp [rowN, List.map_const']]
    refine rowN_set fun s _ => ?_
    unfold svS
    by_cases h : s = 1
    · simp [h]
    · simp [h]
  | k + 1, hk => by
    unfold svOut
    rw [svOut_row hn h1 k (by omega)]
    have hq : 1 ≤ n / (k + 1) := (Nat.le_div_iff_mul_le (by omega)).2 (by omega)
    have hle : (n / (k + 1) - 1 + 1) * (k + 1) ≤ n := by rw [Nat.sub_add_cancel hq]; exact Nat.div_mul_le_self n (k + 1)
    rw [svIn_row (by omega) hn (fun m => by have := svS_bd k m; omega) _ hle]
    refine rowN_congr fun m hm => ?_
    show svS k m + _ = svS (k + 1) m
    rw [svS_succ, svS_self (m := k + 1) (by omega) (by omega) (by omega)]
    congr 1
    by_cases hc : k + 1 < m ∧ m % (k + 1) = 0
    · rw [if_pos hc, if_pos]
      obtain ⟨q, hq2⟩ := Nat.dvd_of_mod_eq_zero hc.2
      have h2 : 2 ≤ q := by
        rcases Nat.lt_or_ge q 2 with h | h
        · have : q = 0 ∨ q = 1 := by omega
          rcases this with rfl | rfl <;> omega
        · exact h
      refine ⟨hc.2, ?_, ?_⟩
      · rw [hq2, Nat.mul_comm]; exact Nat.mul_le_mul_left _ h2
      · rw [Nat.sub_add_cancel hq, hq2, Nat.mul_comm]
        exact Nat.mul_le_mul_right _ ((Nat.le_div_iff_mul_le (by omega)).2 (by rw [Nat.mul_comm, ← hq2]; exact hm))
    · rw [if_neg hc, if_neg]
      rintro ⟨c1, c2, -⟩
      exact hc ⟨by omega, c1⟩
theorem countN_eq {n : Nat} (h1 : 1 ≤ n) (hn : n ≤ 121) : countN n = oT n := by
  unfold countN
  rw [svOut_row hn h1 n (Nat.le_refl _), rowN_getD (Nat.le_refl _), svS_self h1 (by omega) (by omega)]
theorem prK_inj {l l' : List (List Kd)} (h : prK l = prK l') : l = l' := by
  have hi : Function.Injective (fun k : Kd => (k.wt, k.many)) := fun x y e => by injection e with e1 e2; exact Kd.eq_of e1 e2
  unfold prK at h
  exact (List.map_inj_right (fun a b hab => (List.map_inj_right (fun x y e => hi e)).1 hab)).1 h
theorem all_go {p a : Int} (h : ofE p a 60 = 0) : allSets p a = goF p a.toNat [] 1 a ∧ ((allSets p a).length : Int) = countV p a := by
  obtain ⟨hp, h1, h2⟩ := ofE_zero h
  obtain ⟨n, rfl⟩ : ∃ n : Nat, a = n := ⟨a.toNat, by omega⟩
  unfold countV
  rw [if_pos h, Int.toNat_natCast]
  rcases hp with rfl | rfl
  · rw [show (1 * (n : Int) + 1).toNat = n + 1 by omega, countN_eq (by omega) (by omega)]
    refine ⟨prK_inj ((go_one ⟨n, by omega⟩).resolve_left (by simp; omega)), ?_⟩
    rw [(all_one' ⟨n, by omega⟩).resolve_left (by simp; omega)]
  · rw [show (2 * (n : Int) + 1).toNat = 2 * n + 1 by omega, countN_eq (by omega) (by omega)]
    refine ⟨prK_inj ((go_two ⟨n, by omega⟩).resolve_left (by simp; omega)), ?_⟩
    rw [(all_two' ⟨n, by omega⟩).resolve_left (by simp; omega)]
end Go.Proofs.Ytolghmhodaphfaa
/- Walks: the reference's goOn, All, Count. -/
namespace Go.Proofs.Ytolghmhodaphfaa
open Go.RowKit
attribute [local go_sem] Oper.semAt_some
/-- append of what a slice value reads as, be it nil or not. -/
theorem wpList_append_src {P : Program} {w : World} {ops : Array Oper} {rest : List Oper} {o : Oper} {a : Act} {Q : Exit → Act → World → Prop} (hgd : o.guard = none) (s x : Operand) (t : TypeId)
    (ho : o.op = .call { callee := .builtin .append, args := #[s, x], argTypes := #[t, t] })
    (base : Nat) (e : TypeId) (i : TypeInfo) (z : Value) (size bytes : Nat) (ht : P.underlying t = some (.slice e)) (hi : P.info? e = some i) (hz : i.zero = some z)
    (hsize : i.size = size) (hby : i.bytes = bytes) (hzs : z.cells.size = size) (hsz : 0 < size)
    (v : Value) (n : Nat) (xs : List Value) (hs : a.eval s = v) (hown : w.ownsRow base e size v n xs)
    (A : Option Addr) (m c : Nat) (news : List Value) (hx : a.eval x = .slice A m c) (B : Nat) (hS : Sl w B size A m news) (hA : A = none → m = 0 ∧ c = 0) (h1 : ∀ u ∈ news, u.oneCell' = true)
    (h63 : n + m ≤ maxLen) (hbytes : (n + m) * bytes ≤ 140737488355328) (hbase : base ≤ w.heap.size)
    (h : ∀ v' w', w'.ownsRow base e size v' (n + m) (xs ++ news) → w.grownBy w' v.ownBlock → (v' = .slice none 0 0 ↔ v = .slice none 0 0 ∧ m = 0) → (v'.ownBlock = v.ownBlock ∨ v'.ownBlock = some w.heap.size) → wpList P ops Q rest (a.put o.dst v') w') :
    wpList P ops Q (o :: rest) a w := by
  cases A with
  | none =>
    obtain ⟨rfl, rfl⟩ := hA rfl
    have hn : news = [] := List.eq_nil_of_length_eq_zero (by rw [hS.1]; omega)
    subst hn
    refine wpList_append_own_none hgd s x t ho base e i size ht hi v n xs hs hown hx ?_
    exact h v w (by rw [List.append_nil, Nat.add_zero]; exact hown) ⟨rfl, rfl, rfl, Nat.le_refl _, fun _ _ _ => rfl⟩ (by simp) (.inl rfl)
  | some ad =>
    refine wpList_append_own_at w hgd s x t ho base e i z size bytes ht hi hz hsize hby hzs hsz v n xs hs hown ad m c news hx hS.1 (fun j u hj => ?_) h1 h63 hbytes hbase h
    have hm : 0 < m := by
      rcases Nat.eq_zero_or_pos m with h0 | h0
      · have := hS.1; rw [h0, Nat.zero_mul] at this
        rw [List.eq_nil_of_length_eq_zero this] at hj; simp at hj
      · exact h0
    obtain ⟨b, off, hA', -, hc⟩ := hS.2 hm
    cases hA'
    rw [add_at]
    exact hc j u hj
theorem own_src {w : World} {base : Nat} {e : TypeId} {size : Nat} {v : Value} {n : Nat} {xs : List Value} (h : w.ownsRow base e size v n xs) : ∃ A c, v = .slice A n c ∧ Sl w w.heap.size size A n xs ∧ (A = none → n = 0 ∧ c = 0) := by
  obtain ⟨A, c, rfl, hs⟩ := sl_of_owns h
  refine ⟨A, c, rfl, hs, fun hA => ?_⟩
  subst hA
  rcases h.2 with ⟨h1, h2⟩ | ⟨g, cap, cur, h1, -⟩
  · cases h1; exact ⟨rfl, rfl⟩
  · cases h1
theorem kds_grown {w w' : World} {row : Option Nat} {b m B : Nat} {l : List Kd} (h : KdS w B (some ⟨b, 0, none⟩) m l) (hg : w.grownBy w' row) (hne : row ≠ some b) (hb : b < w'.heap.size) : KdS w' w'.heap.size (some ⟨b, 0, none⟩) m l := by
  refine ⟨h.1, fun hm => ⟨b, 0, rfl, hb, fun j u hu => ?_⟩⟩
  obtain ⟨b', off, e, -, hc⟩ := h.2 hm
  cases e
  exact hg.cell (hc j u hu) (fun e => hne e.symm)
theorem one_cKs (l : List Kd) : ∀ u ∈ l.flatMap cK, u.oneCell' = true := by
  intro u hu
  obtain ⟨r, -, hr⟩ := List.mem_flatMap.1 hu
  exact one_cK r u hr
/-- The sets of a list lie in memory, in blocks from one on. -/
def SetsAt (w : World) (lo : Nat) (vs : List Value) (ls : List (List Kd)) (no : Option Nat) : Prop :=
  vs.length = ls.length ∧ ∀ (k : Nat) (l : List Kd), ls[k]? = some l → ∃ b m c : Nat, vs[k]? = some (.slice (some ⟨b, 0, none⟩) m c) ∧ lo ≤ b ∧ b < w.heap.size ∧ no ≠ some b ∧ KdS w w.heap.size (some ⟨b, 0, none⟩) m l
theorem SetsAt.one {w : World} {lo : Nat} {vs : List Value} {ls : List (List Kd)} {no : Option Nat} (h : SetsAt w lo vs ls no) : ∀ u ∈ vs, u.oneCell' = true := by
  intro u hu
  obtain ⟨k, hk, rfl⟩ := List.mem_iff_getElem.1 hu
  have hk2 : k < ls.length := by rw [← h.1]; exact hk
  obtain ⟨b, m, c, h1, -⟩ := h.2 k ls[k] (List.getElem?_eq_getElem hk2)
  rw [List.getElem?_eq_getElem hk] at h1
  have h2 : vs[k] = .slice (some ⟨b, 0, none⟩) m c := by simpa using h1
  rw [h2]; rfl
def GoPost (w : World) (lo : Nat) (ls : List (List Kd)) (e : Ending) (w' : World) : Prop :=
  ∃ v vs, e = .returned v ∧ w'.ownsRow w.heap.size 22 1 v ls.length vs ∧ SetsAt w' lo vs ls none ∧ Below w.heap.size w w'
theorem goF_zero (p : Int) : ∀ (d : Nat) (b : List Kd) (w : Int), goF p d b w 0 = [b]
  | 0, _, _ => rfl
  | _ + 1, _, _ => rfl
set_option maxHeartbeats 800000 in
theorem goOn_zero (p : Int) (d : Nat) (nx : Int) (ks : List Kd) (b n c lo : Nat) (w : World) (hk : KdS w w.heap.size (some ⟨b, 0, none⟩) n ks) (h1 : lo ≤ b) (h2 : b < w.heap.size) :
    Calls Try.prog 89 #[.int .i64 p, .slice (some ⟨b, 0, none⟩) n c, .int .i64 nx, .int .i64 0] w (GoPost w lo (goF p d ks nx 0)) := by
  rw [goF_zero]
  have Hk := hid hk
  clear hk
  go_enter Try.func89, Try.ntmps89
  go_wp2
  refine bodyPost_ret (v := .slice (some ⟨w.heap.size, 0, none⟩) 1 1) (by first | (simp [results, Try.results89, go_sem]; done) | (simp [results, Try.results89, go_sem, *]; done) | (simp [results, Try.results89, go_sem, World.cell?_setCell_same', *]; done) | (simp [results, Try.results89, go_sem]; first | exact ⟨rfl, rfl⟩ | rfl)) rfl ⟨_, [.slice (some ⟨b, 0, none⟩) n c], rfl, own_full w (Nat.le_refl _) (by unfold maxLen; omega) rfl rfl, ⟨rfl, fun k l hl => ?_⟩, (Below.refl _ _).alloc (Nat.le_refl _) _⟩
  cases k with
  | succ k => simp at hl
  | zero =>
    obtain rfl : ks = l := by simpa using hl
    exact ⟨b, n, c, rfl, h1, by simp; omega, by simp, (Hk.out.alloc (Nat.le_refl _) _).more (by simp)⟩
set_option maxRecDepth 100000 in
set_option maxHeartbeats 2000000 in
theorem goOn_any (p : Int) (hp : p = 1 ∨ p = 2) : ∀ (d : Nat) (nx l : Int) (ks : List Kd) (A : Option Addr) (n c lo : Nat) (w : World), l.toNat ≤ d → 0 ≤ l → 1 ≤ nx → nx + p * l ≤ 121 → (n : Int) + l ≤ 100 → KdS w w.heap.size A n ks → (A = none → n = 0 ∧ c = 0) → lo ≤ w.heap.size → (l = 0 → ∃ b, A = some ⟨b, 0, none⟩ ∧ lo ≤ b ∧ b < w.heap.size) →
    Calls Try.prog 89 #[.int .i64 p, .slice A n c, .int .i64 nx, .int .i64 l] w (GoPost w lo (goF p d ks nx l)) := by
  intro d
  induction d with
  | zero =>
    intro nx l ks A n c lo w hd hl hnx hb hn hk hA hlo h0
    obtain rfl : l = 0 := by omega
    obtain ⟨b, rfl, h1, h2⟩ := h0 rfl
    exact goOn_zero p 0 nx ks b n c lo w hk h1 h2
  | succ d ih =>
    intro nx l ks A n c lo w hd hl hnx hb hn hk hA hlo h0
    by_cases hl0 : l = 0
    · subst hl0
      obtain ⟨b, rfl, h1, h2⟩ := h0 rfl
      exact goOn_zero p (d + 1) nx ks b n c lo w hk h1 h2
    · have hq : 0 ≤ l / nx := Int.ediv_nonneg hl (by omega)
      rw [goTo_all hl0]
      obtain ⟨i0, hi0, hi1, hi2, hi3⟩ := info_parts' info61
      have I0 := hid hi0; have I1 := hid hi1; have I2 := hid hi2; have I3 := hid hi3
      obtain ⟨j0, hj0, hj1, hj2, hj3⟩ := info_parts' info22
      have J0 := hid hj0; have J1 := hid hj1; have J2 := hid hj2; have J3 := hid hj3
      clear hi0 hi1 hi2 hi3 hj0 hj1 hj2 hj3
      obtain ⟨N, hN⟩ : ∃ N : Nat, l / nx = N := ⟨(l / nx).toNat, by omega⟩
      have hmul := Int.mul_ediv_add_emod l nx
      have hmod := Int.emod_nonneg l (b := nx) (by omega)
      have hmlt := Int.emod_lt_of_pos l (b := nx) (by omega)
      rw [hN] at hmul ⊢
      rw [Int.toNat_natCast]
      have HP := hid hp
      have Hk := hid hk
      have HA := hid hA
      have d0 : (l == 0) = false := by simpa using hl0
      clear hk hA h0 hp
      go_enter Try.func89, Try.ntmps89
      go_wp2
      go_loopw [9, 10] (fun v x wr => ∃ (k : Nat) (vs : List Value), k ≤ N ∧ x = .int .i64 ((k : Int) + 1) ∧ Below w.heap.size w wr ∧ Hid (wr.ownsRow w.heap.size 22 1 v (goTo p d ks nx l k).length vs) ∧ Hid (SetsAt wr lo vs (goTo p d ks nx l k) v.ownBlock)) (fun _ x _ => N + 1 - (intOf x).toNat)
      case atStart => exact ⟨0, [], by omega, rfl, Below.refl _ _, hid (World.ownsRow_nil _ _ _ _), hid ⟨rfl, fun k l h => by simp [goTo] at h⟩⟩
      case round =>
        obtain ⟨k, vs, hk2, rfl, hbw, hown, hsets⟩ := hrel
        have hszw := hbw.size
        obtain ⟨m, hm0⟩ : ∃ m : Int, (k : Int) + 1 = m := ⟨_, rfl⟩
        have hkb : (k : Int) * nx ≤ N * nx := Int.mul_le_mul_of_nonneg_right (by omega) (by omega)
        have hN1 : (N : Int) * nx ≤ l := by rw [Int.mul_comm]; omega
        have hmn : m * nx = k * nx + nx := by rw [← hm0, Int.add_mul, Int.one_mul]
        have hpl : 0 ≤ p * l := Int.mul_nonneg (by rcases HP.out with rfl | rfl <;> omega) hl
        have hl121 : l ≤ 121 := by rcases HP.out with rfl | rfl <;> omega
        obtain ⟨mn, hmn2⟩ : ∃ mn, m * nx = mn := ⟨_, rfl⟩
        have hmn3 : 0 ≤ mn ∧ mn ≤ 300 := by
          have : 0 ≤ (k : Int) * nx := Int.mul_nonneg (by omega) (by omega)
          omega
        have z1 : IntKind.i64.wrap (m * nx) = mn := by rw [hmn2]; exact wrap_ok (by omega)
        have Hm := hid hm0
        by_cases hlt : k < N
        · have hmN : m * nx ≤ N * nx := Int.mul_le_mul_of_nonneg_right (by omega) (by omega)
          have hle : mn ≤ l := by omega
          obtain ⟨pm, hpm⟩ : ∃ pm, p * m = pm := ⟨_, rfl⟩
          have hpm1 : 0 ≤ pm ∧ pm ≤ 300 := by
            have h1 : m * 1 ≤ m * nx := Int.mul_le_mul_of_nonneg_left (by omega) (by omega)
            rcases HP.out with rfl | rfl <;> omega
          obtain ⟨nx2, hnx2⟩ : ∃ nx2, nx * (pm + 1) = nx2 := ⟨_, rfl⟩
          have hnx3 : nx2 + p * (l - mn) = nx + p * l := by
            rw [← hnx2, ← hpm, ← hmn2, Int.mul_add, Int.mul_one, Int.mul_sub, Int.mul_left_comm p m nx, Int.mul_left_comm nx p m, Int.mul_comm nx m]
            have := Int.mul_left_comm m p nx
            omega
          have hpl2 : 0 ≤ p * (l - mn) := Int.mul_nonneg (by rcases HP.out with rfl | rfl <;> omega) (by omega)
          have hnx4 : nx ≤ nx2 := by
            rw [← hnx2]
            have h1 : nx * 1 ≤ nx * (pm + 1) := Int.mul_le_mul_of_nonneg_left (by omega) (by omega)
            omega
          have hnx5 : nx2 + p * (l - mn) ≤ 121 := by omega
          have z2 : IntKind.i64.wrap (p * m) = pm := by rw [hpm]; exact wrap_ok (by omega)
          have z3 : IntKind.i64.wrap (pm + 1) = pm + 1 := wrap_ok (by omega)
          have z4 : IntKind.i64.wrap (nx * (pm + 1)) = nx2 := by rw [hnx2]; exact wrap_ok (by omega)
          have hmb : m ≤ 300 := by
            have h1 : m * 1 ≤ m * nx := Int.mul_le_mul_of_nonneg_left (by omega) (by omega)
            omega
          have z6 : IntKind.i64.wrap (m + 1) = m + 1 := wrap_ok (by omega)
          have z5 : IntKind.i64.wrap (l - mn) = l - mn := wrap_ok (by omega)
          have hmn4 : 1 ≤ mn := by
            have h1 : m * 1 ≤ m * nx := Int.mul_le_mul_of_nonneg_left (by omega) (by omega)
            omega
          have hgoE : Hid (goTo p d ks nx l (k + 1) = goTo p d ks nx l k ++ goF p d (ks ++ [⟨nx, m⟩]) nx2 (l - mn)) := hid (by rw [goTo_succ, hm0, hmn2, hpm, hnx2])
          rw [hm0]
          have hksl := hid (Hk.out.below hbw (Nat.le_refl _) : KdS wr w.heap.size A n ks)
          obtain ⟨GL, hGL⟩ : ∃ GL, goF p d (ks ++ [⟨nx, m⟩]) nx2 (l - mn) = GL := ⟨_, rfl⟩
          rw [hGL] at hgoE
          have HGL := hid hGL
          have hGLb : GL.length ≤ 14641 := by rw [← hGL]; exact (go_few HP.out d _ (by omega) (by omega) hnx5).1
          have hTLb : (goTo p d ks nx l k).length ≤ 14641 := (go_few HP.out d ks hnx hl hb).2 k (by omega)
          clear hm0 hmul hmod hmlt hmn hkb hN1 hmN hmn2 hpm hnx2 hnx3 hGL hN
          go_wp2_with (first
            | (have hq5 := hb5; clear hq5; at_builtin; refine wpList_append_src rfl _ _ 42 rfl w.heap.size 22 j0 _ 1 24 under42 J0.out J1.out J2.out J3.out rfl (by decide) _ _ _ rfl Hown5.out A5 GL.length c5 vs5 rfl _ hs5.out hA5 hso5.out.one (by unfold maxLen; omega) (by omega) (by omega) ?_; intro v6 w6 ho6 hg6 _ hat6)
            | (have hq4 := ho4; clear hq4; go_at_call 89; refine (ih nx2 (l - mn) (ks ++ [⟨nx, m⟩]) (some ⟨g4, 0, none⟩) (n + 1) c4 wr.heap.size w4 (by omega) (by omega) (by omega) hnx5 (by omega) hk4.out (fun h => by cases h) hz4 (fun _ => ⟨g4, rfl, hg4l, hg4r⟩)).mono ?_; rw [HGL.out]; rintro e w5 ⟨v5, vs5, rfl, ho5, hso5', hb5⟩; have hso5 := hid hso5'; obtain ⟨A5, c5, hv5, hs5', hA5⟩ := own_src ho5; subst hv5; have hs5 := hid hs5'; have hz5 := hb5.size; have Hown5 := hid (owns_below hown.out (hb34.trans (hb5.mono hz4))); clear hso5' hs5' ho5)
            | (have hq3 := ho3; clear hq3; at_builtin; refine wpList_append_own_at _ rfl _ _ 22 rfl wr.heap.size 61 i0 _ 2 16 under22 I0.out I1.out I2.out I3.out rfl (by decide) _ (0 + n) _ rfl (ho3.alloc (.cells #[.int .i64 nx, .int .i64 m] 61)) ⟨w3.heap.size, 0, none⟩ 1 1 (cK ⟨nx, m⟩) rfl rfl (fun j u hj => World.news_of_block (Blk.new' rfl) j u hj) (one_cK _) (by unfold maxLen; omega) (by omega) (by simp; omega) ?_; intro v4 w4 ho4 hg4 hn4 hat4; obtain ⟨g4, c4, hv4, hg4l, hg4r⟩ := World.ownsRow.form ho4 (Nat.succ_pos _); subst hv4; have hb34 : Below wr.heap.size wr w4 := (hb3.alloc hz3 _).grown hg4 (by simp; omega) (fun r hr => (World.ownsRow.lt ho3 r hr).1); have hz4 := hb34.size; have hk4 := hid (show KdS w4 w4.heap.size (some ⟨g4, 0, none⟩) (n + 1) (ks ++ [⟨nx, m⟩]) by have := Sl.of_own ho4; rw [Nat.zero_add] at this; unfold KdS; rw [List.flatMap_append]; exact this))
            | (at_builtin; refine wpList_append_src rfl _ _ 22 rfl wr.heap.size 61 i0 _ 2 16 under22 I0.out I1.out I2.out I3.out rfl (by decide) _ 0 [] rfl (own_full (n := 0) wr (cur := #[]) (Nat.le_refl _) (by unfold maxLen; omega) rfl rfl) A n c (ks.flatMap cK) rfl w.heap.size (Sl.alloc hksl.out hszw _) HA.out (one_cKs _) (by unfold maxLen; omega) (by omega) (by simp) ?_; intro v3 w3 ho3 hg3 _ hat3; rw [List.nil_append] at ho3; have hb3 : Below wr.heap.size wr w3 := ((Below.refl _ _).alloc (Nat.le_refl _) _).grown hg3 (by simp) (fun r hr => by cases hr; exact Nat.le_refl _); have hz3 := hb3.size))
          have hbr : Below wr.heap.size wr w5 := hb34.trans (hb5.mono hz4)
          have hb6 : Below w.heap.size w w6 := (hbw.trans (hbr.mono hszw)).grown hg6 (by have := hbr.size; omega) (fun r hr => (World.ownsRow.lt hown.out r hr).1)
          have hSA : Hid (SetsAt w6 lo (vs ++ vs5) (goTo p d ks nx l (k + 1)) v6.ownBlock) := hid (by
            rw [hgoE.out]
            refine ⟨by rw [List.length_append, List.length_append, hsets.out.1, hso5.out.1], fun j x hx => ?_⟩
            have h65 := hg6.size
            rcases Nat.lt_or_ge j (goTo p d ks nx l k).length with hj | hj
            · rw [List.getElem?_append_left hj] at hx
              obtain ⟨b, m', c', s1, s2, s3, s4, s5⟩ := hsets.out.2 j x hx
              have s35 : b < w5.heap.size := by have := hbr.size; omega
              refine ⟨b, m', c', ?_, s2, by omega, ?_, kds_grown (s5.below hbr hbr.size) hg6 s4 (by omega)⟩
              · rw [List.getElem?_append_left (by rw [hsets.out.1]; exact hj)]; exact s1
              · rcases hat6 with h | h
                · rw [h]; exact s4
                · rw [h]; intro e; injection e with e; omega
            · rw [List.getElem?_append_right hj] at hx
              obtain ⟨b, m', c', s1, s2, s3, -, s5⟩ := hso5.out.2 _ x hx
              have s6 : u9.ownBlock ≠ some b := fun e => by have := (World.ownsRow.lt hown.out b e).2; omega
              refine ⟨b, m', c', ?_, by omega, by omega, ?_, kds_grown s5 hg6 s6 (by omega)⟩
              · rw [List.getElem?_append_right (by rw [hsets.out.1]; exact hj), hsets.out.1]; exact s1
              · rcases hat6 with h | h
                · rw [h]; exact s6
                · rw [h]; intro e; injection e with e; omega)
          have hOW : Hid (w6.ownsRow w.heap.size 22 1 v6 (goTo p d ks nx l (k + 1)).length (vs ++ vs5)) := hid (by rw [hgoE.out, List.length_append]; exact ho6)
          have hm1 := Hm.out
          (first | exact ⟨⟨k + 1, vs ++ vs5, by omega, by congr 1; omega, hb6, hOW, hSA⟩, (by first | (simp [intOf]; omega) | (simp [intOf]; done))⟩ | (refine ⟨?_, ?_⟩; (focus ((repeat apply Exists.intro); refine ⟨?_, rfl⟩; exact ⟨k + 1, vs ++ vs5, by omega, by congr 1; omega, hb6, hOW, hSA⟩)); (first | (simp [intOf]; omega) | (simp [intOf]; done))))
        · obtain rfl : k = N := by omega
          have hle : ¬ mn ≤ l := by
            have h1 := hmul
            rw [Int.mul_comm] at h1
            omega
          rw [hm0]
          clear hm0
          go_wp2
          refine bodyPost_ret (v := u9) (by first | (simp [results, Try.results89, go_sem]; done) | (simp [results, Try.results89, go_sem, *]; done) | (simp [results, Try.results89, go_sem, World.cell?_setCell_same', *]; done) | (simp [results, Try.results89, go_sem]; first | exact ⟨rfl, rfl⟩ | rfl)) rfl ⟨u9, vs, rfl, hown.out, ⟨hsets.out.1, fun j x hx => ?_⟩, hbw⟩
          obtain ⟨b, m', c', h1, h2, h3, -, h4⟩ := hsets.out.2 j x hx
          exact ⟨b, m', c', h1, h2, h3, by simp, h4⟩
end Go.Proofs.Ytolghmhodaphfaa
/- Walks: the reference's All, Count. -/
namespace Go.Proofs.Ytolghmhodaphfaa
open Go.RowKit
attribute [local go_sem] Oper.semAt_some
set_option maxHeartbeats 800000 in
theorem refAll_any (p a : Int) (w : World) : Calls Try.prog 44 #[.int .i64 p, .int .i64 a] w fun e w' => ∃ A c, e = .returned (.tuple #[.slice A (allSets p a).length c, .int .i64 (ofE p a 60)]) ∧ LsS w' w'.heap.size A (allSets p a).length (allSets p a) ∧ Below w.heap.size w w' := by
  cases he : (ofE p a 60 != 0)
  · have he0 : ofE p a 60 = 0 := by simpa using he
    obtain ⟨hp, ha1, ha2⟩ := ofE_zero he0
    obtain ⟨hg, -⟩ := all_go he0
    have hE := hid he0
    have HP := hid hp
    obtain ⟨LS, hLS⟩ : ∃ LS, allSets p a = LS := ⟨_, rfl⟩
    rw [hLS] at hg ⊢
    have HG := hid hg
    have hpb : 1 + p * a ≤ 121 := by rcases hp with rfl | rfl <;> omega
    clear he he0 hp hg hLS
    go_enter Try.func44, Try.ntmps44
    go_wp2_with (first | (go_at_call 88; refine (summed_any p a _).mono ?_; rw [hE.out]; rintro e w1 ⟨rfl, hb1⟩; have hz1 := hb1.size) | (go_at_call 89; refine (goOn_any p HP.out a.toNat 1 a [] none 0 0 0 _ (Nat.le_refl _) (by omega) (by omega) hpb (by omega) Sl.none_ (fun _ => ⟨rfl, rfl⟩) (Nat.zero_le _) (fun h => by omega)).mono ?_; rw [← HG.out]; rintro e w2 ⟨v, vs, rfl, ho, hs, hb2⟩; obtain ⟨A, c, hv, hsl⟩ := sl_of_owns ho; subst hv; have Hs := hid hs; have Hsl := hid hsl; clear hs hsl ho))
    refine bodyPost_ret (v := .tuple #[.slice A LS.length c, .int .i64 0]) (by first | (simp [results, Try.results44, go_sem]; done) | (simp [results, Try.results44, go_sem, *]; done) | (simp [results, Try.results44, go_sem, World.cell?_setCell_same', *]; done) | (simp [results, Try.results44, go_sem]; first | exact ⟨rfl, rfl⟩ | rfl)) rfl ⟨A, c, by rw [hE.out], ⟨rfl, vs, Hsl.out, fun k l hl => ?_⟩, hb1.trans (hb2.mono hz1)⟩
    obtain ⟨b, m, c', h1, -, -, -, h5⟩ := Hs.out.2 k l hl
    exact ⟨_, m, c', h1, h5⟩
  · have he0 : ofE p a 60 ≠ 0 := by simpa using he
    have hv : Hid (allSets p a = []) := hid (if_neg he0)
    go_enter Try.func44, Try.ntmps44
    go_wp2_with (first | (have hq := hb1; clear hq; go_at_call 88; refine (summed_any p a _).mono ?_; rintro e w2 ⟨rfl, hb2⟩) | (go_at_call 88; refine (summed_any p a _).mono ?_; rintro e w1 ⟨rfl, hb1⟩; have hz1 := hb1.size))
    refine bodyPost_ret (v := .tuple #[.slice none 0 0, .int .i64 (ofE p a 60)]) (by first | (simp [results, Try.results44, go_sem]; done) | (simp [results, Try.results44, go_sem, *]; done) | (simp [results, Try.results44, go_sem, World.cell?_setCell_same', *]; done) | (simp [results, Try.results44, go_sem]; first | exact ⟨rfl, rfl⟩ | rfl)) rfl ⟨none, 0, by rw [hv.out]; rfl, by rw [hv.out]; exact ⟨rfl, [], Sl.none_, fun k l h => by simp at h⟩, hb1.trans (hb2.mono hz1)⟩
theorem countV_len (p a : Int) : ((allSets p a).length : Int) = countV p a := by
  by_cases he0 : ofE p a 60 = 0
  · exact (all_go he0).2
  · unfold allSets countV
    rw [if_neg he0, if_neg he0]; rfl
theorem refCount_any (p a : Int) (w : World) : Calls Try.prog 42 #[.int .i64 p, .int .i64 a] w fun e w' => e = .returned (.tuple #[.int .i64 (countV p a), .int .i64 (ofE p a 60)]) ∧ Below w.heap.size w w' := by
  have hv := hid (countV_len p a)
  go_enter Try.func42, Try.ntmps42
  go_wp2_with (first | (go_at_call 44; refine (refAll_any p a _).mono ?_; rintro e w1 ⟨A, c, rfl, hl, hb1⟩; clear hl))
  refine bodyPost_ret (v := .tuple #[.int .i64 (allSets p a).length, .int .i64 (ofE p a 60)]) (by first | (simp [results, Try.results42, go_sem]; done) | (simp [results, Try.results42, go_sem, *]; done) | (simp [results, Try.results42, go_sem, World.cell?_setCell_same', *]; done) | (simp [results, Try.results42, go_sem]; first | exact ⟨rfl, rfl⟩ | rfl)) rfl ⟨by rw [hv.out], hb1⟩
end Go.Proofs.Ytolghmhodaphfaa
