/- Texts of the proof, laid together by program. -/
import Derived.Test.YtolghmhodaphfaaMc
import Derived.Test.YtolghmhodaphfaaMh
import Derived.Test.YtolghmhodaphfaaMf
import Derived.ProofKit
import Derived.OpenShut
import Derived.Carry
import Derived.Deep.Slices
import Derived.Test.YtolghmhodaphfaaMl
import Derived.Test.YtolghmhodaphfaaMn
/- Walks: the law's ways, few. -/
namespace Go.Proofs.Ytolghmhodaphfaa
open Go.RowKit
attribute [local go_sem] Oper.semAt_some
theorem lay_len {p : Int} : ∀ {ks : List Kd} {l : List Int}, LayOk p ks l → l.length = ks.length
  | [], [], _ => rfl
  | _ :: ks, _ :: l, h => by rw [List.length_cons, List.length_cons, lay_len h.2.2]
  | [], _ :: _, h => h.elim
  | _ :: _, [], h => h.elim
theorem lay_B {p : Int} : ∀ {ks : List Kd} {l : List Int}, l.length = ks.length → (LayOk p ks l ↔ layB p ks l = true)
  | [], [], _ => ⟨fun _ => rfl, fun _ => trivial⟩
  | k :: ks, n :: l, h => by
    have ih := lay_B (p := p) (ks := ks) (l := l) (by simpa using h)
    show (_ ∧ _ ∧ LayOk p ks l) ↔ (inK p (k, n) && layB p ks l) = true
    rw [Bool.and_eq_true, ih]
    unfold inK
    rw [inR_t]
    simp only
    exact ⟨fun h => ⟨⟨h.1, h.2.1⟩, h.2.2⟩, fun h => ⟨h.1.1, h.1.2, h.2⟩⟩
  | [], _ :: _, h => by simp at h
  | _ :: _, [], h => by simp at h
theorem layR_good {ks : List Kd} {p : Int} {l : List Int} (h : openE ks p = 0) (hl : LayOk p ks l) : layR ks p l = .tuple #[.int .i64 (weighs ks l), .int .i64 (uses l), .int .i64 0] := by
  have h1 := lay_len hl
  unfold layR
  rw [if_pos (layErr_ok h h1 ((lay_B h1).1 hl))]
theorem ways_bd {p : Int} {ks : List Kd} (h0 : checkSet ks = 0) (hp : p = 1 ∨ p = 2) (a : Int) : 0 ≤ ways p ks a ∧ ways p ks a ≤ 1000000000000 := by
  refine ⟨ways_nonneg p ks a, ?_⟩
  have := ways_valid h0 hp ks.length a
  rwa [List.take_length] at this
theorem asked_of {p a : Int} {ks : List Kd} (h0 : checkSet ks = 0) (hp : p = 1 ∨ p = 2) (ha : 0 ≤ a ∧ a ≤ 300) : askedE ks p a = 0 := askedE_ok (openE_ok h0 (by rcases hp with rfl | rfl <;> rfl)) (by rw [inR_t]; exact ha)
set_option maxHeartbeats 800000 in
theorem waysL_any (w : World) (A : Option Addr) (n c : Nat) (ks : List Kd) (p a : Int) (hk : KdS w w.heap.size A n ks) (h0 : checkSet ks = 0) (hp : p = 1 ∨ p = 2) (ha : 0 ≤ a ∧ a ≤ 300) :
    Calls Try.prog 53 #[.slice A n c, .int .i64 p, .int .i64 a] w fun e w' => e = .returned (.tuple #[.int .i64 (ways p ks a), .bool true]) ∧ Below w.heap.size w w' := by
  have hn : n ≤ 12 := by have := hk.len; have := checkSet_good h0; omega
  have hE := hid (asked_of h0 hp ha)
  have hv : Hid (waysV p ks a = ways p ks a) := hid (if_pos hE.out)
  obtain ⟨b1, b2⟩ := ways_bd h0 hp a
  obtain ⟨z, hz⟩ : ∃ z, ways p ks a = z := ⟨_, rfl⟩
  rw [hz] at hv b1 b2 ⊢
  have d1 : decide (0 ≤ z) = true := decide_eq_true b1
  have d2 : decide (z ≤ 1000000000000) = true := decide_eq_true b2
  clear hz h0 hp ha
  go_enter Try.func53, Try.ntmps53
  go_wp2_with (first | (go_at_call 31; refine (ways_any _ A n c ks p a hk hn).mono ?_; rw [hE.out, hv.out]; rintro e w1 ⟨rfl, hb1⟩; have hz1 := hb1.size))
  refine bodyPost_ret (v := .tuple #[.int .i64 z, .bool true]) (by first | (simp [results, Try.results53, go_sem]; done) | (simp [results, Try.results53, go_sem, *]; done) | (simp [results, Try.results53, go_sem, World.cell?_setCell_same', *]; done) | (simp [results, Try.results53, go_sem]; first | exact ⟨rfl, rfl⟩ | rfl)) rfl ⟨rfl, hb1⟩
/-- What 'few' says. -/
def fewR (p : Int) (ks : List Kd) (a : Int) : Value := match fewO p ks a with
  | some y => .tuple #[.int .i64 y, .bool true, .bool true]
  | none => .tuple #[.int .i64 0, .bool false, .bool true]
set_option maxRecDepth 10000 in
set_option maxHeartbeats 2000000 in
theorem fewL_any (w : World) (A : Option Addr) (n c : Nat) (ks : List Kd) (p a : Int) (hk : KdS w w.heap.size A n ks) (h0 : checkSet ks = 0) (hp : p = 1 ∨ p = 2) (ha : 0 ≤ a ∧ a ≤ 300) :
    Calls Try.prog 54 #[.slice A n c, .int .i64 p, .int .i64 a] w fun e w' => e = .returned (fewR p ks a) ∧ Below w.heap.size w w' := by
  have hn : n ≤ 12 := by have := hk.len; have := checkSet_good h0; omega
  have hA := asked_of h0 hp ha
  cases hf : fewO p ks a with
  | none =>
    have hv : Hid (layE p ks a = 24) := hid (by unfold layE; rw [if_neg (by omega), hf]; rfl)
    have hv2 : Hid (fewV p ks a = 0) := hid (if_neg (by rw [hv.out]; omega))
    have hv3 : Hid (layV p ks a = []) := hid (if_neg (by rw [hv.out]; omega))
    have hR : Hid (fewR p ks a = .tuple #[.int .i64 0, .bool false, .bool true]) := hid (by unfold fewR; rw [hf])
    clear hA h0 hp ha hf
    go_enter Try.func54, Try.ntmps54
    go_wp2_with (first | (go_at_call 33; refine (fewest_any _ A n c ks p a hk hn).mono ?_; rw [hv.out, hv2.out]; rintro e w1 ⟨rfl, hb1⟩; have hz1 := hb1.size) | (go_at_call 35; refine (lay_any _ A n c ks p a (hk.below hb1 hz1) hn).mono ?_; rw [hv.out, hv3.out]; rintro e w2 ⟨A', m, c', rfl, hin, hb2⟩; have hm0 := hin.len; have hm1 : m = 0 := hm0.symm; clear hm0; subst hm1))
    refine bodyPost_ret (v := .tuple #[.int .i64 0, .bool false, .bool true]) (by first | (simp [results, Try.results54, go_sem]; done) | (simp [results, Try.results54, go_sem, *]; done) | (simp [results, Try.results54, go_sem, World.cell?_setCell_same', *]; done) | (simp [results, Try.results54, go_sem]; first | exact ⟨rfl, rfl⟩ | rfl)) rfl ⟨by rw [hR.out], hb1.trans (hb2.mono hz1)⟩
  | some y =>
    have hv : Hid (layE p ks a = 0) := hid (by unfold layE; rw [if_neg (by omega), hf]; rfl)
    have hv2 : Hid (fewV p ks a = y) := hid (by unfold fewV; rw [if_pos hv.out, hf]; rfl)
    have hv3 : Hid (layV p ks a = layL p ks a) := hid (if_pos hv.out)
    have hR : Hid (fewR p ks a = .tuple #[.int .i64 y, .bool true, .bool true]) := hid (by unfold fewR; rw [hf])
    obtain ⟨k1, k2, k3, k4⟩ := layL_ok hf
    have hLR := hid (layR_good (askedE_zero hA).1 k1)
    rw [k2, k3] at hLR
    clear hA h0 hp ha hf k1 k2 k3 k4
    go_enter Try.func54, Try.ntmps54
    go_wp2_with (first | (go_at_call 33; refine (fewest_any _ A n c ks p a hk hn).mono ?_; rw [hv.out, hv2.out]; rintro e w1 ⟨rfl, hb1⟩; have hz1 := hb1.size) | (go_at_call 35; refine (lay_any _ A n c ks p a (hk.below hb1 hz1) hn).mono ?_; rw [hv.out, hv3.out]; rintro e w2 ⟨A', m, c', rfl, hin, hb2⟩; have Hin := hid hin; have hz2 := hb2.size; have hb12 := hb1.trans (hb2.mono hz1); clear hin) | (go_at_call 21; refine (refCheckLay_any _ A A' n c m c' ks (layL p ks a) p (hk.below hb12 hb12.size) Hin.out hn).mono ?_; rw [hLR.out]; rintro e w3 ⟨rfl, hb3⟩))
    refine bodyPost_ret (v := .tuple #[.int .i64 y, .bool true, .bool true]) (by first | (simp [results, Try.results54, go_sem]; done) | (simp [results, Try.results54, go_sem, *]; done) | (simp [results, Try.results54, go_sem, World.cell?_setCell_same', *]; done) | (simp [results, Try.results54, go_sem]; first | exact ⟨rfl, rfl⟩ | rfl)) rfl ⟨by rw [hR.out], hb12.trans (hb3.mono hb12.size)⟩
end Go.Proofs.Ytolghmhodaphfaa
/- Plain law: sums over amounts; all ways together are all factors multiplied. No program in sight. -/
namespace Go.Proofs.Ytolghmhodaphfaa
theorem sumR_shift {lo hi : Int} (c : Int) (f : Int → Int) : sumR lo hi f = sumR (lo - c) (hi - c) fun n => f (n + c) := by
  unfold sumR
  rw [show hi - c - (lo - c) + 1 = hi - lo + 1 by omega]
  congr 1
  refine List.map_congr_left fun j _ => ?_
  congr 1; omega
theorem sumR_split {lo hi : Int} (m : Int) (f : Int → Int) (h1 : lo ≤ m + 1) : ∀ d : Nat, hi = m + d → sumR lo hi f = sumR lo m f + sumR (m + 1) hi f
  | 0, h => by rw [sumR_none (lo := m + 1) (by omega), show hi = m by omega]; omega
  | d + 1, h => by
    obtain rfl : hi = (m + d) + 1 := by omega
    rw [sumR_succ (by omega), sumR_succ (by omega), sumR_split m f h1 d rfl]; omega
theorem sumR_first {lo hi : Int} {f : Int → Int} (h : lo ≤ hi) : sumR lo hi f = f lo + sumR (lo + 1) hi f := by
  rw [sumR_split (hi := hi) lo f (by omega) (hi - lo).toNat (by omega)]
  congr 1
  have := sumR_succ (lo := lo) (hi := lo - 1) (f := f) (by omega)
  rw [show lo - 1 + 1 = lo by omega, sumR_none (hi := lo - 1) (by omega)] at this
  omega
theorem sumR_zero {lo hi : Int} {f : Int → Int} (h : ∀ n, lo ≤ n → n ≤ hi → f n = 0) : sumR lo hi f = 0 := by
  rw [sumR_congr (g := fun _ => 0) h]
  exact sum_zero _
theorem sumR_wide {a b c d : Int} {f : Int → Int} (h1 : a ≤ c) (h2 : d ≤ b) (h3 : c ≤ d + 1) (h : ∀ n, (n < c ∨ d < n) → f n = 0) : sumR a b f = sumR c d f := by
  rw [sumR_split (hi := b) d f (by omega) (b - d).toNat (by omega), sumR_split (hi := d) (c - 1) f (by omega) (d - (c - 1)).toNat (by omega),
    sumR_zero (lo := a) (fun n _ _ => h n (by omega)), sumR_zero (lo := d + 1) (fun n _ _ => h n (by omega)), show c - 1 + 1 = c by omega]
  omega
theorem sumR_rev {lo : Int} (f : Int → Int) : ∀ (d : Nat) (hi : Int), hi = lo - 1 + d → sumR lo hi f = sumR (-hi) (-lo) fun n => f (-n)
  | 0, hi, h => by rw [sumR_none (by omega), sumR_none (by omega)]
  | d + 1, hi, h => by
    obtain rfl : hi = (lo - 1 + d) + 1 := by omega
    rw [sumR_succ (by omega), sumR_first (lo := -(lo - 1 + d + 1)) (by omega), sumR_rev f d _ rfl, Int.neg_neg, show -(lo - 1 + (d : Int) + 1) + 1 = -(lo - 1 + d) by omega]
    omega
theorem sumR_sym {m : Int} (h : 0 ≤ m) (f : Int → Int) : sumR (-m) m f = sumR (-m) m fun n => f (-n) := by
  rw [sumR_rev f (2 * m + 1).toNat m (by omega), Int.neg_neg]
theorem sumR_const {lo : Int} (c : Int) : ∀ (d : Nat) (hi : Int), hi = lo - 1 + d → sumR lo hi (fun _ => c) = (hi - lo + 1) * c
  | 0, hi, h => by rw [sumR_none (by omega), show hi - lo + 1 = 0 by omega]; omega
  | d + 1, hi, h => by
    obtain rfl : hi = (lo - 1 + d) + 1 := by omega
    rw [sumR_succ (by omega), sumR_const c d _ rfl, show lo - 1 + (d : Int) + 1 - lo + 1 = (lo - 1 + d - lo + 1) + 1 by omega, Int.add_mul (lo - 1 + d - lo + 1) 1, Int.one_mul]
theorem sumR_le {lo hi : Int} {f g : Int → Int} (h : ∀ n, lo ≤ n → n ≤ hi → f n ≤ g n) : sumR lo hi f ≤ sumR lo hi g := by
  unfold sumR
  have : ∀ l : List Nat, (∀ j ∈ l, f (lo + j) ≤ g (lo + j)) → (l.map fun j : Nat => f (lo + j)).sum ≤ (l.map fun j : Nat => g (lo + j)).sum := by
    intro l
    induction l with
    | nil => intro _; simp
    | cons x l ih =>
      intro hx
      have h1 := ih fun j hj => hx j (by simp [hj])
      have h2 := hx x (by simp)
      simp only [List.map_cons, List.sum_cons]; omega
  exact this _ fun j hj => by have := List.mem_range.1 hj; exact h _ (by omega) (by omega)
theorem sumR_term {lo hi : Int} {f : Int → Int} (h : ∀ n, lo ≤ n → n ≤ hi → 0 ≤ f n) {n : Int} (h1 : lo ≤ n) (h2 : n ≤ hi) : f n ≤ sumR lo hi f := by
  rw [sumR_split (hi := hi) n f (by omega) (hi - n).toNat (by omega)]
  have e := sumR_succ (lo := lo) (hi := n - 1) (f := f) (by omega)
  rw [show n - 1 + 1 = n by omega] at e
  have a1 := sumR_nonneg (lo := lo) (hi := n - 1) (f := f) (fun m h3 h4 => h m h3 (by omega))
  have a2 := sumR_nonneg (lo := n + 1) (hi := hi) (f := f) (fun m h3 h4 => h m (by omega) h4)
  omega
/-- The factor of a kind, all factors multiplied. -/
def fac (p : Int) (k : Kd) : Int := p * k.many + 1
def facP (p : Int) : List Kd → Int
  | [] => 1
  | k :: ks => fac p k * facP p ks
/-- Weights from 1 on, none or some of each. -/
def posK (k : Kd) : Prop := 1 ≤ k.wt ∧ 0 ≤ k.many
theorem posK_of {ks : List Kd} (h : ks.all okK = true) : ∀ k ∈ ks, posK k := fun k hk => by
  have := okK_t.1 (List.all_eq_true.1 h k hk)
  exact ⟨by omega, by omega⟩
theorem sum_posK : ∀ {ks : List Kd}, (∀ k ∈ ks, posK k) → 0 ≤ sumOf ks
  | [], _ => by simp [sumOf]
  | k :: ks, h => by
    have h1 := h k (by simp)
    have h2 := sum_posK fun x hx => h x (List.mem_cons_of_mem _ hx)
    have h3 : 0 ≤ k.wt * k.many := Int.mul_nonneg (by have := h1.1; omega) h1.2
    rw [(mem_sum ks).2]; omega
theorem least_mul {p : Int} (k : Kd) (x : Int) : leastK p k * x = -((p - 1) * (k.many * x)) := by
  unfold leastK
  rw [show (1 : Int) - p = -(p - 1) by omega, Int.neg_mul, Int.neg_mul, Int.mul_assoc]
theorem farP {p : Int} (hp : 1 ≤ p) : ∀ {ks : List Kd}, (∀ k ∈ ks, posK k) → ∀ a, (a < -((p - 1) * sumOf ks) ∨ sumOf ks < a) → ways p ks a = 0
  | [], _, a, h => by
    unfold ways
    rw [if_neg]
    simp only [sumOf, List.map_nil, List.sum_nil] at h
    omega
  | k :: ks, hk, a, h => by
    have h1 := hk k (by simp)
    refine sumR_zero fun n h2 h3 => farP hp (fun x hx => hk x (List.mem_cons_of_mem _ hx)) _ ?_
    rw [(mem_sum ks).2, Int.mul_add, Int.mul_comm k.wt] at h
    have a1 : n * k.wt ≤ k.many * k.wt := Int.mul_le_mul_of_nonneg_right h3 (by have := h1.1; omega)
    have a2 : leastK p k * k.wt ≤ n * k.wt := Int.mul_le_mul_of_nonneg_right h2 (by have := h1.1; omega)
    rw [least_mul] at a2
    omega
theorem ways_total {p : Int} (hp : 1 ≤ p) : ∀ {ks : List Kd}, (∀ k ∈ ks, posK k) → sumR (-((p - 1) * sumOf ks)) (sumOf ks) (ways p ks) = facP p ks
  | [], _ => by
    show sumR (-((p - 1) * 0)) 0 _ = 1
    rw [Int.mul_zero]; rfl
  | k :: ks, hk => by
    have h1 := hk k (by simp)
    have hk' : ∀ x ∈ ks, posK x := fun x hx => hk x (List.mem_cons_of_mem _ hx)
    have ih := ways_total hp hk'
    have hs := sum_posK hk'
    have hpm : 0 ≤ (p - 1) * k.many := Int.mul_nonneg (by omega) h1.2
    have hps : 0 ≤ (p - 1) * sumOf ks := Int.mul_nonneg (by omega) hs
    show (sumR _ _ fun a => sumR (leastK p k) k.many fun n => ways p ks (a - n * k.wt)) = fac p k * facP p ks
    rw [sumR_swap]
    have e : ∀ n, leastK p k ≤ n → n ≤ k.many → (sumR (-((p - 1) * sumOf (k :: ks))) (sumOf (k :: ks)) fun a => ways p ks (a - n * k.wt)) = (fun _ => facP p ks) n := fun n h2 h3 => by
      have a1 : n * k.wt ≤ k.many * k.wt := Int.mul_le_mul_of_nonneg_right h3 (by have := h1.1; omega)
      have a2 : leastK p k * k.wt ≤ n * k.wt := Int.mul_le_mul_of_nonneg_right h2 (by have := h1.1; omega)
      rw [least_mul] at a2
      rw [sumR_shift (n * k.wt), (mem_sum ks).2, Int.mul_add, Int.mul_comm k.wt]
      rw [sumR_congr (g := ways p ks) (fun x _ _ => by rw [Int.add_sub_cancel])]
      rw [sumR_wide (c := -((p - 1) * sumOf ks)) (d := sumOf ks) (by omega) (by omega) (by omega) (farP hp hk'), ih]
    rw [sumR_congr e, sumR_const _ (k.many - leastK p k + 1).toNat _ (by unfold leastK; rw [show (1 : Int) - p = -(p - 1) by omega, Int.neg_mul]; have := h1.2; omega)]
    congr 1
    unfold fac leastK
    rw [show (1 : Int) - p = -(p - 1) by omega, Int.neg_mul, Int.sub_mul, Int.one_mul]; omega
theorem ways_sym : ∀ {ks : List Kd}, (∀ k ∈ ks, posK k) → ∀ a, ways 2 ks (-a) = ways 2 ks a
  | [], _, a => by
    unfold ways
    by_cases h : a = 0
    · rw [if_pos h, if_pos (by omega)]
    · rw [if_neg h, if_neg (by omega)]
  | k :: ks, hk, a => by
    have h1 := hk k (by simp)
    show sumR (leastK 2 k) k.many (fun n => ways 2 ks (-a - n * k.wt)) = sumR (leastK 2 k) k.many fun n => ways 2 ks (a - n * k.wt)
    rw [show leastK 2 k = -k.many by unfold leastK; omega, sumR_sym h1.2 fun n => ways 2 ks (a - n * k.wt)]
    refine sumR_congr fun n _ _ => ?_
    rw [← ways_sym (fun x hx => hk x (List.mem_cons_of_mem _ hx)), Int.neg_mul]
    congr 1; omega
/-- With both pans no fewer ways. -/
theorem ways_pans : ∀ {ks : List Kd}, (∀ k ∈ ks, posK k) → ∀ a, ways 1 ks a ≤ ways 2 ks a
  | [], _, a => Int.le_refl _
  | k :: ks, hk, a => by
    have h1 := hk k (by simp)
    show sumR (leastK 1 k) k.many (fun n => ways 1 ks (a - n * k.wt)) ≤ sumR (leastK 2 k) k.many fun n => ways 2 ks (a - n * k.wt)
    have l1 : leastK 1 k = 0 := by unfold leastK; omega
    have l2 : leastK 2 k = -k.many := by unfold leastK; omega
    have hm := h1.2
    rw [l1, l2, sumR_split (lo := -k.many) (hi := k.many) (-1) _ (by omega) (k.many + 1).toNat (by omega)]
    have a1 := sumR_nonneg (lo := -k.many) (hi := -1) (f := fun n => ways 2 ks (a - n * k.wt)) (fun n _ _ => ways_nonneg 2 ks _)
    have a2 := sumR_le (lo := 0) (hi := k.many) (f := fun n => ways 1 ks (a - n * k.wt)) (g := fun n => ways 2 ks (a - n * k.wt)) (fun n _ _ => ways_pans (fun x hx => hk x (List.mem_cons_of_mem _ hx)) _)
    rw [show (-1 : Int) + 1 = 0 by omega]
    omega
theorem lay_pans : ∀ {ks : List Kd} {l : List Int}, (∀ k ∈ ks, posK k) → LayOk 1 ks l → LayOk 2 ks l
  | [], [], _, _ => trivial
  | k :: ks, n :: l, hk, ⟨h1, h2, h3⟩ => by
    have h0 := (hk k (by simp)).2
    refine ⟨?_, h2, lay_pans (fun x hx => hk x (List.mem_cons_of_mem _ hx)) h3⟩
    unfold leastK at *
    omega
  | [], _ :: _, _, h => h.elim
  | _ :: _, [], _, h => h.elim
theorem few_pans {ks : List Kd} (hk : ∀ k ∈ ks, posK k) {a y : Int} (h : fewO 1 ks a = some y) : ∃ y', fewO 2 ks a = some y' ∧ y' ≤ y := by
  obtain ⟨l, h1, h2, h3⟩ := few_lay h
  obtain ⟨y', h4, h5⟩ := few_least (lay_pans hk h1) h2
  exact ⟨y', h4, by omega⟩
end Go.Proofs.Ytolghmhodaphfaa
/- Plain law: the ways of all amounts up to one; how many amounts a set weighs at most. No program in sight. -/
namespace Go.Proofs.Ytolghmhodaphfaa
theorem facP_snoc (p : Int) (k : Kd) : ∀ ks : List Kd, facP p (ks ++ [k]) = facP p ks * fac p k
  | [] => by show fac p k * 1 = 1 * fac p k; omega
  | k0 :: ks => by
    show fac p k0 * facP p (ks ++ [k]) = fac p k0 * facP p ks * fac p k
    rw [facP_snoc p k ks, Int.mul_assoc]
theorem facP_app (p : Int) (ls : List Kd) : ∀ ks : List Kd, facP p (ks ++ ls) = facP p ks * facP p ls
  | [] => by show facP p ls = 1 * facP p ls; omega
  | k0 :: ks => by
    show fac p k0 * facP p (ks ++ ls) = fac p k0 * facP p ks * facP p ls
    rw [facP_app p ls ks, Int.mul_assoc]
theorem facP_take {p : Int} {ks : List Kd} {i : Nat} {m : Kd} (h : ks[i]? = some m) : facP p (ks.take (i + 1)) = facP p (ks.take i) * fac p m := by
  rw [List.take_add_one, h]; exact facP_snoc p m _
theorem facP_le {p : Int} (hp : p = 1 ∨ p = 2) : ∀ {ks : List Kd}, (∀ k ∈ ks, posK k) → 1 ≤ facP p ks ∧ facP p ks ≤ pw (manys ks)
  | [], _ => ⟨Int.le_refl _, Int.le_refl _⟩
  | k :: ks, hk => by
    have h1 := hk k (by simp)
    obtain ⟨h2, h3⟩ := facP_le hp fun x hx => hk x (List.mem_cons_of_mem _ hx)
    have h4 := h1.2
    have hf : 1 ≤ fac p k ∧ fac p k ≤ ((2 * k.many.toNat + 1 : Nat) : Int) := by unfold fac; rcases hp with rfl | rfl <;> omega
    show 1 ≤ fac p k * facP p ks ∧ fac p k * facP p ks ≤ (((2 * k.many.toNat + 1) * pw (manys ks) : Nat) : Int)
    constructor
    · have := Int.mul_le_mul hf.1 h2 (by omega) (by omega)
      omega
    · rw [Int.natCast_mul]
      exact Int.mul_le_mul hf.2 h3 (by omega) (by omega)
theorem facP_valid {p : Int} (hp : p = 1 ∨ p = 2) {ks : List Kd} (h : checkSet ks = 0) (i : Nat) : 1 ≤ facP p (ks.take i) ∧ facP p (ks.take i) ≤ 1000000000000 := by
  have hk := posK_of (checkSet_good h).2.2.1
  obtain ⟨h1, h2⟩ := facP_le hp (ks := ks.take i) fun x hx => hk x (List.mem_of_mem_take hx)
  have h3 := pw_valid h
  have h4 := pw_take (manys ks) i
  have h5 : manys (ks.take i) = (manys ks).take i := by simp [manys, List.map_take]
  rw [h5] at h2
  have : (10 : Nat) ^ 12 = 1000000000000 := by decide
  omega
/-- The ways of all amounts below k, those below 0 counted with both pans. -/
def accT (p : Int) (ks : List Kd) : Nat → Int
  | 0 => 0
  | k + 1 => accT p ks k + ways p ks k + if 0 < k ∧ p = 2 then ways p ks k else 0
theorem accT_one (ks : List Kd) : ∀ k : Nat, accT 1 ks (k + 1) = sumR 0 k (ways 1 ks)
  | 0 => by
    show 0 + ways 1 ks 0 + (if _ then _ else 0) = _
    rw [if_neg (by omega)]
    have := sumR_succ (lo := 0) (hi := -1) (f := ways 1 ks) (by omega)
    rw [show (-1 : Int) + 1 = 0 by omega, sumR_none (hi := -1) (by omega)] at this
    show _ = sumR 0 0 _
    omega
  | k + 1 => by
    show accT 1 ks (k + 1) + ways 1 ks ((k + 1 : Nat) : Int) + (if _ then _ else 0) = _
    rw [if_neg (by omega), accT_one ks k, Int.natCast_add, Int.natCast_one, sumR_succ (by omega)]; omega
theorem accT_two {ks : List Kd} (hk : ∀ k ∈ ks, posK k) : ∀ k : Nat, accT 2 ks (k + 1) = sumR (-k) k (ways 2 ks)
  | 0 => by
    show 0 + ways 2 ks 0 + (if _ then _ else 0) = sumR 0 0 _
    rw [if_neg (fun h => absurd h.1 (Nat.lt_irrefl 0))]
    have := sumR_succ (lo := 0) (hi := -1) (f := ways 2 ks) (by omega)
    rw [show (-1 : Int) + 1 = 0 by omega, sumR_none (hi := -1) (by omega)] at this
    omega
  | k + 1 => by
    show accT 2 ks (k + 1) + ways 2 ks ((k + 1 : Nat) : Int) + (if _ then _ else 0) = _
    rw [if_pos ⟨by omega, rfl⟩, accT_two hk k, Int.natCast_add, Int.natCast_one, sumR_succ (by omega), sumR_first (lo := -((k : Int) + 1)) (by omega), ways_sym hk, show -((k : Int) + 1) + 1 = -k by omega]; omega
theorem accT_all {p : Int} (hp : p = 1 ∨ p = 2) {ks : List Kd} (hk : ∀ k ∈ ks, posK k) {S : Nat} (hS : sumOf ks = S) : accT p ks (S + 1) = facP p ks := by
  have h := ways_total (p := p) (by omega) hk
  rw [hS] at h
  rcases hp with rfl | rfl
  · rw [accT_one, ← h]
    congr 1
    omega
  · rw [accT_two hk, ← h]
    congr 1
    omega
theorem accT_mono (p : Int) (ks : List Kd) (i : Nat) : ∀ d : Nat, accT p ks i ≤ accT p ks (i + d)
  | 0 => Int.le_refl _
  | d + 1 => by
    have h1 := accT_mono p ks i d
    have h2 := ways_nonneg p ks ((i + d : Nat) : Int)
    have e : accT p ks (i + (d + 1)) = accT p ks (i + d) + ways p ks ((i + d : Nat) : Int) + (if 0 < i + d ∧ p = 2 then ways p ks ((i + d : Nat) : Int) else 0) := rfl
    rw [e]
    split <;> omega
theorem accT_bd {p : Int} (hp : p = 1 ∨ p = 2) {ks : List Kd} (h : checkSet ks = 0) {S : Nat} (hS : sumOf ks = S) {k : Nat} (hk : k ≤ S + 1) : 0 ≤ accT p ks k ∧ accT p ks k ≤ 1000000000000 := by
  have hp2 := posK_of (checkSet_good h).2.2.1
  have h1 := accT_all hp hp2 hS
  have h2 := facP_valid hp h ks.length
  rw [List.take_length] at h2
  have h3 := accT_mono p ks k (S + 1 - k)
  rw [show k + (S + 1 - k) = S + 1 by omega] at h3
  have h4 := accT_mono p ks 0 k
  rw [Nat.zero_add] at h4
  have : accT p ks 0 = 0 := rfl
  omega
/-- How many weights a set has. -/
def manyOf (ks : List Kd) : Int := (ks.map (·.many)).sum
theorem pow_fac {p : Int} (hp : 1 ≤ p) : ∀ m : Nat, p * m + 1 ≤ (p + 1) ^ m
  | 0 => by simp
  | m + 1 => by
    have ih := pow_fac hp m
    have h0 : 0 ≤ p * (m : Int) := Int.mul_nonneg (by omega) (by omega)
    have h1 : (p * m + 1) * (p + 1) ≤ (p + 1) ^ m * (p + 1) := Int.mul_le_mul_of_nonneg_right ih (by omega)
    have h2 : 0 ≤ p * (m : Int) * p := Int.mul_nonneg h0 (by omega)
    rw [Int.pow_succ, Int.natCast_add, Int.natCast_one, Int.mul_add, Int.mul_one]
    rw [Int.add_mul, Int.mul_add, Int.mul_one, Int.one_mul] at h1
    omega
theorem facP_pow {p : Int} (hp : 1 ≤ p) : ∀ {ks : List Kd}, (∀ k ∈ ks, posK k) → ∃ M : Nat, manyOf ks = M ∧ facP p ks ≤ (p + 1) ^ M ∧ 0 ≤ facP p ks
  | [], _ => ⟨0, rfl, by show (1 : Int) ≤ _; simp, by show (0 : Int) ≤ 1; omega⟩
  | k :: ks, hk => by
    have h1 := (hk k (by simp)).2
    obtain ⟨M, h2, h3, h4⟩ := facP_pow hp fun x hx => hk x (List.mem_cons_of_mem _ hx)
    have h5 := pow_fac hp k.many.toNat
    have h6 : fac p k = p * (k.many.toNat : Int) + 1 := by unfold fac; rw [show (k.many.toNat : Int) = k.many by omega]
    have h7 : 0 ≤ fac p k := by
      have : 0 ≤ p * k.many := Int.mul_nonneg (by omega) h1
      unfold fac; omega
    refine ⟨k.many.toNat + M, by show (k.many :: ks.map (·.many)).sum = _; rw [List.sum_cons]; show k.many + manyOf ks = _; omega, ?_, Int.mul_nonneg h7 h4⟩
    rw [Int.pow_add]
    exact Int.mul_le_mul (by omega) h3 h4 (Int.le_trans h7 (by omega))
theorem wl_acc (p : Int) (hp : p = 1 ∨ p = 2) (ks : List Kd) (h0 : 1 ≤ ways p ks 0) : ∀ k : Nat, p * (wl p ks (k + 1)).length + 1 ≤ accT p ks (k + 1)
  | 0 => by
    show _ ≤ 0 + ways p ks 0 + (if _ then _ else 0)
    rw [wl_out (.inl rfl), if_neg (fun h => absurd h.1 (Nat.lt_irrefl 0))]
    show p * 0 + 1 ≤ 0 + ways p ks 0 + 0
    rw [Int.mul_zero]; omega
  | k + 1 => by
    have ih := wl_acc p hp ks h0 k
    show _ ≤ accT p ks (k + 1) + ways p ks ((k + 1 : Nat) : Int) + (if _ then _ else 0)
    have hn := ways_nonneg p ks ((k + 1 : Nat) : Int)
    rcases Int.lt_or_le 0 (ways p ks ((k + 1 : Nat) : Int)) with h | h
    · rw [wl_in (by omega) h, List.length_append, Int.natCast_add]
      rcases hp with rfl | rfl
      · rw [if_neg (by omega)]; simp only [List.length_cons, List.length_nil]; omega
      · rw [if_pos ⟨by omega, rfl⟩]; simp only [List.length_cons, List.length_nil]; omega
    · rw [wl_out (.inr (by omega))]
      split <;> omega
end Go.Proofs.Ytolghmhodaphfaa
/- Five and six parameters of a law; bounds of small kinds. -/
namespace Go.Proofs.Ytolghmhodaphfaa
open Go.ChangeShapes Go.WideShapes Go.ChangeAt Go.RowKit Go.Deep
section
variable {H : Type} {enc : TypeId × Value → H} {P : Program} {w : World} {base : Nat} {spare : Nat → Bool} {held : Bool}
theorem trodAll_five {t0 t1 t2 t3 t4 : TypeId} {args : Array Value} {ds : List (DataW H)} {ps : List MemPlace} (h : DataW.TrodAll enc P w base spare held [t0, t1, t2, t3, t4] args.toList ds ps) :
    ∃ v0 v1 v2 v3 v4 d0 d1 d2 d3 d4 p0 p1 p2 p3 p4, args = #[v0, v1, v2, v3, v4] ∧ ds = [d0, d1, d2, d3, d4] ∧ ps = p0 ++ p1 ++ p2 ++ p3 ++ p4 ∧ DataW.Trod enc P w base spare held t0 v0 d0 p0 ∧ DataW.Trod enc P w base spare held t1 v1 d1 p1 ∧ DataW.Trod enc P w base spare held t2 v2 d2 p2 ∧ DataW.Trod enc P w base spare held t3 v3 d3 p3 ∧ DataW.Trod enc P w base spare held t4 v4 d4 p4 := by
  obtain ⟨v0, vs0, d0, ds0, p0, q0, hargs, rfl, rfl, h0, r0⟩ := trodAll_cons h
  obtain ⟨v1, vs1, d1, ds1, p1, q1, rfl, rfl, rfl, h1, r1⟩ := trodAll_cons r0
  obtain ⟨v2, vs2, d2, ds2, p2, q2, rfl, rfl, rfl, h2, r2⟩ := trodAll_cons r1
  obtain ⟨v3, vs3, d3, ds3, p3, q3, rfl, rfl, rfl, h3, r3⟩ := trodAll_cons r2
  obtain ⟨v4, vs4, d4, ds4, p4, q4, rfl, rfl, rfl, h4, r4⟩ := trodAll_cons r3
  obtain ⟨rfl, rfl, rfl⟩ := trodAll_nil r4
  exact ⟨v0, v1, v2, v3, v4, d0, d1, d2, d3, d4, p0, p1, p2, p3, p4, by cases args; simp_all, rfl, by simp, h0, h1, h2, h3, h4⟩
theorem trodAll_six {t0 t1 t2 t3 t4 t5 : TypeId} {args : Array Value} {ds : List (DataW H)} {ps : List MemPlace} (h : DataW.TrodAll enc P w base spare held [t0, t1, t2, t3, t4, t5] args.toList ds ps) :
    ∃ v0 v1 v2 v3 v4 v5 d0 d1 d2 d3 d4 d5 p0 p1 p2 p3 p4 p5, args = #[v0, v1, v2, v3, v4, v5] ∧ ds = [d0, d1, d2, d3, d4, d5] ∧ ps = p0 ++ p1 ++ p2 ++ p3 ++ p4 ++ p5 ∧ DataW.Trod enc P w base spare held t0 v0 d0 p0 ∧ DataW.Trod enc P w base spare held t1 v1 d1 p1 ∧ DataW.Trod enc P w base spare held t2 v2 d2 p2 ∧ DataW.Trod enc P w base spare held t3 v3 d3 p3 ∧ DataW.Trod enc P w base spare held t4 v4 d4 p4 ∧ DataW.Trod enc P w base spare held t5 v5 d5 p5 := by
  obtain ⟨v0, vs0, d0, ds0, p0, q0, hargs, rfl, rfl, h0, r0⟩ := trodAll_cons h
  obtain ⟨v1, vs1, d1, ds1, p1, q1, rfl, rfl, rfl, h1, r1⟩ := trodAll_cons r0
  obtain ⟨v2, vs2, d2, ds2, p2, q2, rfl, rfl, rfl, h2, r2⟩ := trodAll_cons r1
  obtain ⟨v3, vs3, d3, ds3, p3, q3, rfl, rfl, rfl, h3, r3⟩ := trodAll_cons r2
  obtain ⟨v4, vs4, d4, ds4, p4, q4, rfl, rfl, rfl, h4, r4⟩ := trodAll_cons r3
  obtain ⟨v5, vs5, d5, ds5, p5, q5, rfl, rfl, rfl, h5, r5⟩ := trodAll_cons r4
  obtain ⟨rfl, rfl, rfl⟩ := trodAll_nil r5
  exact ⟨v0, v1, v2, v3, v4, v5, d0, d1, d2, d3, d4, d5, p0, p1, p2, p3, p4, p5, by cases args; simp_all, rfl, by simp, h0, h1, h2, h3, h4, h5⟩
end
theorem u8_bd {x : Int} (h : (Lit.int .u8 x).wf = true) : 0 ≤ x ∧ x ≤ 255 := by
  simp [Lit.wf, IntKind.min, IntKind.max, IntKind.signed, IntKind.bits] at h
  omega
theorem u16_bd {x : Int} (h : (Lit.int .u16 x).wf = true) : 0 ≤ x ∧ x ≤ 65535 := by
  simp [Lit.wf, IntKind.min, IntKind.max, IntKind.signed, IntKind.bits] at h
  omega
theorem u32_bd {x : Int} (h : (Lit.int .u32 x).wf = true) : 0 ≤ x ∧ x ≤ 4294967295 := by
  simp [Lit.wf, IntKind.min, IntKind.max, IntKind.signed, IntKind.bits] at h
  omega
end Go.Proofs.Ytolghmhodaphfaa
/- Words for the laws: what 'few' says, in one form; facts on all amounts. -/
namespace Go.Proofs.Ytolghmhodaphfaa
open Go.RowKit
def fI (p : Int) (ks : List Kd) (a : Int) : Int := (fewO p ks a).getD 0
def fB (p : Int) (ks : List Kd) (a : Int) : Bool := (fewO p ks a).isSome
theorem fewR_eq (p : Int) (ks : List Kd) (a : Int) : fewR p ks a = .tuple #[.int .i64 (fI p ks a), .bool (fB p ks a), .bool true] := by
  unfold fewR fI fB
  cases fewO p ks a <;> rfl
theorem fB_ways (p : Int) (ks : List Kd) (a : Int) : fB p ks a = decide (0 < ways p ks a) := by
  unfold fB
  have h0 := ways_nonneg p ks a
  cases h : fewO p ks a with
  | none => rw [few_ways.1 h]; rfl
  | some y =>
    have : ways p ks a ≠ 0 := fun e => by rw [few_ways.2 e] at h; cases h
    rw [Option.isSome_some, decide_eq_true (by omega)]
theorem fB_some {p : Int} {ks : List Kd} {a : Int} (h : fB p ks a = true) : fewO p ks a = some (fI p ks a) := by
  unfold fB at h
  unfold fI
  cases h2 : fewO p ks a with
  | none => rw [h2] at h; cases h
  | some y => rfl
theorem fI_none {p : Int} {ks : List Kd} {a : Int} (h : fB p ks a = false) : fI p ks a = 0 := by
  unfold fB at h
  unfold fI
  cases h2 : fewO p ks a with
  | none => rfl
  | some y => rw [h2] at h; cases h
theorem fineB_good {l : List Kd} (h : fineB l = true) : checkSet l = 0 ∧ l.length ≤ 8 := by
  unfold fineB at h
  simp only [Bool.and_eq_true, beq_iff_eq] at h
  exact ⟨h.2, (checkSet_good h.2).2.1⟩
theorem fineB_of {l : List Kd} (h : checkSet l = 0) : fineB l = true := by
  have := (checkSet_good h).2.1
  unfold fineB
  rw [h]
  simp; omega
theorem wl_len' (p : Int) (ks : List Kd) : ∀ k : Nat, (wl p ks (k + 1)).length ≤ k
  | 0 => by rw [wl_out (.inl rfl)]; simp [wl]
  | k + 1 => by
    have ih := wl_len' p ks k
    rcases Int.lt_or_le 0 (ways p ks ((k + 1 : Nat) : Int)) with h | h
    · rw [wl_in (by omega) h, List.length_append]; simp; omega
    · have := ways_nonneg p ks ((k + 1 : Nat) : Int)
      rw [wl_out (.inr (by omega))]; omega
theorem wl_mem {p : Int} {ks : List Kd} {k : Nat} {a : Int} : a ∈ wl p ks k ↔ 0 < a ∧ a < k ∧ 0 < ways p ks a := by
  unfold wl
  rw [List.mem_map]
  constructor
  · rintro ⟨j, hj, rfl⟩
    rw [List.mem_filter] at hj
    have h1 := List.mem_range.1 hj.1
    have h2 := hj.2
    simp only [Bool.and_eq_true, decide_eq_true_eq] at h2
    exact ⟨by omega, by omega, h2.2⟩
  · rintro ⟨h1, h2, h3⟩
    refine ⟨a.toNat, ?_, by omega⟩
    rw [List.mem_filter]
    refine ⟨List.mem_range.2 (by omega), ?_⟩
    rw [show ((a.toNat : Nat) : Int) = a by omega]
    simp only [Bool.and_eq_true, decide_eq_true_eq]
    exact ⟨by omega, h3⟩
theorem weighsL_good {p : Int} {ks : List Kd} (h0 : checkSet ks = 0) (hp : p = 1 ∨ p = 2) : (weighsL p ks).length ≤ 300 ∧ ∀ a : Int, 0 ≤ a → (decide (a = 0) || (weighsL p ks).any (· == a)) = fB p ks a := by
  have ho := openE_ok h0 (p := p) (by rcases hp with rfl | rfl <;> rfl)
  obtain ⟨-, -, h3, -, h5⟩ := checkSet_good h0
  have hS := sumOf_nonneg h3
  unfold weighsL
  rw [if_pos ho]
  refine ⟨by have := wl_len' p ks (sumOf ks).toNat; omega, fun a ha => ?_⟩
  rw [fB_ways, Bool.eq_iff_iff]
  simp only [Bool.or_eq_true, decide_eq_true_eq, List.any_eq_true, beq_iff_eq]
  constructor
  · rintro (rfl | ⟨x, hx, rfl⟩)
    · exact ways_zero hp h3
    · exact (wl_mem.1 hx).2.2
  · intro h
    rcases Int.lt_or_le 0 a with h1 | h1
    · refine .inr ⟨a, wl_mem.2 ⟨h1, ?_, h⟩, rfl⟩
      rcases Int.lt_or_le (sumOf ks) a with h2 | h2
      · rw [ways_far hp h3 a (.inr h2)] at h; omega
      · omega
    · exact .inl (by omega)
theorem pans_facts {ks : List Kd} (h0 : checkSet ks = 0) (a : Int) : ways 1 ks a ≤ ways 2 ks a ∧ (fB 1 ks a = true → fB 2 ks a = true ∧ fI 2 ks a ≤ fI 1 ks a) := by
  have hk := posK_of (checkSet_good h0).2.2.1
  refine ⟨ways_pans hk a, fun h => ?_⟩
  obtain ⟨y, h1, h2⟩ := few_pans hk (fB_some h)
  exact ⟨by unfold fB; rw [h1]; rfl, by unfold fI at *; rw [h1]; exact h2⟩
theorem lay_facts {p : Int} {ks : List Kd} {l : List Int} (h : layErr ks p l = 0) : openE ks p = 0 ∧ LayOk p ks l ∧ fB p ks (weighs ks l) = true ∧ fI p ks (weighs ks l) ≤ uses l := by
  have h1 : openE ks p = 0 := by
    by_cases h' : openE ks p = 0
    · exact h'
    · rw [layErr_open h'] at h; exact absurd h h'
  have h2 : l.length = ks.length := by
    by_cases h' : l.length = ks.length
    · exact h'
    · rw [layErr_len h1 h'] at h; cases h
  have h3 : layB p ks l = true := by
    cases h' : layB p ks l
    · rw [layErr_far h1 h2 h'] at h; cases h
    · rfl
  have h4 := (lay_B h2).2 h3
  obtain ⟨y, h5, h6⟩ := few_least h4 rfl
  exact ⟨h1, h4, by unfold fB; rw [h5]; rfl, by unfold fI; rw [h5]; exact h6⟩
end Go.Proofs.Ytolghmhodaphfaa
/- Plain law: which sets are perfect. No program in sight. -/
namespace Go.Proofs.Ytolghmhodaphfaa
theorem sumR_ind {lo hi c : Int} : sumR lo hi (fun n => if n = c then 1 else 0) = if lo ≤ c ∧ c ≤ hi then 1 else 0 := by
  by_cases hc : lo ≤ c ∧ c ≤ hi
  · rw [if_pos hc, sumR_wide (c := c) (d := c) hc.1 hc.2 (by omega) (fun n hn => if_neg (by omega)), sumR_first (Int.le_refl c), sumR_none (lo := c + 1) (by omega), if_pos rfl]; omega
  · rw [if_neg hc]
    exact sumR_zero fun n h1 h2 => if_neg (fun e => hc (by omega))
/-- With both pans: all numbers shifted by the least ones. -/
def dbl (p : Int) (ks : List Kd) : List Kd := ks.map fun k => ⟨k.wt, p * k.many⟩
theorem sum_dbl (p : Int) : ∀ ks : List Kd, sumOf (dbl p ks) = p * sumOf ks
  | [] => by show (0 : Int) = p * 0; omega
  | k :: ks => by
    show sumOf (⟨k.wt, p * k.many⟩ :: dbl p ks) = _
    rw [(mem_sum _).2, (mem_sum ks).2, sum_dbl p ks, Int.mul_add, Int.mul_left_comm]
theorem ways_dbl (p : Int) : ∀ (ks : List Kd) (a : Int), ways p ks a = ways 1 (dbl p ks) (a + (p - 1) * sumOf ks)
  | [], a => by
    show (if a = 0 then _ else _) = if a + (p - 1) * 0 = 0 then _ else _
    rw [Int.mul_zero, Int.add_zero]
  | k :: ks, a => by
    show sumR (leastK p k) k.many (fun n => ways p ks (a - n * k.wt)) = sumR ((1 - 1) * (p * k.many)) (p * k.many) fun n => ways 1 (dbl p ks) (a + (p - 1) * sumOf (k :: ks) - n * k.wt)
    rw [sumR_shift (leastK p k)]
    have e1 : leastK p k - leastK p k = (1 - 1) * (p * k.many) := by omega
    have e2 : k.many - leastK p k = p * k.many := by unfold leastK; rw [Int.sub_mul, Int.one_mul]; omega
    rw [e1, e2]
    refine sumR_congr fun n _ _ => ?_
    rw [ways_dbl p ks, (mem_sum ks).2]
    congr 1
    rw [Int.add_mul, least_mul, Int.mul_add, Int.mul_comm k.wt]
    omega
theorem facP_dbl (p : Int) : ∀ ks : List Kd, facP 1 (dbl p ks) = facP p ks
  | [] => rfl
  | k :: ks => by
    show (1 * (p * k.many) + 1) * facP 1 (dbl p ks) = (p * k.many + 1) * facP p ks
    rw [facP_dbl p ks, Int.one_mul]
theorem dbl_pos {p : Int} (hp : 1 ≤ p) {ks : List Kd} (h : ∀ k ∈ ks, posK k) : ∀ k ∈ dbl p ks, posK k := by
  intro k hk
  obtain ⟨k0, h0, rfl⟩ := List.mem_map.1 hk
  have := h k0 h0
  exact ⟨this.1, Int.mul_nonneg (by omega) this.2⟩
theorem take_snoc {L : List Kd} {i : Nat} {m : Kd} (h : L[i]? = some m) : L.take (i + 1) = L.take i ++ [m] := by rw [List.take_add_one, h]; rfl
theorem take_pos {L : List Kd} (h : ∀ k ∈ L, posK k) (i : Nat) : ∀ k ∈ L.take i, posK k := fun k hk => h k (List.mem_of_mem_take hk)
/-- As long as each weight is all factors before it multiplied, each amount below the factors is weighed in one way. -/
theorem perf_pre {L : List Kd} (hpos : ∀ k ∈ L, posK k) : ∀ i : Nat, i ≤ L.length → (∀ j m, j < i → L[j]? = some m → m.wt = facP 1 (L.take j)) →
    (∀ a, ways 1 (L.take i) a = if 0 ≤ a ∧ a < facP 1 (L.take i) then 1 else 0) ∧ sumOf (L.take i) + 1 = facP 1 (L.take i)
  | 0, _, _ => by
    refine ⟨fun a => ?_, rfl⟩
    show (if a = 0 then (1 : Int) else 0) = if 0 ≤ a ∧ a < 1 then 1 else 0
    by_cases h : a = 0
    · rw [if_pos h, if_pos (by omega)]
    · rw [if_neg h, if_neg (by omega)]
  | i + 1, hi, hw => by
    obtain ⟨h1, h2⟩ := perf_pre hpos i (by omega) fun j m hj => hw j m (by omega)
    obtain ⟨m, hm⟩ : ∃ m, L[i]? = some m := ⟨_, List.getElem?_eq_getElem (by omega)⟩
    have hmw := hw i m (by omega) hm
    have hmp := hpos m (List.mem_of_getElem? hm)
    have hs := sum_posK (take_pos hpos i)
    rw [take_snoc hm]
    obtain ⟨P, hP⟩ : ∃ P, facP 1 (L.take i) = P := ⟨_, rfl⟩
    rw [facP_snoc, sumOf_snoc]
    rw [hP] at h1 h2 hmw ⊢
    have hP1 : 1 ≤ P := by omega
    refine ⟨fun a => ?_, by unfold fac; rw [hmw, Int.one_mul, Int.mul_add, Int.mul_one]; omega⟩
    rw [ways_snoc]
    have e : ∀ n, leastK 1 m ≤ n → n ≤ m.many → ways 1 (L.take i) (a - n * m.wt) = (fun n => if n = a / P then 1 else 0) n := fun n _ _ => by
      have e1 := Int.mul_ediv_add_emod a P
      have e2 := Int.emod_nonneg a (b := P) (by omega)
      have e3 := Int.emod_lt_of_pos a (b := P) (by omega)
      rw [h1, hmw]
      show _ = if n = a / P then 1 else 0
      by_cases hn : n = a / P
      · rw [if_pos hn, if_pos]
        rw [hn, Int.mul_comm]; omega
      · rw [if_neg hn, if_neg]
        rintro ⟨c1, c2⟩
        rcases Int.lt_or_gt_of_ne hn with h | h
        · have : (n + 1) * P ≤ a / P * P := Int.mul_le_mul_of_nonneg_right (by omega) (by omega)
          rw [Int.add_mul, Int.one_mul, Int.mul_comm (a / P)] at this
          omega
        · have : (a / P + 1) * P ≤ n * P := Int.mul_le_mul_of_nonneg_right (by omega) (by omega)
          rw [Int.add_mul, Int.one_mul, Int.mul_comm (a / P)] at this
          omega
    have hl : leastK 1 m = 0 := by unfold leastK; omega
    rw [sumR_congr e, hl, sumR_ind]
    unfold fac
    rw [Int.one_mul]
    by_cases hc : 0 ≤ a / P ∧ a / P ≤ m.many
    · rw [if_pos hc, if_pos]
      have e1 := Int.mul_ediv_add_emod a P
      have e2 := Int.emod_nonneg a (b := P) (by omega)
      have e3 := Int.emod_lt_of_pos a (b := P) (by omega)
      have b1 : 0 ≤ P * (a / P) := Int.mul_nonneg (by omega) hc.1
      have b2 : P * (a / P) ≤ P * m.many := Int.mul_le_mul_of_nonneg_left hc.2 (by omega)
      rw [Int.mul_add, Int.mul_one]
      omega
    · rw [if_neg hc, if_neg]
      rintro ⟨c1, c2⟩
      refine hc ⟨Int.ediv_nonneg c1 (by omega), ?_⟩
      have := (Int.ediv_lt_iff_lt_mul (show 0 < P by omega)).2 (by rw [Int.mul_comm]; exact c2)
      omega
theorem ways_more {L : List Kd} (hpos : ∀ k ∈ L, posK k) (i : Nat) (a : Int) : ∀ d : Nat, ways 1 (L.take i) a ≤ ways 1 (L.take (i + d)) a
  | 0 => Int.le_refl _
  | d + 1 => by
    refine Int.le_trans (ways_more hpos i a d) ?_
    rcases Nat.lt_or_ge (i + d) L.length with h | h
    · obtain ⟨m, hm⟩ : ∃ m, L[i + d]? = some m := ⟨_, List.getElem?_eq_getElem h⟩
      rw [← Nat.add_assoc, take_snoc hm, ways_snoc]
      have hl : leastK 1 m = 0 := by unfold leastK; omega
      have := sumR_term (lo := leastK 1 m) (hi := m.many) (f := fun n => ways 1 (L.take (i + d)) (a - n * m.wt)) (fun n _ _ => ways_nonneg _ _ _) (n := 0) (by omega) (hpos m (List.mem_of_getElem? hm)).2
      simp only [Int.zero_mul, Int.sub_zero] at this
      exact this
    · rw [List.take_of_length_le h, List.take_of_length_le (by omega)]
      exact Int.le_refl _
theorem sum_more {L : List Kd} (hpos : ∀ k ∈ L, posK k) (i : Nat) : sumOf (L.take i) ≤ sumOf L := by
  have e : sumOf L = sumOf (L.take i) + sumOf (L.drop i) := by
    conv => lhs; rw [← List.take_append_drop i L]
    unfold sumOf; rw [List.map_append, List.sum_append]
  have := sum_posK (ks := L.drop i) fun k hk => hpos k (List.mem_of_mem_drop hk)
  omega
/-- If each amount up to the sum is weighed in one way, each weight is all factors before it multiplied. -/
theorem perf_all {L : List Kd} (hpos : ∀ k ∈ L, posK k) (hone : ∀ k ∈ L, 1 ≤ k.many) (hrise : ∀ (i j : Nat) (mi mj : Kd), L[i]? = some mi → L[j]? = some mj → i ≤ j → mi.wt ≤ mj.wt) (h : ∀ a, 0 ≤ a → a ≤ sumOf L → ways 1 L a = 1) :
    ∀ (j : Nat) (m : Kd), L[j]? = some m → m.wt = facP 1 (L.take j) := by
  intro j
  induction j using Nat.strongRecOn with
  | _ j ih =>
    intro m hm
    have hj : j < L.length := (List.getElem?_eq_some_iff.1 hm).1
    obtain ⟨h1, h2⟩ := perf_pre hpos j (by omega) fun i m' hi hm' => ih i hi m' hm'
    have hmp := hpos m (List.mem_of_getElem? hm)
    have hm1 := hone m (List.mem_of_getElem? hm)
    have hs := sum_posK (take_pos hpos j)
    have hsm := sum_more hpos j
    have hsm1 := sum_more hpos (j + 1)
    have hl : leastK 1 m = 0 := by unfold leastK; omega
    obtain ⟨P, hP⟩ : ∃ P, facP 1 (L.take j) = P := ⟨_, rfl⟩
    rw [hP] at h1 h2 ⊢
    rcases Int.lt_trichotomy m.wt P with hlt | heq | hgt
    · exfalso
      have hw := h m.wt (by have := hmp.1; omega) (by omega)
      have hmo := ways_more hpos (j + 1) m.wt (L.length - (j + 1))
      rw [show j + 1 + (L.length - (j + 1)) = L.length by omega, List.take_length, hw, take_snoc hm, ways_snoc, hl, sumR_first (by omega)] at hmo
      have ht := sumR_term (lo := 1) (hi := m.many) (f := fun n => ways 1 (L.take j) (m.wt - n * m.wt)) (fun n _ _ => ways_nonneg _ _ _) (n := 1) (by omega) hm1
      have e0 : ways 1 (L.take j) (m.wt - 0 * m.wt) = 1 := by rw [h1, if_pos]; have := hmp.1; omega
      have e1 : ways 1 (L.take j) (m.wt - 1 * m.wt) = 1 := by rw [h1, if_pos]; omega
      rw [e1] at ht
      rw [e0, show (0 : Int) + 1 = 1 by omega] at hmo
      omega
    · exact heq
    · exfalso
      have hwm : m.wt * 1 ≤ m.wt * m.many := Int.mul_le_mul_of_nonneg_left hm1 (by have := hmp.1; omega)
      rw [sumOf_take hm] at hsm1
      have hw := h P (by omega) (by omega)
      have hz : ∀ d : Nat, ways 1 (L.take (j + d)) P = 0 := by
        intro d
        induction d with
        | zero => rw [Nat.add_zero, h1, if_neg (by omega)]
        | succ d ihd =>
          rcases Nat.lt_or_ge (j + d) L.length with h3 | h3
          · obtain ⟨m', hm'⟩ : ∃ m', L[j + d]? = some m' := ⟨_, List.getElem?_eq_getElem h3⟩
            have hr := hrise j (j + d) m m' hm hm' (by omega)
            rw [← Nat.add_assoc, take_snoc hm', ways_snoc]
            refine sumR_zero fun n n1 n2 => ?_
            have hl' : leastK 1 m' = 0 := by unfold leastK; omega
            by_cases hn : n = 0
            · rw [hn, Int.zero_mul, Int.sub_zero]; exact ihd
            · refine farP (Int.le_refl 1) (take_pos hpos _) _ (.inl ?_)
              have : 1 * m'.wt ≤ n * m'.wt := Int.mul_le_mul_of_nonneg_right (by omega) (by have := hmp.1; omega)
              rw [show ((1 : Int) - 1) = 0 by omega, Int.zero_mul]
              omega
          · rw [List.take_of_length_le (by omega)]
            rw [List.take_of_length_le h3] at ihd
            exact ihd
      have := hz (L.length - j)
      rw [show j + (L.length - j) = L.length by omega, List.take_length, hw] at this
      cases this
/-- Each weight is all factors before it multiplied. -/
def isPf (p : Int) : Int → List Kd → Bool
  | _, [] => true
  | nx, k :: ks => k.wt == nx && isPf p (nx * fac p k) ks
theorem isPf_snoc (p : Int) (k : Kd) : ∀ (ks : List Kd) (nx : Int), isPf p nx (ks ++ [k]) = (isPf p nx ks && k.wt == nx * facP p ks)
  | [], nx => by
    show (k.wt == nx && true) = (true && k.wt == nx * 1)
    rw [Int.mul_one, Bool.and_true, Bool.true_and]
  | k0 :: ks, nx => by
    show (k0.wt == nx && isPf p (nx * fac p k0) (ks ++ [k])) = (k0.wt == nx && isPf p (nx * fac p k0) ks && k.wt == nx * (fac p k0 * facP p ks))
    rw [isPf_snoc p k ks, Bool.and_assoc, Int.mul_assoc]
theorem isPf_take {p : Int} {L : List Kd} {i : Nat} {m : Kd} (h : L[i]? = some m) : isPf p 1 (L.take (i + 1)) = (isPf p 1 (L.take i) && m.wt == facP p (L.take i)) := by
  rw [take_snoc h, isPf_snoc, Int.one_mul]
theorem isPf_all {p : Int} {L : List Kd} : ∀ i : Nat, isPf p 1 (L.take i) = true ↔ ∀ j m, j < i → L[j]? = some m → m.wt = facP p (L.take j)
  | 0 => ⟨fun _ j m hj => by omega, fun _ => rfl⟩
  | i + 1 => by
    rcases Nat.lt_or_ge i L.length with h | h
    · obtain ⟨m, hm⟩ : ∃ m, L[i]? = some m := ⟨_, List.getElem?_eq_getElem h⟩
      rw [isPf_take hm, Bool.and_eq_true, isPf_all i, beq_iff_eq]
      constructor
      · rintro ⟨h1, h2⟩ j m' hj hm'
        rcases Nat.lt_or_ge j i with h3 | h3
        · exact h1 j m' h3 hm'
        · obtain rfl : j = i := by omega
          rw [hm] at hm'; cases hm'; exact h2
      · exact fun h1 => ⟨fun j m' hj => h1 j m' (by omega), h1 i m (by omega) hm⟩
    · rw [List.take_of_length_le (by omega)]
      have ih := isPf_all (p := p) (L := L) i
      rw [List.take_of_length_le h] at ih
      rw [ih]
      exact ⟨fun h1 j m hj hm => h1 j m (by have := (List.getElem?_eq_some_iff.1 hm).1; omega) hm, fun h1 j m hj hm => h1 j m (by omega) hm⟩
theorem rise_mono {L : List Kd} (hr : risingK L = true) : ∀ (i j : Nat) (mi mj : Kd), L[i]? = some mi → L[j]? = some mj → i ≤ j → mi.wt ≤ mj.wt := by
  intro i j mi mj hi hj hij
  obtain ⟨d, rfl⟩ : ∃ d, j = i + d := ⟨j - i, by omega⟩
  induction d generalizing mj with
  | zero => rw [Nat.add_zero, hi] at hj; cases hj; exact Int.le_refl _
  | succ d ih =>
    have hlt := (List.getElem?_eq_some_iff.1 hj).1
    obtain ⟨mm, hm⟩ : ∃ mm, L[i + d]? = some mm := ⟨_, List.getElem?_eq_getElem (by omega)⟩
    have h1 := ih mm hm (by omega)
    have h2 := List.all_eq_true.1 hr (i + d + 1) (List.mem_range.2 (by omega))
    unfold riseAt at h2
    rw [show i + d + 1 - 1 = i + d by omega, kAt_of hm, kAt_of (show L[i + d + 1]? = some mj from hj)] at h2
    have h3 : mm.wt < mj.wt := by
      rcases Bool.or_eq_true _ _ ▸ h2 with h | h
      · simp at h
      · exact of_decide_eq_true h
    omega
/-- THE LAW OF PERFECT SETS. -/
theorem perf_law {p : Int} (hp : p = 1 ∨ p = 2) {ks : List Kd} (h0 : checkSet ks = 0) : ((∀ a, 0 ≤ a → a ≤ sumOf ks → ways p ks a = 1) ↔ isPf p 1 ks = true) ∧ (isPf p 1 ks = true → facP p ks = p * sumOf ks + 1) := by
  obtain ⟨-, -, h3, h4, -⟩ := checkSet_good h0
  have hpos := posK_of h3
  have hS := sum_posK hpos
  have hp1 : 1 ≤ p := by omega
  have hdp := dbl_pos hp1 hpos
  have hat : ∀ {j : Nat} {m : Kd}, (dbl p ks)[j]? = some m ↔ ∃ k, ks[j]? = some k ∧ m = ⟨k.wt, p * k.many⟩ := by
    intro j m
    unfold dbl
    rw [List.getElem?_map]
    cases ks[j]? with
    | none => simp
    | some k => simp [eq_comm]
  have htk : ∀ j, facP 1 ((dbl p ks).take j) = facP p (ks.take j) := fun j => by
    rw [← facP_dbl p (ks.take j)]
    unfold dbl
    rw [List.map_take]
  have hiff : isPf p 1 ks = true ↔ ∀ j m, (dbl p ks)[j]? = some m → m.wt = facP 1 ((dbl p ks).take j) := by
    have := isPf_all (p := p) (L := ks) ks.length
    rw [List.take_length] at this
    rw [this]
    constructor
    · intro h j m hm
      obtain ⟨k, hk, rfl⟩ := hat.1 hm
      rw [htk]
      exact h j k (List.getElem?_eq_some_iff.1 hk).1 hk
    · intro h j m _ hm
      rw [← htk]
      exact h j ⟨m.wt, p * m.many⟩ (hat.2 ⟨m, hm, rfl⟩)
  have hlen : (dbl p ks).length = ks.length := by simp [dbl]
  have hgood : isPf p 1 ks = true → (∀ a, ways 1 (dbl p ks) a = if 0 ≤ a ∧ a < facP p ks then 1 else 0) ∧ p * sumOf ks + 1 = facP p ks := fun h => by
    have h5 := perf_pre hdp (dbl p ks).length (Nat.le_refl _) fun j m _ hm => (hiff.1 h) j m hm
    rw [List.take_length, facP_dbl, sum_dbl] at h5
    exact h5
  refine ⟨⟨fun h => ?_, fun h a ha1 ha2 => ?_⟩, fun h => (hgood h).2.symm⟩
  · rw [hiff]
    refine perf_all hdp (fun k hk => ?_) (fun i j mi mj hi hj hij => ?_) fun b hb1 hb2 => ?_
    · obtain ⟨k0, hk0, rfl⟩ := List.mem_map.1 hk
      have := okK_t.1 (List.all_eq_true.1 h3 k0 hk0)
      show 1 ≤ p * k0.many
      rcases hp with rfl | rfl <;> omega
    · obtain ⟨ki, hki, rfl⟩ := hat.1 hi
      obtain ⟨kj, hkj, rfl⟩ := hat.1 hj
      exact rise_mono h4 i j ki kj hki hkj hij
    · rw [sum_dbl] at hb2
      have hw := ways_dbl p ks (b - (p - 1) * sumOf ks)
      rw [Int.sub_add_cancel] at hw
      rw [← hw]
      rcases hp with rfl | rfl
      · exact h _ (by omega) (by omega)
      · rcases Int.lt_or_le (b - (2 - 1) * sumOf ks) 0 with hneg | hneg
        · rw [← ways_sym hpos]
          exact h _ (by omega) (by omega)
        · exact h _ hneg (by omega)
  · obtain ⟨h5, h6⟩ := hgood h
    rw [ways_dbl, h5, if_pos]
    rcases hp with rfl | rfl <;> omega
end Go.Proofs.Ytolghmhodaphfaa
/- Words for the laws: what is told of perfect sets. -/
namespace Go.Proofs.Ytolghmhodaphfaa
open Go.RowKit
theorem first_bad {P : Nat → Prop} (S : Nat) : (∀ j, j ≤ S → P j) ∨ ∃ k, k ≤ S ∧ ¬ P k ∧ ∀ j, j < k → P j := by
  induction S with
  | zero =>
    by_cases h : P 0
    · exact .inl fun j hj => by obtain rfl : j = 0 := (by omega); exact h
    · exact .inr ⟨0, by omega, h, fun j hj => by omega⟩
  | succ S ih =>
    rcases ih with ih | ⟨k, h1, h2, h3⟩
    · by_cases h : P (S + 1)
      · left
        intro j hj
        rcases Nat.lt_or_ge j (S + 1) with h1 | h1
        · exact ih j (by omega)
        · obtain rfl : j = S + 1 := (by omega)
          exact h
      · exact .inr ⟨S + 1, by omega, h, fun j hj => ih j (by omega)⟩
    · exact .inr ⟨k, by omega, h2, h3⟩
theorem perf_cases {p : Int} (hp : p = 1 ∨ p = 2) {ks : List Kd} (h0 : checkSet ks = 0) :
    (isPf p 1 ks = true ∧ perfE p ks = 0 ∧ perfV p ks = sumOf ks ∧ uptoV p ks = sumOf ks ∧ facP p ks = p * sumOf ks + 1 ∧ ∀ a, 0 ≤ a → a ≤ sumOf ks → ways p ks a = 1) ∨
    (isPf p 1 ks = false ∧ perfE p ks = 24 ∧ 0 ≤ perfV p ks ∧ perfV p ks ≤ sumOf ks ∧ ways p ks (perfV p ks) ≠ 1) := by
  have ho := openE_ok h0 (p := p) (by rcases hp with rfl | rfl <;> rfl)
  have hS := sumOf_nonneg (checkSet_good h0).2.2.1
  obtain ⟨S, hSe⟩ : ∃ S : Nat, sumOf ks = S := ⟨(sumOf ks).toNat, by omega⟩
  have hSn : (sumOf ks).toNat = S := by omega
  obtain ⟨hl1, hl2⟩ := perf_law hp h0
  have e1 : perfV p ks = if 0 ≤ perfZ p ks then perfZ p ks else sumOf ks := if_neg (fun h' => h' ho)
  have e2 : perfE p ks = if 0 ≤ perfZ p ks then 24 else 0 := if_neg (fun h' => h' ho)
  rcases first_bad (P := fun j : Nat => ways p ks (j : Int) = 1) S with h | ⟨k, h1, h2, h3⟩
  · left
    have hz := perf_none hSn h
    have hg := gap_none (p := p) hSn (fun j hj => by rw [h j hj]; omega)
    have hall : ∀ a, 0 ≤ a → a ≤ sumOf ks → ways p ks a = 1 := fun a ha1 ha2 => by
      have := h a.toNat (by omega)
      rwa [show ((a.toNat : Nat) : Int) = a by omega] at this
    have hi := hl1.1 hall
    refine ⟨hi, by rw [e2, hz, if_neg (by omega)], by rw [e1, hz, if_neg (by omega)], ?_, hl2 hi, hall⟩
    unfold uptoV
    rw [if_neg (fun h' => h' ho), hg, if_neg (by omega)]
  · right
    have hz := perf_first hSn h1 h2 h3
    have hi : isPf p 1 ks = false := by
      cases hb : isPf p 1 ks
      · rfl
      · exact absurd (hl1.2 hb k (by omega) (by omega)) h2
    have hv : perfV p ks = k := by rw [e1, hz, if_pos (by omega)]
    exact ⟨hi, by rw [e2, hz, if_pos (by omega)], by omega, by omega, by rw [hv]; exact h2⟩
theorem isPf_off {p : Int} {ks : List Kd} {k : Nat} (h : isPf p 1 (ks.take k) = false) : isPf p 1 ks = false := by
  cases hb : isPf p 1 ks
  · rfl
  · have h1 := (isPf_all (p := p) (L := ks) ks.length).1 (by rw [List.take_length]; exact hb)
    have h2 := (isPf_all (p := p) (L := ks) k).2 (fun j m _ hm => h1 j m (List.getElem?_eq_some_iff.1 hm).1 hm)
    rw [h2] at h; cases h
end Go.Proofs.Ytolghmhodaphfaa
/- Words for the laws: how many weights are enough. -/
namespace Go.Proofs.Ytolghmhodaphfaa
open Go.RowKit
theorem en_good : ∀ a : Fin 122, a.val = 0 ∨ ((checkSet (enL 1 a.val) == 0 && isPf 1 1 (enL 1 a.val) && decide ((a.val : Int) ≤ sumOf (enL 1 a.val)) && manyOf (enL 1 a.val) == (enL 1 a.val).length) && (checkSet (enL 2 a.val) == 0 && isPf 2 1 (enL 2 a.val) && decide ((a.val : Int) ≤ sumOf (enL 2 a.val)) && manyOf (enL 2 a.val) == (enL 2 a.val).length)) = true := by decide +kernel
theorem en_facts {p a : Int} (hp : p = 1 ∨ p = 2) (h1 : 1 ≤ a) (h2 : a ≤ 121) : checkSet (enL p a) = 0 ∧ a ≤ uptoV p (enL p a) ∧ manyOf (enL p a) = (enL p a).length ∧ ofE p a 121 = 0 := by
  obtain ⟨n, rfl⟩ : ∃ n : Nat, a = n := ⟨a.toNat, by omega⟩
  have h3 := (en_good ⟨n, by omega⟩).resolve_left (by simp; omega)
  simp only [Bool.and_eq_true, beq_iff_eq, decide_eq_true_eq] at h3
  obtain ⟨⟨⟨⟨a1, a2⟩, a3⟩, a4⟩, ⟨⟨b1, b2⟩, b3⟩, b4⟩ := h3
  have ho : ofE p n 121 = 0 := by
    unfold ofE
    rw [if_neg (by rw [Bool.not_eq_false]; rw [inR_t]; omega), if_neg (by rw [Bool.not_eq_false]; rw [inR_t]; omega)]
  rcases hp with rfl | rfl
  · rcases perf_cases (.inl rfl) a1 with ⟨-, -, -, q4, -, -⟩ | ⟨q1, -⟩
    · exact ⟨a1, by rw [q4]; exact a3, a4, ho⟩
    · rw [a2] at q1; cases q1
  · rcases perf_cases (.inr rfl) b1 with ⟨-, -, -, q4, -, -⟩ | ⟨q1, -⟩
    · exact ⟨b1, by rw [q4]; exact b3, b4, ho⟩
    · rw [b2] at q1; cases q1
theorem powK_sum (p : Int) : ∀ k : Nat, p * sumOf (powK p k) + 1 = (p + 1) ^ k
  | 0 => by
    show p * 0 + 1 = (p + 1) ^ 0
    rw [Int.pow_zero]; omega
  | k + 1 => by
    have e : sumOf (powK p (k + 1)) = sumOf (powK p k) + (p + 1) ^ k * 1 := by rw [powK_succ, sumOf_snoc]
    have ih := powK_sum p k
    rw [e, Int.mul_add, Int.mul_one, Int.pow_succ, Int.mul_add, Int.mul_one, Int.mul_comm p ((p + 1) ^ k)]
    omega
theorem enN_le {p a : Int} {M : Nat} (hM : M ≤ 7) (h : a ≤ sumOf (powK p M)) : enN p a ≤ M := by
  unfold enN
  cases hf : (List.range 8).find? fun k => decide (a ≤ sumOf (powK p k)) with
  | none =>
    have := List.find?_eq_none.1 hf M (List.mem_range.2 (by omega))
    simp at this; omega
  | some k =>
    rw [List.find?_range_eq_some] at hf
    obtain ⟨-, -, h3⟩ := hf
    show k ≤ M
    rcases Nat.lt_or_ge M k with h4 | h4
    · have := h3 M h4
      simp at this; omega
    · exact h4
theorem enN_seven (p a : Int) : enN p a ≤ 7 := by
  unfold enN
  cases h : (List.range 8).find? fun k => decide (a ≤ sumOf (powK p k)) with
  | none => simp
  | some k => have := List.mem_range.1 (List.mem_of_find?_eq_some h); simp; omega
theorem upto_all {p : Int} (hp : p = 1 ∨ p = 2) {ks : List Kd} (h0 : checkSet ks = 0) : 0 ≤ uptoV p ks ∧ uptoV p ks ≤ sumOf ks ∧ (∀ j : Nat, (j : Int) ≤ uptoV p ks → 0 < ways p ks j) ∧ (uptoV p ks < sumOf ks → ways p ks (uptoV p ks + 1) = 0) := by
  have ho := openE_ok h0 (p := p) (by rcases hp with rfl | rfl <;> rfl)
  have h3 := (checkSet_good h0).2.2.1
  have hS := sumOf_nonneg h3
  obtain ⟨S, hSe⟩ : ∃ S : Nat, sumOf ks = S := ⟨(sumOf ks).toNat, by omega⟩
  have hSn : (sumOf ks).toNat = S := by omega
  have hu : uptoV p ks = if 0 < gapZ p ks then gapZ p ks - 1 else sumOf ks := if_neg (fun h' => h' ho)
  rw [hu]
  rcases first_bad (P := fun j : Nat => 0 < ways p ks (j : Int)) S with h | ⟨k, h1, h2, h4⟩
  · rw [gap_none hSn h, if_neg (by omega)]
    exact ⟨hS, Int.le_refl _, fun j hj => h j (by omega), fun h => absurd h (Int.lt_irrefl _)⟩
  · have hk : k ≠ 0 := by
      intro e; subst e
      exact h2 (ways_zero hp h3)
    have hn := ways_nonneg p ks (k : Int)
    have hz : ways p ks (k : Int) = 0 := by omega
    rw [gap_first hSn h1 hz h4, if_pos (by omega)]
    refine ⟨by omega, by omega, fun j hj => h4 j (by omega), fun _ => ?_⟩
    rw [show (k : Int) - 1 + 1 = k by omega]
    exact hz
theorem wl_full {p : Int} {ks : List Kd} {u : Nat} (h : ∀ j : Nat, j ≤ u → 0 < ways p ks j) : ∀ k : Nat, k ≤ u → (wl p ks (k + 1)).length = k
  | 0, _ => by rw [wl_out (.inl rfl)]; rfl
  | k + 1, hk => by rw [wl_in (by omega) (h _ hk), List.length_append, wl_full h k (by omega)]; rfl
theorem wl_grow (p : Int) (ks : List Kd) (i : Nat) : ∀ d : Nat, (wl p ks i).length ≤ (wl p ks (i + d)).length
  | 0 => Nat.le_refl _
  | d + 1 => by
    refine Nat.le_trans (wl_grow p ks i d) ?_
    rw [← Nat.add_assoc]
    rcases Int.lt_or_le 0 (ways p ks ((i + d : Nat) : Int)) with h | h
    · rcases Nat.eq_zero_or_pos (i + d) with h2 | h2
      · rw [wl_out (.inl h2)]; exact Nat.le_refl _
      · rw [wl_in h2 h, List.length_append]; omega
    · have := ways_nonneg p ks ((i + d : Nat) : Int)
      rw [wl_out (.inr (by omega))]; exact Nat.le_refl _
theorem few_enough {p a : Int} (hp : p = 1 ∨ p = 2) {ks : List Kd} (h0 : checkSet ks = 0) : ∃ M : Nat, manyOf ks = M ∧ p * (weighsL p ks).length + 1 ≤ (p + 1) ^ M ∧ (1 ≤ a → a ≤ 121 → a ≤ uptoV p ks → (enL p a).length ≤ M) := by
  have ho := openE_ok h0 (p := p) (by rcases hp with rfl | rfl <;> rfl)
  have h3 := (checkSet_good h0).2.2.1
  have hpos := posK_of h3
  have hS := sumOf_nonneg h3
  obtain ⟨S, hSe⟩ : ∃ S : Nat, sumOf ks = S := ⟨(sumOf ks).toNat, by omega⟩
  obtain ⟨M, hM, hf, -⟩ := facP_pow (p := p) (by omega) hpos
  have hwl : weighsL p ks = wl p ks (S + 1) := by unfold weighsL; rw [if_pos ho, hSe]; rfl
  have hac := wl_acc p hp ks (ways_zero hp h3) S
  rw [accT_all hp hpos hSe] at hac
  rw [hwl]
  refine ⟨M, hM, by omega, fun h1 h2 hu => ?_⟩
  obtain ⟨u1, u2, u3, -⟩ := upto_all hp h0
  obtain ⟨u, hue⟩ : ∃ u : Nat, uptoV p ks = u := ⟨(uptoV p ks).toNat, by omega⟩
  rw [hue] at u1 u2 u3 hu
  have g1 := wl_full (fun j hj => u3 j (by omega)) u (Nat.le_refl _)
  have g2 := wl_grow p ks (u + 1) (S - u)
  rw [show u + 1 + (S - u) = S + 1 by omega, g1] at g2
  have hle : p * a + 1 ≤ (p + 1) ^ M := by
    have : p * a ≤ p * (wl p ks (S + 1)).length := Int.mul_le_mul_of_nonneg_left (by omega) (by omega)
    omega
  have hs := powK_sum p M
  have hsum : a ≤ sumOf (powK p M) := by
    have : p * a ≤ p * sumOf (powK p M) := by omega
    exact Int.le_of_mul_le_mul_left this (by omega)
  have hoe := (en_facts hp h1 h2).2.2.2
  unfold enL
  rw [if_pos hoe, powK_len]
  rcases Nat.lt_or_ge 7 M with h7 | h7
  · have := enN_seven p a; omega
  · exact enN_le h7 hsum
theorem manyOf_bd : ∀ {ks : List Kd}, (∀ k ∈ ks, okK k = true) → 0 ≤ manyOf ks ∧ manyOf ks ≤ 300 * ks.length
  | [], _ => ⟨Int.le_refl _, by show (0 : Int) ≤ _; simp⟩
  | k :: ks, h => by
    have h1 := okK_t.1 (h k (by simp))
    obtain ⟨h2, h3⟩ := manyOf_bd fun x hx => h x (List.mem_cons_of_mem _ hx)
    have e : manyOf (k :: ks) = k.many + manyOf ks := by unfold manyOf; rw [List.map_cons, List.sum_cons]
    rw [e, List.length_cons]
    omega
theorem manyOf_take {L : List Kd} {i : Nat} {m : Kd} (h : L[i]? = some m) : manyOf (L.take (i + 1)) = manyOf (L.take i) + m.many := by
  rw [take_snoc h]
  unfold manyOf
  rw [List.map_append, List.sum_append]; simp
theorem manyOf_tk {L : List Kd} (h : checkSet L = 0) (i : Nat) : 0 ≤ manyOf (L.take i) ∧ manyOf (L.take i) ≤ 2400 := by
  obtain ⟨-, h2, h3, -, -⟩ := checkSet_good h
  have h4 := manyOf_bd (ks := L.take i) fun k hk => List.all_eq_true.1 h3 k (List.mem_of_mem_take hk)
  have h5 : (L.take i).length ≤ 8 := by rw [List.length_take]; omega
  omega
end Go.Proofs.Ytolghmhodaphfaa
