/- Texts of the proof, laid together by program. -/
import Derived.Test.YtiobmfggnacplaaMd
import Derived.Test.YtiobmfggnacplaaMc
import Derived.Laws.CopyOwn
set_option linter.unusedSimpArgs false
set_option linter.unusedVariables false
/- Walks: Count and Single. Printed by rim/a25.py. -/
namespace Go.Proofs.Ytiobmfggnacplaa
open Go.RowKit
attribute [local go_sem] Oper.semAt_some
theorem cntE_k {K t : Int} (h : inR 1 4 K = false) : cntE K t = 2 := if_pos (by have := inR_f.1 h; omega)
theorem cntE_t {K t : Int} (h : inR 1 4 K = true) (h2 : inR 1 12 t = false) : cntE K t = 6 := by
  unfold cntE
  rw [if_neg (by have := inR_t.1 h; omega), if_pos (by have := inR_f.1 h2; omega)]
theorem cntE_0 {K t : Int} (h : inR 1 4 K = true) (h2 : inR 1 12 t = true) : cntE K t = 0 := by
  unfold cntE
  rw [if_neg (by have := inR_t.1 h; omega), if_neg (by have := inR_t.1 h2; omega)]
set_option maxRecDepth 10000 in
set_option maxHeartbeats 4000000 in
theorem counted_any (K t : Int) (w : World) : Calls Try.prog 73 #[.int .i64 K, .int .i64 t] w fun e w' => e = .returned (.int .i64 (cntE K t)) ∧ Below w.heap.size w w' := by
  obtain ⟨W0, hW0⟩ : ∃ W0 : World, W0 = w := ⟨_, rfl⟩
  rw [← hW0]
  clear hW0
  have hbel : Below W0.heap.size W0 W0 := Below.refl _ _
  have hsz := hbel.size
  cases h1 : inR 1 4 K
  · have H1 := hid (all_one'.trans h1)
    have hf := hid (cntE_k (t := t) h1)
    clear h1
    go_enter Try.func73, Try.ntmps73
    go_wp2_with (fail)
    refine (within_any _ 1 1 [K] 1 4 _ (inS_lit1 K (by first | (simp; done) | (simp; omega) | omega) (by first | (simp; done) | (simp; omega) | omega)) (by omega)).mono ?_
    rw [H1.out]
    rintro e W1 ⟨rfl, hb⟩
    have hst : Below W0.heap.size W0 W1 := Below.trans (by repeat' (first | with_reducible assumption | with_reducible exact Below.refl _ _ | refine Below.alloc ?_ ?_ _ | refine Below.setCell ?_ ?_ _ | refine Below.drew ?_ | refine below_drewN ?_ _ | (simp; done) | (simp; omega) | omega)) (hb.mono (by first | (simp; done) | (simp; omega) | omega))
    replace hbel := hbel.trans (hst.mono hsz)
    replace hsz := hbel.size
    clear hb hst
    obtain ⟨W0, rfl⟩ : ∃ W0 : World, W0 = W1 := ⟨_, rfl⟩
    go_wp2
    refine bodyPost_ret (v := .int .i64 2) (by first | (simp [results, Try.results73, go_sem]; done) | (simp [results, Try.results73, go_sem, *]; done) | (simp [results, Try.results73, go_sem, World.cell?_setCell_same', *]; done) | (simp [results, Try.results73, go_sem]; first | exact ⟨rfl, rfl⟩ | rfl)) rfl ⟨by rw [hf.out], hbel⟩
  · have H1 := hid (all_one'.trans h1)
    cases h2 : inR 1 12 t
    · have H2 := hid (all_one'.trans h2)
      have hf := hid (cntE_t h1 h2)
      clear h1 h2
      go_enter Try.func73, Try.ntmps73
      go_wp2_with (fail)
      refine (within_any _ 1 1 [K] 1 4 _ (inS_lit1 K (by first | (simp; done) | (simp; omega) | omega) (by first | (simp; done) | (simp; omega) | omega)) (by omega)).mono ?_
      rw [H1.out]
      rintro e W1 ⟨rfl, hb⟩
      have hst : Below W0.heap.size W0 W1 := Below.trans (by repeat' (first | with_reducible assumption | with_reducible exact Below.refl _ _ | refine Below.alloc ?_ ?_ _ | refine Below.setCell ?_ ?_ _ | refine Below.drew ?_ | refine below_drewN ?_ _ | (simp; done) | (simp; omega) | omega)) (hb.mono (by first | (simp; done) | (simp; omega) | omega))
      replace hbel := hbel.trans (hst.mono hsz)
      replace hsz := hbel.size
      clear hb hst
      obtain ⟨W0, rfl⟩ : ∃ W0 : World, W0 = W1 := ⟨_, rfl⟩
      go_wp2_with (fail)
      refine (within_any _ 1 1 [t] 1 12 _ (inS_lit1 t (by first | (simp; done) | (simp; omega) | omega) (by first | (simp; done) | (simp; omega) | omega)) (by omega)).mono ?_
      rw [H2.out]
      rintro e W1 ⟨rfl, hb⟩
      have hst : Below W0.heap.size W0 W1 := Below.trans (by repeat' (first | with_reducible assumption | with_reducible exact Below.refl _ _ | refine Below.alloc ?_ ?_ _ | refine Below.setCell ?_ ?_ _ | refine Below.drew ?_ | refine below_drewN ?_ _ | (simp; done) | (simp; omega) | omega)) (hb.mono (by first | (simp; done) | (simp; omega) | omega))
      replace hbel := hbel.trans (hst.mono hsz)
      replace hsz := hbel.size
      clear hb hst
      obtain ⟨W0, rfl⟩ : ∃ W0 : World, W0 = W1 := ⟨_, rfl⟩
      go_wp2
      refine bodyPost_ret (v := .int .i64 6) (by first | (simp [results, Try.results73, go_sem]; done) | (simp [results, Try.results73, go_sem, *]; done) | (simp [results, Try.results73, go_sem, World.cell?_setCell_same', *]; done) | (simp [results, Try.results73, go_sem]; first | exact ⟨rfl, rfl⟩ | rfl)) rfl ⟨by rw [hf.out], hbel⟩
    · have H2 := hid (all_one'.trans h2)
      have hf := hid (cntE_0 h1 h2)
      clear h1 h2
      go_enter Try.func73, Try.ntmps73
      go_wp2_with (fail)
      refine (within_any _ 1 1 [K] 1 4 _ (inS_lit1 K (by first | (simp; done) | (simp; omega) | omega) (by first | (simp; done) | (simp; omega) | omega)) (by omega)).mono ?_
      rw [H1.out]
      rintro e W1 ⟨rfl, hb⟩
      have hst : Below W0.heap.size W0 W1 := Below.trans (by repeat' (first | with_reducible assumption | with_reducible exact Below.refl _ _ | refine Below.alloc ?_ ?_ _ | refine Below.setCell ?_ ?_ _ | refine Below.drew ?_ | refine below_drewN ?_ _ | (simp; done) | (simp; omega) | omega)) (hb.mono (by first | (simp; done) | (simp; omega) | omega))
      replace hbel := hbel.trans (hst.mono hsz)
      replace hsz := hbel.size
      clear hb hst
      obtain ⟨W0, rfl⟩ : ∃ W0 : World, W0 = W1 := ⟨_, rfl⟩
      go_wp2_with (fail)
      refine (within_any _ 1 1 [t] 1 12 _ (inS_lit1 t (by first | (simp; done) | (simp; omega) | omega) (by first | (simp; done) | (simp; omega) | omega)) (by omega)).mono ?_
      rw [H2.out]
      rintro e W1 ⟨rfl, hb⟩
      have hst : Below W0.heap.size W0 W1 := Below.trans (by repeat' (first | with_reducible assumption | with_reducible exact Below.refl _ _ | refine Below.alloc ?_ ?_ _ | refine Below.setCell ?_ ?_ _ | refine Below.drew ?_ | refine below_drewN ?_ _ | (simp; done) | (simp; omega) | omega)) (hb.mono (by first | (simp; done) | (simp; omega) | omega))
      replace hbel := hbel.trans (hst.mono hsz)
      replace hsz := hbel.size
      clear hb hst
      obtain ⟨W0, rfl⟩ : ∃ W0 : World, W0 = W1 := ⟨_, rfl⟩
      go_wp2
      refine bodyPost_ret (v := .int .i64 0) (by first | (simp [results, Try.results73, go_sem]; done) | (simp [results, Try.results73, go_sem, *]; done) | (simp [results, Try.results73, go_sem, World.cell?_setCell_same', *]; done) | (simp [results, Try.results73, go_sem]; first | exact ⟨rfl, rfl⟩ | rfl)) rfl ⟨by rw [hf.out], hbel⟩
/-- How many classes there are; how many that repeat nothing. -/
def countV (K t : Int) : Int := if cntE K t = 0 then cntT K.toNat t.toNat (t.toNat + 1) else 0
def singV (K t : Int) : Int := if cntE K t = 0 then so K.toNat t.toNat else 0
def sumT (K t : Nat) : Nat → Int
  | 0 => 0
  | d + 1 => sumT K t d + (K : Int) ^ Nat.gcd d t
def sngT (K t : Nat) : Nat → Int
  | 0 => 0
  | d + 1 => if d ≠ 0 ∧ t % d = 0 then sngT K t d + sg (t / d) * (K : Int) ^ d else sngT K t d
theorem cnt_facts : ∀ (K : Fin 5) (t : Fin 13), (1 ≤ t.1 → 1 ≤ K.1 → Int.tdiv (sumT K.1 t.1 t.1) t.1 = cntT K.1 t.1 (t.1 + 1) ∧ Int.tdiv (sngT K.1 t.1 (t.1 + 1)) t.1 = so K.1 t.1) ∧ 0 ≤ cntT K.1 t.1 (t.1 + 1) ∧ cntT K.1 t.1 (t.1 + 1) ≤ 20000000 ∧ -1 ≤ sg t.1 ∧ sg t.1 ≤ 1 ∧ ∀ d : Fin 14, 1 ≤ t.1 → 1 ≤ K.1 → 0 ≤ sumT K.1 t.1 d.1 ∧ sumT K.1 t.1 d.1 ≤ 300000000 ∧ -300000000 ≤ sngT K.1 t.1 d.1 ∧ sngT K.1 t.1 d.1 ≤ 300000000 := by decide +kernel
set_option maxRecDepth 10000 in
set_option maxHeartbeats 4000000 in
theorem refCount_any (K t : Int) (w : World) : Calls Try.prog 37 #[.int .i64 K, .int .i64 t] w fun e w' => e = .returned (.tuple #[.int .i64 (countV K t), .int .i64 (cntE K t)]) ∧ Below w.heap.size w w' := by
  obtain ⟨W0, hW0⟩ : ∃ W0 : World, W0 = w := ⟨_, rfl⟩
  rw [← hW0]
  clear hW0
  have hbel : Below W0.heap.size W0 W0 := Below.refl _ _
  have hsz := hbel.size
  by_cases hok : cntE K t ≠ 0
  · obtain ⟨E, hE⟩ : ∃ E, cntE K t = E := ⟨_, rfl⟩
    have HE := hid hE
    have hv : Hid (countV K t = 0) := hid (if_neg hok)
    rw [hE] at hok
    have hb1 : (E == 0) = false := by simpa using hok
    have hb2 : (E != 0) = true := by simpa using hok
    clear hE
    go_enter Try.func37, Try.ntmps37
    go_wp2_with (fail)
    refine (refCounted_any K t _).mono ?_
    rw [HE.out]
    rintro e W1 ⟨rfl, hb⟩
    have hst : Below W0.heap.size W0 W1 := Below.trans (by repeat' (first | with_reducible assumption | with_reducible exact Below.refl _ _ | refine Below.alloc ?_ ?_ _ | refine Below.setCell ?_ ?_ _ | refine Below.drew ?_ | refine below_drewN ?_ _ | (simp; done) | (simp; omega) | omega)) (hb.mono (by first | (simp; done) | (simp; omega) | omega))
    replace hbel := hbel.trans (hst.mono hsz)
    replace hsz := hbel.size
    clear hb hst
    obtain ⟨W0, rfl⟩ : ∃ W0 : World, W0 = W1 := ⟨_, rfl⟩
    go_wp2_with (fail)
    refine (refCounted_any K t _).mono ?_
    rw [HE.out]
    rintro e W1 ⟨rfl, hb⟩
    have hst : Below W0.heap.size W0 W1 := Below.trans (by repeat' (first | with_reducible assumption | with_reducible exact Below.refl _ _ | refine Below.alloc ?_ ?_ _ | refine Below.setCell ?_ ?_ _ | refine Below.drew ?_ | refine below_drewN ?_ _ | (simp; done) | (simp; omega) | omega)) (hb.mono (by first | (simp; done) | (simp; omega) | omega))
    replace hbel := hbel.trans (hst.mono hsz)
    replace hsz := hbel.size
    clear hb hst
    obtain ⟨W0, rfl⟩ : ∃ W0 : World, W0 = W1 := ⟨_, rfl⟩
    go_wp2
    refine bodyPost_ret (v := .tuple #[.int .i64 0, .int .i64 E]) (by first | (simp [results, Try.results37, go_sem]; done) | (simp [results, Try.results37, go_sem, *]; done) | (simp [results, Try.results37, go_sem, World.cell?_setCell_same', *]; done) | (simp [results, Try.results37, go_sem]; first | exact ⟨rfl, rfl⟩ | rfl)) rfl ⟨by rw [hv.out, HE.out], hbel⟩
  · have hok' : cntE K t = 0 := by omega
    have HE := hid hok'
    have hr := cntE_ok hok'
    obtain ⟨k, rfl⟩ : ∃ k : Nat, K = k := ⟨K.toNat, by omega⟩
    obtain ⟨n, rfl⟩ : ∃ n : Nat, t = n := ⟨t.toNat, by omega⟩
    have hk1 : 1 ≤ k := by omega
    have hk4 : k ≤ 4 := by omega
    have hn1 : 1 ≤ n := by omega
    have hn12 : n ≤ 12 := by omega
    obtain ⟨q1, q2, q3, -, -, q4⟩ := cnt_facts ⟨k, by omega⟩ ⟨n, by omega⟩
    simp only at q1 q2 q3 q4
    have Q1 := hid (q1 hn1 hk1)
    have Q4 := hid q4
    have hn1i : (1 : Int) ≤ n := by omega
    have hn12i : (n : Int) ≤ 12 := by omega
    have hk1i : (1 : Int) ≤ k := by omega
    have hk4i : (k : Int) ≤ 4 := by omega
    have hn0 : ¬ (n : Int) = 0 := by omega
    clear hok q1 q4
    have hv : Hid (countV (k : Int) (n : Int) = cntT k n (n + 1)) := hid (if_pos hok')
    clear hok' hr
    go_enter Try.func37, Try.ntmps37
    go_wp2_with (fail)
    refine (refCounted_any (k : Int) (n : Int) _).mono ?_
    rw [HE.out]
    rintro e W1 ⟨rfl, hb⟩
    have hst : Below W0.heap.size W0 W1 := Below.trans (by repeat' (first | with_reducible assumption | with_reducible exact Below.refl _ _ | refine Below.alloc ?_ ?_ _ | refine Below.setCell ?_ ?_ _ | refine Below.drew ?_ | refine below_drewN ?_ _ | (simp; done) | (simp; omega) | omega)) (hb.mono (by first | (simp; done) | (simp; omega) | omega))
    replace hbel := hbel.trans (hst.mono hsz)
    replace hsz := hbel.size
    clear hb hst
    obtain ⟨W0, rfl⟩ : ∃ W0 : World, W0 = W1 := ⟨_, rfl⟩
    go_wp2_with (fail)
    refine (countOf_any k hk1 hk4 n _ hn1 hn12).mono ?_
    rintro e W1 ⟨rfl, hb⟩
    have hst : Below W0.heap.size W0 W1 := Below.trans (by repeat' (first | with_reducible assumption | with_reducible exact Below.refl _ _ | refine Below.alloc ?_ ?_ _ | refine Below.setCell ?_ ?_ _ | refine Below.drew ?_ | refine below_drewN ?_ _ | (simp; done) | (simp; omega) | omega)) (hb.mono (by first | (simp; done) | (simp; omega) | omega))
    replace hbel := hbel.trans (hst.mono hsz)
    replace hsz := hbel.size
    clear hb hst
    obtain ⟨W0, rfl⟩ : ∃ W0 : World, W0 = W1 := ⟨_, rfl⟩
    go_wp2
    refine bodyPost_ret (v := .tuple #[.int .i64 (cntT k n (n + 1)), .int .i64 0]) (by first | (simp [results, Try.results37, go_sem]; done) | (simp [results, Try.results37, go_sem, *]; done) | (simp [results, Try.results37, go_sem, World.cell?_setCell_same', *]; done) | (simp [results, Try.results37, go_sem]; first | exact ⟨rfl, rfl⟩ | rfl)) rfl ⟨by rw [hv.out, HE.out], hbel⟩
set_option maxRecDepth 10000 in
set_option maxHeartbeats 4000000 in
theorem refSingle_any (K t : Int) (w : World) : Calls Try.prog 39 #[.int .i64 K, .int .i64 t] w fun e w' => e = .returned (.tuple #[.int .i64 (singV K t), .int .i64 (cntE K t)]) ∧ Below w.heap.size w w' := by
  obtain ⟨W0, hW0⟩ : ∃ W0 : World, W0 = w := ⟨_, rfl⟩
  rw [← hW0]
  clear hW0
  have hbel : Below W0.heap.size W0 W0 := Below.refl _ _
  have hsz := hbel.size
  by_cases hok : cntE K t ≠ 0
  · obtain ⟨E, hE⟩ : ∃ E, cntE K t = E := ⟨_, rfl⟩
    have HE := hid hE
    have hv : Hid (singV K t = 0) := hid (if_neg hok)
    rw [hE] at hok
    have hb1 : (E == 0) = false := by simpa using hok
    have hb2 : (E != 0) = true := by simpa using hok
    clear hE
    go_enter Try.func39, Try.ntmps39
    go_wp2_with (fail)
    refine (refCounted_any K t _).mono ?_
    rw [HE.out]
    rintro e W1 ⟨rfl, hb⟩
    have hst : Below W0.heap.size W0 W1 := Below.trans (by repeat' (first | with_reducible assumption | with_reducible exact Below.refl _ _ | refine Below.alloc ?_ ?_ _ | refine Below.setCell ?_ ?_ _ | refine Below.drew ?_ | refine below_drewN ?_ _ | (simp; done) | (simp; omega) | omega)) (hb.mono (by first | (simp; done) | (simp; omega) | omega))
    replace hbel := hbel.trans (hst.mono hsz)
    replace hsz := hbel.size
    clear hb hst
    obtain ⟨W0, rfl⟩ : ∃ W0 : World, W0 = W1 := ⟨_, rfl⟩
    go_wp2_with (fail)
    refine (refCounted_any K t _).mono ?_
    rw [HE.out]
    rintro e W1 ⟨rfl, hb⟩
    have hst : Below W0.heap.size W0 W1 := Below.trans (by repeat' (first | with_reducible assumption | with_reducible exact Below.refl _ _ | refine Below.alloc ?_ ?_ _ | refine Below.setCell ?_ ?_ _ | refine Below.drew ?_ | refine below_drewN ?_ _ | (simp; done) | (simp; omega) | omega)) (hb.mono (by first | (simp; done) | (simp; omega) | omega))
    replace hbel := hbel.trans (hst.mono hsz)
    replace hsz := hbel.size
    clear hb hst
    obtain ⟨W0, rfl⟩ : ∃ W0 : World, W0 = W1 := ⟨_, rfl⟩
    go_wp2
    refine bodyPost_ret (v := .tuple #[.int .i64 0, .int .i64 E]) (by first | (simp [results, Try.results39, go_sem]; done) | (simp [results, Try.results39, go_sem, *]; done) | (simp [results, Try.results39, go_sem, World.cell?_setCell_same', *]; done) | (simp [results, Try.results39, go_sem]; first | exact ⟨rfl, rfl⟩ | rfl)) rfl ⟨by rw [hv.out, HE.out], hbel⟩
  · have hok' : cntE K t = 0 := by omega
    have HE := hid hok'
    have hr := cntE_ok hok'
    obtain ⟨k, rfl⟩ : ∃ k : Nat, K = k := ⟨K.toNat, by omega⟩
    obtain ⟨n, rfl⟩ : ∃ n : Nat, t = n := ⟨t.toNat, by omega⟩
    have hk1 : 1 ≤ k := by omega
    have hk4 : k ≤ 4 := by omega
    have hn1 : 1 ≤ n := by omega
    have hn12 : n ≤ 12 := by omega
    obtain ⟨q1, q2, q3, -, -, q4⟩ := cnt_facts ⟨k, by omega⟩ ⟨n, by omega⟩
    simp only at q1 q2 q3 q4
    have Q1 := hid (q1 hn1 hk1)
    have Q4 := hid q4
    have hn1i : (1 : Int) ≤ n := by omega
    have hn12i : (n : Int) ≤ 12 := by omega
    have hk1i : (1 : Int) ≤ k := by omega
    have hk4i : (k : Int) ≤ 4 := by omega
    have hn0 : ¬ (n : Int) = 0 := by omega
    clear hok q1 q4
    have hv : Hid (singV (k : Int) (n : Int) = so k n) := hid (if_pos hok')
    clear hok' hr
    go_enter Try.func39, Try.ntmps39
    go_wp2_with (fail)
    refine (refCounted_any (k : Int) (n : Int) _).mono ?_
    rw [HE.out]
    rintro e W1 ⟨rfl, hb⟩
    have hst : Below W0.heap.size W0 W1 := Below.trans (by repeat' (first | with_reducible assumption | with_reducible exact Below.refl _ _ | refine Below.alloc ?_ ?_ _ | refine Below.setCell ?_ ?_ _ | refine Below.drew ?_ | refine below_drewN ?_ _ | (simp; done) | (simp; omega) | omega)) (hb.mono (by first | (simp; done) | (simp; omega) | omega))
    replace hbel := hbel.trans (hst.mono hsz)
    replace hsz := hbel.size
    clear hb hst
    obtain ⟨W0, rfl⟩ : ∃ W0 : World, W0 = W1 := ⟨_, rfl⟩
    go_wp2_with (fail)
    refine (singleOf_any k hk1 hk4 n _ hn1 hn12).mono ?_
    rintro e W1 ⟨rfl, hb⟩
    have hst : Below W0.heap.size W0 W1 := Below.trans (by repeat' (first | with_reducible assumption | with_reducible exact Below.refl _ _ | refine Below.alloc ?_ ?_ _ | refine Below.setCell ?_ ?_ _ | refine Below.drew ?_ | refine below_drewN ?_ _ | (simp; done) | (simp; omega) | omega)) (hb.mono (by first | (simp; done) | (simp; omega) | omega))
    replace hbel := hbel.trans (hst.mono hsz)
    replace hsz := hbel.size
    clear hb hst
    obtain ⟨W0, rfl⟩ : ∃ W0 : World, W0 = W1 := ⟨_, rfl⟩
    go_wp2
    refine bodyPost_ret (v := .tuple #[.int .i64 (so k n), .int .i64 0]) (by first | (simp [results, Try.results39, go_sem]; done) | (simp [results, Try.results39, go_sem, *]; done) | (simp [results, Try.results39, go_sem, World.cell?_setCell_same', *]; done) | (simp [results, Try.results39, go_sem]; first | exact ⟨rfl, rfl⟩ | rfl)) rfl ⟨by rw [hv.out, HE.out], hbel⟩
set_option maxRecDepth 10000 in
set_option maxHeartbeats 4000000 in
theorem count_any (K t : Int) (w : World) : Calls Try.prog 36 #[.int .i64 K, .int .i64 t] w fun e w' => e = .returned (.tuple #[.int .i64 (countV K t), .int .i64 (cntE K t)]) ∧ Below w.heap.size w w' := by
  obtain ⟨W0, hW0⟩ : ∃ W0 : World, W0 = w := ⟨_, rfl⟩
  rw [← hW0]
  clear hW0
  have hbel : Below W0.heap.size W0 W0 := Below.refl _ _
  have hsz := hbel.size
  by_cases hok : cntE K t ≠ 0
  · obtain ⟨E, hE⟩ : ∃ E, cntE K t = E := ⟨_, rfl⟩
    have HE := hid hE
    have hv : Hid (countV K t = 0) := hid (if_neg hok)
    rw [hE] at hok
    have hb1 : (E == 0) = false := by simpa using hok
    have hb2 : (E != 0) = true := by simpa using hok
    clear hE
    go_enter Try.func36, Try.ntmps36
    go_wp2_with (fail)
    refine (counted_any K t _).mono ?_
    rw [HE.out]
    rintro e W1 ⟨rfl, hb⟩
    have hst : Below W0.heap.size W0 W1 := Below.trans (by repeat' (first | with_reducible assumption | with_reducible exact Below.refl _ _ | refine Below.alloc ?_ ?_ _ | refine Below.setCell ?_ ?_ _ | refine Below.drew ?_ | refine below_drewN ?_ _ | (simp; done) | (simp; omega) | omega)) (hb.mono (by first | (simp; done) | (simp; omega) | omega))
    replace hbel := hbel.trans (hst.mono hsz)
    replace hsz := hbel.size
    clear hb hst
    obtain ⟨W0, rfl⟩ : ∃ W0 : World, W0 = W1 := ⟨_, rfl⟩
    go_wp2
    refine bodyPost_ret (v := .tuple #[.int .i64 0, .int .i64 E]) (by first | (simp [results, Try.results36, go_sem]; done) | (simp [results, Try.results36, go_sem, *]; done) | (simp [results, Try.results36, go_sem, World.cell?_setCell_same', *]; done) | (simp [results, Try.results36, go_sem]; first | exact ⟨rfl, rfl⟩ | rfl)) rfl ⟨by rw [hv.out, HE.out], hbel⟩
  · have hok' : cntE K t = 0 := by omega
    have HE := hid hok'
    have hr := cntE_ok hok'
    obtain ⟨k, rfl⟩ : ∃ k : Nat, K = k := ⟨K.toNat, by omega⟩
    obtain ⟨n, rfl⟩ : ∃ n : Nat, t = n := ⟨t.toNat, by omega⟩
    have hk1 : 1 ≤ k := by omega
    have hk4 : k ≤ 4 := by omega
    have hn1 : 1 ≤ n := by omega
    have hn12 : n ≤ 12 := by omega
    obtain ⟨q1, q2, q3, -, -, q4⟩ := cnt_facts ⟨k, by omega⟩ ⟨n, by omega⟩
    simp only at q1 q2 q3 q4
    have Q1 := hid (q1 hn1 hk1)
    have Q4 := hid q4
    have hn1i : (1 : Int) ≤ n := by omega
    have hn12i : (n : Int) ≤ 12 := by omega
    have hk1i : (1 : Int) ≤ k := by omega
    have hk4i : (k : Int) ≤ 4 := by omega
    have hn0 : ¬ (n : Int) = 0 := by omega
    clear hok q1 q4
    have hv : Hid (countV (k : Int) (n : Int) = cntT k n (n + 1)) := hid (if_pos hok')
    clear hok' hr
    go_enter Try.func36, Try.ntmps36
    go_wp2_with (fail)
    refine (counted_any (k : Int) (n : Int) _).mono ?_
    rw [HE.out]
    rintro e W1 ⟨rfl, hb⟩
    have hst : Below W0.heap.size W0 W1 := Below.trans (by repeat' (first | with_reducible assumption | with_reducible exact Below.refl _ _ | refine Below.alloc ?_ ?_ _ | refine Below.setCell ?_ ?_ _ | refine Below.drew ?_ | refine below_drewN ?_ _ | (simp; done) | (simp; omega) | omega)) (hb.mono (by first | (simp; done) | (simp; omega) | omega))
    replace hbel := hbel.trans (hst.mono hsz)
    replace hsz := hbel.size
    clear hb hst
    obtain ⟨W0, rfl⟩ : ∃ W0 : World, W0 = W1 := ⟨_, rfl⟩
    go_wp2_with (fail)
    go_loopw [7, 16] (fun r i wr => ∃ d : Nat, d ≤ n ∧ i = .int .i64 (d : Int) ∧ r = .int .i64 (sumT k n d) ∧ Below W0.heap.size W0 wr) (fun _ i _ => n - (intOf i).toNat)
    case atStart => exact ⟨0, by omega, rfl, rfl, Below.refl _ _⟩
    case round =>
      obtain ⟨d, hd2, rfl, rfl, hbw⟩ := hrel
      have hszw := hbw.size
      obtain ⟨g1, g2, -, -⟩ := Q4.out ⟨d, by omega⟩ hn1 hk1
      simp only at g1 g2
      obtain ⟨s, hs⟩ : ∃ s, sumT k n d = s := ⟨_, rfl⟩
      have HS := hid hs
      rw [hs] at g1 g2 ⊢
      clear hs
      by_cases hlt : d < n
      · have hlti : (d : Int) < n := by omega
        obtain ⟨g, hg⟩ : ∃ g, Nat.gcd d n = g := ⟨_, rfl⟩
        have hgn : g ≤ n := by rw [← hg]; exact Nat.le_of_dvd (by omega) (Nat.gcd_dvd_right d n)
        have HC := hid (fun v => common_any d n v (by omega) (by omega))
        rw [hg] at HC
        have hs2 : Hid (sumT k n (d + 1) = s + (k : Int) ^ g) := hid (by rw [sumT, HS.out, hg])
        have HP := hid (fun v => power_any (k : Int) g v hk1i hk4i (by omega))
        have hb := pow_bd (k := g) hk1i hk4i (by omega)
        obtain ⟨p, hp⟩ : ∃ p, (k : Int) ^ g = p := ⟨_, rfl⟩
        rw [hp] at hb hs2 HP
        clear hp hg
        go_wp2_with (first | (go_at_call 74; refine (HP.out _).mono ?_; rintro e W2 ⟨rfl, hb2⟩) | (go_at_call 75; refine (HC.out _).mono ?_; rintro e W3 ⟨rfl, hb3⟩))
        exact ⟨⟨d + 1, by omega, by go_num, by rw [hs2.out], hbw.trans ((hb3.mono hszw).trans (hb2.mono (Nat.le_trans hszw hb3.size)))⟩, by simp [intOf]; omega⟩
      · obtain rfl : d = n := by omega
        have hf := Q1.out.1
        rw [HS.out] at hf
        obtain ⟨x, hx⟩ : ∃ x, cntT k d (d + 1) = x := ⟨_, rfl⟩
        rw [hx] at hf q2 q3 hv
        clear hx
        go_wp2
        refine bodyPost_ret (v := .tuple #[.int .i64 x, .int .i64 0]) (by first | (simp [results, Try.results36, go_sem]; done) | (simp [results, Try.results36, go_sem, *]; done) | (simp [results, Try.results36, go_sem, World.cell?_setCell_same', *]; done) | (simp [results, Try.results36, go_sem]; first | exact ⟨rfl, rfl⟩ | rfl)) rfl ⟨by rw [hv.out, HE.out], hbel.trans (hbw.mono hsz)⟩
set_option maxRecDepth 10000 in
set_option maxHeartbeats 4000000 in
theorem single_any (K t : Int) (w : World) : Calls Try.prog 38 #[.int .i64 K, .int .i64 t] w fun e w' => e = .returned (.tuple #[.int .i64 (singV K t), .int .i64 (cntE K t)]) ∧ Below w.heap.size w w' := by
  obtain ⟨W0, hW0⟩ : ∃ W0 : World, W0 = w := ⟨_, rfl⟩
  rw [← hW0]
  clear hW0
  have hbel : Below W0.heap.size W0 W0 := Below.refl _ _
  have hsz := hbel.size
  by_cases hok : cntE K t ≠ 0
  · obtain ⟨E, hE⟩ : ∃ E, cntE K t = E := ⟨_, rfl⟩
    have HE := hid hE
    have hv : Hid (singV K t = 0) := hid (if_neg hok)
    rw [hE] at hok
    have hb1 : (E == 0) = false := by simpa using hok
    have hb2 : (E != 0) = true := by simpa using hok
    clear hE
    go_enter Try.func38, Try.ntmps38
    go_wp2_with (fail)
    refine (counted_any K t _).mono ?_
    rw [HE.out]
    rintro e W1 ⟨rfl, hb⟩
    have hst : Below W0.heap.size W0 W1 := Below.trans (by repeat' (first | with_reducible assumption | with_reducible exact Below.refl _ _ | refine Below.alloc ?_ ?_ _ | refine Below.setCell ?_ ?_ _ | refine Below.drew ?_ | refine below_drewN ?_ _ | (simp; done) | (simp; omega) | omega)) (hb.mono (by first | (simp; done) | (simp; omega) | omega))
    replace hbel := hbel.trans (hst.mono hsz)
    replace hsz := hbel.size
    clear hb hst
    obtain ⟨W0, rfl⟩ : ∃ W0 : World, W0 = W1 := ⟨_, rfl⟩
    go_wp2
    refine bodyPost_ret (v := .tuple #[.int .i64 0, .int .i64 E]) (by first | (simp [results, Try.results38, go_sem]; done) | (simp [results, Try.results38, go_sem, *]; done) | (simp [results, Try.results38, go_sem, World.cell?_setCell_same', *]; done) | (simp [results, Try.results38, go_sem]; first | exact ⟨rfl, rfl⟩ | rfl)) rfl ⟨by rw [hv.out, HE.out], hbel⟩
  · have hok' : cntE K t = 0 := by omega
    have HE := hid hok'
    have hr := cntE_ok hok'
    obtain ⟨k, rfl⟩ : ∃ k : Nat, K = k := ⟨K.toNat, by omega⟩
    obtain ⟨n, rfl⟩ : ∃ n : Nat, t = n := ⟨t.toNat, by omega⟩
    have hk1 : 1 ≤ k := by omega
    have hk4 : k ≤ 4 := by omega
    have hn1 : 1 ≤ n := by omega
    have hn12 : n ≤ 12 := by omega
    obtain ⟨q1, q2, q3, -, -, q4⟩ := cnt_facts ⟨k, by omega⟩ ⟨n, by omega⟩
    simp only at q1 q2 q3 q4
    have Q1 := hid (q1 hn1 hk1)
    have Q4 := hid q4
    have hn1i : (1 : Int) ≤ n := by omega
    have hn12i : (n : Int) ≤ 12 := by omega
    have hk1i : (1 : Int) ≤ k := by omega
    have hk4i : (k : Int) ≤ 4 := by omega
    have hn0 : ¬ (n : Int) = 0 := by omega
    clear hok q1 q4
    have hv : Hid (singV (k : Int) (n : Int) = so k n) := hid (if_pos hok')
    clear hok' hr
    go_enter Try.func38, Try.ntmps38
    go_wp2_with (fail)
    refine (counted_any (k : Int) (n : Int) _).mono ?_
    rw [HE.out]
    rintro e W1 ⟨rfl, hb⟩
    have hst : Below W0.heap.size W0 W1 := Below.trans (by repeat' (first | with_reducible assumption | with_reducible exact Below.refl _ _ | refine Below.alloc ?_ ?_ _ | refine Below.setCell ?_ ?_ _ | refine Below.drew ?_ | refine below_drewN ?_ _ | (simp; done) | (simp; omega) | omega)) (hb.mono (by first | (simp; done) | (simp; omega) | omega))
    replace hbel := hbel.trans (hst.mono hsz)
    replace hsz := hbel.size
    clear hb hst
    obtain ⟨W0, rfl⟩ : ∃ W0 : World, W0 = W1 := ⟨_, rfl⟩
    go_wp2_with (fail)
    go_loopw [7, 8] (fun r i wr => ∃ d : Nat, 1 ≤ d ∧ d ≤ n + 1 ∧ i = .int .i64 (d : Int) ∧ r = .int .i64 (sngT k n d) ∧ Below W0.heap.size W0 wr) (fun _ i _ => n + 1 - (intOf i).toNat)
    case atStart => exact ⟨1, by omega, by omega, rfl, by simp [sngT], Below.refl _ _⟩
    case round =>
      obtain ⟨d, hd1, hd2, rfl, rfl, hbw⟩ := hrel
      have hszw := hbw.size
      obtain ⟨-, -, g1, g2⟩ := Q4.out ⟨d, by omega⟩ hn1 hk1
      simp only at g1 g2
      obtain ⟨s, hs⟩ : ∃ s, sngT k n d = s := ⟨_, rfl⟩
      have HS := hid hs
      rw [hs] at g1 g2 ⊢
      clear hs
      by_cases hlt : d ≤ n
      · have hlti : (d : Int) ≤ n := by omega
        obtain ⟨r, hr⟩ : ∃ r, n % d = r := ⟨_, rfl⟩
        have z1 : Int.tmod (n : Int) (d : Int) = (r : Int) := by rw [← hr]; exact (Int.ofNat_tmod n d).symm
        have hd0 : ¬ (d : Int) = 0 := by omega
        by_cases h0 : r = 0
        · subst h0
          obtain ⟨m, hm⟩ : ∃ m, n / d = m := ⟨_, rfl⟩
          have z2 : Int.tdiv (n : Int) (d : Int) = (m : Int) := by rw [← hm]; exact (Int.ofNat_tdiv n d).symm
          have hm1 : 1 ≤ m := by rw [← hm]; exact Nat.div_pos hlt hd1
          have hm2 : m ≤ 12 := by rw [← hm]; exact Nat.le_trans (Nat.div_le_self n d) hn12
          have hs2 : Hid (sngT k n (d + 1) = s + sg m * (k : Int) ^ d) := hid (by rw [sngT, if_pos ⟨by omega, hr⟩, HS.out, hm])
          obtain ⟨-, -, -, e1, e2, -⟩ := cnt_facts ⟨k, by omega⟩ ⟨m, by omega⟩
          simp only at e1 e2
          have HG := hid (fun v => sign_any m v hm1 hm2)
          have HP := hid (fun v => power_any (k : Int) d v hk1i hk4i (by omega))
          have hb := pow_bd (k := d) hk1i hk4i (by omega)
          obtain ⟨p, hp⟩ : ∃ p, (k : Int) ^ d = p := ⟨_, rfl⟩
          obtain ⟨σ, hσ⟩ : ∃ σ, sg m = σ := ⟨_, rfl⟩
          rw [hp] at hb hs2 HP
          rw [hσ] at e1 e2 hs2 HG
          obtain ⟨y, hy⟩ : ∃ y, σ * p = y := ⟨_, rfl⟩
          have hyb : -16777216 ≤ y ∧ y ≤ 16777216 := by
            have h3 : σ = -1 ∨ σ = 0 ∨ σ = 1 := by omega
            rcases h3 with rfl | rfl | rfl <;> omega
          rw [hy] at hs2
          clear hp hσ hm hr
          go_wp2_with (first | (go_at_call 74; refine (HP.out _).mono ?_; rintro e W2 ⟨rfl, hb2⟩) | (go_at_call 78; refine (HG.out _).mono ?_; rintro e W3 ⟨rfl, hb3⟩))
          exact ⟨⟨d + 1, by omega, by omega, by go_num, by rw [hs2.out], hbw.trans ((hb3.mono hszw).trans (hb2.mono (Nat.le_trans hszw hb3.size)))⟩, by simp [intOf]; omega⟩
        · have hs2 : Hid (sngT k n (d + 1) = s) := hid (by rw [sngT, if_neg (by rintro ⟨-, h⟩; omega), HS.out])
          have t1 : ((r : Int) == 0) = false := by simp; omega
          have hr0 : ¬ (r : Int) = 0 := by omega
          clear hr
          go_wp2
          exact ⟨⟨d + 1, by omega, by omega, by go_num, by rw [hs2.out], hbw⟩, by simp [intOf]; omega⟩
      · obtain rfl : d = n + 1 := by omega
        have hlti2 : ¬ ((n + 1 : Nat) : Int) ≤ n := by omega
        have hlti : ¬ ((n : Int) + 1) ≤ n := by omega
        have hf := Q1.out.2
        rw [HS.out] at hf
        obtain ⟨-, e2, e3, -, -⟩ := so_facts ⟨k, by omega⟩ ⟨n, by omega⟩
        simp only at e2 e3
        obtain ⟨x, hx⟩ : ∃ x, so k n = x := ⟨_, rfl⟩
        rw [hx] at hf e2 e3 hv
        clear hx
        go_wp2
        refine bodyPost_ret (v := .tuple #[.int .i64 x, .int .i64 0]) (by first | (simp [results, Try.results38, go_sem]; done) | (simp [results, Try.results38, go_sem, *]; done) | (simp [results, Try.results38, go_sem, World.cell?_setCell_same', *]; done) | (simp [results, Try.results38, go_sem]; first | exact ⟨rfl, rfl⟩ | rfl)) rfl ⟨by rw [hv.out, HE.out], hbel.trans (hbw.mono hsz)⟩
end Go.Proofs.Ytiobmfggnacplaa
/- Walks: a word (reference); a count's question. -/
namespace Go.Proofs.Ytiobmfggnacplaa
open Go.RowKit
attribute [local go_sem] Oper.semAt_some
theorem isW_no {l : List Int} {k : Nat} (h0 : 0 < k) (hk : k < l.length) (h : bef l (rot l k) = false) : isW l = false := by
  cases hw : isW l
  · rfl
  · rw [(isW_t.1 hw).2 k h0 hk] at h; cases h
theorem isW_yes {l : List Int} (h0 : 0 < l.length) (h : ∀ k, 0 < k → k < l.length → bef l (rot l k) = true) : isW l = true :=
  isW_t.2 ⟨fun e => by rw [e] at h0; simp at h0, h⟩
set_option maxRecDepth 10000 in
set_option maxHeartbeats 4000000 in
theorem isWord_any (A : Option Addr) (n c : Nat) (l : List Int) (w : World) (hl : InS w w.heap.size A n l) (hn : n ≤ 1000) :
    Calls Try.prog 72 #[.slice A n c] w fun e w' => e = .returned (.bool (isW l)) ∧ Below w.heap.size w w' := by
  have HL := hid hl
  have hlen := hid hl.len
  clear hl
  by_cases h0 : n = 0
  · subst h0
    have hf : Hid (isW l = false) := hid (by unfold isW; rw [hlen.out]; rfl)
    go_enter Try.func72, Try.ntmps72
    go_wp2
    go_loopw [3] (fun i wr => i = .int .i64 1 ∧ Below w.heap.size w wr) (fun i _ => 0)
    case atStart => exact ⟨rfl, Below.refl _ _⟩
    case round =>
      obtain ⟨rfl, hbw⟩ := hrel
      go_wp2
      refine bodyPost_ret (v := .bool false) (by first | (simp [results, Try.results72, go_sem]; done) | (simp [results, Try.results72, go_sem, *]; done) | (simp [results, Try.results72, go_sem, World.cell?_setCell_same', *]; done) | (simp [results, Try.results72, go_sem]; first | exact ⟨rfl, rfl⟩ | rfl)) rfl ⟨by rw [hf.out], hbw⟩
  · have h1i : (0 : Int) < n := by omega
    go_enter Try.func72, Try.ntmps72
    go_wp2
    go_loopw [3] (fun i wr => ∃ k : Nat, 1 ≤ k ∧ k ≤ n ∧ i = .int .i64 k ∧ Below w.heap.size w wr ∧ Hid (∀ j, 0 < j → j < k → bef l (rot l j) = true)) (fun i _ => n - (intOf i).toNat)
    case atStart => exact ⟨1, by omega, by omega, rfl, Below.refl _ _, hid (fun j hj => by omega)⟩
    case round =>
      obtain ⟨k, hk1, hk, rfl, hbw, Hm⟩ := hrel
      have hszw := hbw.size
      have HLw := hid (HL.out.below hbw hszw)
      by_cases hlt : k < n
      · have hlti : (k : Int) < n := by omega
        go_wp2_with (fail)
        refine (turnOf_any A n c l k _ HLw.out (by omega) (by omega)).mono ?_
        rintro e W1 ⟨v1, rfl, ho1, hb1⟩
        obtain ⟨A1, c1, rfl, hs⟩ := sl_of_owns ho1
        have HT := hid (show InS W1 W1.heap.size A1 n (rot l k) from hs)
        have HL1 := hid (HLw.out.below hb1 hb1.size)
        have hbw1 := hbw.trans (hb1.mono hszw)
        have hsz1 := hbw1.size
        clear ho1 hs
        cases hbf : bef l (rot l k)
        · have Hbf := hid hbf
          have hf : Hid (isW l = false) := hid (isW_no (by omega) (by rw [hlen.out]; exact hlt) hbf)
          clear hbf
          go_wp2_with (go_at_call 50; refine (before_any _ A A1 n c n c1 l (rot l k) HL1.out HT.out (by omega) (by omega)).mono ?_; rw [Hbf.out]; rintro e W2 ⟨rfl, hb2⟩)
          refine bodyPost_ret (v := .bool false) (by first | (simp [results, Try.results72, go_sem]; done) | (simp [results, Try.results72, go_sem, *]; done) | (simp [results, Try.results72, go_sem, World.cell?_setCell_same', *]; done) | (simp [results, Try.results72, go_sem]; first | exact ⟨rfl, rfl⟩ | rfl)) rfl ⟨by rw [hf.out], hbw1.trans (hb2.mono hsz1)⟩
        · have Hbf := hid hbf
          have Hm2 : Hid (∀ j, 0 < j → j < k + 1 → bef l (rot l j) = true) := hid (fun j h2 h3 => by
            rcases Nat.lt_or_ge j k with h4 | h4
            · exact Hm.out j h2 h4
            · obtain rfl : j = k := by omega
              exact Hbf.out)
          clear hbf
          go_wp2_with (go_at_call 50; refine (before_any _ A A1 n c n c1 l (rot l k) HL1.out HT.out (by omega) (by omega)).mono ?_; rw [Hbf.out]; rintro e W2 ⟨rfl, hb2⟩)
          exact ⟨⟨k + 1, by omega, by omega, by go_num, hbw1.trans (hb2.mono hsz1), Hm2⟩, by simp [intOf]; omega⟩
      · obtain rfl : n = k := by omega
        have hf : Hid (isW l = true) := hid (isW_yes (by rw [hlen.out]; omega) (by rw [hlen.out]; exact Hm.out))
        go_wp2
        refine bodyPost_ret (v := .bool (decide (0 < n))) (by first | (simp [results, Try.results72, go_sem]; done) | (simp [results, Try.results72, go_sem, *]; done) | (simp [results, Try.results72, go_sem, World.cell?_setCell_same', *]; done) | (simp [results, Try.results72, go_sem]; first | exact ⟨rfl, rfl⟩ | rfl)) rfl ⟨by rw [hf.out, decide_eq_true (show 0 < n by omega)], hbw⟩
end Go.Proofs.Ytiobmfggnacplaa
/- Walks: the words of a row, of the reference. -/
namespace Go.Proofs.Ytiobmfggnacplaa
open Go.RowKit
attribute [local go_sem] Oper.semAt_some
theorem cI_map (l : List Int) : l.flatMap cI = l.map (fun x => (Value.int .i64 x)) := by
  induction l with
  | nil => rfl
  | cons a l ih => rw [List.flatMap_cons, List.map_cons, ih]; rfl
theorem ins_cut {w : World} {B b off n : Nat} {l : List Int} (h : InS w B (some ⟨b, off, none⟩) n l) {a k : Nat} (ha : a ≤ k) (hk : k ≤ n) : InS w B (some ⟨b, off + a, none⟩) (k - a) ((l.drop a).take (k - a)) := by
  have hl := h.len
  refine ⟨by rw [cI_map, List.length_map, List.length_take, List.length_drop, hl, Nat.mul_one]; omega, fun hn => ?_⟩
  obtain ⟨b', off', e, hb, hc⟩ := h.2 (by omega)
  cases e
  refine ⟨b, off + a, rfl, hb, fun j u hu => ?_⟩
  rw [Nat.add_assoc]
  refine hc _ u ?_
  rw [cI_map] at hu ⊢
  rw [List.map_take, List.map_drop, List.getElem?_take] at hu
  split at hu
  · rwa [List.getElem?_drop] at hu
  · cases hu
theorem lwTo_succ (l : List Int) (k : Nat) : lwTo l (k + 1) = if isW (l.take (k + 1)) then k + 1 else lwTo l k := rfl
theorem starts_step {l : List Int} {a f : Nat} (ha : a < l.length) : starts a (cutW (f + 1) (l.drop a)) = a :: starts (a + lw (l.drop a)) (cutW f (l.drop (a + lw (l.drop a)))) := by
  have h0 : l.drop a ≠ [] := fun e => by have := congrArg List.length e; simp at this; omega
  have h1 := lwTo_le h0 (l.drop a).length (Nat.le_refl _)
  rw [cutW, if_neg h0, starts, List.length_take, Nat.min_eq_left (by unfold lw; exact h1), List.drop_drop]
theorem starts_end {l : List Int} {a f : Nat} (ha : l.length ≤ a) : starts a (cutW f (l.drop a)) = [] := by
  rw [List.drop_eq_nil_of_le ha]
  cases f <;> simp [cutW, starts]
theorem take1 (l : List Nat) (x : Nat) : (l ++ [x]).flatMap (fun y : Nat => cI (y : Int)) = l.flatMap (fun y : Nat => cI (y : Int)) ++ [.int .i64 (x : Int)] := by rw [List.flatMap_append]; rfl
/-- The places where a row's words begin. -/
def cutsL (l : List Int) : List Nat := starts 0 (wordsL l)
set_option maxRecDepth 10000 in
set_option maxHeartbeats 4000000 in
theorem wordsOf_any (A : Option Addr) (n c : Nat) (l : List Int) (w : World) (hl : InS w w.heap.size A n l) (hn : n ≤ 100) (hc : n ≤ c) :
    Calls Try.prog 70 #[.slice A n c] w fun e w' => ∃ v, e = .returned v ∧ w'.ownsRow w.heap.size 3 1 v (cutsL l).length ((cutsL l).flatMap fun y : Nat => cI (y : Int)) ∧ Below w.heap.size w w' := by
  obtain ⟨i0, hi0, hi1, hi2, hi3⟩ := info_parts' info3
  have I0 := hid hi0; have I1 := hid hi1; have I2 := hid hi2; have I3 := hid hi3
  clear hi0 hi1 hi2 hi3
  have HL := hid hl
  have hlen := hid hl.len
  have hA : 0 < n → ∃ b off, A = some ⟨b, off, none⟩ := fun h => by obtain ⟨b, off, e, -⟩ := hl.2 h; exact ⟨b, off, e⟩
  have HA := hid hA
  clear hl hA
  go_enter Try.func70, Try.ntmps70
  go_wp2
  go_loopw [3, 4] (fun v i wr => ∃ (D : List Nat) (a f : Nat), a ≤ n ∧ i = .int .i64 (a : Int) ∧ D.length ≤ a ∧ Below w.heap.size w wr ∧ Hid (n ≤ a + f) ∧ Hid (cutsL l = D ++ starts a (cutW f (l.drop a))) ∧ Hid (wr.ownsRow w.heap.size 3 1 v D.length (D.flatMap fun y : Nat => cI (y : Int)))) (fun _ i _ => n - (intOf i).toNat)
  case atStart => exact ⟨[], 0, n, by omega, rfl, Nat.le_refl _, Below.refl _ _, hid (by omega), hid (by rw [List.drop_zero, List.nil_append]; unfold cutsL wordsL; rw [hlen.out]), hid (World.ownsRow_nil _ _ _ _)⟩
  case round =>
    obtain ⟨D, a, f, hk2, rfl, hDa, hbw, hf0, hcut, hown⟩ := hrel
    have hszw := hbw.size
    by_cases hlt : a < n
    · have hlti : (a : Int) < n := by omega
      obtain ⟨b, off, hAe⟩ := HA.out (by omega)
      subst hAe
      obtain ⟨L, hLL⟩ : ∃ L, lw (l.drop a) = L := ⟨_, rfl⟩
      have hlw : Hid (lwTo (l.drop a) (n - a) = L) := hid (by rw [← hLL]; unfold lw; rw [List.length_drop, hlen.out])
      have hL1 : 1 ≤ L := by rw [← hLL]; exact lwTo_pos _ _
      have hL2 : a + L ≤ n := by
        have h0 : l.drop a ≠ [] := fun e => by have := congrArg List.length e; rw [List.length_drop, hlen.out] at this; simp at this; omega
        have := lwTo_le h0 (l.drop a).length (Nat.le_refl _)
        rw [← hLL]; unfold lw; rw [List.length_drop, hlen.out] at this ⊢; omega
      have hnext : Hid (∃ f', n ≤ (a + L) + f' ∧ cutsL l = (D ++ [a]) ++ starts (a + L) (cutW f' (l.drop (a + L)))) := hid (by
        obtain ⟨f', rfl⟩ : ∃ f', f = f' + 1 := ⟨f - 1, by have := hf0.out; omega⟩
        refine ⟨f', by have := hf0.out; omega, ?_⟩
        rw [hcut.out, starts_step (by rw [hlen.out]; exact hlt), hLL, List.append_assoc]; rfl)
      clear hLL
      go_wp2_with (fail)
      go_loopw [5, 6] (fun e i w2 => ∃ k : Nat, a < k ∧ k ≤ n + 1 ∧ i = .int .i64 (k : Int) ∧ e = .int .i64 ((a + lwTo (l.drop a) (k - 1 - a) : Nat) : Int) ∧ Below w.heap.size w w2 ∧ Hid (w2.ownsRow w.heap.size 3 1 u3 D.length (D.flatMap fun y : Nat => cI (y : Int)))) (fun _ i _ => n + 1 - (intOf i).toNat)
      case atStart => exact ⟨a + 1, by omega, by omega, by go_num, by rw [show a + 1 - 1 - a = 0 by omega]; simp [lwTo], hbw, hown⟩
      case round =>
        obtain ⟨k, hk1, hk3, rfl, rfl, hb2w, hown2⟩ := hrel
        have hsz2 := hb2w.size
        by_cases hkn : k ≤ n
        · have hkni : (k : Int) ≤ n := by omega
          have hki1 : (a : Int) < k := by omega
          have hck : ¬ (c = a) := by omega
          have hca : (k : Int) ≤ c := by omega
          obtain ⟨j, hj⟩ : ∃ j, k - 1 - a = j := ⟨_, rfl⟩
          have hka : k - a = j + 1 := by omega
          have HS := hid (ins_cut (HL.out.below hb2w hsz2) (Nat.le_of_lt hk1) hkn)
          have hst : Hid (lwTo (l.drop a) (k + 1 - 1 - a) = if isW ((l.drop a).take (k - a)) then k - a else lwTo (l.drop a) j) := hid (by rw [show k + 1 - 1 - a = j + 1 by omega, lwTo_succ, hka])
          rw [hj]
          obtain ⟨e0, he0⟩ : ∃ e0, lwTo (l.drop a) j = e0 := ⟨_, rfl⟩
          rw [he0] at hst ⊢
          clear hj he0 hka
          cases hw : isW ((l.drop a).take (k - a))
          · have HW := hid hw
            rw [hw] at hst
            clear hw
            go_wp2_with (go_at_call 72; refine (isWord_any _ (k - a) (c - a) _ _ HS.out (by omega)).mono ?_; rw [HW.out]; rintro e W2 ⟨rfl, hb2⟩)
            exact ⟨⟨k + 1, by omega, by omega, by go_num, by rw [hst.out]; rfl, hb2w.trans (hb2.mono hsz2), hid (owns_below hown2.out hb2)⟩, by simp [intOf]; omega⟩
          · have HW := hid hw
            rw [hw] at hst
            clear hw
            go_wp2_with (go_at_call 72; refine (isWord_any _ (k - a) (c - a) _ _ HS.out (by omega)).mono ?_; rw [HW.out]; rintro e W2 ⟨rfl, hb2⟩)
            exact ⟨⟨k + 1, by omega, by omega, by go_num, by rw [hst.out, if_pos trivial, show a + (k - a) = k by omega], hb2w.trans (hb2.mono hsz2), hid (owns_below hown2.out hb2)⟩, by simp [intOf]; omega⟩
        · obtain rfl : k = n + 1 := by omega
          have hlw2 := hlw.out
          have hE : Hid (lwTo (l.drop a) (n + 1 - 1 - a) = L) := hid (by rw [show n + 1 - 1 - a = n - a by omega]; exact hlw2)
          rw [hE.out]
          have hkni : ¬ ((n : Int) + 1) ≤ n := by omega
          have hkni2 : ¬ ((n + 1 : Nat) : Int) ≤ n := by omega
          clear hlw2
          go_wp2_with (at_builtin; refine wpList_append_own _ rfl _ _ 22 rfl w.heap.size 3 i0 _ 1 8 under22 I0.out I1.out I2.out I3.out rfl (by decide) _ D.length _ rfl (hown2.out.alloc (.cells #[.int .i64 (a : Int)] 3)) ⟨wr.heap.size, 0, none⟩ 1 1 [.int .i64 (a : Int)] rfl rfl (fun j u hu => World.news_of_block (Blk.new' (by simp)) j u hu) (one1 _) (by unfold maxLen; omega) (by omega) (by simp; omega) ?_; intro v' w3 ho3 hg3 hv3)
          have hb3 : Below w.heap.size w w3 := (hb2w.alloc hsz2 _).grown hg3 (by simp; omega) (fun r hr => (World.ownsRow.lt hown2.out r hr).1)
          obtain ⟨f', hf1, hf2⟩ := hnext.out
          exact ⟨⟨D ++ [a], a + L, f', hL2, rfl, by rw [List.length_append]; simp; omega, hb3, hid hf1, hid hf2, hid (by rw [take1, List.length_append]; exact ho3)⟩, by simp [intOf]; omega⟩
    · obtain rfl : n = a := by omega
      have hf : Hid (cutsL l = D) := hid (by rw [hcut.out, starts_end (by rw [hlen.out]; exact Nat.le_refl _), List.append_nil])
      go_wp2
      refine bodyPost_ret (v := u3) (by first | (simp [results, Try.results70, go_sem]; done) | (simp [results, Try.results70, go_sem, *]; done) | (simp [results, Try.results70, go_sem, World.cell?_setCell_same', *]; done) | (simp [results, Try.results70, go_sem]; first | exact ⟨rfl, rfl⟩ | rfl)) rfl ⟨u3, rfl, ?_, hbw⟩
      rw [hf.out]; exact hown.out
end Go.Proofs.Ytiobmfggnacplaa
/- Plain law of rims: Duval's cut of a row into words. -/
namespace Go.Proofs.Ytiobmfggnacplaa
/-- What the row reads from a place on: a word of length per, again and again, up to q. -/
structure Duv (l : List Int) (at_ per q : Nat) : Prop where
  h0 : 0 < per
  hq : q ≤ l.length
  pr : ∀ i, at_ ≤ i → i + per < q → l[i]? = l[i + per]?
  wd : Wrd ((l.drop at_).take per)
  ha : at_ + per ≤ q
def DStop (l : List Int) (per q : Nat) : Prop := q = l.length ∨ ∃ x y, l[q - per]? = some x ∧ l[q]? = some y ∧ y < x
theorem duv_lw {l : List Int} {a per q : Nat} (h : Duv l a per q) (hs : DStop l per q) : lw (l.drop a) = per := by
  have hq := h.hq
  have ha := h.ha
  have h0 := h.h0
  have hLl : (l.drop a).length = l.length - a := List.length_drop
  have hne : l.drop a ≠ [] := fun e => by rw [e] at hLl; simp at hLl; omega
  have h1 : per ≤ lw (l.drop a) := lwTo_max (l.drop a).length per (by omega) h.wd
  rcases Nat.lt_or_ge per (lw (l.drop a)) with h2 | h2
  · exfalso
    have h3 : lw (l.drop a) ≤ (l.drop a).length := lwTo_le hne _ (Nat.le_refl _)
    have hw : Wrd ((l.drop a).take (lw (l.drop a))) := lwTo_wd hne _
    obtain ⟨j, hj⟩ : ∃ j, lw (l.drop a) = j := ⟨_, rfl⟩
    rw [hj] at h1 h2 h3 hw
    have hxl : ((l.drop a).take j).length = j := by rw [List.length_take]; omega
    have hx : ∀ i, i < j → ((l.drop a).take j)[i]? = l[a + i]? := fun i hi => by rw [List.getElem?_take, if_pos hi, List.getElem?_drop]
    have hb := wd_end hw h0 (by rw [hxl]; exact h2)
    rcases idx_of_bef hb with ⟨i, u, v, e1, e2, e3, e4⟩ | ⟨-, hlen⟩
    · rw [List.getElem?_drop] at e3
      have hij : per + i < j := by
        rcases Nat.lt_or_ge (per + i) j with h5 | h5
        · exact h5
        · rw [List.getElem?_eq_none (by rw [hxl]; exact h5)] at e3; cases e3
      rw [hx _ (by omega)] at e2
      rw [hx _ hij] at e3
      have e1' : ∀ i', i' < i → l[a + i']? = l[a + (per + i')]? := fun i' h5 => by
        have h6 := e1 i' h5
        rwa [List.getElem?_drop, hx _ (by omega), hx _ (by omega)] at h6
      rcases Nat.lt_or_ge (a + i + per) q with h5 | h5
      · have h6 := h.pr (a + i) (by omega) h5
        rw [e2, show a + i + per = a + (per + i) by omega, e3] at h6
        have := Option.some.inj h6
        omega
      · rcases hs with h6 | ⟨x0, y0, h6, h7, h8⟩
        · omega
        · rcases Nat.lt_or_ge (q - per - a) i with h9 | h9
          · have h10 := e1' _ h9
            rw [show a + (q - per - a) = q - per by omega, h6, show a + (per + (q - per - a)) = q by omega, h7] at h10
            have := Option.some.inj h10
            omega
          · rw [show a + i = q - per by omega, h6] at e2
            rw [show a + (per + i) = q by omega, h7] at e3
            have h10 := Option.some.inj e2
            have h11 := Option.some.inj e3
            omega
    · rw [List.length_drop] at hlen; omega
  · omega
theorem duv_next {l : List Int} {a per q : Nat} (h : Duv l a per q) (h2 : a + per + per ≤ q) : Duv l (a + per) per q := by
  refine ⟨h.h0, h.hq, fun i h3 h4 => h.pr i (by omega) h4, ?_, h2⟩
  have e : (l.drop (a + per)).take per = (l.drop a).take per := by
    refine List.ext_getElem? fun i => ?_
    rw [List.getElem?_take, List.getElem?_take]
    split
    · rw [List.getElem?_drop, List.getElem?_drop, h.pr (a + i) (by omega) (by omega)]
      congr 1; omega
    · rfl
  rw [e]; exact h.wd
theorem duv_start {l : List Int} {a : Nat} (ha : a < l.length) : Duv l a 1 (a + 1) := by
  refine ⟨by omega, by omega, fun i h3 h4 => by omega, ?_, Nat.le_refl _⟩
  rw [List.drop_eq_getElem_cons ha]
  exact wd_one _
theorem duv_eq {l : List Int} {a per q : Nat} (h : Duv l a per q) (hq : q < l.length) (he : l[q - per]? = l[q]?) : Duv l a per (q + 1) := by
  have ha := h.ha
  refine ⟨h.h0, hq, fun i h3 h4 => ?_, h.wd, by omega⟩
  rcases Nat.lt_or_ge (i + per) q with h5 | h5
  · exact h.pr i h3 h5
  · obtain rfl : i = q - per := by omega
    rw [he]; congr 1; omega
theorem duv_lt {l : List Int} {a per q : Nat} {x y : Int} (h : Duv l a per q) (hx : l[q - per]? = some x) (hy : l[q]? = some y) (hxy : x < y) : Duv l a (q + 1 - a) (q + 1) := by
  have ha := h.ha
  have h0 := h.h0
  have hq : q < l.length := by
    rcases Nat.lt_or_ge q l.length with h1 | h1
    · exact h1
    · rw [List.getElem?_eq_none h1] at hy; cases hy
  refine ⟨by omega, hq, fun i h3 h4 => by omega, ?_, by omega⟩
  have hwl : ((l.drop a).take (q - a)).length = q - a := by rw [List.length_take, List.length_drop]; omega
  have hwi : ∀ i, i < q - a → ((l.drop a).take (q - a))[i]? = l[a + i]? := fun i hi => by rw [List.getElem?_take, if_pos hi, List.getElem?_drop]
  have e : (l.drop a).take (q + 1 - a) = (l.drop a).take (q - a) ++ [y] := by
    rw [show q + 1 - a = (q - a) + 1 by omega, List.take_add_one, List.getElem?_drop, show a + (q - a) = q by omega, hy]; rfl
  rw [e]
  refine wd_step (per := per) (x := x) h0 (by omega) (fun j hj => ?_) ?_ ?_ hxy
  · rw [hwl] at hj
    rw [hwi _ (by omega), hwi _ (by omega), h.pr (a + j) (by omega) (by omega)]
    congr 1; omega
  · rw [List.take_take, Nat.min_eq_left (by omega)]; exact h.wd
  · rw [hwl, hwi _ (by omega), ← hx]; congr 1; omega
end Go.Proofs.Ytiobmfggnacplaa
/- Walks: a row cut into words (Duval), of the program. -/
namespace Go.Proofs.Ytiobmfggnacplaa
open Go.RowKit
attribute [local go_sem] Oper.semAt_some
set_option maxRecDepth 10000 in
set_option maxHeartbeats 8000000 in
theorem cut_any (A : Option Addr) (n c : Nat) (l : List Int) (w : World) (hl : InS w w.heap.size A n l) (hn : n ≤ 100) :
    Calls Try.prog 69 #[.slice A n c] w fun e w' => ∃ v, e = .returned v ∧ w'.ownsRow w.heap.size 3 1 v (cutsL l).length ((cutsL l).flatMap fun y : Nat => cI (y : Int)) ∧ Below w.heap.size w w' := by
  obtain ⟨i0, hi0, hi1, hi2, hi3⟩ := info_parts' info3
  have I0 := hid hi0; have I1 := hid hi1; have I2 := hid hi2; have I3 := hid hi3
  clear hi0 hi1 hi2 hi3
  have HL := hid hl
  have hlen := hid hl.len
  clear hl
  go_enter Try.func69, Try.ntmps69
  go_wp2
  go_loopw [3, 4] (fun v i wr => ∃ (D : List Nat) (a f : Nat), a ≤ n ∧ i = .int .i64 (a : Int) ∧ D.length ≤ a ∧ Below w.heap.size w wr ∧ Hid (n ≤ a + f) ∧ Hid (cutsL l = D ++ starts a (cutW f (l.drop a))) ∧ Hid (wr.ownsRow w.heap.size 3 1 v D.length (D.flatMap fun y : Nat => cI (y : Int)))) (fun _ i _ => n - (intOf i).toNat)
  case atStart => exact ⟨[], 0, n, by omega, rfl, Nat.le_refl _, Below.refl _ _, hid (by omega), hid (by rw [List.drop_zero, List.nil_append]; unfold cutsL wordsL; rw [hlen.out]), hid (World.ownsRow_nil _ _ _ _)⟩
  case round =>
    obtain ⟨D, a, f, hk2, rfl, hDa, hbw, hf0, hcut, hown⟩ := hrel
    have hszw := hbw.size
    by_cases hlt : a < n
    · have hlti : (a : Int) < n := by omega
      have hS := hid (duv_start (l := l) (a := a) (by rw [hlen.out]; exact hlt))
      go_wp2_with (fail)
      first | refine Code.wp_scope_straight ?_ | refine wp_scope_straight ?_ | refine Go.wp_scope_straight ?_
      go_wp2_with (fail)
      first | refine Code.wp_label ?_ | refine wp_label ?_
      go_wp2_with (fail)
      go_loopw [5, 6] (fun pv qv w2 => ∃ p q per : Nat, p + per = q ∧ a ≤ p ∧ q ≤ n ∧ 0 < per ∧ pv = .int .i64 (p : Int) ∧ qv = .int .i64 (q : Int) ∧ Below w.heap.size w w2 ∧ Hid (Duv l a per q) ∧ Hid (w2.ownsRow w.heap.size 3 1 u3 D.length (D.flatMap fun y : Nat => cI (y : Int)))) (fun _ qv _ => n - (intOf qv).toNat)
      case atStart => exact ⟨a, a + 1, 1, rfl, Nat.le_refl _, by omega, by omega, rfl, by go_num, hbw, hS, hown⟩
      case round =>
        obtain ⟨p, q, per, hpp, hap, hqn, hp0, rfl, rfl, hbwq, HD, hownq⟩ := hrel
        have hszq := hbwq.size
        by_cases hq : q < n
        · have hqi : (q : Int) < n := by omega
          have hpi : (p : Int) < n := by omega
          obtain ⟨b1, o1, x, rfl, hb1, hx, c1⟩ := (HL.out.below hbwq (Nat.le_refl _)).at_ (show p < n by omega)
          obtain ⟨b2, o2, y, hAe, hb2, hy, d1⟩ := (HL.out.below hbwq (Nat.le_refl _)).at_ hq
          cases hAe
          have HX := hid (show l[q - per]? = some x by rw [show q - per = p by omega]; exact hx)
          have HY := hid hy
          clear hx hy
          rcases Int.lt_trichotomy x y with hxy | hxy | hxy
          · have h1 : ¬ y < x := by omega
            have HDN := hid (duv_lt HD.out HX.out HY.out hxy)
            go_wp2
            go_quiet (fail)
            go_wp2
            go_quiet (fail)
            go_wp2
            exact ⟨⟨a, q + 1, q + 1 - a, by omega, by omega, by omega, by omega, rfl, by go_num, below_drewN hbwq _, HDN, hid (hownq.out)⟩, by simp [intOf]; omega⟩
          · subst hxy
            have h1 : ¬ x < x := by omega
            have HDN := hid (duv_eq HD.out (by rw [hlen.out]; exact hq) (HX.out.trans HY.out.symm))
            go_wp2
            go_quiet (fail)
            go_wp2
            go_quiet (fail)
            go_wp2
            exact ⟨⟨p + 1, q + 1, per, by omega, by omega, by omega, hp0, by go_num, by go_num, below_drewN hbwq _, HDN, hid (hownq.out)⟩, by simp [intOf]; omega⟩
          · have HST : Hid (DStop l per q) := hid (.inr ⟨x, y, HX.out, HY.out, hxy⟩)
            go_wp2
            go_quiet (fail)
            clear hlti
            go_wp2_with (fail)
            go_loopw [3, 4] (fun v i w2 => ∃ (D2 : List Nat) (a2 f2 : Nat), a ≤ a2 ∧ a2 ≤ q ∧ i = .int .i64 (a2 : Int) ∧ D2.length ≤ a2 ∧ Below w.heap.size w w2 ∧ Hid (n ≤ a2 + f2) ∧ Hid (cutsL l = D2 ++ starts a2 (cutW f2 (l.drop a2))) ∧ Hid (a2 + per ≤ q → Duv l a2 per q) ∧ Hid (w2.ownsRow w.heap.size 3 1 v D2.length (D2.flatMap fun y : Nat => cI (y : Int)))) (fun _ i _ => n + 1 - (intOf i).toNat)
            case atStart => exact ⟨D, a, f, Nat.le_refl _, by omega, rfl, hDa, below_drewN hbwq _, hf0, hcut, hid (fun _ => HD.out), hid (hownq.out)⟩
            case round =>
              obtain ⟨D2, a2, f2, ha2, haq, rfl, hDa2, hb2w, hf2, hcut2, hdu2, hown2⟩ := hrel
              have hsz2 := hb2w.size
              by_cases hle : a2 ≤ p
              · have hlei : (a2 : Int) ≤ p := by omega
                have hpq : (p : Int) + per = q := by omega
                have hper : (q : Int) - p = per := by omega
                have hd2 := hdu2.out (by omega)
                have hnx : Hid (a2 + per + per ≤ q → Duv l (a2 + per) per q) := hid (fun h => duv_next hd2 h)
                have hlw := duv_lw hd2 HST.out
                have hnext : Hid (∃ f', n ≤ (a2 + per) + f' ∧ cutsL l = (D2 ++ [a2]) ++ starts (a2 + per) (cutW f' (l.drop (a2 + per)))) := hid (by
                  obtain ⟨f', rfl⟩ : ∃ f', f2 = f' + 1 := ⟨f2 - 1, by have := hf2.out; omega⟩
                  refine ⟨f', by have := hf2.out; omega, ?_⟩
                  rw [hcut2.out, starts_step (by rw [hlen.out]; omega), hlw, List.append_assoc]; rfl)
                clear hd2 hlw
                go_wp2_with (at_builtin; refine wpList_append_own _ rfl _ _ 22 rfl w.heap.size 3 i0 _ 1 8 under22 I0.out I1.out I2.out I3.out rfl (by decide) _ D2.length _ rfl (hown2.out.alloc (.cells #[.int .i64 (a2 : Int)] 3)) ⟨wr.heap.size, 0, none⟩ 1 1 [.int .i64 (a2 : Int)] rfl rfl (fun j u hu => World.news_of_block (Blk.new' (by simp)) j u hu) (one1 _) (by unfold maxLen; omega) (by omega) (by simp; omega) ?_; intro v' w3 ho3 hg3 hv3)
                have hb3 : Below w.heap.size w w3 := (hb2w.alloc hsz2 _).grown hg3 (by simp; omega) (fun r hr => (World.ownsRow.lt hown2.out r hr).1)
                obtain ⟨f', hf1, hf3⟩ := hnext.out
                exact ⟨⟨D2 ++ [a2], a2 + per, f', by omega, by omega, by go_num, by rw [List.length_append]; simp; omega, hb3, hid hf1, hid hf3, hnx, hid (by rw [take1, List.length_append]; exact ho3)⟩, by simp [intOf]; omega⟩
              · have hlei : ¬ (a2 : Int) ≤ p := by omega
                go_wp2
                exact ⟨⟨D2, a2, f2, by omega, rfl, hDa2, hb2w, hf2, hcut2, hown2⟩, by simp [intOf]; omega⟩
        · obtain rfl : n = q := by omega
          have hqi : ¬ (n : Int) < n := by omega
          have HST : Hid (DStop l per n) := hid (.inl hlen.out.symm)
          clear hlti
          go_wp2_with (fail)
          go_loopw [3, 4] (fun v i w2 => ∃ (D2 : List Nat) (a2 f2 : Nat), a ≤ a2 ∧ a2 ≤ n ∧ i = .int .i64 (a2 : Int) ∧ D2.length ≤ a2 ∧ Below w.heap.size w w2 ∧ Hid (n ≤ a2 + f2) ∧ Hid (cutsL l = D2 ++ starts a2 (cutW f2 (l.drop a2))) ∧ Hid (a2 + per ≤ n → Duv l a2 per n) ∧ Hid (w2.ownsRow w.heap.size 3 1 v D2.length (D2.flatMap fun y : Nat => cI (y : Int)))) (fun _ i _ => n + 1 - (intOf i).toNat)
          case atStart => exact ⟨D, a, f, Nat.le_refl _, by omega, rfl, hDa, hbwq, hf0, hcut, hid (fun _ => HD.out), hownq⟩
          case round =>
            obtain ⟨D2, a2, f2, ha2, haq, rfl, hDa2, hb2w, hf2, hcut2, hdu2, hown2⟩ := hrel
            have hsz2 := hb2w.size
            by_cases hle : a2 ≤ p
            · have hlei : (a2 : Int) ≤ p := by omega
              have hpq : (p : Int) + per = n := by omega
              have hper : (n : Int) - p = per := by omega
              have hd2 := hdu2.out (by omega)
              have hnx : Hid (a2 + per + per ≤ n → Duv l (a2 + per) per n) := hid (fun h => duv_next hd2 h)
              have hlw := duv_lw hd2 HST.out
              have hnext : Hid (∃ f', n ≤ (a2 + per) + f' ∧ cutsL l = (D2 ++ [a2]) ++ starts (a2 + per) (cutW f' (l.drop (a2 + per)))) := hid (by
                obtain ⟨f', rfl⟩ : ∃ f', f2 = f' + 1 := ⟨f2 - 1, by have := hf2.out; omega⟩
                refine ⟨f', by have := hf2.out; omega, ?_⟩
                rw [hcut2.out, starts_step (by rw [hlen.out]; omega), hlw, List.append_assoc]; rfl)
              clear hd2 hlw
              go_wp2_with (at_builtin; refine wpList_append_own _ rfl _ _ 22 rfl w.heap.size 3 i0 _ 1 8 under22 I0.out I1.out I2.out I3.out rfl (by decide) _ D2.length _ rfl (hown2.out.alloc (.cells #[.int .i64 (a2 : Int)] 3)) ⟨wr.heap.size, 0, none⟩ 1 1 [.int .i64 (a2 : Int)] rfl rfl (fun j u hu => World.news_of_block (Blk.new' (by simp)) j u hu) (one1 _) (by unfold maxLen; omega) (by omega) (by simp; omega) ?_; intro v' w3 ho3 hg3 hv3)
              have hb3 : Below w.heap.size w w3 := (hb2w.alloc hsz2 _).grown hg3 (by simp; omega) (fun r hr => (World.ownsRow.lt hown2.out r hr).1)
              obtain ⟨f', hf1, hf3⟩ := hnext.out
              exact ⟨⟨D2 ++ [a2], a2 + per, f', by omega, by omega, by go_num, by rw [List.length_append]; simp; omega, hb3, hid hf1, hid hf3, hnx, hid (by rw [take1, List.length_append]; exact ho3)⟩, by simp [intOf]; omega⟩
            · have hlei : ¬ (a2 : Int) ≤ p := by omega
              go_wp2
              exact ⟨⟨D2, a2, f2, by omega, rfl, hDa2, hb2w, hf2, hcut2, hown2⟩, by simp [intOf]; omega⟩
    · obtain rfl : n = a := by omega
      have hf : Hid (cutsL l = D) := hid (by rw [hcut.out, starts_end (by rw [hlen.out]; exact Nat.le_refl _), List.append_nil])
      go_wp2
      refine bodyPost_ret (v := u3) (by first | (simp [results, Try.results69, go_sem]; done) | (simp [results, Try.results69, go_sem, *]; done) | (simp [results, Try.results69, go_sem, World.cell?_setCell_same', *]; done) | (simp [results, Try.results69, go_sem]; first | exact ⟨rfl, rfl⟩ | rfl)) rfl ⟨u3, rfl, ?_, hbw⟩
      rw [hf.out]; exact hown.out
end Go.Proofs.Ytiobmfggnacplaa
/- Walks: Words, of the reference. -/
namespace Go.Proofs.Ytiobmfggnacplaa
open Go.RowKit
attribute [local go_sem] Oper.semAt_some
def cutsI (l : List Int) : List Int := (cutsL l).map fun y : Nat => (y : Int)
theorem cutsI_len (l : List Int) : (cutsI l).length = (cutsL l).length := List.length_map _
theorem cutsI_flat (l : List Int) : (cutsI l).flatMap cI = (cutsL l).flatMap fun y : Nat => cI (y : Int) := by unfold cutsI; rw [List.flatMap_map]
theorem ret_cuts {w : World} {base : Nat} {v : Value} {l : List Int} (h : w.ownsRow base 3 1 v (cutsL l).length ((cutsL l).flatMap fun y : Nat => cI (y : Int))) : ∃ A c, v = .slice A (cutsI l).length c ∧ Ret w A (cutsI l).length c (cutsI l) := by
  rw [← cutsI_len, ← cutsI_flat] at h
  exact ret_of h
def wordsV (K : Int) (l : List Int) : List Int := if checkRim K l = 0 then cutsI l else []
set_option maxRecDepth 10000 in
set_option maxHeartbeats 4000000 in
theorem refWords_any (K : Int) (A : Option Addr) (n c : Nat) (l : List Int) (w : World) (hl : InS w w.heap.size A n l) (hn : n ≤ 90) (hc : n ≤ c) :
    Calls Try.prog 33 #[.int .i64 K, .slice A n c] w fun e w' => ∃ A' c', e = .returned (.tuple #[.slice A' (wordsV K l).length c', .int .i64 (checkRim K l)]) ∧ Ret w' A' (wordsV K l).length c' (wordsV K l) ∧ Below w.heap.size w w' := by
  have HL := hid hl
  clear hl
  by_cases hok : checkRim K l ≠ 0
  · obtain ⟨E, hE⟩ : ∃ E, checkRim K l = E := ⟨_, rfl⟩
    have HE := hid hE
    have hv : Hid (wordsV K l = []) := hid (if_neg hok)
    rw [hE] at hok
    have hb1 : (E != 0) = true := by simpa using hok
    clear hE hok
    go_enter Try.func33, Try.ntmps33
    go_wp2_with (fail)
    refine (refCheckRim_any K A n c l _ HL.out (by omega)).mono ?_
    rw [HE.out]
    rintro e W1 ⟨rfl, rfl⟩
    go_wp2_with (fail)
    refine (refCheckRim_any K A n c l _ HL.out (by omega)).mono ?_
    rw [HE.out]
    rintro e W1 ⟨rfl, rfl⟩
    go_wp2
    refine bodyPost_ret (v := .tuple #[.slice none 0 0, .int .i64 E]) (by first | (simp [results, Try.results33, go_sem]; done) | (simp [results, Try.results33, go_sem, *]; done) | (simp [results, Try.results33, go_sem, World.cell?_setCell_same', *]; done) | (simp [results, Try.results33, go_sem]; first | exact ⟨rfl, rfl⟩ | rfl)) rfl ⟨none, 0, by rw [hv.out, HE.out]; rfl, by rw [hv.out]; exact Ret.nil _, Below.refl _ _⟩
  · have hE : checkRim K l = 0 := by omega
    have HE := hid hE
    have hv : Hid (wordsV K l = cutsI l) := hid (if_pos hE)
    clear hE hok
    go_enter Try.func33, Try.ntmps33
    go_wp2_with (fail)
    refine (refCheckRim_any K A n c l _ HL.out (by omega)).mono ?_
    rw [HE.out]
    rintro e W1 ⟨rfl, rfl⟩
    go_wp2_with (fail)
    refine (wordsOf_any A n c l _ HL.out (by omega) hc).mono ?_
    rintro e W1 ⟨v, rfl, ho, hb⟩
    obtain ⟨A', c', rfl, hr⟩ := ret_cuts ho
    have HR := hid hr
    clear ho hr
    go_wp2
    refine bodyPost_ret (v := .tuple #[.slice A' (cutsI l).length c', .int .i64 0]) (by first | (simp [results, Try.results33, go_sem]; done) | (simp [results, Try.results33, go_sem, *]; done) | (simp [results, Try.results33, go_sem, World.cell?_setCell_same', *]; done) | (simp [results, Try.results33, go_sem]; first | exact ⟨rfl, rfl⟩ | rfl)) rfl ⟨A', c', by rw [hv.out, HE.out], by rw [hv.out]; exact HR.out, hb⟩
end Go.Proofs.Ytiobmfggnacplaa
/- Walks: Words, of the program. -/
namespace Go.Proofs.Ytiobmfggnacplaa
open Go.RowKit Go.Shelf
attribute [local go_sem] Oper.semAt_some
theorem cop_src {w : World} {B n : Nat} {A : Option Addr} {xs : List Value} (h : Sl w B 1 A n xs) (hn : 0 < n) {w' : World} (hk : ∀ p : Addr, p.block < B → w'.cell? p = w.cell? p) : ∃ ad, A = some ad ∧ ∀ j v, xs[j]? = some v → w'.cell? (ad.add j) = some v := by
  obtain ⟨b, off, rfl, hb, hc⟩ := h.2 hn
  exact ⟨_, rfl, fun j v hv => by rw [add_at]; exact (hk _ hb).trans (hc j v hv)⟩
theorem splice_all {cur cs : List Value} (h : cs.length = cur.length) : splice cur 0 cs = cs := by
  unfold splice
  rw [List.take_zero, Nat.zero_add, List.drop_of_length_le (by omega)]; simp
theorem starts_len : ∀ (n : Nat) (fs : List (List Int)), (starts n fs).length = fs.length
  | _, [] => rfl
  | n, f :: fs => by rw [starts, List.length_cons, List.length_cons, starts_len]
theorem cutW_len : ∀ (n : Nat) (l : List Int), (cutW n l).length ≤ n
  | 0, _ => Nat.le_refl _
  | n + 1, l => by
    unfold cutW
    split
    · simp
    · rw [List.length_cons]
      have := cutW_len n (l.drop (lw l))
      omega
theorem cutsI_le (l : List Int) : (cutsI l).length ≤ l.length := by
  rw [cutsI_len]; unfold cutsL wordsL
  rw [starts_len]; exact cutW_len _ _
set_option maxRecDepth 10000 in
set_option maxHeartbeats 4000000 in
theorem words_any (K : Int) (A : Option Addr) (n c : Nat) (l : List Int) (w : World) (hl : InS w w.heap.size A n l) (hn : n ≤ 90) :
    Calls Try.prog 32 #[.int .i64 K, .slice A n c] w fun e w' => ∃ A' c', e = .returned (.tuple #[.slice A' (wordsV K l).length c', .int .i64 (checkRim K l)]) ∧ Ret w' A' (wordsV K l).length c' (wordsV K l) ∧ Below w.heap.size w w' := by
  obtain ⟨i0, hi0, hi1, hi2, hi3⟩ := info_parts' info3
  have hI3 : (Try.prog.info? 3).map (·.size) = some 1 := by kernel_rfl
  clear hi0 hi1 hi2 hi3
  have HL := hid hl
  have hlen := hid hl.len
  clear hl
  by_cases hok : checkRim K l ≠ 0
  · obtain ⟨E, hE⟩ : ∃ E, checkRim K l = E := ⟨_, rfl⟩
    have HE := hid hE
    have hv : Hid (wordsV K l = []) := hid (if_neg hok)
    rw [hE] at hok
    have hb1 : (E != 0) = true := by simpa using hok
    clear hE hok
    go_enter Try.func32, Try.ntmps32
    go_wp2_with (fail)
    refine (checkRim_any K A n c l _ HL.out hn).mono ?_
    rw [HE.out]
    rintro e W1 ⟨rfl, hb⟩
    go_wp2
    refine bodyPost_ret (v := .tuple #[.slice none 0 0, .int .i64 E]) (by first | (simp [results, Try.results32, go_sem]; done) | (simp [results, Try.results32, go_sem, *]; done) | (simp [results, Try.results32, go_sem, World.cell?_setCell_same', *]; done) | (simp [results, Try.results32, go_sem]; first | exact ⟨rfl, rfl⟩ | rfl)) rfl ⟨none, 0, by rw [hv.out, HE.out]; rfl, by rw [hv.out]; exact Ret.nil _, hb⟩
  · have hE : checkRim K l = 0 := by omega
    have HE := hid hE
    have hv : Hid (wordsV K l = cutsI l) := hid (if_pos hE)
    have hm : (cutsI l).length ≤ 90 := by have := cutsI_le l; rw [hlen.out] at this; omega
    clear hE hok
    go_enter Try.func32, Try.ntmps32
    go_wp2_with (fail)
    refine (checkRim_any K A n c l _ HL.out hn).mono ?_
    rw [HE.out]
    rintro e W1 ⟨rfl, hb⟩
    have hsz := hb.size
    go_wp2_with (fail)
    refine (cut_any A n c l _ (HL.out.below hb hsz) (by omega)).mono ?_
    rintro e W0 ⟨v, rfl, ho, hb2⟩
    obtain ⟨A7, c7, rfl, hr⟩ := ret_cuts ho
    have HS7 := hid hr.1
    have hbel := hb.trans (hb2.mono hsz)
    have hz6 := hbel.size
    obtain ⟨m, hml⟩ : ∃ m, (cutsI l).length = m := ⟨_, rfl⟩
    have Hrl := hid hml
    rw [hml] at HS7 hm ⊢
    clear ho hr hb hb2 hml
    have hmk := @make_i64 m (by omega)
    have hms : (madeCells #[.int .i64 0] m).size = m := by simp [madeCells]
    have hfit : 0 + ((cutsI l).flatMap cI).length ≤ (madeCells #[.int .i64 0] m).toList.length := by rw [flatI_len', Hrl.out]; simp [madeCells]
    have hfit2 : ((cutsI l).flatMap cI).length = (madeCells #[.int .i64 0] m).toList.length := by rw [flatI_len', Hrl.out]; simp [madeCells]
    go_wp2_with (refine wpList_copy_splice rfl _ _ 22 22 rfl 3 under22 hI3 (some ⟨W0.heap.size, 0, none⟩) A7 m m m c7 rfl rfl W0.heap.size 0 (madeCells #[.int .i64 0] m).toList 3 (by rw [Array.toArray_toList]; exact heap_alloc_new _ _) ((cutsI l).flatMap cI) (by rw [flatI_len', Hrl.out]; exact (Nat.min_self _).symm) (fun h => ⟨rfl, cop_src HS7.out (by rw [flatI_len', Hrl.out] at h; exact h) (fun p hp => World.cell?_alloc_lt _ _ p hp)⟩) hfit (one_flatI _) w.heap.size w (hbel.alloc hz6 _) hz6 ?_; intro W9 HG9 hb9)
    refine bodyPost_ret (v := .tuple #[.slice (some ⟨W0.heap.size, 0, none⟩) m m, .int .i64 0]) (by first | (simp [results, Try.results32, go_sem]; done) | (simp [results, Try.results32, go_sem, *]; done) | (simp [results, Try.results32, go_sem, World.cell?_setCell_same', *]; done) | (simp [results, Try.results32, go_sem]; first | exact ⟨rfl, rfl⟩ | rfl)) rfl ⟨some ⟨W0.heap.size, 0, none⟩, m, by rw [hv.out, HE.out, Hrl.out], ?_, hb9⟩
    have hG := HG9.out
    rw [splice_all hfit2] at hG
    have hB9 : Blk W9 W0.heap.size 3 ((cutsI l).flatMap cI).toArray := hG
    have := ins_blk hB9 hB9.lt
    rw [hv.out, Hrl.out]
    rw [Hrl.out] at this
    exact ⟨this, Nat.le_refl _, fun e => by cases e⟩
end Go.Proofs.Ytiobmfggnacplaa
/- Walks: CheckWords, of the program. Printed by rim/a30.py. -/
namespace Go.Proofs.Ytiobmfggnacplaa
open Go.RowKit
attribute [local go_sem] Oper.semAt_some
def incB (cs : List Int) : Bool := (List.range (cs.length - 1)).all fun i => decide (cs.getD i 0 < cs.getD (i + 1) 0)
def cutE (K : Int) (l cs : List Int) : Int := if checkRim K l ≠ 0 then checkRim K l else if cs.getD 0 1 ≠ 0 ∨ cs.all (inR 0 ((l.length : Int) - 1)) = false ∨ incB cs = false then 3 else if cs ≠ cutsI l then 14 else 0
theorem getD_of {cs : List Int} {i : Nat} {x d : Int} (h : cs[i]? = some x) : cs.getD i d = x := by rw [List.getD_eq_getElem?_getD, h]; rfl
theorem incB_no {cs : List Int} {i : Nat} {x y : Int} (hx : cs[i]? = some x) (hy : cs[i + 1]? = some y) (h : y ≤ x) : incB cs = false := by
  cases hb : incB cs
  · rfl
  · have hl : i + 1 < cs.length := by
      rcases Nat.lt_or_ge (i + 1) cs.length with h1 | h1
      · exact h1
      · rw [List.getElem?_eq_none h1] at hy; cases hy
    have := of_decide_eq_true (List.all_eq_true.1 hb i (List.mem_range.2 (by omega)))
    rw [getD_of hx, getD_of hy] at this
    omega
theorem incB_yes {cs : List Int} (h : ∀ i, i < cs.length - 1 → cs.getD i 0 < cs.getD (i + 1) 0) : incB cs = true := by
  unfold incB
  rw [List.all_eq_true]
  exact fun i hi => decide_eq_true (h i (List.mem_range.1 hi))
set_option maxRecDepth 10000 in
set_option maxHeartbeats 8000000 in
theorem checkWords_any (K : Int) (A B : Option Addr) (n c m d : Nat) (l cs : List Int) (w : World) (hl : InS w w.heap.size A n l) (hcs : InS w w.heap.size B m cs) (hn : n ≤ 90) (hm : m ≤ 90) (hmd : m ≤ d) :
    Calls Try.prog 34 #[.int .i64 K, .slice A n c, .slice B m d] w fun e w' => e = .returned (.int .i64 (cutE K l cs)) ∧ Below w.heap.size w w' := by
  have hlen := hid hl.len
  have hlec := hid hcs.len
  obtain ⟨W0, hW0⟩ : ∃ W0 : World, W0 = w := ⟨_, rfl⟩
  rw [← hW0] at hl hcs ⊢
  clear hW0
  have HL := hid hl
  clear hl
  have HC := hid hcs
  clear hcs
  have hbel : Below W0.heap.size W0 W0 := Below.refl _ _
  have hsz := hbel.size
  by_cases hok : checkRim K l ≠ 0
  · obtain ⟨E, hE⟩ : ∃ E, checkRim K l = E := ⟨_, rfl⟩
    have HE := hid hE
    have hv : Hid (cutE K l cs = E) := hid (by unfold cutE; rw [if_pos hok, hE])
    have hbad := hok
    rw [hE] at hok
    have hb1 : (E != 0) = true := by simpa using hok
    clear hE hok
    go_enter Try.func34, Try.ntmps34
    go_wp2_with (fail)
    refine (open_bad K A n c l _ (HL.out.below (by repeat' (first | with_reducible assumption | with_reducible exact Below.refl _ _ | refine Below.alloc ?_ ?_ _ | refine Below.setCell ?_ ?_ _ | refine Below.drew ?_ | refine below_drewN ?_ _ | (simp; done) | (simp; omega) | omega)) (by first | (simp; done) | (simp; omega) | omega)) hn hbad).mono ?_
    rw [HE.out]
    rintro e W1 ⟨rfl, hb⟩
    have hst : Below W0.heap.size W0 W1 := Below.trans (by repeat' (first | with_reducible assumption | with_reducible exact Below.refl _ _ | refine Below.alloc ?_ ?_ _ | refine Below.setCell ?_ ?_ _ | refine Below.drew ?_ | refine below_drewN ?_ _ | (simp; done) | (simp; omega) | omega)) (hb.mono (by first | (simp; done) | (simp; omega) | omega))
    replace hbel := hbel.trans (hst.mono hsz)
    replace hsz := hbel.size
    replace HL := hid (HL.out.below hst hst.size)
    replace HC := hid (HC.out.below hst hst.size)
    clear hb hst
    obtain ⟨W0, rfl⟩ : ∃ W0 : World, W0 = W1 := ⟨_, rfl⟩
    go_wp2
    refine bodyPost_ret (v := .int .i64 E) (by first | (simp [results, Try.results34, go_sem]; done) | (simp [results, Try.results34, go_sem, *]; done) | (simp [results, Try.results34, go_sem, World.cell?_setCell_same', *]; done) | (simp [results, Try.results34, go_sem]; first | exact ⟨rfl, rfl⟩ | rfl)) rfl ⟨by rw [hv.out], hbel⟩
  · have hE : checkRim K l = 0 := by omega
    have HE := hid hE
    have hr := rim_good hE
    have h64 := hr.2.1
    rw [hlen.out] at h64
    have hn1 : (1 : Int) ≤ n := by omega
    have hn64 : (n : Int) ≤ 64 := by omega
    have hv : Hid (cutE K l cs = if cs.getD 0 1 ≠ 0 ∨ cs.all (inR 0 ((n : Int) - 1)) = false ∨ incB cs = false then 3 else if cs ≠ cutsI l then 14 else 0) := hid (by unfold cutE; rw [if_neg hok, hlen.out])
    clear hok hE hr
    have hm0 : (m : Int) ≤ 90 := by omega
    by_cases h0 : m = 0
    · subst h0
      have hg : Hid (cs.getD 0 1 ≠ 0) := hid (by rw [List.eq_nil_of_length_eq_zero hlec.out]; decide)
      go_enter Try.func34, Try.ntmps34
      go_wp2_with (fail)
      refine (open_ok K A n c l _ (HL.out.below (by repeat' (first | with_reducible assumption | with_reducible exact Below.refl _ _ | refine Below.alloc ?_ ?_ _ | refine Below.setCell ?_ ?_ _ | refine Below.drew ?_ | refine below_drewN ?_ _ | (simp; done) | (simp; omega) | omega)) (by first | (simp; done) | (simp; omega) | omega)) HE.out).mono ?_
      rintro e W1 ⟨g, rfl, hgl, hR1, hb⟩
      have hst : Below W0.heap.size W0 W1 := Below.trans (by repeat' (first | with_reducible assumption | with_reducible exact Below.refl _ _ | refine Below.alloc ?_ ?_ _ | refine Below.setCell ?_ ?_ _ | refine Below.drew ?_ | refine below_drewN ?_ _ | (simp; done) | (simp; omega) | omega)) (hb.mono (by first | (simp; done) | (simp; omega) | omega))
      replace hbel := hbel.trans (hst.mono hsz)
      replace hsz := hbel.size
      replace HL := hid (HL.out.below hst hst.size)
      replace HC := hid (HC.out.below hst hst.size)
      clear hb hst
      obtain ⟨W0, rfl⟩ : ∃ W0 : World, W0 = W1 := ⟨_, rfl⟩
      clear hgl hR1
      go_wp2
      refine bodyPost_ret (v := .int .i64 3) (by first | (simp [results, Try.results34, go_sem]; done) | (simp [results, Try.results34, go_sem, *]; done) | (simp [results, Try.results34, go_sem, World.cell?_setCell_same', *]; done) | (simp [results, Try.results34, go_sem]; first | exact ⟨rfl, rfl⟩ | rfl)) rfl ⟨by rw [hv.out, if_pos (.inl hg.out)], hbel⟩
    · have hm1 : ¬ (m : Int) = 0 := by omega
      have hm2 : (0 : Int) < m := by omega
      have hm3 : ((m : Int) == 0) = false := by simpa using hm1
      go_enter Try.func34, Try.ntmps34
      go_wp2_with (fail)
      refine (open_ok K A n c l _ (HL.out.below (by repeat' (first | with_reducible assumption | with_reducible exact Below.refl _ _ | refine Below.alloc ?_ ?_ _ | refine Below.setCell ?_ ?_ _ | refine Below.drew ?_ | refine below_drewN ?_ _ | (simp; done) | (simp; omega) | omega)) (by first | (simp; done) | (simp; omega) | omega)) HE.out).mono ?_
      rintro e W1 ⟨g, rfl, hgl, hR1, hb⟩
      have hst : Below W0.heap.size W0 W1 := Below.trans (by repeat' (first | with_reducible assumption | with_reducible exact Below.refl _ _ | refine Below.alloc ?_ ?_ _ | refine Below.setCell ?_ ?_ _ | refine Below.drew ?_ | refine below_drewN ?_ _ | (simp; done) | (simp; omega) | omega)) (hb.mono (by first | (simp; done) | (simp; omega) | omega))
      replace hbel := hbel.trans (hst.mono hsz)
      replace hsz := hbel.size
      replace HL := hid (HL.out.below hst hst.size)
      replace HC := hid (HC.out.below hst hst.size)
      clear hb hst
      obtain ⟨W0, rfl⟩ : ∃ W0 : World, W0 = W1 := ⟨_, rfl⟩
      clear hgl hR1
      obtain ⟨b, off, x, hBe, hb0, hx, c0⟩ := HC.out.at_ (show 0 < m by omega)
      subst hBe
      have hgd := hid (getD_of (d := 1) hx)
      clear hx
      simp only [Nat.add_zero] at c0
      by_cases hx0 : x ≠ 0
      · have hx1 : (x != 0) = true := by simpa using hx0
        have hg : Hid (cs.getD 0 1 ≠ 0) := hid (by rw [hgd.out]; exact hx0)
        go_wp2
        refine bodyPost_ret (v := .int .i64 3) (by first | (simp [results, Try.results34, go_sem]; done) | (simp [results, Try.results34, go_sem, *]; done) | (simp [results, Try.results34, go_sem, World.cell?_setCell_same', *]; done) | (simp [results, Try.results34, go_sem]; first | exact ⟨rfl, rfl⟩ | rfl)) rfl ⟨by rw [hv.out, if_pos (.inl hg.out)], hbel⟩
      replace hx0 : x = 0 := by omega
      subst hx0
      cases hall : cs.all (inR 0 ((n : Int) - 1))
      · have HA := hid hall
        clear hall
        go_wp2_with (fail)
        refine (within_any _ m d cs 0 ((n : Int) - 1) _ (HC.out.below (by repeat' (first | with_reducible assumption | with_reducible exact Below.refl _ _ | refine Below.alloc ?_ ?_ _ | refine Below.setCell ?_ ?_ _ | refine Below.drew ?_ | refine below_drewN ?_ _ | (simp; done) | (simp; omega) | omega)) (by first | (simp; done) | (simp; omega) | omega)) (by omega)).mono ?_
        rw [HA.out]
        rintro e W1 ⟨rfl, hb⟩
        have hst : Below W0.heap.size W0 W1 := Below.trans (by repeat' (first | with_reducible assumption | with_reducible exact Below.refl _ _ | refine Below.alloc ?_ ?_ _ | refine Below.setCell ?_ ?_ _ | refine Below.drew ?_ | refine below_drewN ?_ _ | (simp; done) | (simp; omega) | omega)) (hb.mono (by first | (simp; done) | (simp; omega) | omega))
        replace hbel := hbel.trans (hst.mono hsz)
        replace hsz := hbel.size
        replace HL := hid (HL.out.below hst hst.size)
        replace HC := hid (HC.out.below hst hst.size)
        clear hb hst
        obtain ⟨W0, rfl⟩ : ∃ W0 : World, W0 = W1 := ⟨_, rfl⟩
        go_wp2
        refine bodyPost_ret (v := .int .i64 3) (by first | (simp [results, Try.results34, go_sem]; done) | (simp [results, Try.results34, go_sem, *]; done) | (simp [results, Try.results34, go_sem, World.cell?_setCell_same', *]; done) | (simp [results, Try.results34, go_sem]; first | exact ⟨rfl, rfl⟩ | rfl)) rfl ⟨by rw [hv.out, if_pos (.inr (.inl HA.out))], hbel⟩
      · have HA := hid hall
        clear hall
        cases hcu : eqI (cutsI l) cs
        · have HQ := hid hcu
          have hfin : Hid (incB cs = true → cutE K l cs = 14) := hid (fun h => by
            rw [hv.out, if_neg (by rintro (h1 | h1 | h1); exact h1 hgd.out; (rw [HA.out] at h1; cases h1); (rw [h] at h1; cases h1))]
            exact if_pos (fun e => by rw [← e, eqI_t.2 rfl] at hcu; cases hcu))
          clear hcu
          go_wp2_with (fail)
          refine (within_any _ m d cs 0 ((n : Int) - 1) _ (HC.out.below (by repeat' (first | with_reducible assumption | with_reducible exact Below.refl _ _ | refine Below.alloc ?_ ?_ _ | refine Below.setCell ?_ ?_ _ | refine Below.drew ?_ | refine below_drewN ?_ _ | (simp; done) | (simp; omega) | omega)) (by first | (simp; done) | (simp; omega) | omega)) (by omega)).mono ?_
          rw [HA.out]
          rintro e W1 ⟨rfl, hb⟩
          have hst : Below W0.heap.size W0 W1 := Below.trans (by repeat' (first | with_reducible assumption | with_reducible exact Below.refl _ _ | refine Below.alloc ?_ ?_ _ | refine Below.setCell ?_ ?_ _ | refine Below.drew ?_ | refine below_drewN ?_ _ | (simp; done) | (simp; omega) | omega)) (hb.mono (by first | (simp; done) | (simp; omega) | omega))
          replace hbel := hbel.trans (hst.mono hsz)
          replace hsz := hbel.size
          replace HL := hid (HL.out.below hst hst.size)
          replace HC := hid (HC.out.below hst hst.size)
          clear hb hst
          obtain ⟨W0, rfl⟩ : ∃ W0 : World, W0 = W1 := ⟨_, rfl⟩
          by_cases hd1 : d = 1
          · subst hd1
            obtain rfl : m = 1 := by omega
            go_wp2_with (fail)
            go_loopw [42] (fun i wr => ∃ k : Nat, k ≤ 1 - 1 ∧ i = .int .i64 (k : Int) ∧ Below W0.heap.size W0 wr ∧ Hid (∀ j, j < k → cs.getD j 0 < cs.getD (j + 1) 0)) (fun i _ => 1 - (intOf i).toNat)
            case atStart => exact ⟨0, by omega, rfl, Below.refl _ _, hid (fun j hj => by omega)⟩
            case round =>
              obtain ⟨k, hk, rfl, hbw, hinc⟩ := hrel
              have hszw := hbw.size
              obtain rfl : k = 0 := by omega
              have hfi := hid (hfin.out (incB_yes (by rw [hlec.out]; exact hinc.out)))
              have HLr := hid (HL.out.below hbw hszw)
              have HCr := hid (HC.out.below hbw hszw)
              go_wp2_with (fail)
              refine (cut_any A n c l _ HLr.out (by omega)).mono ?_
              rintro e W2 ⟨v, rfl, ho, hb2⟩
              obtain ⟨A7, c7, rfl, hr⟩ := ret_cuts ho
              have HS7 := hid hr.1
              have HCq := hid (HCr.out.below hb2 hb2.size)
              have hlc : (cutsI l).length ≤ 100 := by have := cutsI_le l; rw [hlen.out] at this; omega
              clear ho hr
              go_wp2_with (fail)
              refine (equal_any _ A7 _ (cutsI l).length c7 _ _ (cutsI l) cs HS7.out HCq.out (by omega)).mono ?_
              rw [HQ.out]
              rintro e W3 ⟨rfl, hb3⟩
              have hend := hbel.trans ((hbw.trans ((hb2.mono hszw).trans (hb3.mono (Nat.le_trans hszw hb2.size)))).mono hsz)
              go_wp2
              refine bodyPost_ret (v := .int .i64 14) (by first | (simp [results, Try.results34, go_sem]; done) | (simp [results, Try.results34, go_sem, *]; done) | (simp [results, Try.results34, go_sem, World.cell?_setCell_same', *]; done) | (simp [results, Try.results34, go_sem]; first | exact ⟨rfl, rfl⟩ | rfl)) rfl ⟨by rw [hfi.out], hend⟩
          · have hm1d : (1 : Int) ≤ m := by omega
            have hdd : (m : Int) ≤ d := by omega
            have hd0 : ¬ (d : Int) = 1 := by omega
            go_wp2_with (fail)
            go_loopw [42] (fun i wr => ∃ k : Nat, k ≤ m - 1 ∧ i = .int .i64 (k : Int) ∧ Below W0.heap.size W0 wr ∧ Hid (∀ j, j < k → cs.getD j 0 < cs.getD (j + 1) 0)) (fun i _ => m - (intOf i).toNat)
            case atStart => exact ⟨0, by omega, rfl, Below.refl _ _, hid (fun j hj => by omega)⟩
            case round =>
              obtain ⟨k, hk, rfl, hbw, hinc⟩ := hrel
              have hszw := hbw.size
              by_cases hlt : k < m - 1
              · have hlti : (k : Int) < (m : Int) - 1 := by omega
                have hlti2 : (k : Int) < m := by omega
                obtain ⟨b1, o1, y, he1, hb1, hy, c1⟩ := (HC.out.below hbw hszw).at_ (show k < m by omega)
                obtain ⟨b2, o2, z, he2, hb2, hz, c2⟩ := (HC.out.below hbw hszw).at_ (show k + 1 < m by omega)
                cases he1
                cases he2
                have HY := hid hy
                have HZ := hid hz
                have c3 : wr.cell? ⟨b, off + 1 + k, none⟩ = some (.int .i64 z) := by rw [Nat.add_assoc, Nat.add_comm 1 k]; exact c2
                clear hy hz c0
                by_cases hzy : z ≤ y
                · have hg : Hid (incB cs = false) := hid (incB_no HY.out HZ.out hzy)
                  go_wp2
                  refine bodyPost_ret (v := .int .i64 3) (by first | (simp [results, Try.results34, go_sem]; done) | (simp [results, Try.results34, go_sem, *]; done) | (simp [results, Try.results34, go_sem, World.cell?_setCell_same', *]; done) | (simp [results, Try.results34, go_sem]; first | exact ⟨rfl, rfl⟩ | rfl)) rfl ⟨by rw [hv.out, if_pos (.inr (.inr hg.out))], hbel.trans (hbw.mono hsz)⟩
                · have hinc2 : Hid (∀ j, j < k + 1 → cs.getD j 0 < cs.getD (j + 1) 0) := hid (fun j hj => by
                    rcases Nat.lt_or_ge j k with h4 | h4
                    · exact hinc.out j h4
                    · obtain rfl : j = k := by omega
                      rw [getD_of HY.out, getD_of HZ.out]; omega)
                  go_wp2
                  exact ⟨⟨k + 1, by omega, by go_num, hbw, hinc2⟩, by simp [intOf]; omega⟩
              · obtain rfl : k = m - 1 := by omega
                have hk1 : ¬ ((m - 1 : Nat) : Int) < (m : Int) - 1 := by omega
                have hfi := hid (hfin.out (incB_yes (by rw [hlec.out]; exact hinc.out)))
                have HLr := hid (HL.out.below hbw hszw)
                have HCr := hid (HC.out.below hbw hszw)
                go_wp2_with (fail)
                refine (cut_any A n c l _ HLr.out (by omega)).mono ?_
                rintro e W2 ⟨v, rfl, ho, hb2⟩
                obtain ⟨A7, c7, rfl, hr⟩ := ret_cuts ho
                have HS7 := hid hr.1
                have HCq := hid (HCr.out.below hb2 hb2.size)
                have hlc : (cutsI l).length ≤ 100 := by have := cutsI_le l; rw [hlen.out] at this; omega
                clear ho hr
                go_wp2_with (fail)
                refine (equal_any _ A7 _ (cutsI l).length c7 _ _ (cutsI l) cs HS7.out HCq.out (by omega)).mono ?_
                rw [HQ.out]
                rintro e W3 ⟨rfl, hb3⟩
                have hend := hbel.trans ((hbw.trans ((hb2.mono hszw).trans (hb3.mono (Nat.le_trans hszw hb2.size)))).mono hsz)
                go_wp2
                refine bodyPost_ret (v := .int .i64 14) (by first | (simp [results, Try.results34, go_sem]; done) | (simp [results, Try.results34, go_sem, *]; done) | (simp [results, Try.results34, go_sem, World.cell?_setCell_same', *]; done) | (simp [results, Try.results34, go_sem]; first | exact ⟨rfl, rfl⟩ | rfl)) rfl ⟨by rw [hfi.out], hend⟩
        · have HQ := hid hcu
          have hfin : Hid (incB cs = true → cutE K l cs = 0) := hid (fun h => by
            rw [hv.out, if_neg (by rintro (h1 | h1 | h1); exact h1 hgd.out; (rw [HA.out] at h1; cases h1); (rw [h] at h1; cases h1))]
            exact if_neg (fun h2 => h2 (eqI_t.1 hcu).symm))
          clear hcu
          go_wp2_with (fail)
          refine (within_any _ m d cs 0 ((n : Int) - 1) _ (HC.out.below (by repeat' (first | with_reducible assumption | with_reducible exact Below.refl _ _ | refine Below.alloc ?_ ?_ _ | refine Below.setCell ?_ ?_ _ | refine Below.drew ?_ | refine below_drewN ?_ _ | (simp; done) | (simp; omega) | omega)) (by first | (simp; done) | (simp; omega) | omega)) (by omega)).mono ?_
          rw [HA.out]
          rintro e W1 ⟨rfl, hb⟩
          have hst : Below W0.heap.size W0 W1 := Below.trans (by repeat' (first | with_reducible assumption | with_reducible exact Below.refl _ _ | refine Below.alloc ?_ ?_ _ | refine Below.setCell ?_ ?_ _ | refine Below.drew ?_ | refine below_drewN ?_ _ | (simp; done) | (simp; omega) | omega)) (hb.mono (by first | (simp; done) | (simp; omega) | omega))
          replace hbel := hbel.trans (hst.mono hsz)
          replace hsz := hbel.size
          replace HL := hid (HL.out.below hst hst.size)
          replace HC := hid (HC.out.below hst hst.size)
          clear hb hst
          obtain ⟨W0, rfl⟩ : ∃ W0 : World, W0 = W1 := ⟨_, rfl⟩
          by_cases hd1 : d = 1
          · subst hd1
            obtain rfl : m = 1 := by omega
            go_wp2_with (fail)
            go_loopw [42] (fun i wr => ∃ k : Nat, k ≤ 1 - 1 ∧ i = .int .i64 (k : Int) ∧ Below W0.heap.size W0 wr ∧ Hid (∀ j, j < k → cs.getD j 0 < cs.getD (j + 1) 0)) (fun i _ => 1 - (intOf i).toNat)
            case atStart => exact ⟨0, by omega, rfl, Below.refl _ _, hid (fun j hj => by omega)⟩
            case round =>
              obtain ⟨k, hk, rfl, hbw, hinc⟩ := hrel
              have hszw := hbw.size
              obtain rfl : k = 0 := by omega
              have hfi := hid (hfin.out (incB_yes (by rw [hlec.out]; exact hinc.out)))
              have HLr := hid (HL.out.below hbw hszw)
              have HCr := hid (HC.out.below hbw hszw)
              go_wp2_with (fail)
              refine (cut_any A n c l _ HLr.out (by omega)).mono ?_
              rintro e W2 ⟨v, rfl, ho, hb2⟩
              obtain ⟨A7, c7, rfl, hr⟩ := ret_cuts ho
              have HS7 := hid hr.1
              have HCq := hid (HCr.out.below hb2 hb2.size)
              have hlc : (cutsI l).length ≤ 100 := by have := cutsI_le l; rw [hlen.out] at this; omega
              clear ho hr
              go_wp2_with (fail)
              refine (equal_any _ A7 _ (cutsI l).length c7 _ _ (cutsI l) cs HS7.out HCq.out (by omega)).mono ?_
              rw [HQ.out]
              rintro e W3 ⟨rfl, hb3⟩
              have hend := hbel.trans ((hbw.trans ((hb2.mono hszw).trans (hb3.mono (Nat.le_trans hszw hb2.size)))).mono hsz)
              go_wp2
              refine bodyPost_ret (v := .int .i64 0) (by first | (simp [results, Try.results34, go_sem]; done) | (simp [results, Try.results34, go_sem, *]; done) | (simp [results, Try.results34, go_sem, World.cell?_setCell_same', *]; done) | (simp [results, Try.results34, go_sem]; first | exact ⟨rfl, rfl⟩ | rfl)) rfl ⟨by rw [hfi.out], hend⟩
          · have hm1d : (1 : Int) ≤ m := by omega
            have hdd : (m : Int) ≤ d := by omega
            have hd0 : ¬ (d : Int) = 1 := by omega
            go_wp2_with (fail)
            go_loopw [42] (fun i wr => ∃ k : Nat, k ≤ m - 1 ∧ i = .int .i64 (k : Int) ∧ Below W0.heap.size W0 wr ∧ Hid (∀ j, j < k → cs.getD j 0 < cs.getD (j + 1) 0)) (fun i _ => m - (intOf i).toNat)
            case atStart => exact ⟨0, by omega, rfl, Below.refl _ _, hid (fun j hj => by omega)⟩
            case round =>
              obtain ⟨k, hk, rfl, hbw, hinc⟩ := hrel
              have hszw := hbw.size
              by_cases hlt : k < m - 1
              · have hlti : (k : Int) < (m : Int) - 1 := by omega
                have hlti2 : (k : Int) < m := by omega
                obtain ⟨b1, o1, y, he1, hb1, hy, c1⟩ := (HC.out.below hbw hszw).at_ (show k < m by omega)
                obtain ⟨b2, o2, z, he2, hb2, hz, c2⟩ := (HC.out.below hbw hszw).at_ (show k + 1 < m by omega)
                cases he1
                cases he2
                have HY := hid hy
                have HZ := hid hz
                have c3 : wr.cell? ⟨b, off + 1 + k, none⟩ = some (.int .i64 z) := by rw [Nat.add_assoc, Nat.add_comm 1 k]; exact c2
                clear hy hz c0
                by_cases hzy : z ≤ y
                · have hg : Hid (incB cs = false) := hid (incB_no HY.out HZ.out hzy)
                  go_wp2
                  refine bodyPost_ret (v := .int .i64 3) (by first | (simp [results, Try.results34, go_sem]; done) | (simp [results, Try.results34, go_sem, *]; done) | (simp [results, Try.results34, go_sem, World.cell?_setCell_same', *]; done) | (simp [results, Try.results34, go_sem]; first | exact ⟨rfl, rfl⟩ | rfl)) rfl ⟨by rw [hv.out, if_pos (.inr (.inr hg.out))], hbel.trans (hbw.mono hsz)⟩
                · have hinc2 : Hid (∀ j, j < k + 1 → cs.getD j 0 < cs.getD (j + 1) 0) := hid (fun j hj => by
                    rcases Nat.lt_or_ge j k with h4 | h4
                    · exact hinc.out j h4
                    · obtain rfl : j = k := by omega
                      rw [getD_of HY.out, getD_of HZ.out]; omega)
                  go_wp2
                  exact ⟨⟨k + 1, by omega, by go_num, hbw, hinc2⟩, by simp [intOf]; omega⟩
              · obtain rfl : k = m - 1 := by omega
                have hk1 : ¬ ((m - 1 : Nat) : Int) < (m : Int) - 1 := by omega
                have hfi := hid (hfin.out (incB_yes (by rw [hlec.out]; exact hinc.out)))
                have HLr := hid (HL.out.below hbw hszw)
                have HCr := hid (HC.out.below hbw hszw)
                go_wp2_with (fail)
                refine (cut_any A n c l _ HLr.out (by omega)).mono ?_
                rintro e W2 ⟨v, rfl, ho, hb2⟩
                obtain ⟨A7, c7, rfl, hr⟩ := ret_cuts ho
                have HS7 := hid hr.1
                have HCq := hid (HCr.out.below hb2 hb2.size)
                have hlc : (cutsI l).length ≤ 100 := by have := cutsI_le l; rw [hlen.out] at this; omega
                clear ho hr
                go_wp2_with (fail)
                refine (equal_any _ A7 _ (cutsI l).length c7 _ _ (cutsI l) cs HS7.out HCq.out (by omega)).mono ?_
                rw [HQ.out]
                rintro e W3 ⟨rfl, hb3⟩
                have hend := hbel.trans ((hbw.trans ((hb2.mono hszw).trans (hb3.mono (Nat.le_trans hszw hb2.size)))).mono hsz)
                go_wp2
                refine bodyPost_ret (v := .int .i64 0) (by first | (simp [results, Try.results34, go_sem]; done) | (simp [results, Try.results34, go_sem, *]; done) | (simp [results, Try.results34, go_sem, World.cell?_setCell_same', *]; done) | (simp [results, Try.results34, go_sem]; first | exact ⟨rfl, rfl⟩ | rfl)) rfl ⟨by rw [hfi.out], hend⟩
end Go.Proofs.Ytiobmfggnacplaa
/- Walks: the reference's Find. -/
namespace Go.Proofs.Ytiobmfggnacplaa
open Go.RowKit
attribute [local go_sem] Oper.semAt_some
/-- By how much the one is turned to begin with the other. -/
def fdK (a b : List Int) : Option Nat := (List.range a.length).find? fun j => decide ((rot a j).take b.length = b)
def fdE (K : Int) (a b : List Int) : Int := if checkRim K a ≠ 0 then checkRim K a else if checkRim K b ≠ 0 then checkRim K b else if a.length < b.length then 3 else if fdK a b = none then 5 else 0
def fdV (K : Int) (a b : List Int) : Nat := if checkRim K a ≠ 0 then 0 else if checkRim K b ≠ 0 then 0 else if a.length < b.length then 0 else (fdK a b).getD 0
theorem fdK_some {a b : List Int} {k : Nat} (hk : k < a.length) (hm : ∀ j, j < k → (rot a j).take b.length ≠ b) (h : (rot a k).take b.length = b) : fdK a b = some k := by
  unfold fdK
  rw [List.find?_range_eq_some]
  exact ⟨decide_eq_true h, List.mem_range.2 hk, fun j hj => by simpa using hm j hj⟩
theorem fdK_none {a b : List Int} (hm : ∀ j, j < a.length → (rot a j).take b.length ≠ b) : fdK a b = none := by
  unfold fdK
  rw [List.find?_eq_none]
  exact fun j hj => by simpa using hm j (List.mem_range.1 hj)
theorem ins_pre {w : World} {B b off n : Nat} {l : List Int} (h : InS w B (some ⟨b, off, none⟩) n l) {k : Nat} (hk : k ≤ n) : InS w B (some ⟨b, off, none⟩) k (l.take k) := by
  have := ins_cut h (Nat.zero_le k) hk
  simpa using this
set_option maxRecDepth 10000 in
set_option maxHeartbeats 4000000 in
theorem refFind_any (K : Int) (A B : Option Addr) (n c m d : Nat) (a b : List Int) (w : World) (ha : InS w w.heap.size A n a) (hb : InS w w.heap.size B m b) (hn : n ≤ 90) (hm : m ≤ 90) :
    Calls Try.prog 31 #[.int .i64 K, .slice A n c, .slice B m d] w fun e w' => e = .returned (.tuple #[.int .i64 (fdV K a b : Nat), .int .i64 (fdE K a b)]) ∧ Below w.heap.size w w' := by
  have hla := hid ha.len
  have hlb := hid hb.len
  have HA := hid ha
  have HB := hid hb
  clear ha hb
  by_cases h1 : checkRim K a ≠ 0
  · obtain ⟨E, hE⟩ : ∃ E, checkRim K a = E := ⟨_, rfl⟩
    have HE := hid hE
    have hv : Hid (fdV K a b = 0) := hid (if_pos h1)
    have he : Hid (fdE K a b = E) := hid (by unfold fdE; rw [if_pos h1, hE])
    rw [hE] at h1
    have t1 : (E != 0) = true := by simpa using h1
    clear hE h1
    go_enter Try.func31, Try.ntmps31
    go_wp2_with (go_at_call 26; refine (refCheckRim_any K A n c a _ HA.out (by omega)).mono ?_; rw [HE.out]; rintro e W1 ⟨rfl, rfl⟩)
    refine bodyPost_ret (v := .tuple #[.int .i64 0, .int .i64 E]) (by first | (simp [results, Try.results31, go_sem]; done) | (simp [results, Try.results31, go_sem, *]; done) | (simp [results, Try.results31, go_sem, World.cell?_setCell_same', *]; done) | (simp [results, Try.results31, go_sem]; first | exact ⟨rfl, rfl⟩ | rfl)) rfl ⟨by rw [hv.out, he.out]; rfl, Below.refl _ _⟩
  · have h1' : checkRim K a = 0 := by omega
    have HE1 := hid h1'
    have h64 := (rim_good h1').2.1
    rw [hla.out] at h64
    by_cases h2 : checkRim K b ≠ 0
    · obtain ⟨E, hE⟩ : ∃ E, checkRim K b = E := ⟨_, rfl⟩
      have HE := hid hE
      have hv : Hid (fdV K a b = 0) := hid (by unfold fdV; rw [if_neg h1, if_pos h2])
      have he : Hid (fdE K a b = E) := hid (by unfold fdE; rw [if_neg h1, if_pos h2, hE])
      rw [hE] at h2
      have t1 : (E != 0) = true := by simpa using h2
      clear hE h2 h1 h1'
      go_enter Try.func31, Try.ntmps31
      go_wp2_with (fail)
      refine (refCheckRim_any K A n c a _ HA.out (by omega)).mono ?_
      rw [HE1.out]
      rintro e W1 ⟨rfl, rfl⟩
      go_wp2_with (go_at_call 26; refine (refCheckRim_any K B m d b _ HB.out (by omega)).mono ?_; rw [HE.out]; rintro e W1 ⟨rfl, rfl⟩)
      refine bodyPost_ret (v := .tuple #[.int .i64 0, .int .i64 E]) (by first | (simp [results, Try.results31, go_sem]; done) | (simp [results, Try.results31, go_sem, *]; done) | (simp [results, Try.results31, go_sem, World.cell?_setCell_same', *]; done) | (simp [results, Try.results31, go_sem]; first | exact ⟨rfl, rfl⟩ | rfl)) rfl ⟨by rw [hv.out, he.out]; rfl, Below.refl _ _⟩
    · have h2' : checkRim K b = 0 := by omega
      have HE2 := hid h2'
      by_cases h3 : n < m
      · have h3i : (n : Int) < m := by omega
        have hv : Hid (fdV K a b = 0) := hid (by unfold fdV; rw [if_neg h1, if_neg h2, hla.out, hlb.out, if_pos h3])
        have he : Hid (fdE K a b = 3) := hid (by unfold fdE; rw [if_neg h1, if_neg h2, hla.out, hlb.out, if_pos h3])
        clear h1 h2 h1' h2'
        go_enter Try.func31, Try.ntmps31
        go_wp2_with (fail)
        refine (refCheckRim_any K A n c a _ HA.out (by omega)).mono ?_
        rw [HE1.out]
        rintro e W1 ⟨rfl, rfl⟩
        go_wp2_with (fail)
        refine (refCheckRim_any K B m d b _ HB.out (by omega)).mono ?_
        rw [HE2.out]
        rintro e W1 ⟨rfl, rfl⟩
        go_wp2
        refine bodyPost_ret (v := .tuple #[.int .i64 0, .int .i64 3]) (by first | (simp [results, Try.results31, go_sem]; done) | (simp [results, Try.results31, go_sem, *]; done) | (simp [results, Try.results31, go_sem, World.cell?_setCell_same', *]; done) | (simp [results, Try.results31, go_sem]; first | exact ⟨rfl, rfl⟩ | rfl)) rfl ⟨by rw [hv.out, he.out]; rfl, Below.refl _ _⟩
      · have h3i : ¬ (n : Int) < m := by omega
        have hv0 : Hid (fdV K a b = (fdK a b).getD 0) := hid (by unfold fdV; rw [if_neg h1, if_neg h2, hla.out, hlb.out, if_neg h3])
        have he0 : Hid (fdE K a b = if fdK a b = none then 5 else 0) := hid (by unfold fdE; rw [if_neg h1, if_neg h2, hla.out, hlb.out, if_neg h3])
        clear h1 h2 h1' h2'
        go_enter Try.func31, Try.ntmps31
        go_wp2_with (fail)
        refine (refCheckRim_any K A n c a _ HA.out (by omega)).mono ?_
        rw [HE1.out]
        rintro e W1 ⟨rfl, rfl⟩
        go_wp2_with (fail)
        refine (refCheckRim_any K B m d b _ HB.out (by omega)).mono ?_
        rw [HE2.out]
        rintro e W1 ⟨rfl, rfl⟩
        go_wp2_with (fail)
        go_loopw [8] (fun i wr => ∃ k : Nat, k ≤ n ∧ i = .int .i64 k ∧ Below w.heap.size w wr ∧ Hid (∀ j, j < k → (rot a j).take b.length ≠ b)) (fun i _ => n - (intOf i).toNat)
        case atStart => exact ⟨0, by omega, rfl, Below.refl _ _, hid (fun j hj => by omega)⟩
        case round =>
          obtain ⟨k, hk, rfl, hbw, Hm⟩ := hrel
          have hszw := hbw.size
          have HAw := hid (HA.out.below hbw hszw)
          by_cases hlt : k < n
          · have hlti : (k : Int) < n := by omega
            go_wp2_with (fail)
            refine (turnOf_any A n c a k _ HAw.out (by omega) (by omega)).mono ?_
            rintro e W1 ⟨v1, rfl, ho1, hb1⟩
            obtain ⟨g1, c1, rfl, hg1, hlt1⟩ := World.ownsRow.form ho1 (by omega)
            have hcap : n ≤ c1 := own_capN ho1
            have hcapi : (m : Int) ≤ c1 := by omega
            have HT := hid (show InS W1 W1.heap.size (some ⟨g1, 0, none⟩) m ((rot a k).take b.length) by rw [hlb.out]; exact ins_pre (Sl.of_own ho1 : InS W1 W1.heap.size (some ⟨g1, 0, none⟩) n (rot a k)) (by omega))
            have hbw1 := hbw.trans (hb1.mono hszw)
            have hsz1 := hbw1.size
            clear ho1
            cases heq : eqI ((rot a k).take b.length) b
            · have Heq := hid heq
              have hm2 : Hid (∀ j, j < k + 1 → (rot a j).take b.length ≠ b) := hid (fun j h3 => by
                rcases Nat.lt_or_ge j k with h4 | h4
                · exact Hm.out j h4
                · obtain rfl : j = k := by omega
                  intro e; rw [eqI_t.2 e] at heq; cases heq)
              clear heq
              go_wp2_with (go_at_call 65; refine (same_any _ _ B m _ m d _ b HT.out (HB.out.below hbw1 hsz1) (by omega)).mono ?_; rw [Heq.out]; rintro e W2 ⟨rfl, hb2⟩)
              exact ⟨⟨k + 1, by omega, by go_num, hbw1.trans (hb2.mono hsz1), hm2⟩, by simp [intOf]; omega⟩
            · have Heq := hid heq
              have hf := fdK_some (by rw [hla.out]; exact hlt) Hm.out (eqI_t.1 heq)
              have hv : Hid (fdV K a b = k) := hid (by rw [hv0.out, hf]; rfl)
              have he : Hid (fdE K a b = 0) := hid (by rw [he0.out, hf]; rfl)
              clear heq hf
              go_wp2_with (go_at_call 65; refine (same_any _ _ B m _ m d _ b HT.out (HB.out.below hbw1 hsz1) (by omega)).mono ?_; rw [Heq.out]; rintro e W2 ⟨rfl, hb2⟩)
              refine bodyPost_ret (v := .tuple #[.int .i64 (k : Nat), .int .i64 0]) (by first | (simp [results, Try.results31, go_sem]; done) | (simp [results, Try.results31, go_sem, *]; done) | (simp [results, Try.results31, go_sem, World.cell?_setCell_same', *]; done) | (simp [results, Try.results31, go_sem]; first | exact ⟨rfl, rfl⟩ | rfl)) rfl ⟨by rw [hv.out, he.out], hbw1.trans (hb2.mono hsz1)⟩
          · obtain rfl : n = k := by omega
            have hf := fdK_none (a := a) (b := b) (by rw [hla.out]; exact Hm.out)
            have hv : Hid (fdV K a b = 0) := hid (by rw [hv0.out, hf]; rfl)
            have he : Hid (fdE K a b = 5) := hid (by rw [he0.out, hf]; rfl)
            clear hf
            go_wp2
            refine bodyPost_ret (v := .tuple #[.int .i64 0, .int .i64 5]) (by first | (simp [results, Try.results31, go_sem]; done) | (simp [results, Try.results31, go_sem, *]; done) | (simp [results, Try.results31, go_sem, World.cell?_setCell_same', *]; done) | (simp [results, Try.results31, go_sem]; first | exact ⟨rfl, rfl⟩ | rfl)) rfl ⟨by rw [hv.out, he.out]; rfl, hbw⟩
end Go.Proofs.Ytiobmfggnacplaa
/- Walks: isLeast and rowError, of the reference. -/
namespace Go.Proofs.Ytiobmfggnacplaa
open Go.RowKit
attribute [local go_sem] Oper.semAt_some
/-- None of its turns comes before it. -/
def leastB (l : List Int) : Bool := (List.range l.length).all fun k => decide (k = 0) || !bef (rot l k) l
theorem leastB_no {l : List Int} {k : Nat} (h0 : 0 < k) (hk : k < l.length) (h : bef (rot l k) l = true) : leastB l = false := by
  cases hw : leastB l
  · rfl
  · have := List.all_eq_true.1 hw k (List.mem_range.2 hk)
    rw [h] at this
    simp at this; omega
theorem leastB_yes {l : List Int} (h : ∀ k, 0 < k → k < l.length → bef (rot l k) l = false) : leastB l = true := by
  unfold leastB
  rw [List.all_eq_true]
  intro k hk
  rcases Nat.eq_zero_or_pos k with h0 | h0
  · subst h0; rfl
  · rw [h k h0 (List.mem_range.1 hk)]; simp
set_option maxRecDepth 10000 in
set_option maxHeartbeats 4000000 in
theorem isLeast_any (A : Option Addr) (n c : Nat) (l : List Int) (w : World) (hl : InS w w.heap.size A n l) (hn : n ≤ 1000) (h1 : 1 ≤ n) :
    Calls Try.prog 83 #[.slice A n c] w fun e w' => e = .returned (.bool (leastB l)) ∧ Below w.heap.size w w' := by
  have HL := hid hl
  have hlen := hid hl.len
  clear hl
  go_enter Try.func83, Try.ntmps83
  go_wp2
  go_loopw [3] (fun i wr => ∃ k : Nat, 1 ≤ k ∧ k ≤ n ∧ i = .int .i64 k ∧ Below w.heap.size w wr ∧ Hid (∀ j, 0 < j → j < k → bef (rot l j) l = false)) (fun i _ => n - (intOf i).toNat)
  case atStart => exact ⟨1, by omega, by omega, rfl, Below.refl _ _, hid (fun j hj => by omega)⟩
  case round =>
    obtain ⟨k, hk1, hk, rfl, hbw, Hm⟩ := hrel
    have hszw := hbw.size
    have HLw := hid (HL.out.below hbw hszw)
    by_cases hlt : k < n
    · have hlti : (k : Int) < n := by omega
      go_wp2_with (fail)
      refine (turnOf_any A n c l k _ HLw.out (by omega) (by omega)).mono ?_
      rintro e W1 ⟨v1, rfl, ho1, hb1⟩
      obtain ⟨A1, c1, rfl, hs⟩ := sl_of_owns ho1
      have HT := hid (show InS W1 W1.heap.size A1 n (rot l k) from hs)
      have HL1 := hid (HLw.out.below hb1 hb1.size)
      have hbw1 := hbw.trans (hb1.mono hszw)
      have hsz1 := hbw1.size
      clear ho1 hs
      cases hbf : bef (rot l k) l
      · have Hbf := hid hbf
        have Hm2 : Hid (∀ j, 0 < j → j < k + 1 → bef (rot l j) l = false) := hid (fun j h2 h3 => by
          rcases Nat.lt_or_ge j k with h4 | h4
          · exact Hm.out j h2 h4
          · obtain rfl : j = k := by omega
            exact Hbf.out)
        clear hbf
        go_wp2_with (go_at_call 50; refine (before_any _ A1 A n c1 n c (rot l k) l HT.out HL1.out (by omega) (by omega)).mono ?_; rw [Hbf.out]; rintro e W2 ⟨rfl, hb2⟩)
        exact ⟨⟨k + 1, by omega, by omega, by go_num, hbw1.trans (hb2.mono hsz1), Hm2⟩, by simp [intOf]; omega⟩
      · have Hbf := hid hbf
        have hf : Hid (leastB l = false) := hid (leastB_no (by omega) (by rw [hlen.out]; exact hlt) hbf)
        clear hbf
        go_wp2_with (go_at_call 50; refine (before_any _ A1 A n c1 n c (rot l k) l HT.out HL1.out (by omega) (by omega)).mono ?_; rw [Hbf.out]; rintro e W2 ⟨rfl, hb2⟩)
        refine bodyPost_ret (v := .bool false) (by first | (simp [results, Try.results83, go_sem]; done) | (simp [results, Try.results83, go_sem, *]; done) | (simp [results, Try.results83, go_sem, World.cell?_setCell_same', *]; done) | (simp [results, Try.results83, go_sem]; first | exact ⟨rfl, rfl⟩ | rfl)) rfl ⟨by rw [hf.out], hbw1.trans (hb2.mono hsz1)⟩
    · obtain rfl : n = k := by omega
      have hf : Hid (leastB l = true) := hid (leastB_yes (by rw [hlen.out]; exact Hm.out))
      go_wp2
      refine bodyPost_ret (v := .bool true) (by first | (simp [results, Try.results83, go_sem]; done) | (simp [results, Try.results83, go_sem, *]; done) | (simp [results, Try.results83, go_sem, World.cell?_setCell_same', *]; done) | (simp [results, Try.results83, go_sem]; first | exact ⟨rfl, rfl⟩ | rfl)) rfl ⟨by rw [hf.out], hbw⟩
end Go.Proofs.Ytiobmfggnacplaa
