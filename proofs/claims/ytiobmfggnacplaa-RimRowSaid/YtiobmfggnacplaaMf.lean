/- Texts of the proof, laid together by program. -/
import Derived.Test.YtiobmfggnacplaaMe
import Derived.Test.YtiobmfggnacplaaMd
import Derived.ChangeKeysEq
set_option linter.unusedSimpArgs false
set_option linter.unusedVariables false
/- Walks: the law's Lists. -/
namespace Go.Proofs.Ytiobmfggnacplaa
open Go.RowKit
attribute [local go_sem] Oper.semAt_some
/-- Two lists of lists are alike. -/
def eqL (a b : List (List Int)) : Bool := decide (a = b)
theorem eqL_t {a b : List (List Int)} : eqL a b = true ↔ a = b := by simp [eqL]
theorem takeL_succ {a b : List (List Int)} {k : Nat} {x : List Int} (h : a.take k = b.take k) (ha : a[k]? = some x) (hb : b[k]? = some x) : a.take (k + 1) = b.take (k + 1) := by
  rw [List.take_add_one, List.take_add_one, h, ha, hb]
set_option maxRecDepth 10000 in
set_option maxHeartbeats 1600000 in
theorem lists_any (A B : Option Addr) (n c m d : Nat) (a b : List (List Int)) (w : World) (ha : LiS w w.heap.size A n a) (hb : LiS w w.heap.size B m b) (hn : n ≤ 100000) (hwa : ∀ x ∈ a, x.length ≤ 1000000) :
    Calls Try.prog 42 #[.slice A n c, .slice B m d] w fun e w' => e = .returned (.bool (eqL a b)) ∧ Below w.heap.size w w' := by
  have HA := hid ha
  have HB := hid hb
  have HW := hid hwa
  have la := hid ha.1
  have lb := hid hb.1
  clear ha hb hwa
  by_cases hnm : n = m
  · subst hnm
    have t0 : ((n : Int) != (n : Int)) = false := by simp
    go_enter Try.func42, Try.ntmps42
    go_wp2_with (fail)
    go_loopw [5] (fun i wr => ∃ k : Nat, k ≤ n ∧ i = .int .i64 k ∧ Hid (a.take k = b.take k) ∧ Below w.heap.size w wr) (fun i _ => n - (intOf i).toNat)
    case atStart => exact ⟨0, by omega, rfl, by simp [Hid], Below.refl _ _⟩
    case round =>
      obtain ⟨k, hk, rfl, heq, hbw⟩ := hrel
      have hszw := hbw.size
      by_cases hlt : k < n
      · obtain ⟨b1, o1, x, A1, m1, c1, rfl, hb1, hx, d1, hinx⟩ := (HA.out.below hbw hszw).at_ hlt
        obtain ⟨b2, o2, y, A2, m2, c2, rfl, hb2, hy, d2, hiny⟩ := (HB.out.below hbw hszw).at_ hlt
        have hm1 : m1 ≤ 1000000 := by have := hinx.len; have := HW.out x (List.mem_of_getElem? hx); omega
        have Hx := hid hinx
        have Hy := hid hiny
        have HX := hid hx
        have HY := hid hy
        have hlti : (k : Int) < n := by omega
        obtain ⟨bv, hbv⟩ : ∃ bv, eqI x y = bv := ⟨_, rfl⟩
        have Hbv := hid hbv
        clear hx hy hinx hiny hbv
        go_wp2
        refine wp_region_hd_all (fun W => Below wr.heap.size wr W) (by kernel_rfl) (by kernel_rfl) ((Below.refl _ _).drew) ?_
        iterate 8 (refine wpHd_val (v := ?_) (by rfl) (fun W hW => ?_) ?_; rotate_left; (· obtain ⟨hcW, hfW⟩ := bcell hW; go_simp; with_reducible rfl); simp only [Act.put, List.setIfInBounds_toArray, List.set_cons_zero, List.set_cons_succ])
        (refine wpHd_callB (by rfl) (fun W hW => ints_any W A1 A2 m1 c1 m2 c2 x y (Hx.out.below hW hW.size) (Hy.out.below hW hW.size) hm1) (fun W hW => ?_) ?_; (· obtain ⟨hcW, hfW⟩ := bcell hW; go_simp); simp only [Act.put, List.setIfInBounds_toArray, List.set_cons_zero, List.set_cons_succ])
        rw [Hbv.out]
        (refine wpHd_val (v := ?_) (by rfl) (fun W hW => ?_) ?_; rotate_left; (· obtain ⟨hcW, hfW⟩ := bcell hW; go_simp; with_reducible rfl); simp only [Act.put, List.setIfInBounds_toArray, List.set_cons_zero, List.set_cons_succ])
        refine wpHd_nil ?_
        intro W9 hW9
        have hbw9 := hbw.trans (hW9.mono hszw)
        cases bv
        · have hf : Hid (eqL a b = false) := hid (by
            cases h : eqL a b
            · rfl
            · exfalso
              have e1 := eqL_t.1 h
              have e2 : x = y := by have h1 := HX.out; rw [e1, HY.out] at h1; exact (Option.some.inj h1).symm
              have e3 := Hbv.out
              rw [eqI_t.2 e2] at e3
              cases e3)
          go_wp2
          refine bodyPost_ret (v := .bool false) (by first | (simp [results, Try.results42, go_sem]; done) | (simp [results, Try.results42, go_sem, *]; done) | (simp [results, Try.results42, go_sem, World.cell?_setCell_same', *]; done) | (simp [results, Try.results42, go_sem]; first | exact ⟨rfl, rfl⟩ | rfl)) rfl ⟨by rw [hf.out], hbw9⟩
        · have hs := hid (takeL_succ heq.out HX.out (by rw [eqI_t.1 Hbv.out]; exact HY.out))
          go_wp2
          exact ⟨⟨k + 1, by omega, by go_num, hs, hbw9⟩, by simp [intOf]; omega⟩
      · obtain rfl : n = k := by omega
        have hf : Hid (eqL a b = true) := hid (eqL_t.2 (by have := heq.out; rwa [List.take_of_length_le (by rw [la.out]; omega), List.take_of_length_le (by rw [lb.out]; omega)] at this))
        go_wp2
        refine bodyPost_ret (v := .bool true) (by first | (simp [results, Try.results42, go_sem]; done) | (simp [results, Try.results42, go_sem, *]; done) | (simp [results, Try.results42, go_sem, World.cell?_setCell_same', *]; done) | (simp [results, Try.results42, go_sem]; first | exact ⟨rfl, rfl⟩ | rfl)) rfl ⟨by rw [hf.out], hbw⟩
  · have t0 : ((n : Int) != (m : Int)) = true := by simp; omega
    have hf : Hid (eqL a b = false) := hid (by cases h : eqL a b; exact rfl; exact absurd (eqL_t.1 h) (fun e => hnm (by rw [← la.out, ← lb.out, e])))
    clear hnm
    go_enter Try.func42, Try.ntmps42
    go_wp2
    refine bodyPost_ret (v := .bool false) (by first | (simp [results, Try.results42, go_sem]; done) | (simp [results, Try.results42, go_sem, *]; done) | (simp [results, Try.results42, go_sem, World.cell?_setCell_same', *]; done) | (simp [results, Try.results42, go_sem]; first | exact ⟨rfl, rfl⟩ | rfl)) rfl ⟨by rw [hf.out], Below.refl _ _⟩
end Go.Proofs.Ytiobmfggnacplaa
/- Walks: which list stands at a place of a rim, as a number (reference). -/
namespace Go.Proofs.Ytiobmfggnacplaa
open Go.RowKit
attribute [local go_sem] Oper.semAt_some
def stI (K : Int) (l : List Int) (a : Nat) : Nat → Int
  | 0 => 0
  | k + 1 => K * stI K l a k + l.getD ((a + k) % l.length) 0
theorem stI_bd {K : Int} {l : List Int} {a : Nat} (hK : 1 ≤ K) (h : ∀ x ∈ l, 0 ≤ x ∧ x < K) : ∀ k, 0 ≤ stI K l a k ∧ stI K l a k + 1 ≤ K ^ k
  | 0 => by simp [stI]
  | k + 1 => by
    have ih := stI_bd (a := a) hK h k
    have hx : 0 ≤ l.getD ((a + k) % l.length) 0 ∧ l.getD ((a + k) % l.length) 0 < K := by
      rw [List.getD_eq_getElem?_getD]
      cases e : l[(a + k) % l.length]? with
      | none => simp; omega
      | some x => exact h x (List.mem_of_getElem? e)
    have h1 : 0 ≤ K * stI K l a k := Int.mul_nonneg (by omega) ih.1
    have h2 : K * (stI K l a k + 1) ≤ K * K ^ k := Int.mul_le_mul_of_nonneg_left ih.2 (by omega)
    rw [Int.mul_add, Int.mul_one] at h2
    rw [stI, Int.pow_succ, Int.mul_comm (K ^ k) K]
    omega
set_option maxRecDepth 10000 in
set_option maxHeartbeats 4000000 in
theorem standing_any (K : Int) (L : Nat) (A : Option Addr) (n c : Nat) (l : List Int) (a : Nat) (w : World) (hl : InS w w.heap.size A n l) (hn : n ≤ 1000) (h1 : 1 ≤ n) (hK1 : 1 ≤ K) (hK4 : K ≤ 4) (hL : L ≤ 12) (ha : a ≤ 1000) (hr : ∀ x ∈ l, 0 ≤ x ∧ x < K) :
    Calls Try.prog 87 #[.int .i64 K, .int .i64 (L : Int), .slice A n c, .int .i64 (a : Int)] w fun e w' => e = .returned (.int .i64 (stI K l a L)) ∧ Below w.heap.size w w' := by
  have HL := hid hl
  have hlen := hid hl.len
  have HR := hid hr
  clear hl hr
  have hn0 : ¬ (n : Int) = 0 := by omega
  go_enter Try.func87, Try.ntmps87
  go_wp2
  go_loopw [9, 10] (fun v i wr => ∃ k : Nat, k ≤ L ∧ i = .int .i64 k ∧ v = .int .i64 (stI K l a k) ∧ Below w.heap.size w wr) (fun _ i _ => L - (intOf i).toNat)
  case atStart => exact ⟨0, by omega, rfl, rfl, Below.refl _ _⟩
  case round =>
    obtain ⟨k, hk, rfl, rfl, hbw⟩ := hrel
    have hszw := hbw.size
    have hs := stI_bd (a := a) hK1 HR.out k
    have hp := pow_bd (k := k) hK1 hK4 (by omega)
    obtain ⟨s, hse⟩ : ∃ s, stI K l a k = s := ⟨_, rfl⟩
    have HS := hid hse
    rw [hse] at hs ⊢
    by_cases hlt : k < L
    · have hlti : (k : Int) < L := by omega
      obtain ⟨jj, hjj⟩ : ∃ j, (a + k) % n = j := ⟨_, rfl⟩
      have hjl : jj < n := by rw [← hjj]; exact Nat.mod_lt _ (by omega)
      have hjli : (jj : Int) < n := by omega
      have hti : Int.tmod ((a : Int) + (k : Int)) (n : Int) = (jj : Int) := by rw [← hjj]; exact (Int.ofNat_tmod (a + k) n).symm
      obtain ⟨b, off, x, rfl, hb1, hx, c0⟩ := (HL.out.below hbw hszw).at_ hjl
      have hxr := HR.out x (List.mem_of_getElem? hx)
      have hst : Hid (stI K l a (k + 1) = K * s + x) := hid (by rw [stI, HS.out, hlen.out, hjj, List.getD_eq_getElem?_getD, hx]; rfl)
      obtain ⟨y, hy⟩ : ∃ y, K * s = y := ⟨_, rfl⟩
      have hy0 : 0 ≤ y := by rw [← hy]; exact Int.mul_nonneg (by omega) hs.1
      have hy1 : y ≤ 4 * 16777216 := by rw [← hy]; exact Int.mul_le_mul hK4 (by omega) hs.1 (by omega)
      rw [hy] at hst
      clear hjj hx hse hs hp
      go_wp2
      exact ⟨⟨k + 1, by omega, by go_num, by rw [hst.out], hbw⟩, by simp [intOf]; omega⟩
    · obtain rfl : k = L := by omega
      clear hse hs hp
      go_wp2
      refine bodyPost_ret (v := .int .i64 s) (by first | (simp [results, Try.results87, go_sem]; done) | (simp [results, Try.results87, go_sem, *]; done) | (simp [results, Try.results87, go_sem, World.cell?_setCell_same', *]; done) | (simp [results, Try.results87, go_sem]; first | exact ⟨rfl, rfl⟩ | rfl)) rfl ⟨by rw [HS.out], hbw⟩
end Go.Proofs.Ytiobmfggnacplaa
/- Walks: the list of a number (reference). -/
namespace Go.Proofs.Ytiobmfggnacplaa
open Go.RowKit
attribute [local go_sem] Oper.semAt_some
/-- The digits of a number, as a list. -/
def numL (K t x : Nat) : List Int := (List.range t).map fun j => ((x / K ^ (t - 1 - j) % K : Nat) : Int)
theorem numL_len (K t x : Nat) : (numL K t x).length = t := by simp [numL]
set_option maxRecDepth 10000 in
set_option maxHeartbeats 4000000 in
theorem numbered_any (K t x : Nat) (w : World) (hK1 : 1 ≤ K) (hK4 : K ≤ 4) (ht : t ≤ 100) (hx : x ≤ 1000000000) :
    Calls Try.prog 82 #[.int .i64 (K : Int), .int .i64 (t : Int), .int .i64 (x : Int)] w fun e w' => e = .returned (.slice (some ⟨w.heap.size, 0, none⟩) t t) ∧ InS w' w'.heap.size (some ⟨w.heap.size, 0, none⟩) t (numL K t x) ∧ Below w.heap.size w w' := by
  have hK0 : ¬ (K : Int) = 0 := by omega
  have hmk := @make_i64 t (by omega)
  obtain ⟨W2, hW2⟩ : ∃ W2, w.alloc (.cells (madeCells #[.int .i64 0] t) 3) = W2 := ⟨_, rfl⟩
  have hb0 : Blk W2 w.heap.size 3 (madeCells #[.int .i64 0] t) := by rw [← hW2]; exact Blk.new' rfl
  have hbw0 : Below w.heap.size w W2 := by rw [← hW2]; exact (Below.refl _ _).alloc (Nat.le_refl _) _
  have H0 : Hid (∃ cs : Array Value, Blk W2 w.heap.size 3 cs ∧ cs.size = t ∧ ∀ j, j < t → cs[j]? = some (.int .i64 (if t - 0 ≤ j then ((x / K ^ (t - 1 - j) % K : Nat) : Int) else 0))) := hid ⟨_, hb0, by simp [madeCells], fun j hj => by
    rw [← Array.getElem?_toList, toList_madeCells_one, List.getElem?_replicate, if_pos hj, if_neg (by omega)]⟩
  go_enter Try.func82, Try.ntmps82
  go_wp2_with (fail)
  try rw [hW2]
  go_loopw [2, 8] (fun xv i wr => ∃ q : Nat, q ≤ t ∧ i = .int .i64 ((t : Int) - 1 - q) ∧ xv = .int .i64 ((x / K ^ q : Nat) : Int) ∧ Below w.heap.size w wr ∧ Hid (∃ cs : Array Value, Blk wr w.heap.size 3 cs ∧ cs.size = t ∧ ∀ j, j < t → cs[j]? = some (.int .i64 (if t - q ≤ j then ((x / K ^ (t - 1 - j) % K : Nat) : Int) else 0)))) (fun _ i _ => (intOf i + 1).toNat)
  case atStart => exact ⟨0, by omega, by go_num, by simp, hbw0, H0⟩
  case round =>
    obtain ⟨q, hq, rfl, rfl, hbw, hcs⟩ := hrel
    obtain ⟨cs, hB, hsz, hce⟩ := hcs.out
    obtain ⟨y, hy⟩ : ∃ y, x / K ^ q = y := ⟨_, rfl⟩
    have hyl : y ≤ 1000000000 := by rw [← hy]; exact Nat.le_trans (Nat.div_le_self _ _) hx
    have HY := hid hy
    rw [hy]
    have fz := hB.frozen (t - 1 - q)
    have lB := hB.lt
    by_cases hlt : q < t
    · have hlti : (0 : Int) ≤ (t : Int) - 1 - q := by omega
      obtain ⟨p, hp⟩ : ∃ p : Nat, t - 1 - q = p := ⟨_, rfl⟩
      have hpi : (t : Int) - 1 - q = (p : Int) := by omega
      have hplt : (p : Int) < t := by omega
      have hce2 : ∃ v, wr.cell? ⟨w.heap.size, p, none⟩ = some v := ⟨_, (hB.cell p).trans (hce p (by omega))⟩
      obtain ⟨vv, cv⟩ := hce2
      obtain ⟨z, hz⟩ : ∃ z, y % K = z := ⟨_, rfl⟩
      have hti : Int.tmod (y : Int) (K : Int) = (z : Int) := by rw [← hz]; exact (Int.ofNat_tmod y K).symm
      obtain ⟨u, hu⟩ : ∃ u, y / K = u := ⟨_, rfl⟩
      have htu : Int.tdiv (y : Int) (K : Int) = (u : Int) := by rw [← hu]; exact (Int.ofNat_tdiv y K).symm
      have hzl : z < 4 := by rw [← hz]; exact Nat.lt_of_lt_of_le (Nat.mod_lt _ (by omega)) hK4
      have hul : u ≤ 1000000000 := by rw [← hu]; exact Nat.le_trans (Nat.div_le_self _ _) hyl
      have Hu : Hid (x / K ^ (q + 1) = u) := hid (by rw [Nat.pow_succ, ← Nat.div_div_eq_div_mul, HY.out, hu])
      have Hset : Hid (∃ cs : Array Value, Blk (wr.setCell ⟨w.heap.size, p, none⟩ (.int .i64 (z : Int))) w.heap.size 3 cs ∧ cs.size = t ∧ ∀ j, j < t → cs[j]? = some (.int .i64 (if t - (q + 1) ≤ j then ((x / K ^ (t - 1 - j) % K : Nat) : Int) else 0))) := hid ⟨_, hB.set_ p _, by rw [Array.size_setIfInBounds]; exact hsz, fun j hj => by
        rw [Array.getElem?_setIfInBounds]
        by_cases hjp : p = j
        · rw [if_pos hjp, if_pos (by omega), if_pos (by omega), show t - 1 - j = q by omega, HY.out, hz]
        · rw [if_neg hjp, hce j hj]
          by_cases h5 : t - q ≤ j
          · rw [if_pos h5, if_pos (by omega)]
          · rw [if_neg h5, if_neg (by omega)]⟩
      rw [hp] at fz
      rw [hpi]
      have hp0 : (0 : Int) ≤ p := by omega
      clear hz hu hy hce hB hp
      go_wp2
      exact ⟨⟨q + 1, by omega, by rw [← hpi]; first | (go_num; done) | (congr 1; omega), by rw [Hu.out], hbw.setCell (Nat.le_refl _) _, Hset⟩, by simp [intOf]; try omega⟩
    · obtain rfl : q = t := by omega
      have hlti : ¬ (0 : Int) ≤ (q : Int) - 1 - q := by omega
      have Hin : Hid (InS wr wr.heap.size (some ⟨w.heap.size, 0, none⟩) q (numL K q x)) := hid ⟨by rw [cI_map, List.length_map, numL_len, Nat.mul_one], fun _ => ⟨w.heap.size, 0, rfl, lB, fun j u hu => by
        rw [Nat.zero_add, hB.cell]
        rw [cI_map, numL, List.map_map, List.getElem?_map] at hu
        rcases Nat.lt_or_ge j q with h6 | h6
        · rw [List.getElem?_range h6] at hu
          rw [hce j h6, if_pos (by omega)]
          exact hu
        · rw [List.getElem?_eq_none (by simp; exact h6)] at hu; cases hu⟩⟩
      clear hy hce hB
      go_wp2
      refine bodyPost_ret (v := .slice (some ⟨w.heap.size, 0, none⟩) q q) (by first | (simp [results, Try.results82, go_sem]; done) | (simp [results, Try.results82, go_sem, *]; done) | (simp [results, Try.results82, go_sem, World.cell?_setCell_same', *]; done) | (simp [results, Try.results82, go_sem]; first | exact ⟨rfl, rfl⟩ | rfl)) rfl ⟨rfl, Hin.out, hbw⟩
end Go.Proofs.Ytiobmfggnacplaa
/- Walks: rowError, of the reference. -/
namespace Go.Proofs.Ytiobmfggnacplaa
open Go.RowKit
attribute [local go_sem] Oper.semAt_some
/-- What is wrong with a row's question. -/
def rowE (K L : Int) : Int := if K < 1 ∨ 4 < K then 2 else if L < 1 ∨ 6 < L ∨ 64 < K ^ L.toNat then 6 else 0
set_option maxRecDepth 10000 in
set_option maxHeartbeats 4000000 in
theorem refRowError_any (K L : Int) (w : World) : Calls Try.prog 85 #[.int .i64 K, .int .i64 L] w fun e w' => e = .returned (.int .i64 (rowE K L)) ∧ Below w.heap.size w w' := by
  by_cases h1 : K < 1 ∨ 4 < K
  · have hf : Hid (rowE K L = 2) := hid (if_pos h1)
    have hk : Hid (kindsE K = 2) := hid (if_pos h1)
    clear h1
    go_enter Try.func85, Try.ntmps85
    go_wp2_with (go_at_call 64; refine (checkKinds_any K _).mono ?_; rw [hk.out]; rintro e W1 ⟨rfl, rfl⟩)
    refine bodyPost_ret (v := .int .i64 2) (by first | (simp [results, Try.results85, go_sem]; done) | (simp [results, Try.results85, go_sem, *]; done) | (simp [results, Try.results85, go_sem, World.cell?_setCell_same', *]; done) | (simp [results, Try.results85, go_sem]; first | exact ⟨rfl, rfl⟩ | rfl)) rfl ⟨by rw [hf.out], Below.refl _ _⟩
  · have hk : Hid (kindsE K = 0) := hid (if_neg h1)
    by_cases h2 : L < 1
    · have hf : Hid (rowE K L = 6) := hid (by unfold rowE; rw [if_neg h1, if_pos (.inl h2)])
      clear h1
      go_enter Try.func85, Try.ntmps85
      go_wp2_with (go_at_call 64; refine (checkKinds_any K _).mono ?_; rw [hk.out]; rintro e W1 ⟨rfl, rfl⟩)
      refine bodyPost_ret (v := .int .i64 6) (by first | (simp [results, Try.results85, go_sem]; done) | (simp [results, Try.results85, go_sem, *]; done) | (simp [results, Try.results85, go_sem, World.cell?_setCell_same', *]; done) | (simp [results, Try.results85, go_sem]; first | exact ⟨rfl, rfl⟩ | rfl)) rfl ⟨by rw [hf.out], Below.refl _ _⟩
    · by_cases h3 : 6 < L
      · have hf : Hid (rowE K L = 6) := hid (by unfold rowE; rw [if_neg h1, if_pos (.inr (.inl h3))])
        clear h1
        go_enter Try.func85, Try.ntmps85
        go_wp2_with (go_at_call 64; refine (checkKinds_any K _).mono ?_; rw [hk.out]; rintro e W1 ⟨rfl, rfl⟩)
        refine bodyPost_ret (v := .int .i64 6) (by first | (simp [results, Try.results85, go_sem]; done) | (simp [results, Try.results85, go_sem, *]; done) | (simp [results, Try.results85, go_sem, World.cell?_setCell_same', *]; done) | (simp [results, Try.results85, go_sem]; first | exact ⟨rfl, rfl⟩ | rfl)) rfl ⟨by rw [hf.out], Below.refl _ _⟩
      · obtain ⟨t, rfl⟩ : ∃ t : Nat, L = t := ⟨L.toNat, by omega⟩
        have hK1 : 1 ≤ K := by omega
        have hK4 : K ≤ 4 := by omega
        have ht : t ≤ 12 := by omega
        obtain ⟨p, hp⟩ : ∃ p, K ^ t = p := ⟨_, rfl⟩
        have HP := hid (fun v => refPower_any K t v hK1 hK4 ht)
        rw [hp] at HP
        have hv : Hid (rowE K t = if 64 < p then 6 else 0) := hid (by
          unfold rowE
          rw [if_neg h1, Int.toNat_natCast, hp]
          by_cases h4 : 64 < p
          · rw [if_pos h4, if_pos (.inr (.inr h4))]
          · rw [if_neg h4, if_neg (by omega)])
        clear h1 hp
        by_cases h4 : 64 < p
        · have hf : Hid (rowE K t = 6) := hid (by rw [hv.out, if_pos h4])
          go_enter Try.func85, Try.ntmps85
          go_wp2_with (first | (go_at_call 64; refine (checkKinds_any K _).mono ?_; rw [hk.out]; rintro e W1 ⟨rfl, rfl⟩) | (go_at_call 52; refine (HP.out _).mono ?_; rintro e W2 ⟨rfl, hb2⟩))
          refine bodyPost_ret (v := .int .i64 6) (by first | (simp [results, Try.results85, go_sem]; done) | (simp [results, Try.results85, go_sem, *]; done) | (simp [results, Try.results85, go_sem, World.cell?_setCell_same', *]; done) | (simp [results, Try.results85, go_sem]; first | exact ⟨rfl, rfl⟩ | rfl)) rfl ⟨by rw [hf.out], hb2⟩
        · have hf : Hid (rowE K t = 0) := hid (by rw [hv.out, if_neg h4])
          go_enter Try.func85, Try.ntmps85
          go_wp2_with (first | (go_at_call 64; refine (checkKinds_any K _).mono ?_; rw [hk.out]; rintro e W1 ⟨rfl, rfl⟩) | (go_at_call 52; refine (HP.out _).mono ?_; rintro e W2 ⟨rfl, hb2⟩))
          refine bodyPost_ret (v := .int .i64 0) (by first | (simp [results, Try.results85, go_sem]; done) | (simp [results, Try.results85, go_sem, *]; done) | (simp [results, Try.results85, go_sem, World.cell?_setCell_same', *]; done) | (simp [results, Try.results85, go_sem]; first | exact ⟨rfl, rfl⟩ | rfl)) rfl ⟨by rw [hf.out], hb2⟩
end Go.Proofs.Ytiobmfggnacplaa
/- Walks: what is wrong with a row's question, as the program says. Printed by rim/a37.py. -/
namespace Go.Proofs.Ytiobmfggnacplaa
open Go.RowKit
attribute [local go_sem] Oper.semAt_some
theorem rowE_k {K L : Int} (h : inR 1 4 K = false) : rowE K L = 2 := if_pos (by have := inR_f.1 h; omega)
theorem rowE_l {K L : Int} (h : inR 1 4 K = true) (h2 : inR 1 6 L = false) : rowE K L = 6 := by
  unfold rowE
  rw [if_neg (by have := inR_t.1 h; omega), if_pos (by have := inR_f.1 h2; omega)]
theorem rowE_p {K : Int} {t : Nat} {p : Int} (h : inR 1 4 K = true) (h2 : inR 1 6 (t : Int) = true) (hp : K ^ t = p) : rowE K t = if 64 < p then 6 else 0 := by
  have h3 := inR_t.1 h2
  unfold rowE
  rw [if_neg (by have := inR_t.1 h; omega), Int.toNat_natCast, hp]
  by_cases h4 : 64 < p
  · rw [if_pos h4, if_pos (.inr (.inr h4))]
  · rw [if_neg h4, if_neg (by omega)]
set_option maxRecDepth 10000 in
set_option maxHeartbeats 4000000 in
theorem rowed_any (K L : Int) (w : World) : Calls Try.prog 84 #[.int .i64 K, .int .i64 L] w fun e w' => e = .returned (.int .i64 (rowE K L)) ∧ Below w.heap.size w w' := by
  obtain ⟨W0, hW0⟩ : ∃ W0 : World, W0 = w := ⟨_, rfl⟩
  rw [← hW0]
  clear hW0
  have hbel : Below W0.heap.size W0 W0 := Below.refl _ _
  have hsz := hbel.size
  cases h1 : inR 1 4 K
  · have H1 := hid (all_one'.trans h1)
    have hf := hid (rowE_k (L := L) h1)
    clear h1
    go_enter Try.func84, Try.ntmps84
    go_wp2_with (fail)
    refine (within_any _ 1 1 [K] 1 4 _ (inS_lit1 K (by first | (simp; done) | (simp; omega) | omega) (by first | (simp; done) | (simp; omega) | omega)) (by omega)).mono ?_
    rw [H1.out]
    rintro e W1 ⟨rfl, hb⟩
    have hst : Below W0.heap.size W0 W1 := Below.trans (by repeat' (first | with_reducible assumption | with_reducible exact Below.refl _ _ | refine Below.alloc ?_ ?_ _ | refine Below.setCell ?_ ?_ _ | refine Below.drew ?_ | refine below_drewN ?_ _ | (simp; done) | (simp; omega) | omega)) (hb.mono (by first | (simp; done) | (simp; omega) | omega))
    replace hbel := hbel.trans (hst.mono hsz)
    replace hsz := hbel.size
    clear hb hst
    obtain ⟨W0, rfl⟩ : ∃ W0 : World, W0 = W1 := ⟨_, rfl⟩
    go_wp2
    refine bodyPost_ret (v := .int .i64 2) (by first | (simp [results, Try.results84, go_sem]; done) | (simp [results, Try.results84, go_sem, *]; done) | (simp [results, Try.results84, go_sem, World.cell?_setCell_same', *]; done) | (simp [results, Try.results84, go_sem]; first | exact ⟨rfl, rfl⟩ | rfl)) rfl ⟨by rw [hf.out], hbel⟩
  · have H1 := hid (all_one'.trans h1)
    cases h2 : inR 1 6 L
    · have H2 := hid (all_one'.trans h2)
      have hf := hid (rowE_l h1 h2)
      clear h1 h2
      go_enter Try.func84, Try.ntmps84
      go_wp2_with (fail)
      refine (within_any _ 1 1 [K] 1 4 _ (inS_lit1 K (by first | (simp; done) | (simp; omega) | omega) (by first | (simp; done) | (simp; omega) | omega)) (by omega)).mono ?_
      rw [H1.out]
      rintro e W1 ⟨rfl, hb⟩
      have hst : Below W0.heap.size W0 W1 := Below.trans (by repeat' (first | with_reducible assumption | with_reducible exact Below.refl _ _ | refine Below.alloc ?_ ?_ _ | refine Below.setCell ?_ ?_ _ | refine Below.drew ?_ | refine below_drewN ?_ _ | (simp; done) | (simp; omega) | omega)) (hb.mono (by first | (simp; done) | (simp; omega) | omega))
      replace hbel := hbel.trans (hst.mono hsz)
      replace hsz := hbel.size
      clear hb hst
      obtain ⟨W0, rfl⟩ : ∃ W0 : World, W0 = W1 := ⟨_, rfl⟩
      go_wp2_with (fail)
      refine (within_any _ 1 1 [L] 1 6 _ (inS_lit1 L (by first | (simp; done) | (simp; omega) | omega) (by first | (simp; done) | (simp; omega) | omega)) (by omega)).mono ?_
      rw [H2.out]
      rintro e W1 ⟨rfl, hb⟩
      have hst : Below W0.heap.size W0 W1 := Below.trans (by repeat' (first | with_reducible assumption | with_reducible exact Below.refl _ _ | refine Below.alloc ?_ ?_ _ | refine Below.setCell ?_ ?_ _ | refine Below.drew ?_ | refine below_drewN ?_ _ | (simp; done) | (simp; omega) | omega)) (hb.mono (by first | (simp; done) | (simp; omega) | omega))
      replace hbel := hbel.trans (hst.mono hsz)
      replace hsz := hbel.size
      clear hb hst
      obtain ⟨W0, rfl⟩ : ∃ W0 : World, W0 = W1 := ⟨_, rfl⟩
      go_wp2
      refine bodyPost_ret (v := .int .i64 6) (by first | (simp [results, Try.results84, go_sem]; done) | (simp [results, Try.results84, go_sem, *]; done) | (simp [results, Try.results84, go_sem, World.cell?_setCell_same', *]; done) | (simp [results, Try.results84, go_sem]; first | exact ⟨rfl, rfl⟩ | rfl)) rfl ⟨by rw [hf.out], hbel⟩
    · have hr2 := inR_t.1 h2
      have hr1 := inR_t.1 h1
      obtain ⟨t, rfl⟩ : ∃ t : Nat, L = t := ⟨L.toNat, by omega⟩
      have H2 := hid (all_one'.trans h2)
      obtain ⟨p, hp⟩ : ∃ p, K ^ t = p := ⟨_, rfl⟩
      have hv := hid (rowE_p h1 h2 hp)
      have HP := hid (fun v => power_any K t v hr1.1 hr1.2 (by omega))
      rw [hp] at HP
      clear h1 h2 hp
      by_cases h4 : 64 < p
      · have hf : Hid (rowE K t = 6) := hid (by rw [hv.out, if_pos h4])
        go_enter Try.func84, Try.ntmps84
        go_wp2_with (fail)
        refine (within_any _ 1 1 [K] 1 4 _ (inS_lit1 K (by first | (simp; done) | (simp; omega) | omega) (by first | (simp; done) | (simp; omega) | omega)) (by omega)).mono ?_
        rw [H1.out]
        rintro e W1 ⟨rfl, hb⟩
        have hst : Below W0.heap.size W0 W1 := Below.trans (by repeat' (first | with_reducible assumption | with_reducible exact Below.refl _ _ | refine Below.alloc ?_ ?_ _ | refine Below.setCell ?_ ?_ _ | refine Below.drew ?_ | refine below_drewN ?_ _ | (simp; done) | (simp; omega) | omega)) (hb.mono (by first | (simp; done) | (simp; omega) | omega))
        replace hbel := hbel.trans (hst.mono hsz)
        replace hsz := hbel.size
        clear hb hst
        obtain ⟨W0, rfl⟩ : ∃ W0 : World, W0 = W1 := ⟨_, rfl⟩
        go_wp2_with (fail)
        refine (within_any _ 1 1 [(t : Int)] 1 6 _ (inS_lit1 (t : Int) (by first | (simp; done) | (simp; omega) | omega) (by first | (simp; done) | (simp; omega) | omega)) (by omega)).mono ?_
        rw [H2.out]
        rintro e W1 ⟨rfl, hb⟩
        have hst : Below W0.heap.size W0 W1 := Below.trans (by repeat' (first | with_reducible assumption | with_reducible exact Below.refl _ _ | refine Below.alloc ?_ ?_ _ | refine Below.setCell ?_ ?_ _ | refine Below.drew ?_ | refine below_drewN ?_ _ | (simp; done) | (simp; omega) | omega)) (hb.mono (by first | (simp; done) | (simp; omega) | omega))
        replace hbel := hbel.trans (hst.mono hsz)
        replace hsz := hbel.size
        clear hb hst
        obtain ⟨W0, rfl⟩ : ∃ W0 : World, W0 = W1 := ⟨_, rfl⟩
        go_wp2_with (fail)
        refine (HP.out _).mono ?_
        rintro e W1 ⟨rfl, hb⟩
        have hst : Below W0.heap.size W0 W1 := Below.trans (by repeat' (first | with_reducible assumption | with_reducible exact Below.refl _ _ | refine Below.alloc ?_ ?_ _ | refine Below.setCell ?_ ?_ _ | refine Below.drew ?_ | refine below_drewN ?_ _ | (simp; done) | (simp; omega) | omega)) (hb.mono (by first | (simp; done) | (simp; omega) | omega))
        replace hbel := hbel.trans (hst.mono hsz)
        replace hsz := hbel.size
        clear hb hst
        obtain ⟨W0, rfl⟩ : ∃ W0 : World, W0 = W1 := ⟨_, rfl⟩
        go_wp2
        refine bodyPost_ret (v := .int .i64 6) (by first | (simp [results, Try.results84, go_sem]; done) | (simp [results, Try.results84, go_sem, *]; done) | (simp [results, Try.results84, go_sem, World.cell?_setCell_same', *]; done) | (simp [results, Try.results84, go_sem]; first | exact ⟨rfl, rfl⟩ | rfl)) rfl ⟨by rw [hf.out], hbel⟩
      · have hf : Hid (rowE K t = 0) := hid (by rw [hv.out, if_neg h4])
        go_enter Try.func84, Try.ntmps84
        go_wp2_with (fail)
        refine (within_any _ 1 1 [K] 1 4 _ (inS_lit1 K (by first | (simp; done) | (simp; omega) | omega) (by first | (simp; done) | (simp; omega) | omega)) (by omega)).mono ?_
        rw [H1.out]
        rintro e W1 ⟨rfl, hb⟩
        have hst : Below W0.heap.size W0 W1 := Below.trans (by repeat' (first | with_reducible assumption | with_reducible exact Below.refl _ _ | refine Below.alloc ?_ ?_ _ | refine Below.setCell ?_ ?_ _ | refine Below.drew ?_ | refine below_drewN ?_ _ | (simp; done) | (simp; omega) | omega)) (hb.mono (by first | (simp; done) | (simp; omega) | omega))
        replace hbel := hbel.trans (hst.mono hsz)
        replace hsz := hbel.size
        clear hb hst
        obtain ⟨W0, rfl⟩ : ∃ W0 : World, W0 = W1 := ⟨_, rfl⟩
        go_wp2_with (fail)
        refine (within_any _ 1 1 [(t : Int)] 1 6 _ (inS_lit1 (t : Int) (by first | (simp; done) | (simp; omega) | omega) (by first | (simp; done) | (simp; omega) | omega)) (by omega)).mono ?_
        rw [H2.out]
        rintro e W1 ⟨rfl, hb⟩
        have hst : Below W0.heap.size W0 W1 := Below.trans (by repeat' (first | with_reducible assumption | with_reducible exact Below.refl _ _ | refine Below.alloc ?_ ?_ _ | refine Below.setCell ?_ ?_ _ | refine Below.drew ?_ | refine below_drewN ?_ _ | (simp; done) | (simp; omega) | omega)) (hb.mono (by first | (simp; done) | (simp; omega) | omega))
        replace hbel := hbel.trans (hst.mono hsz)
        replace hsz := hbel.size
        clear hb hst
        obtain ⟨W0, rfl⟩ : ∃ W0 : World, W0 = W1 := ⟨_, rfl⟩
        go_wp2_with (fail)
        refine (HP.out _).mono ?_
        rintro e W1 ⟨rfl, hb⟩
        have hst : Below W0.heap.size W0 W1 := Below.trans (by repeat' (first | with_reducible assumption | with_reducible exact Below.refl _ _ | refine Below.alloc ?_ ?_ _ | refine Below.setCell ?_ ?_ _ | refine Below.drew ?_ | refine below_drewN ?_ _ | (simp; done) | (simp; omega) | omega)) (hb.mono (by first | (simp; done) | (simp; omega) | omega))
        replace hbel := hbel.trans (hst.mono hsz)
        replace hsz := hbel.size
        clear hb hst
        obtain ⟨W0, rfl⟩ : ∃ W0 : World, W0 = W1 := ⟨_, rfl⟩
        go_wp2
        refine bodyPost_ret (v := .int .i64 0) (by first | (simp [results, Try.results84, go_sem]; done) | (simp [results, Try.results84, go_sem, *]; done) | (simp [results, Try.results84, go_sem, World.cell?_setCell_same', *]; done) | (simp [results, Try.results84, go_sem]; first | exact ⟨rfl, rfl⟩ | rfl)) rfl ⟨by rw [hf.out], hbel⟩
end Go.Proofs.Ytiobmfggnacplaa
/- Walks: All, of the reference. -/
namespace Go.Proofs.Ytiobmfggnacplaa
open Go.RowKit
attribute [local go_sem] Oper.semAt_some
theorem NewLi.own_lt {w : World} {base : Nat} {v : Value} {ls : List (List Int)} (h : NewLi w base v ls) : ∀ r, v.ownBlock = some r → base ≤ r ∧ r < w.heap.size := fun r hr => by
  obtain ⟨vs, h1, -⟩ := h
  exact World.ownsRow.lt h1 r hr
/-- The rows of the first q numbers that no turn of theirs comes before. -/
def allT (K t q : Nat) : List (List Int) := ((List.range q).map (numL K t)).filter leastB
theorem allT_succ (K t q : Nat) : allT K t (q + 1) = if leastB (numL K t q) then allT K t q ++ [numL K t q] else allT K t q := by
  unfold allT
  rw [List.range_succ, List.map_append, List.filter_append]
  cases h : leastB (numL K t q) <;> simp [h]
theorem allT_len (K t q : Nat) : (allT K t q).length ≤ q := by
  unfold allT
  exact Nat.le_trans (List.length_filter_le _ _) (by simp)
theorem pow_few : ∀ (K : Fin 5) (t : Fin 13), 1 ≤ t.1 → 1 ≤ K.1 → cntT K.1 t.1 (t.1 + 1) ≤ 400 → K.1 ^ t.1 ≤ 5000 := by decide +kernel
def allE (K t : Int) : Int := if cntE K t ≠ 0 then cntE K t else if 400 < countV K t then 6 else 0
def allV (K t : Int) : List (List Int) := if allE K t = 0 then allT K.toNat t.toNat (K.toNat ^ t.toNat) else []
set_option maxRecDepth 10000 in
set_option maxHeartbeats 4000000 in
theorem refAll_any (K t : Int) (w : World) : Calls Try.prog 41 #[.int .i64 K, .int .i64 t] w fun e w' => ∃ v, e = .returned (.tuple #[v, .int .i64 (allE K t)]) ∧ NewLi w' w.heap.size v (allV K t) ∧ Below w.heap.size w w' := by
  by_cases hok : cntE K t ≠ 0
  · obtain ⟨E, hE⟩ : ∃ E, cntE K t = E := ⟨_, rfl⟩
    have HE := hid hE
    have he : Hid (allE K t = E) := hid (by unfold allE; rw [if_pos hok, hE])
    rw [hE] at hok
    have hv : Hid (allV K t = []) := hid (by unfold allV; rw [he.out, if_neg hok])
    have hb2 : (E != 0) = true := by simpa using hok
    clear hE
    go_enter Try.func41, Try.ntmps41
    go_wp2_with (fail)
    refine (refCounted_any K t _).mono ?_
    rw [HE.out]
    rintro e W1 ⟨rfl, hb1⟩
    go_wp2_with (fail)
    refine (refCounted_any K t _).mono ?_
    rw [HE.out]
    rintro e W2 ⟨rfl, hb2⟩
    go_wp2
    refine bodyPost_ret (v := .tuple #[.slice none 0 0, .int .i64 E]) (by first | (simp [results, Try.results41, go_sem]; done) | (simp [results, Try.results41, go_sem, *]; done) | (simp [results, Try.results41, go_sem, World.cell?_setCell_same', *]; done) | (simp [results, Try.results41, go_sem]; first | exact ⟨rfl, rfl⟩ | rfl)) rfl ⟨_, by rw [he.out], by rw [hv.out]; exact NewLi.nil _ _, hb1.trans (hb2.mono hb1.size)⟩
  · have hok' : cntE K t = 0 := by omega
    have HE := hid hok'
    have hr := cntE_ok hok'
    obtain ⟨k, rfl⟩ : ∃ k : Nat, K = k := ⟨K.toNat, by omega⟩
    obtain ⟨n, rfl⟩ : ∃ n : Nat, t = n := ⟨t.toNat, by omega⟩
    have hk1 : 1 ≤ k := by omega
    have hk4 : k ≤ 4 := by omega
    have hn1 : 1 ≤ n := by omega
    have hn12 : n ≤ 12 := by omega
    have hcv : countV (k : Int) (n : Int) = cntT k n (n + 1) := if_pos hok'
    obtain ⟨-, q2, q3, -⟩ := cnt_facts ⟨k, by omega⟩ ⟨n, by omega⟩
    simp only at q2 q3
    have he0 : Hid (allE (k : Int) (n : Int) = if 400 < cntT k n (n + 1) then 6 else 0) := hid (by unfold allE; rw [if_neg hok, hcv])
    have hfew := pow_few ⟨k, by omega⟩ ⟨n, by omega⟩ hn1 hk1
    simp only at hfew
    have HF := hid hfew
    obtain ⟨s, hs⟩ : ∃ s, cntT k n (n + 1) = s := ⟨_, rfl⟩
    have HC := hid (fun v => countOf_any k hk1 hk4 n v hn1 hn12)
    rw [hs] at HC he0 HF q2 q3
    clear hok hok' hr hcv hs hfew
    by_cases h4 : 400 < s
    · have he : Hid (allE (k : Int) (n : Int) = 6) := hid (by rw [he0.out, if_pos h4])
      have hv : Hid (allV (k : Int) (n : Int) = []) := hid (by unfold allV; rw [he.out, if_neg (by decide)])
      go_enter Try.func41, Try.ntmps41
      go_wp2_with (fail)
      refine (refCounted_any (k : Int) (n : Int) _).mono ?_
      rw [HE.out]
      rintro e W1 ⟨rfl, hb1⟩
      go_wp2_with (fail)
      refine (HC.out _).mono ?_
      rintro e W2 ⟨rfl, hb2⟩
      go_wp2
      refine bodyPost_ret (v := .tuple #[.slice none 0 0, .int .i64 6]) (by first | (simp [results, Try.results41, go_sem]; done) | (simp [results, Try.results41, go_sem, *]; done) | (simp [results, Try.results41, go_sem, World.cell?_setCell_same', *]; done) | (simp [results, Try.results41, go_sem]; first | exact ⟨rfl, rfl⟩ | rfl)) rfl ⟨_, by rw [he.out], by rw [hv.out]; exact NewLi.nil _ _, hb1.trans (hb2.mono hb1.size)⟩
    · have he : Hid (allE (k : Int) (n : Int) = 0) := hid (by rw [he0.out, if_neg h4])
      have hv : Hid (allV (k : Int) (n : Int) = allT k n (k ^ n)) := hid (by unfold allV; rw [he.out, if_pos rfl]; rfl)
      have hP5 : k ^ n ≤ 5000 := HF.out (by omega)
      obtain ⟨p, hp⟩ : ∃ p, k ^ n = p := ⟨_, rfl⟩
      have HPw := hid (fun v => refPower_any (k : Int) n v (by omega) (by omega) hn12)
      rw [show (k : Int) ^ n = ((p : Nat) : Int) by rw [← hp]; push_cast; rfl] at HPw
      rw [hp] at hv hP5
      clear hp
      go_enter Try.func41, Try.ntmps41
      go_wp2_with (fail)
      refine (refCounted_any (k : Int) (n : Int) _).mono ?_
      rw [HE.out]
      rintro e W1 ⟨rfl, hb1⟩
      go_wp2_with (fail)
      refine (HC.out _).mono ?_
      rintro e W2 ⟨rfl, hb2⟩
      have hbw2 := hb1.trans (hb2.mono hb1.size)
      have hz2 := hbw2.size
      clear hb1 hb2
      go_wp2_with (fail)
      go_loopw [6, 7] (fun v i wr => ∃ q : Nat, q ≤ p ∧ i = .int .i64 (q : Int) ∧ Below w.heap.size w wr ∧ Hid (NewLi wr w.heap.size v (allT k n q))) (fun _ i _ => p - (intOf i).toNat)
      case atStart => exact ⟨0, by omega, rfl, hbw2, hid (NewLi.nil _ _)⟩
      case round =>
        obtain ⟨q, hq, rfl, hbw, hown⟩ := hrel
        have hszw := hbw.size
        go_wp2_with (fail)
        refine (HPw.out _).mono ?_
        rintro e W3 ⟨rfl, hb3⟩
        have hbw3 := hbw.trans (hb3.mono hszw)
        have hz3 := hbw3.size
        have hown3 := hid (hown.out.below hb3)
        by_cases hlt : q < p
        · have hlti : (q : Int) < p := by omega
          have hfl := hid (Nat.le_trans (allT_len k n q) hq)
          have hst := hid (allT_succ k n q)
          go_wp2_with (fail)
          refine (numbered_any k n q _ hk1 hk4 (by omega) (by omega)).mono ?_
          rintro e W4 ⟨rfl, hin, hb4⟩
          have hbw4 := hbw3.trans (hb4.mono hz3)
          have hz4 := hbw4.size
          have hown4 := hid (hown3.out.below hb4)
          have hlt4 : W3.heap.size < W4.heap.size := by
            obtain ⟨b, off, e, hb, -⟩ := hin.2 (by omega)
            cases e; exact hb
          have Hin := hid hin
          clear hin
          cases hlb : leastB (numL k n q)
          · rw [hlb] at hst
            have HB := hid hlb
            clear hlb
            go_wp2_with (go_at_call 83; refine (isLeast_any _ n n _ _ Hin.out (by omega) hn1).mono ?_; rw [HB.out]; rintro e W5 ⟨rfl, hb5⟩)
            exact ⟨⟨q + 1, by omega, by go_num, hbw4.trans (hb5.mono hz4), hid (by rw [hst.out]; exact hown4.out.below hb5)⟩, by simp [intOf]; omega⟩
          · rw [hlb] at hst
            have HB := hid hlb
            clear hlb
            go_wp2_with (fail)
            refine (isLeast_any _ n n _ _ Hin.out (by omega) hn1).mono ?_
            rw [HB.out]
            rintro e W5 ⟨rfl, hb5⟩
            have hbw5 := hbw4.trans (hb5.mono hz4)
            have hz5 := hbw5.size
            have hown5 := hid (hown4.out.below hb5)
            have Hin5 := hid (Hin.out.below hb5 hb5.size)
            have hne : Hid (∀ e, (∃ v, v = u6) → u6.ownBlock = some e → e < W3.heap.size) := hid (fun e _ he' => by have := hown3.out.own_lt e he'; omega)
            have h45 := hb5.size
            go_wp2_with (at_builtin; refine newLi_append rfl (by rfl) _ _ rfl w.heap.size _ _ rfl (hown5.out.below ((Below.refl _ _).alloc (Nat.le_refl _) (.cells #[.slice (some ⟨W3.heap.size, 0, none⟩) n n] 22))) W5.heap.size (some ⟨W3.heap.size, 0, none⟩) n n (numL k n q) rfl (Blk.new' rfl) (Hin5.out.below ((Below.refl _ _).alloc (Nat.le_refl _) _) (by simp)) (fun b off e => ⟨(by cases e; simp; omega), fun e' => (by cases e; have := hne.out _ ⟨_, rfl⟩ e'; omega)⟩) (by have := hfl.out; omega) (by simp; omega) ?_; intro v4 w4 hn4 hg4 hat4; have hb6 : Below w.heap.size w w4 := (hbw5.alloc hz5 _).grown hg4 (by simp; omega) (fun r hr => (hown5.out.own_lt r hr).1))
            exact ⟨⟨q + 1, by omega, by go_num, hb6, hid (by rw [hst.out]; exact hn4)⟩, by simp [intOf]; omega⟩
        · obtain rfl : q = p := by omega
          go_wp2
          refine bodyPost_ret (v := .tuple #[u6, .int .i64 0]) (by first | (simp [results, Try.results41, go_sem]; done) | (simp [results, Try.results41, go_sem, *]; done) | (simp [results, Try.results41, go_sem, World.cell?_setCell_same', *]; done) | (simp [results, Try.results41, go_sem]; first | exact ⟨rfl, rfl⟩ | rfl)) rfl ⟨_, by rw [he.out], by rw [hv.out]; exact hown3.out, hbw3⟩
end Go.Proofs.Ytiobmfggnacplaa
/- Walks: Shift. -/
namespace Go.Proofs.Ytiobmfggnacplaa
open Go.RowKit Go.Shelf
attribute [local go_sem] Oper.semAt_some
theorem cells3 : Try.prog.cellsOf 3 = 1 := by kernel_rfl
theorem eqItem1 (W : World) (d i : Nat) (xs ys : Array Value) (is : List Nat) (a b : Int) (hx : xs[i]? = some (.int .i64 a)) (hy : ys[i]? = some (.int .i64 b)) (r : Bool) (hr : (Op.eqItems (d + 1) 3 1 xs ys is).run Try.prog W = .ok r W) : (Op.eqItems (d + 1) 3 1 xs ys (i :: is)).run Try.prog W = .ok (a == b && r) W := by
  simp only [Op.eqItems, Nat.mul_one]
  have e1 : (part 3 xs i).run Try.prog W = .ok (.int .i64 a) W := by go_simp
  have e2 : (part 3 ys i).run Try.prog W = .ok (.int .i64 b) W := by go_simp
  have e3 : (Op.equalIn (d + 1) 3 (.int .i64 a) (.int .i64 b)).run Try.prog W = .ok (a == b) W := by go_simp
  simp only [Sem.run_bind, e1, e2, e3, Result.andThen_ok]
  cases h : (a == b)
  · simp
  · simpa using hr
/-- The counts of two rims agree. -/
def sameC (a b : List Int) : Bool := (((cn a 0 : Nat) : Int) == (cn b 0 : Nat)) && ((((cn a 1 : Nat) : Int) == (cn b 1 : Nat)) && ((((cn a 2 : Nat) : Int) == (cn b 2 : Nat)) && ((((cn a 3 : Nat) : Int) == (cn b 3 : Nat)) && true)))
def c4 (a : List Int) : Value := .agg #[.int .i64 (cn a 0 : Nat), .int .i64 (cn a 1 : Nat), .int .i64 (cn a 2 : Nat), .int .i64 (cn a 3 : Nat)]
theorem eq80 (W : World) (d : Nat) (a b : List Int) : (Op.equalIn (d + 2) 80 (c4 a) (c4 b)).run Try.prog W = .ok (sameC a b) W := by
  obtain ⟨i0, hi0, hi1, hi2, hi3⟩ := info_parts' info3
  unfold c4
  rw [run_equalIn_array W (d + 1) (t := 80) (e := 3) (n := 4) (i := i0) _ _ (by kernel_rfl) hi0, cells3]
  rw [show List.range 4 = [0, 1, 2, 3] from rfl]
  refine (eqItem1 W d 0 _ _ _ _ _ rfl rfl _ (eqItem1 W d 1 _ _ _ _ _ rfl rfl _ (eqItem1 W d 2 _ _ _ _ _ rfl rfl _ (eqItem1 W d 3 _ _ _ _ _ rfl rfl true ?_)))).trans ?_
  · simp [Op.eqItems]
  · rfl
theorem neq80 (W : World) (a b : List Int) : (binOp .neq 80 (c4 a) (c4 b)).run Try.prog W = .ok (.bool (!sameC a b)) W := by
  have h : (Op.equalIn 10000 80 (c4 a) (c4 b)).run Try.prog W = .ok (sameC a b) W := eq80 W 9998 a b
  unfold c4 at h ⊢
  go_simp
theorem cn_rot (l : List Int) (k i : Nat) : cn (rot l k) i = cn l i := by
  unfold cn rot
  have h : cn l i = cn (l.take k ++ l.drop k) i := by rw [List.take_append_drop]
  unfold cn at h
  rw [h, List.filter_append, List.filter_append, List.length_append, List.length_append]
  omega
theorem sameC_rot (a : List Int) (k : Nat) : sameC a (rot a k) = true := by
  unfold sameC
  rw [cn_rot, cn_rot, cn_rot, cn_rot]
  simp
theorem shK_cn {a b : List Int} (h : sameC a b = false) : shK a b = none := shK_none (fun j _ e => by rw [← e, sameC_rot] at h; cases h)
theorem shK_ln {a b : List Int} (h : a.length ≠ b.length) : shK a b = none := shK_none (fun j _ e => h (by rw [← e, rot_len]))
set_option maxRecDepth 100000 in
set_option maxHeartbeats 4000000 in
theorem shift_bad (K : Int) (A B : Option Addr) (n c m d : Nat) (a b : List Int) (w : World) (ha : InS w w.heap.size A n a) (hb : InS w w.heap.size B m b) (hn : n ≤ 90) (hm : m ≤ 90) (hbad : checkRim K a ≠ 0 ∨ checkRim K b ≠ 0) :
    Calls Try.prog 28 #[.int .i64 K, .slice A n c, .slice B m d] w fun e w' => e = .returned (.tuple #[.int .i64 (shV K a b : Nat), .int .i64 (shE K a b)]) ∧ Below w.heap.size w w' := by
  have hla := hid ha.len
  have hlb := hid hb.len
  have HA := hid ha
  have HB := hid hb
  clear ha hb
  by_cases h1 : checkRim K a ≠ 0
  · obtain ⟨E, hE⟩ : ∃ E, checkRim K a = E := ⟨_, rfl⟩
    have HE := hid hE
    have hv : Hid (shV K a b = 0) := hid (if_pos h1)
    have he : Hid (shE K a b = E) := hid (by unfold shE; rw [if_pos h1, hE])
    have H1 := hid h1
    rw [hE] at h1
    have t1 : (E != 0) = true := by simpa using h1
    clear hE h1 hbad
    go_enter Try.func28, Try.ntmps28
    go_wp2_with (fail)
    have hba : Below w.heap.size w (((w.alloc (.cells #[.slice B m d] 22)).alloc (.cells #[.int .i64 0] 3)).alloc (.cells #[.int .i64 0] 25)) := (by repeat' (first | with_reducible assumption | with_reducible exact Below.refl _ _ | refine Below.alloc ?_ ?_ _ | refine Below.setCell ?_ ?_ _ | refine Below.drew ?_ | refine below_drewN ?_ _ | (simp; done) | (simp; omega) | omega))
    obtain ⟨W0, hW0⟩ : ∃ W0, (((w.alloc (.cells #[.slice B m d] 22)).alloc (.cells #[.int .i64 0] 3)).alloc (.cells #[.int .i64 0] 25)) = W0 := ⟨_, rfl⟩
    have B6 : Blk W0 (w.heap.size + 1) 3 #[.int .i64 0] := by rw [← hW0]; exact (Blk.new' (by first | (simp; done) | (simp; omega) | omega)).alloc _
    have B7 : Blk W0 (w.heap.size + 1 + 1) 25 #[.int .i64 0] := by rw [← hW0]; exact Blk.new' (by first | (simp; done) | (simp; omega) | omega)
    rw [hW0] at hba ⊢
    clear hW0
    refine (open_bad K A n c a _ (HA.out.below hba hba.size) (by omega) H1.out).mono ?_
    rw [HE.out]
    rintro e W1 ⟨rfl, hb1⟩
    have hbw := hba.trans (hb1.mono hba.size)
    replace B6 := B6.below hb1 B6.lt
    replace B7 := B7.below hb1 B7.lt
    have q6 := B6.cell 0
    have q7 := B7.cell 0
    have l6 := B6.lt
    have l7 := B7.lt
    have f6 := B6.frozen 0
    have f7 := B7.frozen 0
    go_wp2
    refine bodyPost_ret (v := .tuple #[.int .i64 0, .int .i64 E]) (by first | (simp [results, Try.results28, go_sem]; done) | (simp [results, Try.results28, go_sem, *]; done) | (simp [results, Try.results28, go_sem, World.cell?_setCell_same', *]; done) | (simp [results, Try.results28, go_sem]; first | exact ⟨rfl, rfl⟩ | rfl)) rfl ⟨by rw [hv.out, he.out]; rfl, (by repeat' (first | with_reducible assumption | with_reducible exact Below.refl _ _ | refine Below.alloc ?_ ?_ _ | refine Below.setCell ?_ ?_ _ | refine Below.drew ?_ | refine below_drewN ?_ _ | (simp; done) | (simp; omega) | omega))⟩
  · have h1' : checkRim K a = 0 := by omega
    have h2 : checkRim K b ≠ 0 := by omega
    obtain ⟨E, hE⟩ : ∃ E, checkRim K b = E := ⟨_, rfl⟩
    have HE := hid hE
    have hv : Hid (shV K a b = 0) := hid (by unfold shV; rw [if_neg h1, if_pos h2])
    have he : Hid (shE K a b = E) := hid (by unfold shE; rw [if_neg h1, if_pos h2, hE])
    have H1 := hid h1'
    have H2 := hid h2
    rw [hE] at h2
    have t1 : (E != 0) = true := by simpa using h2
    clear hE h1 hbad h2 h1'
    go_enter Try.func28, Try.ntmps28
    go_wp2_with (fail)
    have hba : Below w.heap.size w (((w.alloc (.cells #[.slice B m d] 22)).alloc (.cells #[.int .i64 0] 3)).alloc (.cells #[.int .i64 0] 25)) := (by repeat' (first | with_reducible assumption | with_reducible exact Below.refl _ _ | refine Below.alloc ?_ ?_ _ | refine Below.setCell ?_ ?_ _ | refine Below.drew ?_ | refine below_drewN ?_ _ | (simp; done) | (simp; omega) | omega))
    obtain ⟨W0, hW0⟩ : ∃ W0, (((w.alloc (.cells #[.slice B m d] 22)).alloc (.cells #[.int .i64 0] 3)).alloc (.cells #[.int .i64 0] 25)) = W0 := ⟨_, rfl⟩
    have B5 : Blk W0 w.heap.size 22 #[.slice B m d] := by rw [← hW0]; exact ((Blk.new' rfl).alloc _).alloc _
    have B6 : Blk W0 (w.heap.size + 1) 3 #[.int .i64 0] := by rw [← hW0]; exact (Blk.new' (by first | (simp; done) | (simp; omega) | omega)).alloc _
    have B7 : Blk W0 (w.heap.size + 1 + 1) 25 #[.int .i64 0] := by rw [← hW0]; exact Blk.new' (by first | (simp; done) | (simp; omega) | omega)
    rw [hW0] at hba ⊢
    clear hW0
    refine (open_ok K A n c a _ (HA.out.below hba hba.size) H1.out).mono ?_
    rintro e W1 ⟨g1, rfl, hg1, hR1, hb1⟩
    have hbw := hba.trans (hb1.mono hba.size)
    replace B5 := B5.below hb1 B5.lt
    replace B6 := B6.below hb1 B6.lt
    replace B7 := B7.below hb1 B7.lt
    have q5 := B5.cell 0
    have l5 := B5.lt
    go_wp2_with (fail)
    refine (open_bad K B m d b _ (HB.out.below hbw hbw.size) (by omega) H2.out).mono ?_
    rw [HE.out]
    rintro e W2 ⟨rfl, hb2⟩
    replace hbw := hbw.trans (hb2.mono hbw.size)
    replace B6 := B6.below hb2 B6.lt
    replace B7 := B7.below hb2 B7.lt
    have q6 := B6.cell 0
    have q7 := B7.cell 0
    have l6 := B6.lt
    have l7 := B7.lt
    have f6 := B6.frozen 0
    have f7 := B7.frozen 0
    clear q5 l5
    go_wp2
    refine bodyPost_ret (v := .tuple #[.int .i64 0, .int .i64 E]) (by first | (simp [results, Try.results28, go_sem]; done) | (simp [results, Try.results28, go_sem, *]; done) | (simp [results, Try.results28, go_sem, World.cell?_setCell_same', *]; done) | (simp [results, Try.results28, go_sem]; first | exact ⟨rfl, rfl⟩ | rfl)) rfl ⟨by rw [hv.out, he.out]; rfl, (by repeat' (first | with_reducible assumption | with_reducible exact Below.refl _ _ | refine Below.alloc ?_ ?_ _ | refine Below.setCell ?_ ?_ _ | refine Below.drew ?_ | refine below_drewN ?_ _ | (simp; done) | (simp; omega) | omega))⟩
end Go.Proofs.Ytiobmfggnacplaa
/- Walks: Shift: both rims are valid. -/
namespace Go.Proofs.Ytiobmfggnacplaa
open Go.RowKit Go.Shelf
attribute [local go_sem] Oper.semAt_some
theorem grow_set {o o' : Foot} {W W' : World} (h : Grow o W o' W') {p : Addr} (hp : o' p.block) (u : Value) : Grow o W o' (W'.setCell p u) := by
  refine ⟨h.os, h.tape, h.output, by have := h.size; simpa [World.setCell] using this, h.from_, fun k hk => by have := h.lt k hk; simpa [World.setCell] using this, fun k hk hn => ?_⟩
  rw [← h.same k hk hn]
  refine Below.heap_setCell _ _ _ _ (fun e => ?_)
  rcases h.from_ _ hp with h1 | h1
  · exact hn (by rw [e]; exact h1)
  · omega
theorem below_grow {B : Nat} {w W V : World} {o o' : Foot} (h : Below B w W) (hg : Grow o W o' V) (hB : B ≤ W.heap.size) (ho : ∀ k, o k → B ≤ k) : Below B w V :=
  h.trans ⟨hg.os, hg.tape, hg.output, hg.size, fun k hk => hg.same k (by omega) (fun hk' => by have := ho k hk'; omega)⟩
theorem cn_cells (K : Int) (A : Option Addr) (n c : Nat) (a : List Int) : (rdA K A n c a)[2]? = some (.int .i64 (cn a 0 : Nat)) ∧ (rdA K A n c a)[3]? = some (.int .i64 (cn a 1 : Nat)) ∧ (rdA K A n c a)[4]? = some (.int .i64 (cn a 2 : Nat)) ∧ (rdA K A n c a)[5]? = some (.int .i64 (cn a 3 : Nat)) := ⟨rfl, rfl, rfl, rfl⟩
set_option maxRecDepth 100000 in
set_option maxHeartbeats 4000000 in
theorem shift_no (K : Int) (A B : Option Addr) (n c m d : Nat) (a b : List Int) (w : World) (ha : InS w w.heap.size A n a) (hb : InS w w.heap.size B m b) (h1 : checkRim K a = 0) (h2 : checkRim K b = 0) (hno : sameC a b = false ∨ n ≠ m) :
    Calls Try.prog 28 #[.int .i64 K, .slice A n c, .slice B m d] w fun e w' => e = .returned (.tuple #[.int .i64 (shV K a b : Nat), .int .i64 (shE K a b)]) ∧ Below w.heap.size w w' := by
  have hla := hid ha.len
  have hlb := hid hb.len
  have hN : shK a b = none := by
    rcases hno with h | h
    · exact shK_cn h
    · exact shK_ln (by rw [hla.out, hlb.out]; exact h)
  have hv : Hid (shV K a b = 0) := hid (by unfold shV; rw [if_neg (by omega), if_neg (by omega), hN]; rfl)
  have he : Hid (shE K a b = 15) := hid (by unfold shE; rw [if_neg (by omega), if_neg (by omega), if_pos hN])
  have HA := hid ha
  have HB := hid hb
  have H1 := hid h1
  have H2 := hid h2
  clear ha hb h1 h2 hN
  go_enter Try.func28, Try.ntmps28
  go_wp2_with (fail)
  have hba : Below w.heap.size w (((w.alloc (.cells #[.slice B m d] 22)).alloc (.cells #[.int .i64 0] 3)).alloc (.cells #[.int .i64 0] 25)) := (by repeat' (first | with_reducible assumption | with_reducible exact Below.refl _ _ | refine Below.alloc ?_ ?_ _ | refine Below.setCell ?_ ?_ _ | refine Below.drew ?_ | refine below_drewN ?_ _ | (simp; done) | (simp; omega) | omega))
  obtain ⟨W0, hW0⟩ : ∃ W0, (((w.alloc (.cells #[.slice B m d] 22)).alloc (.cells #[.int .i64 0] 3)).alloc (.cells #[.int .i64 0] 25)) = W0 := ⟨_, rfl⟩
  have hz0 : W0.heap.size = w.heap.size + 1 + 1 + 1 := by rw [← hW0]; simp
  have B5 : Blk W0 w.heap.size 22 #[.slice B m d] := by rw [← hW0]; exact ((Blk.new' rfl).alloc _).alloc _
  have B6 : Blk W0 (w.heap.size + 1) 3 #[.int .i64 0] := by rw [← hW0]; exact (Blk.new' (by first | (simp; done) | (simp; omega) | omega)).alloc _
  have B7 : Blk W0 (w.heap.size + 1 + 1) 25 #[.int .i64 0] := by rw [← hW0]; exact Blk.new' (by first | (simp; done) | (simp; omega) | omega)
  rw [hW0] at hba ⊢
  clear hW0
  refine (id (open_ok K A n c a _ (HA.out.below hba hba.size) H1.out)).mono ?_
  rintro e W1 ⟨g1, rfl, hg1, hR1, hb1⟩
  have hbw := hba.trans (hb1.mono hba.size)
  replace B5 := B5.below hb1 B5.lt
  replace B6 := B6.below hb1 B6.lt
  replace B7 := B7.below hb1 B7.lt
  have q5 := B5.cell 0
  have l5 := B5.lt
  go_wp2_with (fail)
  refine (id (open_ok K B m d b _ (HB.out.below hbw hbw.size) H2.out)).mono ?_
  rintro e W2 ⟨g2, rfl, hg2, hR2, hb2⟩
  replace hbw := hbw.trans (hb2.mono hbw.size)
  replace B5 := B5.below hb2 B5.lt
  replace B6 := B6.below hb2 B6.lt
  replace B7 := B7.below hb2 B7.lt
  have hg1w : W0.heap.size ≤ g1 := hg1
  replace hR1 := hR1.below hb2
  have q5 := B5.cell 0
  have l5 := B5.lt
  have r2 := hR1.1.cell 2
  have r3 := hR1.1.cell 3
  have r4 := hR1.1.cell 4
  have r5 := hR1.1.cell 5
  have s2 := hR2.1.cell 2
  have s3 := hR2.1.cell 3
  have s4 := hR2.1.cell 4
  have s5 := hR2.1.cell 5
  rw [(cn_cells K A n c a).1] at r2
  rw [(cn_cells K A n c a).2.1] at r3
  rw [(cn_cells K A n c a).2.2.1] at r4
  rw [(cn_cells K A n c a).2.2.2] at r5
  rw [(cn_cells K B m d b).1] at s2
  rw [(cn_cells K B m d b).2.1] at s3
  rw [(cn_cells K B m d b).2.2.1] at s4
  rw [(cn_cells K B m d b).2.2.2] at s5
  have lg1 := hR1.1.lt
  have lg2 := hR2.1.lt
  go_wp2_with (fail)
  refine wp_region_hd_all (fun W => Below W2.heap.size W2 W) (by kernel_rfl) (by kernel_rfl) ((Below.refl _ _).drew) ?_
  iterate 8 (refine wpHd_val (v := ?_) (by rfl) (fun W hW => ?_) ?_; rotate_left; (· obtain ⟨hcW, hfW⟩ := bcell hW; go_simp; with_reducible rfl); simp only [Act.put, List.setIfInBounds_toArray, List.set_cons_zero, List.set_cons_succ])
  refine wpHd_val (v := .bool (!sameC a b)) (by rfl) (fun W hW => ?_) ?_
  · have h : (Op.equalIn 10000 80 (c4 a) (c4 b)).run Try.prog W = .ok (sameC a b) W := eq80 W 9998 a b
    unfold c4 at h
    go_simp
  simp only [Act.put, List.setIfInBounds_toArray, List.set_cons_zero, List.set_cons_succ]
  (refine wpHd_val (v := ?_) (by rfl) (fun W hW => ?_) ?_; rotate_left; (· obtain ⟨hcW, hfW⟩ := bcell hW; go_simp; with_reducible rfl); simp only [Act.put, List.setIfInBounds_toArray, List.set_cons_zero, List.set_cons_succ])
  cases hs : sameC a b
  · iterate 5 (refine wpHd_not (by rfl) ?_; simp only [Act.put, List.setIfInBounds_toArray, List.set_cons_zero, List.set_cons_succ])
    iterate 2 (refine wpHd_val (v := ?_) (by rfl) (fun W hW => ?_) ?_; rotate_left; (· obtain ⟨hcW, hfW⟩ := bcell hW; go_simp; with_reducible rfl); simp only [Act.put, List.setIfInBounds_toArray, List.set_cons_zero, List.set_cons_succ])
    refine wpHd_nil ?_
    intro W9 hW9
    have hbw9 := hbw.trans (hW9.mono hbw.size)
    replace B6 := B6.below hW9 B6.lt
    replace B7 := B7.below hW9 B7.lt
    have q6 := B6.cell 0
    have q7 := B7.cell 0
    have l6 := B6.lt
    have l7 := B7.lt
    have f6 := B6.frozen 0
    have f7 := B7.frozen 0
    clear q5 l5 r2 r3 r4 r5 s2 s3 s4 s5
    go_wp2
    refine bodyPost_ret (v := .tuple #[.int .i64 0, .int .i64 15]) (by first | (simp [results, Try.results28, go_sem]; done) | (simp [results, Try.results28, go_sem, *]; done) | (simp [results, Try.results28, go_sem, World.cell?_setCell_same', *]; done) | (simp [results, Try.results28, go_sem]; first | exact ⟨rfl, rfl⟩ | rfl)) rfl ⟨by rw [hv.out, he.out]; rfl, (by repeat' (first | with_reducible assumption | with_reducible exact Below.refl _ _ | refine Below.alloc ?_ ?_ _ | refine Below.setCell ?_ ?_ _ | refine Below.drew ?_ | refine below_drewN ?_ _ | (simp; done) | (simp; omega) | omega))⟩
  · have hnm : n ≠ m := by
      rcases hno with h | h
      · rw [hs] at h; cases h
      · exact h
    have t9 : ((n : Int) != (m : Int)) = true := by simp; omega
    clear hnm hno
    iterate 7 (refine wpHd_val (v := ?_) (by rfl) (fun W hW => ?_) ?_; rotate_left; (· obtain ⟨hcW, hfW⟩ := bcell hW; go_simp; with_reducible rfl); simp only [Act.put, List.setIfInBounds_toArray, List.set_cons_zero, List.set_cons_succ])
    refine wpHd_nil ?_
    intro W9 hW9
    have hbw9 := hbw.trans (hW9.mono hbw.size)
    replace B6 := B6.below hW9 B6.lt
    replace B7 := B7.below hW9 B7.lt
    have q6 := B6.cell 0
    have q7 := B7.cell 0
    have l6 := B6.lt
    have l7 := B7.lt
    have f6 := B6.frozen 0
    have f7 := B7.frozen 0
    clear q5 l5 r2 r3 r4 r5 s2 s3 s4 s5
    go_wp2
    refine bodyPost_ret (v := .tuple #[.int .i64 0, .int .i64 15]) (by first | (simp [results, Try.results28, go_sem]; done) | (simp [results, Try.results28, go_sem, *]; done) | (simp [results, Try.results28, go_sem, World.cell?_setCell_same', *]; done) | (simp [results, Try.results28, go_sem]; first | exact ⟨rfl, rfl⟩ | rfl)) rfl ⟨by rw [hv.out, he.out]; rfl, (by repeat' (first | with_reducible assumption | with_reducible exact Below.refl _ _ | refine Below.alloc ?_ ?_ _ | refine Below.setCell ?_ ?_ _ | refine Below.drew ?_ | refine below_drewN ?_ _ | (simp; done) | (simp; omega) | omega))⟩
set_option maxRecDepth 100000 in
set_option maxHeartbeats 4000000 in
theorem shift_go (K : Int) (b1 off1 : Nat) (B : Option Addr) (n c d : Nat) (a b : List Int) (w : World) (ha : InS w w.heap.size (some ⟨b1, off1, none⟩) n a) (hb : InS w w.heap.size B n b) (hc : n ≤ c) (h1 : checkRim K a = 0) (h2 : checkRim K b = 0) (hs : sameC a b = true) (hn1 : 1 ≤ n) (hn64 : n ≤ 64) (lb1 : b1 < w.heap.size) :
    Calls Try.prog 28 #[.int .i64 K, .slice (some ⟨b1, off1, none⟩) n c, .slice B n d] w fun e w' => e = .returned (.tuple #[.int .i64 (shV K a b : Nat), .int .i64 (shE K a b)]) ∧ Below w.heap.size w w' := by
  have hla := hid ha.len
  have hlb := hid hb.len
  have hv0 : Hid (shV K a b = (shK a b).getD 0) := hid (by unfold shV; rw [if_neg (by omega), if_neg (by omega)])
  have he0 : Hid (shE K a b = if shK a b = none then 15 else 0) := hid (by unfold shE; rw [if_neg (by omega), if_neg (by omega)])
  have HA := hid ha
  have HB := hid hb
  have H1 := hid h1
  have H2 := hid h2
  have t9 : ((n : Int) != (n : Int)) = false := by simp
  clear ha hb h1 h2
  obtain ⟨A, hA⟩ : ∃ A : Option Addr, some ⟨b1, off1, none⟩ = A := ⟨_, rfl⟩
  have HAe := hid hA
  rw [hA] at HA ⊢
  clear hA
  (refine (callsIn_wide (n := 9)).1 ?_; refine callsIn_of_wp_marks (F := Wd none) Try.func28 rfl trivial ?_ rfl; simp only [Try.ntmps28, List.size_toArray, List.length_cons, List.length_nil, Nat.reduceAdd, Nat.reduceSub, Array.replicate_succ, Array.replicate_zero, List.push_toArray, List.append_toArray, List.nil_append, List.cons_append])
  gi_wp2_with (fail)
  have hba : Below w.heap.size w (((w.alloc (.cells #[.slice B n d] 22)).alloc (.cells #[.int .i64 0] 3)).alloc (.cells #[.int .i64 0] 25)) := (by repeat' (first | with_reducible assumption | with_reducible exact Below.refl _ _ | refine Below.alloc ?_ ?_ _ | refine Below.setCell ?_ ?_ _ | refine Below.drew ?_ | refine below_drewN ?_ _ | (simp; done) | (simp; omega) | omega))
  obtain ⟨W0, hW0⟩ : ∃ W0, (((w.alloc (.cells #[.slice B n d] 22)).alloc (.cells #[.int .i64 0] 3)).alloc (.cells #[.int .i64 0] 25)) = W0 := ⟨_, rfl⟩
  have hz0 : W0.heap.size = w.heap.size + 1 + 1 + 1 := by rw [← hW0]; simp
  have B5 : Blk W0 w.heap.size 22 #[.slice B n d] := by rw [← hW0]; exact ((Blk.new' rfl).alloc _).alloc _
  have B6 : Blk W0 (w.heap.size + 1) 3 #[.int .i64 0] := by rw [← hW0]; exact (Blk.new' (by first | (simp; done) | (simp; omega) | omega)).alloc _
  have B7 : Blk W0 (w.heap.size + 1 + 1) 25 #[.int .i64 0] := by rw [← hW0]; exact Blk.new' (by first | (simp; done) | (simp; omega) | omega)
  rw [hW0] at hba ⊢
  clear hW0
  refine (calls_wd (open_ok K A n c a _ (HA.out.below hba hba.size) H1.out)).mono ?_
  rintro e W1 ⟨g1, rfl, hg1, hR1, hb1⟩
  have hbw := hba.trans (hb1.mono hba.size)
  replace B5 := B5.below hb1 B5.lt
  replace B6 := B6.below hb1 B6.lt
  replace B7 := B7.below hb1 B7.lt
  have q5 := B5.cell 0
  have l5 := B5.lt
  gi_wp2_with (fail)
  refine (calls_wd (open_ok K B n d b _ (HB.out.below hbw hbw.size) H2.out)).mono ?_
  rintro e W2 ⟨g2, rfl, hg2, hR2, hb2⟩
  replace hbw := hbw.trans (hb2.mono hbw.size)
  replace B5 := B5.below hb2 B5.lt
  replace B6 := B6.below hb2 B6.lt
  replace B7 := B7.below hb2 B7.lt
  have hg1w : W0.heap.size ≤ g1 := hg1
  replace hR1 := hR1.below hb2
  have q5 := B5.cell 0
  have l5 := B5.lt
  have r2 := hR1.1.cell 2
  have r3 := hR1.1.cell 3
  have r4 := hR1.1.cell 4
  have r5 := hR1.1.cell 5
  have s2 := hR2.1.cell 2
  have s3 := hR2.1.cell 3
  have s4 := hR2.1.cell 4
  have s5 := hR2.1.cell 5
  rw [(cn_cells K A n c a).1] at r2
  rw [(cn_cells K A n c a).2.1] at r3
  rw [(cn_cells K A n c a).2.2.1] at r4
  rw [(cn_cells K A n c a).2.2.2] at r5
  rw [(cn_cells K B n d b).1] at s2
  rw [(cn_cells K B n d b).2.1] at s3
  rw [(cn_cells K B n d b).2.2.1] at s4
  rw [(cn_cells K B n d b).2.2.2] at s5
  have lg1 := hR1.1.lt
  have lg2 := hR2.1.lt
  gi_wp2_with (fail)
  refine wpIn_region_hd_all (fun W => Below W2.heap.size W2 W) (by kernel_rfl) (by kernel_rfl) ((Below.refl _ _).drew) ?_
  iterate 8 (refine wpHd_val (v := ?_) (by rfl) (fun W hW => ?_) ?_; rotate_left; (· obtain ⟨hcW, hfW⟩ := bcell hW; go_simp; with_reducible rfl); simp only [Act.put, List.setIfInBounds_toArray, List.set_cons_zero, List.set_cons_succ])
  refine wpHd_val (v := .bool (!sameC a b)) (by rfl) (fun W hW => ?_) ?_
  · have h : (Op.equalIn 10000 80 (c4 a) (c4 b)).run Try.prog W = .ok (sameC a b) W := eq80 W 9998 a b
    unfold c4 at h
    go_simp
  simp only [Act.put, List.setIfInBounds_toArray, List.set_cons_zero, List.set_cons_succ]
  (refine wpHd_val (v := ?_) (by rfl) (fun W hW => ?_) ?_; rotate_left; (· obtain ⟨hcW, hfW⟩ := bcell hW; go_simp; with_reducible rfl); simp only [Act.put, List.setIfInBounds_toArray, List.set_cons_zero, List.set_cons_succ])
  rw [hs]
  iterate 7 (refine wpHd_val (v := ?_) (by rfl) (fun W hW => ?_) ?_; rotate_left; (· obtain ⟨hcW, hfW⟩ := bcell hW; go_simp; with_reducible rfl); simp only [Act.put, List.setIfInBounds_toArray, List.set_cons_zero, List.set_cons_succ])
  refine wpHd_nil ?_
  intro W9 hW9
  replace hbw := hbw.trans (hW9.mono hbw.size)
  replace B5 := B5.below hW9 B5.lt
  replace B6 := B6.below hW9 B6.lt
  replace B7 := B7.below hW9 B7.lt
  have HR := hid (hR1.below hW9)
  have hz9 := hbw.size
  clear q5 l5 r2 r3 r4 r5 s2 s3 s4 s5 hR1 hR2 lg1 lg2 hs t9
  gi_wp2_with (fail)
  refine (calls_wd (turnsIt_any g1 W9)).mono ?_
  rintro e X6 ⟨rfl, hX6⟩
  have Hb06 : Below W9.heap.size W9 X6 := by rw [← hX6]; exact (by repeat' (first | with_reducible assumption | with_reducible exact Below.refl _ _ | refine Below.alloc ?_ ?_ _ | refine Below.setCell ?_ ?_ _ | refine Below.drew ?_ | refine below_drewN ?_ _ | (simp; done) | (simp; omega) | omega))
  have HBx : Hid (Blk X6 W9.heap.size 69 #[.pointer (some ⟨g1, 0, none⟩)]) := hid (by rw [← hX6]; exact Blk.new' rfl)
  have Hz6 : Hid (X6.heap.size = W9.heap.size + 1) := hid (by rw [← hX6]; simp)
  clear hX6
  gi_wp2
  obtain ⟨T5, hT5⟩ : ∃ T, w.heap.size = T := ⟨_, rfl⟩
  obtain ⟨T6, hT6⟩ : ∃ T, T5 + 1 = T := ⟨_, rfl⟩
  obtain ⟨T7, hT7⟩ : ∃ T, T6 + 1 = T := ⟨_, rfl⟩
  rw [hT5, hT6] at B6 B7
  rw [hT5] at B5
  rw [hT7] at B7
  rw [hT5, hT6, hT7]
  have B5x := B5.below Hb06 B5.lt
  have B6x := B6.below Hb06 B6.lt
  have B7x := B7.below Hb06 B7.lt
  have hbX : Below w.heap.size w X6 := hbw.trans (Hb06.mono hbw.size)
  have HBb : InS X6 X6.heap.size B n b := HB.out.below hbX hbX.size
  have HRx := hid (HR.out.below Hb06)
  have hg1T : T7 < g1 := by omega
  have hg1X : g1 < W9.heap.size := HR.out.1.lt
  have HbX := hid hbX
  clear B5 B6 B7 hbw hba hb1 hb2 hW9 hbX HR
  refine with_frame fun TT hTT => ?_
  refine wpIn_rangeFunc_foot (F := Wd none) (α := TE) X6.heap.size rfl rfl rfl (gf := 95) (lb := #[.pointer (some ⟨W9.heap.size, 0, none⟩)]) (by rw [hTT]; rfl) trivial (enters_of Try.func95 (by kernel_rfl) rfl)
    (encs := encT) (Rd := RdT n a) (Nb := n) (S := fun xs => xs.map tk = tnL a n) (Sp := fun xs => ∃ k, k ≤ n ∧ xs.map tk = tnL a k) (fun j => j = T6 ∨ j = T7) (fun j hj => by have := B7x.lt; omega) ?hseq rdT_keep (fun _ => rfl)
    (fun ys ow V => (∀ y ∈ ys, y.l ≠ b) ∧ Blk V T6 3 #[.int .i64 0] ∧ Blk V T7 25 #[.int .i64 0] ∧ ow T6 ∧ ow T7 ∧ ¬ ow T5 ∧ Blk V T5 22 #[.slice B n d] ∧ InS V X6.heap.size B n b ∧ X6.heap.size ≤ V.heap.size) (fun c ys ow V => c = .ret ∧ ∃ ys0 y, ys = ys0 ++ [y] ∧ (∀ z ∈ ys0, z.l ≠ b) ∧ y.l = b ∧ Blk V T6 3 #[.int .i64 (y.k : Int)] ∧ Blk V T7 25 #[.int .i64 0] ∧ ow T6 ∧ ow T7) ?hI ?hIx ⟨fun y hy => (by cases hy), B6x, B7x, Or.inl rfl, Or.inr rfl, (by omega), B5x, HBb, Nat.le_refl _⟩
    (fun x a' V => a' = { tmps := ((TT.setIfInBounds 51 (.int .i64 (x.k : Int))).setIfInBounds 52 x.v |>.setIfInBounds 11 (.int .i64 (x.k : Int))).setIfInBounds 12 x.v, defers := [] }) ?assign (fun x a' V o h => h) ?body ?done ?stop
  case hseq =>
    intro W' hW'
    have hz6 := Hz6.out
    have hzw' := hW'.size
    have hR' := HRx.out.below hW'
    rw [← HAe.out] at hR'
    refine turns_give W' _ W9.heap.size g1 K b1 off1 n c a hc hn64 hn1 ⟨(HBx.out.below hW' HBx.out.lt).cell 0, by omega, ?_, hR'.1, ?_, hR'.2, by have := HbX.out.size; omega, ?_⟩
    all_goals
      rintro (h | h | h) <;> omega
  case hI =>
    rintro ys ow V V' ⟨h0, h1, h2, h3, h4, h5, h6, h7, h8⟩ hk hz e1 e2 e3
    exact ⟨h0, (hk _ (.inr (.inl h3)) h1.lt).trans h1, (hk _ (.inr (.inl h4)) h2.lt).trans h2, h3, h4, h5, (hk _ (.inl (by have := B5x.lt; omega)) h6.lt).trans h6, ins_at h7 (Nat.le_refl _) (fun b' off' e hb' => hk _ (.inl hb') (by omega)), by omega⟩
  case hIx =>
    rintro c ys ow V V' ⟨hc', ys0, y, h0, h1, h2, h3, h4, h5, h6⟩ hk hz e1 e2 e3
    exact ⟨hc', ys0, y, h0, h1, h2, (hk _ (.inr (.inl h5)) h3.lt).trans h3, (hk _ (.inr (.inl h6)) h4.lt).trans h4, h5, h6⟩
  case assign =>
    rintro l x V Kk hrd hV hK
    simp only [encT, hTT]
    gi_wp2
    exact hK _ _ (Below.refl _ _) (by rw [hTT]; rfl)
  case body =>
    rintro l pre ow x a' V ⟨h0, h1, h2, h3, h4, h5, h6, h7, h8⟩ hNb hlt hnB hrd rfl hV
    obtain ⟨xk, xv, xl⟩ := x
    obtain ⟨⟨Ax, cx, hxv, hxin, hxc, -⟩, hxk, hxl⟩ := hrd
    have hxv' : xv = .slice Ax n cx := hxv
    subst hxv'
    have hxin' : InS V V.heap.size Ax n xl := hxin
    have q5 := h6.cell 0
    have l5 := h6.lt
    have HX := hid hxin'
    have Hb7 : Hid (InS V V.heap.size B n b) := hid (ins_at h7 (by omega) (fun _ _ _ _ => rfl))
    have H0 := hid h0
    have H1 := hid h1
    have H2 := hid h2
    have h7' := h7
    clear hxin hxin' h0 h1 h2 h7
    simp only [hTT, List.setIfInBounds_toArray, List.set_cons_zero, List.set_cons_succ]
    gi_wp2_with (fail)
    cases heq : eqI xl b
    · have Heq := hid heq
      have h0' : Hid (∀ y ∈ pre ++ [(⟨xk, .slice Ax n cx, xl⟩ : TE)], y.l ≠ b) := hid (fun y hy => by
        rcases List.mem_append.1 hy with h | h
        · exact H0.out y h
        · obtain rfl := List.mem_singleton.1 h
          intro e; rw [eqI_t.2 e] at heq; cases heq)
      clear heq
      refine (calls_wd (equal_any V Ax B n cx n d xl b HX.out Hb7.out (by omega))).mono ?_
      rw [Heq.out]
      rintro e V2 ⟨rfl, hb2⟩
      gi_wp2
      exact ⟨ow, ⟨h0'.out, H1.out.below hb2 H1.out.lt, H2.out.below hb2 H2.out.lt, h3, h4, h5, h6.below hb2 h6.lt, ins_at h7' (Nat.le_refl _) (fun b' off' e hb' => hb2.block _ (by omega)), by have := hb2.size; omega⟩, grow_below hlt hb2⟩
    · have Heq := hid heq
      clear heq
      refine (calls_wd (equal_any V Ax B n cx n d xl b HX.out Hb7.out (by omega))).mono ?_
      rw [Heq.out]
      rintro e V2 ⟨rfl, hb2⟩
      have b6 := H1.out.below hb2 H1.out.lt
      have b7 := H2.out.below hb2 H2.out.lt
      have q6 := b6.cell 0
      have q7 := b7.cell 0
      have l6 := b6.lt
      have l7 := b7.lt
      have f6 := b6.frozen 0
      have f7 := b7.frozen 0
      have hg2 : Grow ow V ow V2 := grow_below hlt hb2
      clear q5 l5
      gi_wp2
      refine ⟨ow, ⟨rfl, pre, _, rfl, H0.out, eqI_t.1 Heq.out, ?_, ?_, h3, h4⟩, grow_set (grow_set hg2 h3 _) h4 _⟩
      · exact (b6.set_ 0 _).far (by simp; omega) _
      · exact ((b7.far (by simp; omega) _).set_ 0 _)
  case done =>
    rintro Dm ys ow V hDm hys ⟨h0, h1, h2, h3, h4, h5, h6, h7, h8⟩ hg hnB rfl hK
    have hN : shK a b = none := shK_none (fun j hj e => by
      rw [hla.out] at hj
      have hm : (j, rot a j) ∈ ys.map tk := by rw [hys]; exact List.mem_map.2 ⟨j, List.mem_range.2 hj, rfl⟩
      obtain ⟨y, hy, hyj⟩ := List.mem_map.1 hm
      refine h0 y hy ?_
      have : y.l = rot a j := congrArg Prod.snd hyj
      rw [this, e])
    have hv : Hid (shV K a b = 0) := hid (by rw [hv0.out, hN]; rfl)
    have he : Hid (shE K a b = 15) := hid (by rw [he0.out, if_pos hN])
    have hbV : Below w.heap.size w V := below_grow HbX.out hg HbX.out.size (fun k hk => by rcases hk with h | h <;> omega)
    have q6 := h1.cell 0
    have q7 := h2.cell 0
    have l6 := h1.lt
    have l7 := h2.lt
    have f6 := h1.frozen 0
    have f7 := h2.frozen 0
    have HbV := hid hbV
    have hTw : w.heap.size ≤ T6 ∧ w.heap.size ≤ T7 := by omega
    have hTX : T6 < X6.heap.size ∧ T7 < X6.heap.size := ⟨B6x.lt, B7x.lt⟩
    have H6 := hid h1
    have H7 := hid h2
    clear hN hys h0 h7 hbV
    simp only [hTT]
    gi_wp2
    have B6' : Blk ((V.setCell ⟨T6, 0, none⟩ (.int .i64 0)).setCell ⟨T7, 0, none⟩ (.int .i64 15)) T6 3 #[.int .i64 0] := (H6.out.set_ 0 _).far (by simp; omega) _
    have B7' : Blk ((V.setCell ⟨T6, 0, none⟩ (.int .i64 0)).setCell ⟨T7, 0, none⟩ (.int .i64 15)) T7 25 #[.int .i64 15] := ((H7.out.far (by simp; omega) _).set_ 0 _)
    have hK' : ((V.setCell ⟨T6, 0, none⟩ (.int .i64 0)).setCell ⟨T7, 0, none⟩ (.int .i64 15)).heap[X6.heap.size]? = some (.deferred (some [])) := (Below.heap_setCell _ _ _ _ (by simp; omega)).trans ((Below.heap_setCell _ _ _ _ (by simp; omega)).trans hK)
    have hbV' : Below w.heap.size w ((V.setCell ⟨T6, 0, none⟩ (.int .i64 0)).setCell ⟨T7, 0, none⟩ (.int .i64 15)) := (HbV.out.setCell hTw.1 _).setCell hTw.2 _
    generalize ((V.setCell ⟨T6, 0, none⟩ (.int .i64 0)).setCell ⟨T7, 0, none⟩ (.int .i64 15)) = V3 at *
    refine leavesM_marks [X6.heap.size] _ (by simp) (by simpa using hK') (fun w' ho => ⟨.tuple #[.int .i64 0, .int .i64 15], ?_, ?_⟩)
    · have e6 := (ho.cell ⟨T6, 0, none⟩).trans (B6'.cell 0)
      have e7 := (ho.cell ⟨T7, 0, none⟩).trans (B7'.cell 0)
      simp [results, Try.results28, go_sem, *]
    · exact ⟨by rw [hv.out, he.out]; rfl, ho.below hbV' (by simp; have := HbX.out.size; omega)⟩
  case stop =>
    rintro Dm c pre ow V hDm ⟨k, hk, hpre⟩ ⟨rfl, ys0, y, h0, h1, h2, h3, h4, h5, h6⟩ hg hnB rfl hK
    have hkl : k = ys0.length + 1 := by
      have := congrArg List.length hpre
      rw [h0] at this
      simpa [tnL] using this.symm
    subst hkl
    rw [h0, tnL_succ, List.map_append] at hpre
    obtain ⟨hp0, hp1⟩ := List.append_inj' hpre rfl
    have hy : (y.k, y.l) = (ys0.length, rot a ys0.length) := by simpa [tk] using hp1
    have hyk : y.k = ys0.length := congrArg Prod.fst hy
    have hyl : y.l = rot a ys0.length := congrArg Prod.snd hy
    have hS : shK a b = some ys0.length := shK_some (by rw [hla.out]; omega) (fun j hj e => by
      have hm : (j, rot a j) ∈ ys0.map tk := by rw [hp0]; exact List.mem_map.2 ⟨j, List.mem_range.2 hj, rfl⟩
      obtain ⟨z, hz, hzj⟩ := List.mem_map.1 hm
      refine h1 z hz ?_
      have : z.l = rot a j := congrArg Prod.snd hzj
      rw [this, e]) (by rw [← hyl, h2])
    have hv : Hid (shV K a b = ys0.length) := hid (by rw [hv0.out, hS]; rfl)
    have he : Hid (shE K a b = 0) := hid (by rw [he0.out, hS]; rfl)
    have hbV : Below w.heap.size w V := below_grow HbX.out hg HbX.out.size (fun k hk => by rcases hk with h | h <;> omega)
    rw [hyk] at h3
    have H3 := hid h3
    have H4 := hid h4
    clear hpre hp0 hp1 hy hyk hyl hS h0 h1 h2 h3 h4
    simp only [hTT]
    gi_wp2
    refine leavesM_marks [X6.heap.size] _ (by simp) (by simpa using hK) (fun w' ho => ⟨.tuple #[.int .i64 (ys0.length : Int), .int .i64 0], ?_, ?_⟩)
    · have e6 := (ho.cell ⟨T6, 0, none⟩).trans (H3.out.cell 0)
      have e7 := (ho.cell ⟨T7, 0, none⟩).trans (H4.out.cell 0)
      simp [results, Try.results28, go_sem, *]
    · exact ⟨by rw [hv.out, he.out], ho.below hbV (by simp; have := HbX.out.size; omega)⟩
theorem shift_any (K : Int) (A B : Option Addr) (n c m d : Nat) (a b : List Int) (w : World) (ha : InS w w.heap.size A n a) (hb : InS w w.heap.size B m b) (hn : n ≤ 90) (hm : m ≤ 90) (hc : n ≤ c) :
    Calls Try.prog 28 #[.int .i64 K, .slice A n c, .slice B m d] w fun e w' => e = .returned (.tuple #[.int .i64 (shV K a b : Nat), .int .i64 (shE K a b)]) ∧ Below w.heap.size w w' := by
  by_cases h1 : checkRim K a = 0
  · by_cases h2 : checkRim K b = 0
    · cases hs : sameC a b
      · exact shift_no K A B n c m d a b w ha hb h1 h2 (.inl hs)
      · by_cases hnm : n = m
        · subst hnm
          obtain ⟨-, h3, -⟩ := rim_good h1
          rw [ha.len] at h3
          obtain ⟨b1, off1, rfl, lb1, -⟩ := ha.2 (by omega)
          exact shift_go K b1 off1 B n c d a b w ha hb hc h1 h2 hs h3.1 h3.2 lb1
        · exact shift_no K A B n c m d a b w ha hb h1 h2 (.inr hnm)
    · exact shift_bad K A B n c m d a b w ha hb hn hm (.inr h2)
  · exact shift_bad K A B n c m d a b w ha hb hn hm (.inl h1)
end Go.Proofs.Ytiobmfggnacplaa
/- Walks: Find. -/
namespace Go.Proofs.Ytiobmfggnacplaa
open Go.RowKit Go.Shelf
attribute [local go_sem] Oper.semAt_some
set_option maxRecDepth 10000 in
set_option maxHeartbeats 1600000 in
theorem begins_any (A B : Option Addr) (n c m d bd : Nat) (x b : List Int) (w : World) (hx : InS w w.heap.size A n x) (hb : InS w w.heap.size B m b) (hm : m ≤ n) (hc : n ≤ c) (hm1 : 1 ≤ m) (hn : n ≤ 64) (c1 : w.cell? ⟨bd, 0, none⟩ = some (.slice B m d)) (lbd : bd < w.heap.size) :
    Calls Try.prog 68 #[.slice A n c, .pointer (some ⟨bd, 0, none⟩)] w fun e w' => e = .returned (.bool (eqI (x.take m) b)) ∧ Below w.heap.size w w' := by
  obtain ⟨b1, off1, rfl, lb1, -⟩ := hx.2 (by omega)
  have HX := hid (ins_pre hx hm)
  have HB := hid hb
  have hmi : (m : Int) ≤ c := by omega
  have hm0 : (0 : Int) ≤ m := by omega
  obtain ⟨bv, hbv⟩ : ∃ bv, eqI (x.take m) b = bv := ⟨_, rfl⟩
  have Hbv := hid hbv
  rw [hbv]
  clear hx hb hbv
  go_enter Try.func68, Try.ntmps68
  go_wp2
  refine wp_region_hd_all (fun W => Below w.heap.size w W) (by kernel_rfl) (by kernel_rfl) ((Below.refl _ _).drew) ?_
  iterate 5 (refine wpHd_val (v := ?_) (by rfl) (fun W hW => ?_) ?_; rotate_left; (· obtain ⟨hcW, hfW⟩ := bcell hW; go_simp; with_reducible rfl); simp only [Act.put, List.setIfInBounds_toArray, List.set_cons_zero, List.set_cons_succ])
  refine wpHd_callB (by rfl) (fun W hW => equal_any W (some ⟨b1, off1, none⟩) B m c m d (x.take m) b (HX.out.below hW hW.size) (HB.out.below hW hW.size) (by omega)) (fun W hW => ?_) ?_
  · obtain ⟨hcW, hfW⟩ := bcell hW
    go_simp
  simp only [Act.put, List.setIfInBounds_toArray, List.set_cons_zero, List.set_cons_succ]
  rw [Hbv.out]
  (refine wpHd_val (v := ?_) (by rfl) (fun W hW => ?_) ?_; rotate_left; (· obtain ⟨hcW, hfW⟩ := bcell hW; go_simp; with_reducible rfl); simp only [Act.put, List.setIfInBounds_toArray, List.set_cons_zero, List.set_cons_succ])
  refine wpHd_nil ?_
  intro W9 hW9
  go_wp2
  refine bodyPost_ret (v := .bool bv) (by first | (simp [results, Try.results68, go_sem]; done) | (simp [results, Try.results68, go_sem, *]; done) | (simp [results, Try.results68, go_sem, World.cell?_setCell_same', *]; done) | (simp [results, Try.results68, go_sem]; first | exact ⟨rfl, rfl⟩ | rfl)) rfl ⟨rfl, hW9⟩
set_option maxRecDepth 100000 in
set_option maxHeartbeats 4000000 in
theorem find_bad (K : Int) (A B : Option Addr) (n c m d : Nat) (a b : List Int) (w : World) (ha : InS w w.heap.size A n a) (hb : InS w w.heap.size B m b) (hn : n ≤ 90) (hm : m ≤ 90) (hbad : checkRim K a ≠ 0 ∨ checkRim K b ≠ 0) :
    Calls Try.prog 30 #[.int .i64 K, .slice A n c, .slice B m d] w fun e w' => e = .returned (.tuple #[.int .i64 (fdV K a b : Nat), .int .i64 (fdE K a b)]) ∧ Below w.heap.size w w' := by
  have hla := hid ha.len
  have hlb := hid hb.len
  have HA := hid ha
  have HB := hid hb
  clear ha hb
  by_cases h1 : checkRim K a ≠ 0
  · obtain ⟨E, hE⟩ : ∃ E, checkRim K a = E := ⟨_, rfl⟩
    have HE := hid hE
    have hv : Hid (fdV K a b = 0) := hid (if_pos h1)
    have he : Hid (fdE K a b = E) := hid (by unfold fdE; rw [if_pos h1, hE])
    have H1 := hid h1
    rw [hE] at h1
    have t1 : (E != 0) = true := by simpa using h1
    clear hE h1 hbad
    go_enter Try.func30, Try.ntmps30
    go_wp2_with (fail)
    have hba : Below w.heap.size w (((w.alloc (.cells #[.slice B m d] 22)).alloc (.cells #[.int .i64 0] 3)).alloc (.cells #[.int .i64 0] 25)) := (by repeat' (first | with_reducible assumption | with_reducible exact Below.refl _ _ | refine Below.alloc ?_ ?_ _ | refine Below.setCell ?_ ?_ _ | refine Below.drew ?_ | refine below_drewN ?_ _ | (simp; done) | (simp; omega) | omega))
    obtain ⟨W0, hW0⟩ : ∃ W0, (((w.alloc (.cells #[.slice B m d] 22)).alloc (.cells #[.int .i64 0] 3)).alloc (.cells #[.int .i64 0] 25)) = W0 := ⟨_, rfl⟩
    have B6 : Blk W0 (w.heap.size + 1) 3 #[.int .i64 0] := by rw [← hW0]; exact (Blk.new' (by first | (simp; done) | (simp; omega) | omega)).alloc _
    have B7 : Blk W0 (w.heap.size + 1 + 1) 25 #[.int .i64 0] := by rw [← hW0]; exact Blk.new' (by first | (simp; done) | (simp; omega) | omega)
    rw [hW0] at hba ⊢
    clear hW0
    refine (open_bad K A n c a _ (HA.out.below hba hba.size) (by omega) H1.out).mono ?_
    rw [HE.out]
    rintro e W1 ⟨rfl, hb1⟩
    have hbw := hba.trans (hb1.mono hba.size)
    replace B6 := B6.below hb1 B6.lt
    replace B7 := B7.below hb1 B7.lt
    have q6 := B6.cell 0
    have q7 := B7.cell 0
    have l6 := B6.lt
    have l7 := B7.lt
    have f6 := B6.frozen 0
    have f7 := B7.frozen 0
    go_wp2
    refine bodyPost_ret (v := .tuple #[.int .i64 0, .int .i64 E]) (by first | (simp [results, Try.results30, go_sem]; done) | (simp [results, Try.results30, go_sem, *]; done) | (simp [results, Try.results30, go_sem, World.cell?_setCell_same', *]; done) | (simp [results, Try.results30, go_sem]; first | exact ⟨rfl, rfl⟩ | rfl)) rfl ⟨by rw [hv.out, he.out]; rfl, (by repeat' (first | with_reducible assumption | with_reducible exact Below.refl _ _ | refine Below.alloc ?_ ?_ _ | refine Below.setCell ?_ ?_ _ | refine Below.drew ?_ | refine below_drewN ?_ _ | (simp; done) | (simp; omega) | omega))⟩
  · have h1' : checkRim K a = 0 := by omega
    have h2 : checkRim K b ≠ 0 := by omega
    obtain ⟨E, hE⟩ : ∃ E, checkRim K b = E := ⟨_, rfl⟩
    have HE := hid hE
    have hv : Hid (fdV K a b = 0) := hid (by unfold fdV; rw [if_neg h1, if_pos h2])
    have he : Hid (fdE K a b = E) := hid (by unfold fdE; rw [if_neg h1, if_pos h2, hE])
    have H1 := hid h1'
    have H2 := hid h2
    rw [hE] at h2
    have t1 : (E != 0) = true := by simpa using h2
    clear hE h1 hbad h2 h1'
    go_enter Try.func30, Try.ntmps30
    go_wp2_with (fail)
    have hba : Below w.heap.size w (((w.alloc (.cells #[.slice B m d] 22)).alloc (.cells #[.int .i64 0] 3)).alloc (.cells #[.int .i64 0] 25)) := (by repeat' (first | with_reducible assumption | with_reducible exact Below.refl _ _ | refine Below.alloc ?_ ?_ _ | refine Below.setCell ?_ ?_ _ | refine Below.drew ?_ | refine below_drewN ?_ _ | (simp; done) | (simp; omega) | omega))
    obtain ⟨W0, hW0⟩ : ∃ W0, (((w.alloc (.cells #[.slice B m d] 22)).alloc (.cells #[.int .i64 0] 3)).alloc (.cells #[.int .i64 0] 25)) = W0 := ⟨_, rfl⟩
    have B5 : Blk W0 w.heap.size 22 #[.slice B m d] := by rw [← hW0]; exact ((Blk.new' rfl).alloc _).alloc _
    have B6 : Blk W0 (w.heap.size + 1) 3 #[.int .i64 0] := by rw [← hW0]; exact (Blk.new' (by first | (simp; done) | (simp; omega) | omega)).alloc _
    have B7 : Blk W0 (w.heap.size + 1 + 1) 25 #[.int .i64 0] := by rw [← hW0]; exact Blk.new' (by first | (simp; done) | (simp; omega) | omega)
    rw [hW0] at hba ⊢
    clear hW0
    refine (open_ok K A n c a _ (HA.out.below hba hba.size) H1.out).mono ?_
    rintro e W1 ⟨g1, rfl, hg1, hR1, hb1⟩
    have hbw := hba.trans (hb1.mono hba.size)
    replace B5 := B5.below hb1 B5.lt
    replace B6 := B6.below hb1 B6.lt
    replace B7 := B7.below hb1 B7.lt
    have q5 := B5.cell 0
    have l5 := B5.lt
    go_wp2_with (fail)
    refine (open_bad K B m d b _ (HB.out.below hbw hbw.size) (by omega) H2.out).mono ?_
    rw [HE.out]
    rintro e W2 ⟨rfl, hb2⟩
    replace hbw := hbw.trans (hb2.mono hbw.size)
    replace B6 := B6.below hb2 B6.lt
    replace B7 := B7.below hb2 B7.lt
    have q6 := B6.cell 0
    have q7 := B7.cell 0
    have l6 := B6.lt
    have l7 := B7.lt
    have f6 := B6.frozen 0
    have f7 := B7.frozen 0
    clear q5 l5
    go_wp2
    refine bodyPost_ret (v := .tuple #[.int .i64 0, .int .i64 E]) (by first | (simp [results, Try.results30, go_sem]; done) | (simp [results, Try.results30, go_sem, *]; done) | (simp [results, Try.results30, go_sem, World.cell?_setCell_same', *]; done) | (simp [results, Try.results30, go_sem]; first | exact ⟨rfl, rfl⟩ | rfl)) rfl ⟨by rw [hv.out, he.out]; rfl, (by repeat' (first | with_reducible assumption | with_reducible exact Below.refl _ _ | refine Below.alloc ?_ ?_ _ | refine Below.setCell ?_ ?_ _ | refine Below.drew ?_ | refine below_drewN ?_ _ | (simp; done) | (simp; omega) | omega))⟩
set_option maxRecDepth 100000 in
set_option maxHeartbeats 4000000 in
theorem find_long (K : Int) (A B : Option Addr) (n c m d : Nat) (a b : List Int) (w : World) (ha : InS w w.heap.size A n a) (hb : InS w w.heap.size B m b) (h1 : checkRim K a = 0) (h2 : checkRim K b = 0) (hnm : n < m) :
    Calls Try.prog 30 #[.int .i64 K, .slice A n c, .slice B m d] w fun e w' => e = .returned (.tuple #[.int .i64 (fdV K a b : Nat), .int .i64 (fdE K a b)]) ∧ Below w.heap.size w w' := by
  have hla := ha.len
  have hlb := hb.len
  have hv : Hid (fdV K a b = 0) := hid (by unfold fdV; rw [if_neg (by omega), if_neg (by omega), if_pos (by omega)])
  have he : Hid (fdE K a b = 3) := hid (by unfold fdE; rw [if_neg (by omega), if_neg (by omega), if_pos (by omega)])
  have HA := hid ha
  have HB := hid hb
  have H1 := hid h1
  have H2 := hid h2
  have hnmi : (n : Int) < m := by omega
  clear ha hb h1 h2 hla hlb
  go_enter Try.func30, Try.ntmps30
  go_wp2_with (fail)
  have hba : Below w.heap.size w (((w.alloc (.cells #[.slice B m d] 22)).alloc (.cells #[.int .i64 0] 3)).alloc (.cells #[.int .i64 0] 25)) := (by repeat' (first | with_reducible assumption | with_reducible exact Below.refl _ _ | refine Below.alloc ?_ ?_ _ | refine Below.setCell ?_ ?_ _ | refine Below.drew ?_ | refine below_drewN ?_ _ | (simp; done) | (simp; omega) | omega))
  obtain ⟨W0, hW0⟩ : ∃ W0, (((w.alloc (.cells #[.slice B m d] 22)).alloc (.cells #[.int .i64 0] 3)).alloc (.cells #[.int .i64 0] 25)) = W0 := ⟨_, rfl⟩
  have hz0 : W0.heap.size = w.heap.size + 1 + 1 + 1 := by rw [← hW0]; simp
  have B5 : Blk W0 w.heap.size 22 #[.slice B m d] := by rw [← hW0]; exact ((Blk.new' rfl).alloc _).alloc _
  have B6 : Blk W0 (w.heap.size + 1) 3 #[.int .i64 0] := by rw [← hW0]; exact (Blk.new' (by first | (simp; done) | (simp; omega) | omega)).alloc _
  have B7 : Blk W0 (w.heap.size + 1 + 1) 25 #[.int .i64 0] := by rw [← hW0]; exact Blk.new' (by first | (simp; done) | (simp; omega) | omega)
  rw [hW0] at hba ⊢
  clear hW0
  refine (id (open_ok K A n c a _ (HA.out.below hba hba.size) H1.out)).mono ?_
  rintro e W1 ⟨g1, rfl, hg1, hR1, hb1⟩
  have hbw := hba.trans (hb1.mono hba.size)
  replace B5 := B5.below hb1 B5.lt
  replace B6 := B6.below hb1 B6.lt
  replace B7 := B7.below hb1 B7.lt
  have q5 := B5.cell 0
  have l5 := B5.lt
  go_wp2_with (fail)
  refine (id (open_ok K B m d b _ (HB.out.below hbw hbw.size) H2.out)).mono ?_
  rintro e W2 ⟨g2, rfl, hg2, hR2, hb2⟩
  replace hbw := hbw.trans (hb2.mono hbw.size)
  replace B5 := B5.below hb2 B5.lt
  replace B6 := B6.below hb2 B6.lt
  replace B7 := B7.below hb2 B7.lt
  have hg1w : W0.heap.size ≤ g1 := hg1
  replace hR1 := hR1.below hb2
  have q5 := B5.cell 0
  have l5 := B5.lt
  have q6 := B6.cell 0
  have q7 := B7.cell 0
  have l6 := B6.lt
  have l7 := B7.lt
  have f6 := B6.frozen 0
  have f7 := B7.frozen 0
  go_wp2
  refine bodyPost_ret (v := .tuple #[.int .i64 0, .int .i64 3]) (by first | (simp [results, Try.results30, go_sem]; done) | (simp [results, Try.results30, go_sem, *]; done) | (simp [results, Try.results30, go_sem, World.cell?_setCell_same', *]; done) | (simp [results, Try.results30, go_sem]; first | exact ⟨rfl, rfl⟩ | rfl)) rfl ⟨by rw [hv.out, he.out]; rfl, (by repeat' (first | with_reducible assumption | with_reducible exact Below.refl _ _ | refine Below.alloc ?_ ?_ _ | refine Below.setCell ?_ ?_ _ | refine Below.drew ?_ | refine below_drewN ?_ _ | (simp; done) | (simp; omega) | omega))⟩
end Go.Proofs.Ytiobmfggnacplaa
/- Walks: Find: the list is looked for. -/
namespace Go.Proofs.Ytiobmfggnacplaa
open Go.RowKit Go.Shelf
attribute [local go_sem] Oper.semAt_some run_store_func
set_option maxRecDepth 100000 in
set_option maxHeartbeats 4000000 in
theorem find_go (K : Int) (b1 off1 : Nat) (B : Option Addr) (n c m d : Nat) (a b : List Int) (w : World) (ha : InS w w.heap.size (some ⟨b1, off1, none⟩) n a) (hb : InS w w.heap.size B m b) (hc : n ≤ c) (h1 : checkRim K a = 0) (h2 : checkRim K b = 0) (hm1 : 1 ≤ m) (hmn : m ≤ n) (hn1 : 1 ≤ n) (hn64 : n ≤ 64) (lb1 : b1 < w.heap.size) :
    Calls Try.prog 30 #[.int .i64 K, .slice (some ⟨b1, off1, none⟩) n c, .slice B m d] w fun e w' => e = .returned (.tuple #[.int .i64 (fdV K a b : Nat), .int .i64 (fdE K a b)]) ∧ Below w.heap.size w w' := by
  have hla := hid ha.len
  have hlb := hid hb.len
  have hv0 : Hid (fdV K a b = (fdK a b).getD 0) := hid (by unfold fdV; rw [if_neg (by omega), if_neg (by omega), if_neg (by rw [hla.out, hlb.out]; omega)])
  have he0 : Hid (fdE K a b = if fdK a b = none then 5 else 0) := hid (by unfold fdE; rw [if_neg (by omega), if_neg (by omega), if_neg (by rw [hla.out, hlb.out]; omega)])
  have HA := hid ha
  have HB := hid hb
  have H1 := hid h1
  have H2 := hid h2
  have t9 : ¬ (n : Int) < m := by omega
  clear ha hb h1 h2
  obtain ⟨A, hA⟩ : ∃ A : Option Addr, some ⟨b1, off1, none⟩ = A := ⟨_, rfl⟩
  have HAe := hid hA
  rw [hA] at HA ⊢
  clear hA
  (refine (callsIn_wide (n := 9)).1 ?_; refine callsIn_of_wp_marks (F := Wd none) Try.func30 rfl trivial ?_ rfl; simp only [Try.ntmps30, List.size_toArray, List.length_cons, List.length_nil, Nat.reduceAdd, Nat.reduceSub, Array.replicate_succ, Array.replicate_zero, List.push_toArray, List.append_toArray, List.nil_append, List.cons_append])
  gi_wp2_with (fail)
  have hba : Below w.heap.size w (((w.alloc (.cells #[.slice B m d] 22)).alloc (.cells #[.int .i64 0] 3)).alloc (.cells #[.int .i64 0] 25)) := (by repeat' (first | with_reducible assumption | with_reducible exact Below.refl _ _ | refine Below.alloc ?_ ?_ _ | refine Below.setCell ?_ ?_ _ | refine Below.drew ?_ | refine below_drewN ?_ _ | (simp; done) | (simp; omega) | omega))
  obtain ⟨W0, hW0⟩ : ∃ W0, (((w.alloc (.cells #[.slice B m d] 22)).alloc (.cells #[.int .i64 0] 3)).alloc (.cells #[.int .i64 0] 25)) = W0 := ⟨_, rfl⟩
  have hz0 : W0.heap.size = w.heap.size + 1 + 1 + 1 := by rw [← hW0]; simp
  have B5 : Blk W0 w.heap.size 22 #[.slice B m d] := by rw [← hW0]; exact ((Blk.new' rfl).alloc _).alloc _
  have B6 : Blk W0 (w.heap.size + 1) 3 #[.int .i64 0] := by rw [← hW0]; exact (Blk.new' (by first | (simp; done) | (simp; omega) | omega)).alloc _
  have B7 : Blk W0 (w.heap.size + 1 + 1) 25 #[.int .i64 0] := by rw [← hW0]; exact Blk.new' (by first | (simp; done) | (simp; omega) | omega)
  rw [hW0] at hba ⊢
  clear hW0
  refine (calls_wd (open_ok K A n c a _ (HA.out.below hba hba.size) H1.out)).mono ?_
  rintro e W1 ⟨g1, rfl, hg1, hR1, hb1⟩
  have hbw := hba.trans (hb1.mono hba.size)
  replace B5 := B5.below hb1 B5.lt
  replace B6 := B6.below hb1 B6.lt
  replace B7 := B7.below hb1 B7.lt
  have q5 := B5.cell 0
  have l5 := B5.lt
  gi_wp2_with (fail)
  refine (calls_wd (open_ok K B m d b _ (HB.out.below hbw hbw.size) H2.out)).mono ?_
  rintro e W2 ⟨g2, rfl, hg2, hR2, hb2⟩
  replace hbw := hbw.trans (hb2.mono hbw.size)
  replace B5 := B5.below hb2 B5.lt
  replace B6 := B6.below hb2 B6.lt
  replace B7 := B7.below hb2 B7.lt
  have hg1w : W0.heap.size ≤ g1 := hg1
  replace hR1 := hR1.below hb2
  have q5 := B5.cell 0
  have l5 := B5.lt
  gi_wp2_with (fail)
  obtain ⟨W9, hW9e⟩ : ∃ W9, W2.alloc (.cells #[.func (.func 68) #[] #[.pointer (some ⟨w.heap.size, 0, none⟩)]] 23) = W9 := ⟨_, rfl⟩
  have hW9 : Below W2.heap.size W2 W9 := by rw [← hW9e]; exact (by repeat' (first | with_reducible assumption | with_reducible exact Below.refl _ _ | refine Below.alloc ?_ ?_ _ | refine Below.setCell ?_ ?_ _ | refine Below.drew ?_ | refine below_drewN ?_ _ | (simp; done) | (simp; omega) | omega))
  have B12 : Blk W9 W2.heap.size 23 #[.func (.func 68) #[] #[.pointer (some ⟨w.heap.size, 0, none⟩)]] := by rw [← hW9e]; exact Blk.new' rfl
  rw [hW9e]
  have hw2 := hbw.size
  have lW2 : w.heap.size + 1 + 1 < W2.heap.size := B7.lt
  replace hbw := hbw.trans (hW9.mono hbw.size)
  replace B5 := B5.below hW9 B5.lt
  replace B6 := B6.below hW9 B6.lt
  replace B7 := B7.below hW9 B7.lt
  have HR := hid (hR1.below hW9)
  have hz9 := hbw.size
  clear q5 l5 hR1 t9 hW9e
  refine (calls_wd (turnsIt_any g1 W9)).mono ?_
  rintro e X6 ⟨rfl, hX6⟩
  have Hb06 : Below W9.heap.size W9 X6 := by rw [← hX6]; exact (by repeat' (first | with_reducible assumption | with_reducible exact Below.refl _ _ | refine Below.alloc ?_ ?_ _ | refine Below.setCell ?_ ?_ _ | refine Below.drew ?_ | refine below_drewN ?_ _ | (simp; done) | (simp; omega) | omega))
  have HBx : Hid (Blk X6 W9.heap.size 69 #[.pointer (some ⟨g1, 0, none⟩)]) := hid (by rw [← hX6]; exact Blk.new' rfl)
  have Hz6 : Hid (X6.heap.size = W9.heap.size + 1) := hid (by rw [← hX6]; simp)
  clear hX6
  gi_wp2
  obtain ⟨T5, hT5⟩ : ∃ T, w.heap.size = T := ⟨_, rfl⟩
  obtain ⟨T6, hT6⟩ : ∃ T, T5 + 1 = T := ⟨_, rfl⟩
  obtain ⟨T7, hT7⟩ : ∃ T, T6 + 1 = T := ⟨_, rfl⟩
  rw [hT5, hT6] at B6 B7
  rw [hT5] at B5
  rw [hT7] at B7
  rw [hT5, hT6, hT7]
  rw [hT5] at B12
  rw [hT5, hT6, hT7] at lW2
  obtain ⟨T12, hT12⟩ : ∃ T, W2.heap.size = T := ⟨_, rfl⟩
  rw [hT12] at B12 lW2 ⊢
  have B12x := B12.below Hb06 B12.lt
  have B5x := B5.below Hb06 B5.lt
  have B6x := B6.below Hb06 B6.lt
  have B7x := B7.below Hb06 B7.lt
  have hbX : Below w.heap.size w X6 := hbw.trans (Hb06.mono hbw.size)
  have HBb : InS X6 X6.heap.size B m b := HB.out.below hbX hbX.size
  have HRx := hid (HR.out.below Hb06)
  have hg1T : T7 < g1 := by omega
  have hg1X : g1 < W9.heap.size := HR.out.1.lt
  have HbX := hid hbX
  clear B5 B6 B7 B12 hbw hba hb1 hb2 hW9 hbX HR
  refine with_frame fun TT hTT => ?_
  refine wpIn_rangeFunc_foot (F := Wd none) (α := TE) X6.heap.size rfl rfl rfl (gf := 95) (lb := #[.pointer (some ⟨W9.heap.size, 0, none⟩)]) (by rw [hTT]; rfl) trivial (enters_of Try.func95 (by kernel_rfl) rfl)
    (encs := encT) (Rd := RdT n a) (Nb := n) (S := fun xs => xs.map tk = tnL a n) (Sp := fun xs => ∃ k, k ≤ n ∧ xs.map tk = tnL a k) (fun j => j = T6 ∨ j = T7) (fun j hj => by have := B7x.lt; omega) ?hseq rdT_keep (fun _ => rfl)
    (fun ys ow V => (∀ y ∈ ys, y.l.take b.length ≠ b) ∧ Blk V T6 3 #[.int .i64 0] ∧ Blk V T7 25 #[.int .i64 0] ∧ ow T6 ∧ ow T7 ∧ ¬ ow T5 ∧ Blk V T5 22 #[.slice B m d] ∧ InS V X6.heap.size B m b ∧ X6.heap.size ≤ V.heap.size ∧ Blk V T12 23 #[.func (.func 68) #[] #[.pointer (some ⟨T5, 0, none⟩)]]) (fun c ys ow V => c = .ret ∧ ∃ ys0 y, ys = ys0 ++ [y] ∧ (∀ z ∈ ys0, z.l.take b.length ≠ b) ∧ y.l.take b.length = b ∧ Blk V T6 3 #[.int .i64 (y.k : Int)] ∧ Blk V T7 25 #[.int .i64 0] ∧ ow T6 ∧ ow T7) ?hI ?hIx ⟨fun y hy => (by cases hy), B6x, B7x, Or.inl rfl, Or.inr rfl, (by omega), B5x, HBb, Nat.le_refl _, B12x⟩
    (fun x a' V => a' = { tmps := ((TT.setIfInBounds 41 (.int .i64 (x.k : Int))).setIfInBounds 42 x.v |>.setIfInBounds 13 (.int .i64 (x.k : Int))).setIfInBounds 14 x.v, defers := [] }) ?assign (fun x a' V o h => h) ?body ?done ?stop
  case hseq =>
    intro W' hW'
    have hz6 := Hz6.out
    have hzw' := hW'.size
    have hR' := HRx.out.below hW'
    rw [← HAe.out] at hR'
    refine turns_give W' _ W9.heap.size g1 K b1 off1 n c a hc hn64 hn1 ⟨(HBx.out.below hW' HBx.out.lt).cell 0, by omega, ?_, hR'.1, ?_, hR'.2, by have := HbX.out.size; omega, ?_⟩
    all_goals
      rintro (h | h | h) <;> omega
  case hI =>
    rintro ys ow V V' ⟨h0, h1, h2, h3, h4, h5, h6, h7, h8, h12⟩ hk hz e1 e2 e3
    exact ⟨h0, (hk _ (.inr (.inl h3)) h1.lt).trans h1, (hk _ (.inr (.inl h4)) h2.lt).trans h2, h3, h4, h5, (hk _ (.inl (by have := B5x.lt; omega)) h6.lt).trans h6, ins_at h7 (Nat.le_refl _) (fun b' off' e hb' => hk _ (.inl hb') (by omega)), by omega, (hk _ (.inl (by have := B12x.lt; omega)) h12.lt).trans h12⟩
  case hIx =>
    rintro c ys ow V V' ⟨hc', ys0, y, h0, h1, h2, h3, h4, h5, h6⟩ hk hz e1 e2 e3
    exact ⟨hc', ys0, y, h0, h1, h2, (hk _ (.inr (.inl h5)) h3.lt).trans h3, (hk _ (.inr (.inl h6)) h4.lt).trans h4, h5, h6⟩
  case assign =>
    rintro l x V Kk hrd hV hK
    simp only [encT, hTT]
    gi_wp2
    exact hK _ _ (Below.refl _ _) (by rw [hTT]; rfl)
  case body =>
    rintro l pre ow x a' V ⟨h0, h1, h2, h3, h4, h5, h6, h7, h8, h12⟩ hNb hlt hnB hrd rfl hV
    obtain ⟨xk, xv, xl⟩ := x
    obtain ⟨⟨Ax, cx, hxv, hxin, hxc, -⟩, hxk, hxl⟩ := hrd
    have hxv' : xv = .slice Ax n cx := hxv
    subst hxv'
    have hxin' : InS V V.heap.size Ax n xl := hxin
    have q5 := h6.cell 0
    have l5 := h6.lt
    have q12 := h12.cell 0
    have l12 := h12.lt
    have HX := hid hxin'
    have Hb7 : Hid (InS V V.heap.size B m b) := hid (ins_at h7 (by omega) (fun _ _ _ _ => rfl))
    have H0 := hid h0
    have H1 := hid h1
    have H2 := hid h2
    have h7' := h7
    clear hxin hxin' h0 h1 h2 h7
    simp only [hTT, List.setIfInBounds_toArray, List.set_cons_zero, List.set_cons_succ]
    gi_wp2_with (fail)
    cases heq : eqI (xl.take m) b
    · have Heq := hid heq
      have h0' : Hid (∀ y ∈ pre ++ [(⟨xk, .slice Ax n cx, xl⟩ : TE)], y.l.take b.length ≠ b) := hid (fun y hy => by
        rcases List.mem_append.1 hy with h | h
        · exact H0.out y h
        · obtain rfl := List.mem_singleton.1 h
          intro e; rw [hlb.out] at e; rw [eqI_t.2 e] at heq; cases heq)
      clear heq
      refine (calls_wd (begins_any Ax B n cx m d T5 xl b V HX.out Hb7.out hmn hxc hm1 hn64 q5 l5)).mono ?_
      rw [Heq.out]
      rintro e V2 ⟨rfl, hb2⟩
      gi_wp2
      exact ⟨ow, ⟨h0'.out, H1.out.below hb2 H1.out.lt, H2.out.below hb2 H2.out.lt, h3, h4, h5, h6.below hb2 h6.lt, ins_at h7' (Nat.le_refl _) (fun b' off' e hb' => hb2.block _ (by omega)), by have := hb2.size; omega, h12.below hb2 h12.lt⟩, grow_below hlt hb2⟩
    · have Heq := hid heq
      clear heq
      refine (calls_wd (begins_any Ax B n cx m d T5 xl b V HX.out Hb7.out hmn hxc hm1 hn64 q5 l5)).mono ?_
      rw [Heq.out]
      rintro e V2 ⟨rfl, hb2⟩
      have b6 := H1.out.below hb2 H1.out.lt
      have b7 := H2.out.below hb2 H2.out.lt
      have q6 := b6.cell 0
      have q7 := b7.cell 0
      have l6 := b6.lt
      have l7 := b7.lt
      have f6 := b6.frozen 0
      have f7 := b7.frozen 0
      have hg2 : Grow ow V ow V2 := grow_below hlt hb2
      clear q5 l5 q12 l12
      gi_wp2
      refine ⟨ow, ⟨rfl, pre, _, rfl, H0.out, (by rw [hlb.out]; exact eqI_t.1 Heq.out), ?_, ?_, h3, h4⟩, grow_set (grow_set hg2 h3 _) h4 _⟩
      · exact (b6.set_ 0 _).far (by simp; omega) _
      · exact ((b7.far (by simp; omega) _).set_ 0 _)
  case done =>
    rintro Dm ys ow V hDm hys ⟨h0, h1, h2, h3, h4, h5, h6, h7, h8, h12⟩ hg hnB rfl hK
    have hN : fdK a b = none := fdK_none (fun j hj e => by
      rw [hla.out] at hj
      have hm : (j, rot a j) ∈ ys.map tk := by rw [hys]; exact List.mem_map.2 ⟨j, List.mem_range.2 hj, rfl⟩
      obtain ⟨y, hy, hyj⟩ := List.mem_map.1 hm
      refine h0 y hy ?_
      have : y.l = rot a j := congrArg Prod.snd hyj
      rw [this, e])
    have hv : Hid (fdV K a b = 0) := hid (by rw [hv0.out, hN]; rfl)
    have he : Hid (fdE K a b = 5) := hid (by rw [he0.out, if_pos hN])
    have hbV : Below w.heap.size w V := below_grow HbX.out hg HbX.out.size (fun k hk => by rcases hk with h | h <;> omega)
    have q6 := h1.cell 0
    have q7 := h2.cell 0
    have l6 := h1.lt
    have l7 := h2.lt
    have f6 := h1.frozen 0
    have f7 := h2.frozen 0
    have HbV := hid hbV
    have hTw : w.heap.size ≤ T6 ∧ w.heap.size ≤ T7 := by omega
    have hTX : T6 < X6.heap.size ∧ T7 < X6.heap.size := ⟨B6x.lt, B7x.lt⟩
    have H6 := hid h1
    have H7 := hid h2
    clear hN hys h0 h7 hbV
    simp only [hTT]
    gi_wp2
    have B6' : Blk ((V.setCell ⟨T6, 0, none⟩ (.int .i64 0)).setCell ⟨T7, 0, none⟩ (.int .i64 5)) T6 3 #[.int .i64 0] := (H6.out.set_ 0 _).far (by simp; omega) _
    have B7' : Blk ((V.setCell ⟨T6, 0, none⟩ (.int .i64 0)).setCell ⟨T7, 0, none⟩ (.int .i64 5)) T7 25 #[.int .i64 5] := ((H7.out.far (by simp; omega) _).set_ 0 _)
    have hK' : ((V.setCell ⟨T6, 0, none⟩ (.int .i64 0)).setCell ⟨T7, 0, none⟩ (.int .i64 5)).heap[X6.heap.size]? = some (.deferred (some [])) := (Below.heap_setCell _ _ _ _ (by simp; omega)).trans ((Below.heap_setCell _ _ _ _ (by simp; omega)).trans hK)
    have hbV' : Below w.heap.size w ((V.setCell ⟨T6, 0, none⟩ (.int .i64 0)).setCell ⟨T7, 0, none⟩ (.int .i64 5)) := (HbV.out.setCell hTw.1 _).setCell hTw.2 _
    generalize ((V.setCell ⟨T6, 0, none⟩ (.int .i64 0)).setCell ⟨T7, 0, none⟩ (.int .i64 5)) = V3 at *
    refine leavesM_marks [X6.heap.size] _ (by simp) (by simpa using hK') (fun w' ho => ⟨.tuple #[.int .i64 0, .int .i64 5], ?_, ?_⟩)
    · have e6 := (ho.cell ⟨T6, 0, none⟩).trans (B6'.cell 0)
      have e7 := (ho.cell ⟨T7, 0, none⟩).trans (B7'.cell 0)
      simp [results, Try.results30, go_sem, *]
    · exact ⟨by rw [hv.out, he.out]; rfl, ho.below hbV' (by simp; have := HbX.out.size; omega)⟩
  case stop =>
    rintro Dm c pre ow V hDm ⟨k, hk, hpre⟩ ⟨rfl, ys0, y, h0, h1, h2, h3, h4, h5, h6⟩ hg hnB rfl hK
    have hkl : k = ys0.length + 1 := by
      have := congrArg List.length hpre
      rw [h0] at this
      simpa [tnL] using this.symm
    subst hkl
    rw [h0, tnL_succ, List.map_append] at hpre
    obtain ⟨hp0, hp1⟩ := List.append_inj' hpre rfl
    have hy : (y.k, y.l) = (ys0.length, rot a ys0.length) := by simpa [tk] using hp1
    have hyk : y.k = ys0.length := congrArg Prod.fst hy
    have hyl : y.l = rot a ys0.length := congrArg Prod.snd hy
    have hS : fdK a b = some ys0.length := fdK_some (by rw [hla.out]; omega) (fun j hj e => by
      have hm : (j, rot a j) ∈ ys0.map tk := by rw [hp0]; exact List.mem_map.2 ⟨j, List.mem_range.2 hj, rfl⟩
      obtain ⟨z, hz, hzj⟩ := List.mem_map.1 hm
      refine h1 z hz ?_
      have : z.l = rot a j := congrArg Prod.snd hzj
      rw [this, e]) (by rw [← hyl, h2])
    have hv : Hid (fdV K a b = ys0.length) := hid (by rw [hv0.out, hS]; rfl)
    have he : Hid (fdE K a b = 0) := hid (by rw [he0.out, hS]; rfl)
    have hbV : Below w.heap.size w V := below_grow HbX.out hg HbX.out.size (fun k hk => by rcases hk with h | h <;> omega)
    rw [hyk] at h3
    have H3 := hid h3
    have H4 := hid h4
    clear hpre hp0 hp1 hy hyk hyl hS h0 h1 h2 h3 h4
    simp only [hTT]
    gi_wp2
    refine leavesM_marks [X6.heap.size] _ (by simp) (by simpa using hK) (fun w' ho => ⟨.tuple #[.int .i64 (ys0.length : Int), .int .i64 0], ?_, ?_⟩)
    · have e6 := (ho.cell ⟨T6, 0, none⟩).trans (H3.out.cell 0)
      have e7 := (ho.cell ⟨T7, 0, none⟩).trans (H4.out.cell 0)
      simp [results, Try.results30, go_sem, *]
    · exact ⟨by rw [hv.out, he.out], ho.below hbV (by simp; have := HbX.out.size; omega)⟩
theorem find_any (K : Int) (A B : Option Addr) (n c m d : Nat) (a b : List Int) (w : World) (ha : InS w w.heap.size A n a) (hb : InS w w.heap.size B m b) (hn : n ≤ 90) (hm : m ≤ 90) (hc : n ≤ c) :
    Calls Try.prog 30 #[.int .i64 K, .slice A n c, .slice B m d] w fun e w' => e = .returned (.tuple #[.int .i64 (fdV K a b : Nat), .int .i64 (fdE K a b)]) ∧ Below w.heap.size w w' := by
  by_cases h1 : checkRim K a = 0
  · by_cases h2 : checkRim K b = 0
    · rcases Nat.lt_or_ge n m with hnm | hnm
      · exact find_long K A B n c m d a b w ha hb h1 h2 hnm
      · obtain ⟨-, h3, -⟩ := rim_good h1
        obtain ⟨-, h4, -⟩ := rim_good h2
        rw [ha.len] at h3
        rw [hb.len] at h4
        obtain ⟨b1, off1, rfl, lb1, -⟩ := ha.2 (by omega)
        exact find_go K b1 off1 B n c m d a b w ha hb hc h1 h2 h4.1 hnm h3.1 h3.2 lb1
    · exact find_bad K A B n c m d a b w ha hb hn hm (.inr h2)
  · exact find_bad K A B n c m d a b w ha hb hn hm (.inl h1)
end Go.Proofs.Ytiobmfggnacplaa
/- The words in order: each next one is the last one repeated, its greatest ends dropped, and one more. -/
namespace Go.Proofs.Ytiobmfggnacplaa
/-- The list repeated to a length. -/
def repW (m : Nat) (w : List Int) : List Int := (List.range m).map fun i => w.getD (i % w.length) 0
theorem repW_len (m : Nat) (w : List Int) : (repW m w).length = m := by simp [repW]
theorem repW_at {m i : Nat} (w : List Int) (h : i < m) : (repW m w)[i]? = some (w.getD (i % w.length) 0) := by
  unfold repW
  rw [List.getElem?_map, List.getElem?_range h]; rfl
theorem repW_take {m : Nat} {w : List Int} (h : w.length ≤ m) : (repW m w).take w.length = w := by
  refine List.ext_getElem? fun i => ?_
  rw [List.getElem?_take]
  split
  · rename_i hi
    rw [repW_at w (by omega), Nat.mod_eq_of_lt hi, List.getD_eq_getElem?_getD, List.getElem?_eq_getElem hi]; rfl
  · rename_i hi
    rw [List.getElem?_eq_none (by omega)]
theorem repW_next {m q : Nat} {w : List Int} (h1 : w.length ≤ q) (h2 : q < m) : (repW m w)[q - w.length]? = (repW m w)[q]? := by
  rw [repW_at w (by omega), repW_at w h2]
  have e : (q - w.length) % w.length = q % w.length := by
    have := Nat.add_mod_right (q - w.length) w.length
    rw [Nat.sub_add_cancel h1] at this
    exact this.symm
  rw [e]
/-- A list that is read from its end: the greatest touches fall away, and the next one grows. -/
def incR (K : Int) : List Int → List Int
  | [] => []
  | x :: r => if x = K - 1 then incR K r else (x + 1) :: r
def nxtW (K : Int) (m : Nat) (w : List Int) : List Int := (incR K (repW m w).reverse).reverse
def wdsN (K : Int) (m : Nat) : Nat → List Int → List (List Int)
  | 0, _ => []
  | f + 1, w => if w = [] then [] else w :: wdsN K m f (nxtW K m w)
def wdsL (K m : Nat) : List (List Int) := wdsN K m 800 [0]
theorem wdsN_nil (K : Int) (m : Nat) : ∀ f, wdsN K m f [] = []
  | 0 => rfl
  | f + 1 => by rw [wdsN, if_pos rfl]
theorem wdsN_cons {K : Int} {m f : Nat} {w : List Int} (h : w ≠ []) : wdsN K m (f + 1) w = w :: wdsN K m f (nxtW K m w) := by rw [wdsN, if_neg h]
/-- A word in the row: so long, of such touches. -/
def WdOk (K : Int) (m : Nat) (w : List Int) : Prop := w.length ≤ m ∧ ∀ x ∈ w, 0 ≤ x ∧ x < K
theorem wdOk_rep {K : Int} {m : Nat} {w : List Int} (h : WdOk K m w) (h0 : w ≠ []) : ∀ x ∈ repW m w, 0 ≤ x ∧ x < K := fun x hx => by
  obtain ⟨i, -, rfl⟩ := List.mem_map.1 hx
  have hl : 0 < w.length := List.length_pos_iff.2 h0
  have hi := Nat.mod_lt i hl
  rw [List.getD_eq_getElem?_getD, List.getElem?_eq_getElem hi]
  exact h.2 _ (List.getElem_mem hi)
theorem incR_ok {K : Int} : ∀ {l : List Int}, (∀ x ∈ l, 0 ≤ x ∧ x < K) → ∀ x ∈ incR K l, 0 ≤ x ∧ x < K
  | [], _ => fun x h => by cases h
  | y :: r, h => fun x hx => by
    have hy := h y (List.mem_cons_self ..)
    rw [incR] at hx
    split at hx
    · exact incR_ok (fun z hz => h z (List.mem_cons_of_mem _ hz)) x hx
    · rcases List.mem_cons.1 hx with rfl | h1
      · omega
      · exact h x (List.mem_cons_of_mem _ h1)
theorem incR_len (K : Int) : ∀ l : List Int, (incR K l).length ≤ l.length
  | [] => Nat.le_refl _
  | y :: r => by
    rw [incR]
    split
    · have := incR_len K r; simp; omega
    · simp
theorem nxtW_ok {K : Int} {m : Nat} {w : List Int} (h : WdOk K m w) (h0 : w ≠ []) : WdOk K m (nxtW K m w) := by
  refine ⟨?_, fun x hx => ?_⟩
  · have := incR_len K (repW m w).reverse
    rw [List.length_reverse, repW_len] at this
    rw [nxtW, List.length_reverse]
    exact this
  · rw [nxtW, List.mem_reverse] at hx
    exact incR_ok (fun y hy => wdOk_rep h h0 y (List.mem_reverse.1 hy)) x hx
/-- The ends that fall away: so much is left. -/
def Strip (K : Int) (l : List Int) (q : Nat) : Prop := incR K l.reverse = incR K (l.take q).reverse
theorem strip_all (K : Int) (l : List Int) : Strip K l l.length := by unfold Strip; rw [List.take_length]
theorem take_rev {l : List Int} {q : Nat} {x : Int} (hx : l[q]? = some x) : (l.take (q + 1)).reverse = x :: (l.take q).reverse := by
  rw [List.take_add_one, hx]; simp
theorem strip_next {K : Int} {l : List Int} {q : Nat} (h : Strip K l (q + 1)) (hx : l[q]? = some (K - 1)) : Strip K l q := by
  unfold Strip at *
  rw [h, take_rev hx, incR, if_pos rfl]
theorem strip_zero {K : Int} {m : Nat} {w : List Int} (h : Strip K (repW m w) 0) : nxtW K m w = [] := by
  unfold nxtW; rw [h]; rfl
theorem strip_end {K : Int} {m q : Nat} {w : List Int} {x : Int} (h : Strip K (repW m w) (q + 1)) (hx : (repW m w)[q]? = some x) (hn : x ≠ K - 1) : nxtW K m w = (repW m w).take q ++ [x + 1] := by
  unfold nxtW; rw [h, take_rev hx, incR, if_neg hn]; simp
theorem wdsN_ok {K : Int} {m : Nat} : ∀ f {w : List Int}, WdOk K m w → ∀ x ∈ wdsN K m f w, WdOk K m x ∧ x ≠ []
  | 0, w, _ => fun x h => by cases h
  | f + 1, w, hw => fun x hx => by
    rw [wdsN] at hx
    split at hx
    · cases hx
    · rename_i h0
      rcases List.mem_cons.1 hx with rfl | h1
      · exact ⟨hw, h0⟩
      · exact wdsN_ok f (nxtW_ok hw h0) x h1
theorem wdsL_ok {K m : Nat} (hK : 1 ≤ K) (hm : 1 ≤ m) : ∀ x ∈ wdsL K m, WdOk K m x ∧ x ≠ [] :=
  wdsN_ok 800 ⟨by simpa using hm, fun x hx => by simp at hx; subst hx; omega⟩
/-- Few enough words for a walk through all. -/
def fewB (K t : Nat) : Bool := (K == 1 || K == 2 || (K == 3 && Nat.ble t 7) || (K == 4 && Nat.ble t 5))
set_option maxRecDepth 100000 in
theorem wdsL_few : ∀ K : Fin 5, ∀ t : Fin 13, fewB K.1 t.1 = true → (wdsL K.1 t.1).length < 800 := by decide +kernel
end Go.Proofs.Ytiobmfggnacplaa
