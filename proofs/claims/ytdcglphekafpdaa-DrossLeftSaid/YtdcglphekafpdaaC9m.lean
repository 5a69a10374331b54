/- The statement DrossLeft holds: whatever the arguments, the law returns true and leaves its arguments as they were. -/
import Derived.Test.YtdcglphekafpdaaMr
import Derived.Test.YtdcglphekafpdaaMl
import Derived.Test.YtdcglphekafpdaaMk
import Derived.Test.YtdcglphekafpdaaMq
import Derived.Lib.MinMax
namespace Go.Proofs.Ytdcglphekafpdaa
open Go.RowKit Go.Shelf
theorem point_ok {x : Int} (h0 : 0 ≤ x) (h1 : x ≤ 1000000) : okR ⟨x, x⟩ 1000000 = true := okR_t.2 ⟨h0, Int.le_refl _, h1⟩
theorem inI_len {w : World} {B n : Nat} {A : Option Addr} {l : List Int} (h : InS w B A n l) (hn : 0 < n) : ∃ b off, A = some ⟨b, off, none⟩ ∧ b < B := by
  obtain ⟨b, off, hA, hb, _⟩ := h.2 hn
  exact ⟨b, off, hA, hb⟩
set_option maxRecDepth 100000 in
set_option maxHeartbeats 4000000 in
theorem left_main (w : World) (A A2 : Option Addr) (n c n2 c2 : Nat) (row : List Mt) (by_ : List Int) (x1 x2 x4 a b : Int) (k : Nat) (hr : MtS w w.heap.size A n row) (hnc : n ≤ c) (hb : SmS .u16 w w.heap.size A2 n2 by_) (hby : ∀ x ∈ by_, 0 ≤ x ∧ x ≤ 65535) (hn2 : n2 ≤ 20)
    (h0 : checkRow row = 0) (a0 : 0 ≤ x1) (a1 : x1 ≤ 4294967295) (b0 : 0 ≤ x2) (b1 : x2 ≤ 4294967295) (d0 : 0 ≤ x4) (d1 : x4 ≤ 255) (ha : min (x1 % 1000001) (x2 % 1000001) = a) (hbb : max (x1 % 1000001) (x2 % 1000001) = b) (hk : x4 % (n : Int) = k) :
    Calls Try.prog 8 #[.slice A n c, .int .u32 x1, .int .u32 x2, .slice A2 n2 c2, .int .u8 x4] w fun e w' => e = .returned (.bool true) ∧ Below w.heap.size w w' := by
  obtain ⟨k4, k5, k6⟩ := checkRow_ok h0
  have hlen := hr.len
  have r0 : 0 ≤ a := by omega
  have r1 : a ≤ b := by omega
  have r2 : b ≤ 1000000 := by omega
  have g2 : k < n := by have := Int.emod_lt_of_pos x4 (b := (n : Int)) (by omega); omega
  obtain ⟨bb, off, rfl, hbl, _⟩ := hr.2 (by omega)
  obtain ⟨l1, l2, l3, l4⟩ := left_law k6 r0 r1 r2
  have hlast := wgh_last k6 r0 (by omega : a ≤ 1000000) (byN by_)
  have hcut := leftOf_cut row k ⟨a, b⟩
  have okA := hid (point_ok r0 (by omega))
  have okB := hid (point_ok (x := b) (by omega) r2)
  have okZ : Hid (okR ⟨a, b⟩ 1000000 = true) := hid (okR_t.2 ⟨r0, r1, r2⟩)
  obtain ⟨X, hX⟩ : ∃ X, leftOf row ⟨a, a⟩ = X := ⟨_, rfl⟩
  obtain ⟨Y, hY⟩ : ∃ Y, leftOf row ⟨b, b⟩ = Y := ⟨_, rfl⟩
  rw [hX, hY] at l1
  rw [hX, hY] at l2 l3
  rw [hY] at l4
  rw [hX] at hlast
  obtain ⟨last, hla⟩ : ∃ last, wgh (mAt row) a (byN by_) row.length = last := ⟨_, rfl⟩
  rw [hla] at hlast
  have HX := hid hX
  have HY := hid hY
  have HZ := hid l1
  have HLA := hid hla
  have HIN := hid hlast
  have t1 : decide (Y.lo < X.lo) = false := decide_eq_false (by omega)
  have t2 : decide (Y.hi < X.hi) = false := decide_eq_false (by omega)
  have t3 : decide (b < Y.hi) = false := decide_eq_false (by omega)
  have H0 := hid h0
  have okP : Hid (1 ≤ k → checkRow (row.take k) = 0 ∧ checkRow (row.drop k) = 0 ∧ okR (leftOf (row.take k) ⟨a, b⟩) 1000000 = true) := hid fun h1 => ⟨checkRow_of (by rw [List.length_take]; omega) (by rw [List.length_take]; omega) (all_take k6 k), checkRow_of (by rw [List.length_drop]; omega) (by rw [List.length_drop]; omega) (all_drop k6 k), okR_left (all_take k6 k) okZ.out⟩
  have HC := hid (hcut.trans l1)
  have s1 := mts_sub hr (Nat.zero_le k) (Nat.le_of_lt g2) (by omega)
  have s2 := mts_sub hr (Nat.le_of_lt g2) (Nat.le_refl n) (by omega)
  rw [show sub row 0 k = row.take k by simp [sub]] at s1
  rw [show sub row k n = row.drop k by unfold sub; rw [List.take_of_length_le (by simp; omega)]] at s2
  simp only [Nat.zero_mul, Nat.add_zero, Nat.sub_zero] at s1
  have R1 := hid (fun V (h : Below w.heap.size w V) => s1.below h h.size)
  have R2 := hid (fun V (h : Below w.heap.size w V) => s2.below h h.size)
  have HR := hid (fun V (h : Below w.heap.size w V) => hr.below h h.size)
  have HB := hid (fun V (h : Below w.heap.size w V) => hb.below h h.size)
  have hd := hid (decide_eq_true h0)
  have hby' := hid hby
  have HLEN := hid hlen
  have n0 : (0 : Int) < n := by omega
  have n7 : n ≤ 7 := by omega
  have nk : (k : Int) < n := by omega
  have n20 : ¬ ((20 : Int) < n2) := by omega
  have n20d : decide ((20 : Int) < n2) = false := decide_eq_false n20
  clear hr hb hby h0 k4 k5 k6 hlen l1 l2 l3 l4 hlast hcut hX hY hla s1 s2
  go_enter Try.func8, Try.ntmps8
  have hbel : Below w.heap.size w w := Below.refl _ _
  have hsz := hbel.size
  go_wp2_with (fail)
  refine (fine_any _ _ n c row (HR.out _ ?_)).mono ?_
  · exact (by repeat' (first | with_reducible assumption | with_reducible exact Below.refl _ _ | refine Below.alloc ?_ ?_ _ | refine Below.setCell ?_ ?_ _ | refine Below.drew ?_ | refine below_drewN ?_ _ | (simp; done) | (simp; omega) | omega))
  rw [hd.out]
  rintro e V1 ⟨rfl, hb⟩
  have hst : Below w.heap.size w V1 := Below.trans (by repeat' (first | with_reducible assumption | with_reducible exact Below.refl _ _ | refine Below.alloc ?_ ?_ _ | refine Below.setCell ?_ ?_ _ | refine Below.drew ?_ | refine below_drewN ?_ _ | (simp; done) | (simp; omega) | omega)) (hb.mono (by first | (simp; done) | (simp; omega) | omega))
  replace hbel := hbel.trans (hst.mono hsz)
  replace hsz := hbel.size
  clear hb hst
  go_wp2_with (go_at_call 51; refine (chosen_any _ (by omega) (by omega) _).mono ?_; rintro e W1 ⟨rfl, rfl⟩)
  clear ha hbb a0 a1 b0 b1
  refine (to_any a a _).mono ?_
  rintro e V2 ⟨rfl, hb⟩
  have hst : Below V1.heap.size V1 V2 := Below.trans (by repeat' (first | with_reducible assumption | with_reducible exact Below.refl _ _ | refine Below.alloc ?_ ?_ _ | refine Below.setCell ?_ ?_ _ | refine Below.drew ?_ | refine below_drewN ?_ _ | (simp; done) | (simp; omega) | omega)) (hb.mono (by first | (simp; done) | (simp; omega) | omega))
  replace hbel := hbel.trans (hst.mono hsz)
  replace hsz := hbel.size
  clear hb hst
  go_wp2_with (fail)
  refine (left53_any _ _ n c row ⟨a, a⟩ (HR.out _ ?_) H0.out okA.out).mono ?_
  · exact (by repeat' (first | with_reducible assumption | with_reducible exact Below.refl _ _ | refine Below.alloc ?_ ?_ _ | refine Below.setCell ?_ ?_ _ | refine Below.drew ?_ | refine below_drewN ?_ _ | (simp; done) | (simp; omega) | omega))
  rw [HX.out]
  rintro e V3 ⟨rfl, hb⟩
  have hst : Below V2.heap.size V2 V3 := Below.trans (by repeat' (first | with_reducible assumption | with_reducible exact Below.refl _ _ | refine Below.alloc ?_ ?_ _ | refine Below.setCell ?_ ?_ _ | refine Below.drew ?_ | refine below_drewN ?_ _ | (simp; done) | (simp; omega) | omega)) (hb.mono (by first | (simp; done) | (simp; omega) | omega))
  replace hbel := hbel.trans (hst.mono hsz)
  replace hsz := hbel.size
  clear hb hst
  go_wp2_with (fail)
  refine (to_any b b _).mono ?_
  rintro e V4 ⟨rfl, hb⟩
  have BX : Hid (Blk V4 V3.heap.size 24 #[.int .i64 X.lo, .int .i64 X.hi]) := hid (Blk.below (Blk.new V3 24 #[.int .i64 X.lo, .int .i64 X.hi]) hb (by simp))
  have hst : Below V3.heap.size V3 V4 := Below.trans (by repeat' (first | with_reducible assumption | with_reducible exact Below.refl _ _ | refine Below.alloc ?_ ?_ _ | refine Below.setCell ?_ ?_ _ | refine Below.drew ?_ | refine below_drewN ?_ _ | (simp; done) | (simp; omega) | omega)) (hb.mono (by first | (simp; done) | (simp; omega) | omega))
  replace hbel := hbel.trans (hst.mono hsz)
  replace hsz := hbel.size
  clear hb hst
  go_wp2_with (fail)
  refine (left53_any _ _ n c row ⟨b, b⟩ (HR.out _ ?_) H0.out okB.out).mono ?_
  · exact (by repeat' (first | with_reducible assumption | with_reducible exact Below.refl _ _ | refine Below.alloc ?_ ?_ _ | refine Below.setCell ?_ ?_ _ | refine Below.drew ?_ | refine below_drewN ?_ _ | (simp; done) | (simp; omega) | omega))
  rw [HY.out]
  rintro e V5 ⟨rfl, hb⟩
  have hst : Below V4.heap.size V4 V5 := Below.trans (by repeat' (first | with_reducible assumption | with_reducible exact Below.refl _ _ | refine Below.alloc ?_ ?_ _ | refine Below.setCell ?_ ?_ _ | refine Below.drew ?_ | refine below_drewN ?_ _ | (simp; done) | (simp; omega) | omega)) (hb.mono (by first | (simp; done) | (simp; omega) | omega))
  replace hbel := hbel.trans (hst.mono hsz)
  replace hsz := hbel.size
  replace BX := hid (BX.out.below hst BX.out.lt)
  clear hb hst
  go_wp2_with (fail)
  refine (to_any a b _).mono ?_
  rintro e V6 ⟨rfl, hb⟩
  have BY : Hid (Blk V6 V5.heap.size 24 #[.int .i64 Y.lo, .int .i64 Y.hi]) := hid (Blk.below (Blk.new V5 24 #[.int .i64 Y.lo, .int .i64 Y.hi]) hb (by simp))
  have hst : Below V5.heap.size V5 V6 := Below.trans (by repeat' (first | with_reducible assumption | with_reducible exact Below.refl _ _ | refine Below.alloc ?_ ?_ _ | refine Below.setCell ?_ ?_ _ | refine Below.drew ?_ | refine below_drewN ?_ _ | (simp; done) | (simp; omega) | omega)) (hb.mono (by first | (simp; done) | (simp; omega) | omega))
  replace hbel := hbel.trans (hst.mono hsz)
  replace hsz := hbel.size
  replace BX := hid (BX.out.below hst BX.out.lt)
  clear hb hst
  go_wp2_with (fail)
  refine (left53_any _ _ n c row ⟨a, b⟩ (HR.out _ ?_) H0.out okZ.out).mono ?_
  · exact (by repeat' (first | with_reducible assumption | with_reducible exact Below.refl _ _ | refine Below.alloc ?_ ?_ _ | refine Below.setCell ?_ ?_ _ | refine Below.drew ?_ | refine below_drewN ?_ _ | (simp; done) | (simp; omega) | omega))
  rw [HZ.out]
  rintro e V7 ⟨rfl, hb⟩
  have hst : Below V6.heap.size V6 V7 := Below.trans (by repeat' (first | with_reducible assumption | with_reducible exact Below.refl _ _ | refine Below.alloc ?_ ?_ _ | refine Below.setCell ?_ ?_ _ | refine Below.drew ?_ | refine below_drewN ?_ _ | (simp; done) | (simp; omega) | omega)) (hb.mono (by first | (simp; done) | (simp; omega) | omega))
  replace hbel := hbel.trans (hst.mono hsz)
  replace hsz := hbel.size
  replace BX := hid (BX.out.below hst BX.out.lt)
  replace BY := hid (BY.out.below hst BY.out.lt)
  clear hb hst
  go_wp2_with (fail)
  obtain ⟨V8, hV⟩ : ∃ V : World, V = V7.alloc (.cells #[.int .i64 X.lo, .int .i64 Y.hi] 24) := ⟨_, rfl⟩
  have hb : Below V7.heap.size V7 V8 := by rw [hV]; exact (Below.refl _ _).alloc (Nat.le_refl _) _
  have BZ : Hid (Blk V8 V7.heap.size 24 #[.int .i64 X.lo, .int .i64 Y.hi]) := hid (by rw [hV]; exact Blk.new _ _ _)
  rw [← hV]
  clear hV
  have hst : Below V7.heap.size V7 V8 := Below.trans (by repeat' (first | with_reducible assumption | with_reducible exact Below.refl _ _ | refine Below.alloc ?_ ?_ _ | refine Below.setCell ?_ ?_ _ | refine Below.drew ?_ | refine below_drewN ?_ _ | (simp; done) | (simp; omega) | omega)) (hb.mono (by first | (simp; done) | (simp; omega) | omega))
  replace hbel := hbel.trans (hst.mono hsz)
  replace hsz := hbel.size
  replace BX := hid (BX.out.below hst BX.out.lt)
  replace BY := hid (BY.out.below hst BY.out.lt)
  clear hb hst
  have BX_c0 := BX.out.cell 0
  have BX_c1 := BX.out.cell 1
  have BX_l := BX.out.lt
  have BY_c0 := BY.out.cell 0
  have BY_c1 := BY.out.cell 1
  have BY_l := BY.out.lt
  have BZ_c0 := BZ.out.cell 0
  have BZ_c1 := BZ.out.cell 1
  have BZ_l := BZ.out.lt
  refine wp_region_hd_all (fun W' => Below V8.heap.size V8 W') (by kernel_rfl) (by kernel_rfl) ((Below.refl _ _).drew) ?_
  iterate 30 (refine wpHd_val (v := ?_) (by rfl) (fun W hW => ?_) ?_; rotate_left; (· obtain ⟨hcW, hfW⟩ := bcell hW; go_simp; with_reducible rfl); simp only [Act.put, List.setIfInBounds_toArray, List.set_cons_zero, List.set_cons_succ])
  (refine wpHd_callB (by rfl) (fun W hW => to_any X.lo Y.hi _) (fun W hW => ?_) ?_; (· obtain ⟨hcW, hfW⟩ := bcell hW; go_simp); simp only [Act.put, List.setIfInBounds_toArray, List.set_cons_zero, List.set_cons_succ])
  iterate 8 (refine wpHd_val (v := ?_) (by rfl) (fun W hW => ?_) ?_; rotate_left; (· obtain ⟨hcW, hfW⟩ := bcell hW; go_simp; with_reducible rfl); simp only [Act.put, List.setIfInBounds_toArray, List.set_cons_zero, List.set_cons_succ])
  refine wpHd_nil ?_
  intro V9 hb
  clear BX_c0 BX_c1 BX_l
  clear BY_c0 BY_c1 BY_l
  clear BZ_c0 BZ_c1 BZ_l
  have hst : Below V8.heap.size V8 V9 := Below.trans (by repeat' (first | with_reducible assumption | with_reducible exact Below.refl _ _ | refine Below.alloc ?_ ?_ _ | refine Below.setCell ?_ ?_ _ | refine Below.drew ?_ | refine below_drewN ?_ _ | (simp; done) | (simp; omega) | omega)) (hb.mono (by first | (simp; done) | (simp; omega) | omega))
  replace hbel := hbel.trans (hst.mono hsz)
  replace hsz := hbel.size
  replace BX := hid (BX.out.below hst BX.out.lt)
  replace BY := hid (BY.out.below hst BY.out.lt)
  replace BZ := hid (BZ.out.below hst BZ.out.lt)
  clear hb hst t1 t2 t3
  go_wp2_with (fail)
  refine (weighed_any _ _ _ n c n2 c2 row a by_ (HR.out _ ?_) H0.out r0 (by omega) (HB.out _ ?_) hby'.out hn2).mono ?_
  · exact (by repeat' (first | with_reducible assumption | with_reducible exact Below.refl _ _ | refine Below.alloc ?_ ?_ _ | refine Below.setCell ?_ ?_ _ | refine Below.drew ?_ | refine below_drewN ?_ _ | (simp; done) | (simp; omega) | omega))
  · exact (by repeat' (first | with_reducible assumption | with_reducible exact Below.refl _ _ | refine Below.alloc ?_ ?_ _ | refine Below.setCell ?_ ?_ _ | refine Below.drew ?_ | refine below_drewN ?_ _ | (simp; done) | (simp; omega) | omega))
  rintro e V10 ⟨A3, c3, rfl, hwl, hb⟩
  have hst : Below V9.heap.size V9 V10 := Below.trans (by repeat' (first | with_reducible assumption | with_reducible exact Below.refl _ _ | refine Below.alloc ?_ ?_ _ | refine Below.setCell ?_ ?_ _ | refine Below.drew ?_ | refine below_drewN ?_ _ | (simp; done) | (simp; omega) | omega)) (hb.mono (by first | (simp; done) | (simp; omega) | omega))
  replace hbel := hbel.trans (hst.mono hsz)
  replace hsz := hbel.size
  replace BX := hid (BX.out.below hst BX.out.lt)
  replace BY := hid (BY.out.below hst BY.out.lt)
  replace BZ := hid (BZ.out.below hst BZ.out.lt)
  clear hb hst
  obtain ⟨b3, o3, y3, rfl, hb3, hy3, cy⟩ := hwl.at_ (k := n) (by omega)
  have hyl : y3 = last := by
   have e1 := wAt_of hy3
   have e2 := wghL_at (row := row) (first := a) (by_ := by_) (Nat.le_refl row.length)
   rw [HLEN.out, e1] at e2
   rw [e2, ← HLA.out, HLEN.out]
  subst hyl
  clear hwl hy3
  have n1 : (n : Int) < (n : Int) + 1 := by omega
  have BX_c0 := BX.out.cell 0
  have BX_c1 := BX.out.cell 1
  have BX_l := BX.out.lt
  go_wp2_with (fail)
  refine (in_any X y3 _).mono ?_
  rw [HIN.out]
  rintro e V11 ⟨rfl, hb⟩
  have hst : Below V10.heap.size V10 V11 := Below.trans (by repeat' (first | with_reducible assumption | with_reducible exact Below.refl _ _ | refine Below.alloc ?_ ?_ _ | refine Below.setCell ?_ ?_ _ | refine Below.drew ?_ | refine below_drewN ?_ _ | (simp; done) | (simp; omega) | omega)) (hb.mono (by first | (simp; done) | (simp; omega) | omega))
  replace hbel := hbel.trans (hst.mono hsz)
  replace hsz := hbel.size
  replace BX := hid (BX.out.below hst BX.out.lt)
  replace BY := hid (BY.out.below hst BY.out.lt)
  replace BZ := hid (BZ.out.below hst BZ.out.lt)
  clear hb hst
  clear BX_c0 BX_c1 BX_l
  clear cy n1
  have zk : x4.tmod (n : Int) = k := by rw [Int.tmod_eq_emod_of_nonneg d0]; exact hk
  have zk2 : ¬ ((n : Int) = 0) := by omega
  rcases Nat.eq_zero_or_pos k with hk0 | hk0
  · subst hk0
    go_wp2_with (fail)
    refine (works_any _).mono ?_
    rintro e V12 ⟨rfl, hb⟩
    have hst : Below V11.heap.size V11 V12 := Below.trans (by repeat' (first | with_reducible assumption | with_reducible exact Below.refl _ _ | refine Below.alloc ?_ ?_ _ | refine Below.setCell ?_ ?_ _ | refine Below.drew ?_ | refine below_drewN ?_ _ | (simp; done) | (simp; omega) | omega)) (hb.mono (by first | (simp; done) | (simp; omega) | omega))
    replace hbel := hbel.trans (hst.mono hsz)
    replace hsz := hbel.size
    replace BX := hid (BX.out.below hst BX.out.lt)
    replace BY := hid (BY.out.below hst BY.out.lt)
    replace BZ := hid (BZ.out.below hst BZ.out.lt)
    clear hb hst
    go_wp2
    go_ret
    exact ⟨rfl, hbel⟩
  · obtain ⟨p1, p2, p3⟩ := okP.out hk0
    have hk1 : ((k : Int) == 0) = false := by simp; omega
    obtain ⟨P, hP⟩ : ∃ P, leftOf (row.take k) ⟨a, b⟩ = P := ⟨_, rfl⟩
    have HP := hid hP
    rw [hP] at p3
    have HQ := hid (HC.out)
    rw [hP] at HQ
    have P1 := hid p1
    have P2 := hid p2
    have P3 := hid p3
    clear hP p1 p2 p3
    go_wp2_with (fail)
    have z1 : (0 : Int) ≤ k := by omega
    have z2 : (k : Int) ≤ c := by omega
    have z5 : ¬ c = k := by omega
    have z7 : (k : Int) ≤ n := by omega
    refine wp_region_el [0, 1, 2, 3, 4, 5, 6, 7, 8, 9] 3 (by kernel_rfl) (by kernel_rfl) (fun V12 hX => ?_)
    have hb : Below V11.heap.size V11 V12 := by rw [hX]; exact (Below.refl _ _).drew
    clear hX
    have hst : Below V11.heap.size V11 V12 := Below.trans (by repeat' (first | with_reducible assumption | with_reducible exact Below.refl _ _ | refine Below.alloc ?_ ?_ _ | refine Below.setCell ?_ ?_ _ | refine Below.drew ?_ | refine below_drewN ?_ _ | (simp; done) | (simp; omega) | omega)) (hb.mono (by first | (simp; done) | (simp; omega) | omega))
    replace hbel := hbel.trans (hst.mono hsz)
    replace hsz := hbel.size
    replace BX := hid (BX.out.below hst BX.out.lt)
    replace BY := hid (BY.out.below hst BY.out.lt)
    replace BZ := hid (BZ.out.below hst BZ.out.lt)
    clear hb hst
    simp only [pick, List.getElem?_toArray, List.getElem?_cons_zero, List.getElem?_cons_succ]
    iterate 5 (refine wpE_val (v := ?_) (by rfl) (fun W hW => ?_) ?_; rotate_left; (· obtain ⟨hcW, hfW⟩ := bcell hW; go_simp; with_reducible rfl); simp only [Act.put, List.setIfInBounds_toArray, List.set_cons_zero, List.set_cons_succ])
    (refine wpE_call (by rfl) (fun W hW => to_any a b W) (fun W hW => ?_) ?_; (· obtain ⟨hcW, hfW⟩ := bcell hW; go_simp); simp only [Act.put, List.setIfInBounds_toArray, List.set_cons_zero, List.set_cons_succ])
    (refine wpE_call (v := .tuple #[.agg #[.int .i64 P.lo, .int .i64 P.hi], .bool true]) (by rfl) (fun W hW => by have := left53_any W _ k c (row.take k) ⟨a, b⟩ (R1.out W (hbel.trans (hW.mono hsz))) P1.out okZ.out; rw [HP.out] at this; exact this) (fun W hW => ?_) ?_; (· obtain ⟨hcW, hfW⟩ := bcell hW; go_simp); simp only [Act.put, List.setIfInBounds_toArray, List.set_cons_zero, List.set_cons_succ])
    iterate 3 (refine wpE_val (v := ?_) (by rfl) (fun W hW => ?_) ?_; rotate_left; (· obtain ⟨hcW, hfW⟩ := bcell hW; go_simp; with_reducible rfl); simp only [Act.put, List.setIfInBounds_toArray, List.set_cons_zero, List.set_cons_succ])
    simp only [wpE]
    (refine wpM_one 10 _ (by simp only [List.getElem?_toArray, List.getElem?_cons_zero, List.getElem?_cons_succ]; rfl) (by kernel_rfl) (by rfl) ?_)
    intro Z1 hZ1 hZ1p
    (go_simp; simp only [LUpon, Act.put]; try simp only [List.setIfInBounds_toArray, List.set_cons_zero, List.set_cons_succ])
    refine ⟨hZ1p.alloc hZ1p.size _, ?_⟩
    have b9 : Blk (Z1.alloc (.cells #[.int .i64 0, .int .i64 0] 24)) Z1.heap.size 24 #[.int .i64 0, .int .i64 0] := Blk.new _ _ _
    have hB9 : V12.heap.size ≤ Z1.heap.size := hZ1p.size
    generalize Z1.heap.size = BPb at *
    generalize Z1.alloc (.cells #[.int .i64 0, .int .i64 0] 24) = Z1b at *
    (refine wpM_one 11 _ (by simp only [List.getElem?_toArray, List.getElem?_cons_zero, List.getElem?_cons_succ]; rfl) (by kernel_rfl) (by rfl) ?_)
    intro Z2 hZ2 hZ2p
    replace b9 := b9.below hZ2 b9.lt
    have q0 := b9.frozen 0
    have q1 := b9.frozen 1
    have u0 := b9.cell 0
    have u1 := b9.cell 1
    have hlt2 := b9.lt
    (go_simp; simp only [LUpon, Act.put]; try simp only [List.setIfInBounds_toArray, List.set_cons_zero, List.set_cons_succ])
    refine ⟨(hZ2p.setCell hB9 _).setCell hB9 _, ?_⟩
    replace b9 := b9.set2 (a := .int .i64 P.lo) (b := .int .i64 P.hi)
    clear q0 q1 u0 u1
    generalize (Z2.setCell ⟨BPb, 0, none⟩ (.int .i64 P.lo)).setCell ⟨BPb, 1, none⟩ (.int .i64 P.hi) = Z2b at *
    (refine wpM_one 12 _ (by simp only [List.getElem?_toArray, List.getElem?_cons_zero, List.getElem?_cons_succ]; rfl) (by kernel_rfl) (by rfl) ?_)
    intro Z3 hZ3 hZ3p
    replace b9 := b9.below hZ3 b9.lt
    (go_simp; simp only [LUpon, Act.put]; try simp only [List.setIfInBounds_toArray, List.set_cons_zero, List.set_cons_succ])
    refine ⟨hZ3p, ?_⟩
    refine wpM_end (by kernel_rfl) ?_
    intro V13 hZ4 hb
    have BP := hid (b9.below hZ4 b9.lt)
    clear hZ1 hZ1p hZ2 hZ2p hZ3 hZ3p hZ4 hlt2 b9 hB9
    have hst : Below V12.heap.size V12 V13 := Below.trans (by repeat' (first | with_reducible assumption | with_reducible exact Below.refl _ _ | refine Below.alloc ?_ ?_ _ | refine Below.setCell ?_ ?_ _ | refine Below.drew ?_ | refine below_drewN ?_ _ | (simp; done) | (simp; omega) | omega)) (hb.mono (by first | (simp; done) | (simp; omega) | omega))
    replace hbel := hbel.trans (hst.mono hsz)
    replace hsz := hbel.size
    replace BX := hid (BX.out.below hst BX.out.lt)
    replace BY := hid (BY.out.below hst BY.out.lt)
    replace BZ := hid (BZ.out.below hst BZ.out.lt)
    clear hb hst
    go_wp2_with (fail)
    have BP_c0 := BP.out.cell 0
    have BP_c1 := BP.out.cell 1
    have BP_l := BP.out.lt
    refine wp_region_el [0, 1, 2, 3, 4, 5, 6, 7] 3 (by kernel_rfl) (by kernel_rfl) (fun V14 hX => ?_)
    have hb : Below V13.heap.size V13 V14 := by rw [hX]; exact (Below.refl _ _).drew
    clear hX
    have hst : Below V13.heap.size V13 V14 := Below.trans (by repeat' (first | with_reducible assumption | with_reducible exact Below.refl _ _ | refine Below.alloc ?_ ?_ _ | refine Below.setCell ?_ ?_ _ | refine Below.drew ?_ | refine below_drewN ?_ _ | (simp; done) | (simp; omega) | omega)) (hb.mono (by first | (simp; done) | (simp; omega) | omega))
    replace hbel := hbel.trans (hst.mono hsz)
    replace hsz := hbel.size
    replace BX := hid (BX.out.below hst BX.out.lt)
    replace BY := hid (BY.out.below hst BY.out.lt)
    replace BZ := hid (BZ.out.below hst BZ.out.lt)
    replace BP := hid (BP.out.below hst BP.out.lt)
    clear hb hst
    replace BP_c0 := BP.out.cell 0
    replace BP_c1 := BP.out.cell 1
    replace BP_l := BP.out.lt
    simp only [pick, List.getElem?_toArray, List.getElem?_cons_zero, List.getElem?_cons_succ]
    iterate 4 (refine wpE_val (v := ?_) (by rfl) (fun W hW => ?_) ?_; rotate_left; (· obtain ⟨hcW, hfW⟩ := bcell hW; go_simp; with_reducible rfl); simp only [Act.put, List.setIfInBounds_toArray, List.set_cons_zero, List.set_cons_succ])
    (refine wpE_call (v := .tuple #[.agg #[.int .i64 X.lo, .int .i64 Y.hi], .bool true]) (by rfl) (fun W hW => by have := left53_any W _ (n - k) (c - k) (row.drop k) P (R2.out W (hbel.trans (hW.mono hsz))) P2.out P3.out; rw [HQ.out] at this; exact this) (fun W hW => ?_) ?_; (· obtain ⟨hcW, hfW⟩ := bcell hW; go_simp); simp only [Act.put, List.setIfInBounds_toArray, List.set_cons_zero, List.set_cons_succ])
    iterate 3 (refine wpE_val (v := ?_) (by rfl) (fun W hW => ?_) ?_; rotate_left; (· obtain ⟨hcW, hfW⟩ := bcell hW; go_simp; with_reducible rfl); simp only [Act.put, List.setIfInBounds_toArray, List.set_cons_zero, List.set_cons_succ])
    simp only [wpE]
    (refine wpM_one 8 _ (by simp only [List.getElem?_toArray, List.getElem?_cons_zero, List.getElem?_cons_succ]; rfl) (by kernel_rfl) (by rfl) ?_)
    intro Z1 hZ1 hZ1p
    (go_simp; simp only [LUpon, Act.put]; try simp only [List.setIfInBounds_toArray, List.set_cons_zero, List.set_cons_succ])
    refine ⟨hZ1p.alloc hZ1p.size _, ?_⟩
    have b9 : Blk (Z1.alloc (.cells #[.int .i64 0, .int .i64 0] 24)) Z1.heap.size 24 #[.int .i64 0, .int .i64 0] := Blk.new _ _ _
    have hB9 : V14.heap.size ≤ Z1.heap.size := hZ1p.size
    generalize Z1.heap.size = BQb at *
    generalize Z1.alloc (.cells #[.int .i64 0, .int .i64 0] 24) = Z1b at *
    (refine wpM_one 9 _ (by simp only [List.getElem?_toArray, List.getElem?_cons_zero, List.getElem?_cons_succ]; rfl) (by kernel_rfl) (by rfl) ?_)
    intro Z2 hZ2 hZ2p
    replace b9 := b9.below hZ2 b9.lt
    have q0 := b9.frozen 0
    have q1 := b9.frozen 1
    have u0 := b9.cell 0
    have u1 := b9.cell 1
    have hlt2 := b9.lt
    (go_simp; simp only [LUpon, Act.put]; try simp only [List.setIfInBounds_toArray, List.set_cons_zero, List.set_cons_succ])
    refine ⟨(hZ2p.setCell hB9 _).setCell hB9 _, ?_⟩
    replace b9 := b9.set2 (a := .int .i64 (⟨X.lo, Y.hi⟩ : Rg).lo) (b := .int .i64 (⟨X.lo, Y.hi⟩ : Rg).hi)
    clear q0 q1 u0 u1
    generalize (Z2.setCell ⟨BQb, 0, none⟩ (.int .i64 (⟨X.lo, Y.hi⟩ : Rg).lo)).setCell ⟨BQb, 1, none⟩ (.int .i64 (⟨X.lo, Y.hi⟩ : Rg).hi) = Z2b at *
    (refine wpM_one 10 _ (by simp only [List.getElem?_toArray, List.getElem?_cons_zero, List.getElem?_cons_succ]; rfl) (by kernel_rfl) (by rfl) ?_)
    intro Z3 hZ3 hZ3p
    replace b9 := b9.below hZ3 b9.lt
    (go_simp; simp only [LUpon, Act.put]; try simp only [List.setIfInBounds_toArray, List.set_cons_zero, List.set_cons_succ])
    refine ⟨hZ3p, ?_⟩
    refine wpM_end (by kernel_rfl) ?_
    intro V15 hZ4 hb
    have BQ := hid (b9.below hZ4 b9.lt)
    clear hZ1 hZ1p hZ2 hZ2p hZ3 hZ3p hZ4 hlt2 b9 hB9
    have hst : Below V14.heap.size V14 V15 := Below.trans (by repeat' (first | with_reducible assumption | with_reducible exact Below.refl _ _ | refine Below.alloc ?_ ?_ _ | refine Below.setCell ?_ ?_ _ | refine Below.drew ?_ | refine below_drewN ?_ _ | (simp; done) | (simp; omega) | omega)) (hb.mono (by first | (simp; done) | (simp; omega) | omega))
    replace hbel := hbel.trans (hst.mono hsz)
    replace hsz := hbel.size
    replace BX := hid (BX.out.below hst BX.out.lt)
    replace BY := hid (BY.out.below hst BY.out.lt)
    replace BZ := hid (BZ.out.below hst BZ.out.lt)
    replace BP := hid (BP.out.below hst BP.out.lt)
    clear hb hst
    clear BP_c0 BP_c1 BP_l
    have BQ_c0 := BQ.out.cell 0
    have BQ_c1 := BQ.out.cell 1
    have BQ_l := BQ.out.lt
    have BZ_c0 := BZ.out.cell 0
    have BZ_c1 := BZ.out.cell 1
    have BZ_l := BZ.out.lt
    go_wp2_with (fail)
    refine (works_any _).mono ?_
    rintro e V16 ⟨rfl, hb⟩
    have hst : Below V15.heap.size V15 V16 := Below.trans (by repeat' (first | with_reducible assumption | with_reducible exact Below.refl _ _ | refine Below.alloc ?_ ?_ _ | refine Below.setCell ?_ ?_ _ | refine Below.drew ?_ | refine below_drewN ?_ _ | (simp; done) | (simp; omega) | omega)) (hb.mono (by first | (simp; done) | (simp; omega) | omega))
    replace hbel := hbel.trans (hst.mono hsz)
    replace hsz := hbel.size
    replace BX := hid (BX.out.below hst BX.out.lt)
    replace BY := hid (BY.out.below hst BY.out.lt)
    replace BZ := hid (BZ.out.below hst BZ.out.lt)
    replace BP := hid (BP.out.below hst BP.out.lt)
    replace BQ := hid (BQ.out.below hst BQ.out.lt)
    clear hb hst
    clear BQ_c0 BQ_c1 BQ_l
    clear BZ_c0 BZ_c1 BZ_l
    go_wp2
    go_ret
    exact ⟨rfl, hbel⟩
set_option maxRecDepth 100000 in
set_option maxHeartbeats 4000000 in
theorem left_walk (w : World) (A A2 : Option Addr) (n c n2 c2 : Nat) (row : List Mt) (by_ : List Int) (x1 x2 x4 : Int) (hr : MtS w w.heap.size A n row) (hnc : n ≤ c) (hb : SmS .u16 w w.heap.size A2 n2 by_) (hby : ∀ x ∈ by_, 0 ≤ x ∧ x ≤ 65535)
    (a0 : 0 ≤ x1 ∧ x1 ≤ 4294967295) (b0 : 0 ≤ x2 ∧ x2 ≤ 4294967295) (d0 : 0 ≤ x4 ∧ x4 ≤ 255) :
    Calls Try.prog 8 #[.slice A n c, .int .u32 x1, .int .u32 x2, .slice A2 n2 c2, .int .u8 x4] w fun e w' => e = .returned (.bool true) ∧ Below w.heap.size w w' := by
  have HR := hid (fun V (h : Below w.heap.size w V) => hr.below h h.size)
  by_cases h0 : checkRow row = 0
  · have hd := hid (decide_eq_true h0)
    by_cases hn2 : n2 ≤ 20
    · have hl := hr.len
      have hk := checkRow_ok h0
      refine left_main w A A2 n c n2 c2 row by_ x1 x2 x4 _ _ (x4 % (n : Int)).toNat hr hnc hb hby hn2 h0 a0.1 a0.2 b0.1 b0.2 d0.1 d0.2 rfl rfl ?_
      have := Int.emod_nonneg x4 (b := (n : Int)) (by omega)
      omega
    · have h20 : (20 : Int) < n2 := by omega
      clear hr hb hby h0
      go_enter Try.func8, Try.ntmps8
      go_wp2_with (first | (go_at_call 52; refine (fine_any _ A n c row (HR.out _ ?_)).mono ?_; (· exact (by repeat' (first | with_reducible assumption | with_reducible exact Below.refl _ _ | refine Below.alloc ?_ ?_ _ | refine Below.setCell ?_ ?_ _ | refine Below.drew ?_ | refine below_drewN ?_ _ | (simp; done) | (simp; omega) | omega))); rw [hd.out]; rintro e W1 ⟨rfl, hb⟩; have hbel : Below w.heap.size w W1 := Below.trans (by repeat' (first | with_reducible assumption | with_reducible exact Below.refl _ _ | refine Below.alloc ?_ ?_ _ | refine Below.setCell ?_ ?_ _ | refine Below.drew ?_ | refine below_drewN ?_ _ | (simp; done) | (simp; omega) | omega)) (hb.mono (by first | (simp; done) | (simp; omega) | omega))) | (go_at_call 19; refine (works_any _).mono ?_; rintro e W2 ⟨rfl, hb2⟩))
      go_ret
      exact ⟨rfl, Below.trans (by repeat' (first | with_reducible assumption | with_reducible exact Below.refl _ _ | refine Below.alloc ?_ ?_ _ | refine Below.setCell ?_ ?_ _ | refine Below.drew ?_ | refine below_drewN ?_ _ | (simp; done) | (simp; omega) | omega)) (hb2.mono hbel.size)⟩
  · have hd := hid (decide_eq_false h0)
    clear hr hb hby h0
    go_enter Try.func8, Try.ntmps8
    go_wp2_with (first | (go_at_call 52; refine (fine_any _ A n c row (HR.out _ ?_)).mono ?_; (· exact (by repeat' (first | with_reducible assumption | with_reducible exact Below.refl _ _ | refine Below.alloc ?_ ?_ _ | refine Below.setCell ?_ ?_ _ | refine Below.drew ?_ | refine below_drewN ?_ _ | (simp; done) | (simp; omega) | omega))); rw [hd.out]; rintro e W1 ⟨rfl, hb⟩; have hbel : Below w.heap.size w W1 := Below.trans (by repeat' (first | with_reducible assumption | with_reducible exact Below.refl _ _ | refine Below.alloc ?_ ?_ _ | refine Below.setCell ?_ ?_ _ | refine Below.drew ?_ | refine below_drewN ?_ _ | (simp; done) | (simp; omega) | omega)) (hb.mono (by first | (simp; done) | (simp; omega) | omega))) | (go_at_call 19; refine (works_any _).mono ?_; rintro e W2 ⟨rfl, hb2⟩))
    go_ret
    exact ⟨rfl, Below.trans (by repeat' (first | with_reducible assumption | with_reducible exact Below.refl _ _ | refine Below.alloc ?_ ?_ _ | refine Below.setCell ?_ ?_ _ | refine Below.drew ?_ | refine below_drewN ?_ _ | (simp; done) | (simp; omega) | omega)) (hb2.mono hbel.size)⟩

section
open Go.ChangeShapes Go.WideShapes Go.ChangeAt Go.RowKit
set_option maxRecDepth 100000 in
theorem drossLeft_lifted (os : Os) (started : os.Started) (H : Type) (enc : TypeId × Value → H) :
    ReturnsInHanded {} Try.checked os 8 .any (Rows.drossLeftSpec.pre6 enc Try.prog Try.f8 Rows.drossLeftRow.domain false) (Rows.drossLeftSpec.post enc Try.prog Try.f8 false true false false) := by
  refine returnsInHanded_of_change (C := Try.checked) ownKx started (by kernel_rfl) Try.func8
    (ChangeSpec.witness6 (enc := enc) (C := Try.checked) false ⟨#[], #[.slice none 0 0, .int .u32 0, .int .u32 0, .slice none 0 0, .int .u8 0], []⟩ 8 (by kernel_rfl) (by kernel_rfl) (by kernel_rfl) (by kernel_rfl)) ?_
  intro W base args ds gs before hval0 hW hcnd _
  have hval : ∀ (j : Nat) t v, Try.f8.params[j]? = some t → args[j]? = some v → Value.okWide Try.prog W .any base t v := hval0
  have hW' := hW
  obtain ⟨p, q, hA0, hV, rfl, hfz, hnd⟩ := hW
  have hA : DataW.TrodAll enc Try.prog W 0 (fun _ => true) true Try.f8.params.toList args.toList ds p := hA0
  have hlt : ∀ x ∈ p, x.block < W.heap.size := fun x hx => hW'.lt x (List.mem_append_left _ hx)
  have hAll : ∀ W', Below W.heap.size W W' → DataW.TrodAll enc Try.prog W' 0 (fun b => decide (b < W.heap.size)) true Try.f8.params.toList args.toList ds p := fun W' hb => all_below laidOut hb (readable_of (by kernel_rfl)) hlt hA
  rw [Try.params8] at hA hval
  obtain ⟨v0, v1, v2, v3, v4, d0, d1, d2, d3, d4, p0, p1, p2, p3, p4, rfl, rfl, rfl, h0, h1, h2, h3, h4⟩ := trodAll_five hA
  obtain ⟨rfl, rfl⟩ := trodVars_none hV
  clear hA0 hval0
  obtain ⟨A0, n0, c0, rfl⟩ := okWide_slice Try.underlying22 (hval 0 22 v0 rfl rfl)
  obtain ⟨hc0, l0, hl0, hr0⟩ := open_mts h0
  obtain ⟨x1, rfl, rfl, rfl, wx1⟩ := open_int Try.underlying55 (hval 1 55 v1 rfl rfl) h1
  obtain ⟨x2, rfl, rfl, rfl, wx2⟩ := open_int Try.underlying55 (hval 2 55 v2 rfl rfl) h2
  obtain ⟨A3, n3, c3, rfl⟩ := okWide_slice Try.underlying56 (hval 3 56 v3 rfl rfl)
  obtain ⟨hc3, l3, hl3, hr3⟩ := open_is Try.underlying56 Try.underlying73 (by kernel_rfl) h3
  obtain ⟨x4, rfl, rfl, rfl, wx4⟩ := open_int Try.underlying5 (hval 4 5 v4 rfl rfl) h4
  refine (left_walk W A0 A3 n0 c0 n3 c3 l0 (l3.map (·.1)) x1 x2 x4 hr0 hc0 (sm_of hr3) sm16_bd (u32_bdx wx1) (u32_bdx wx2) (u8_bdx wx4)).mono fun e W' ⟨he, hb⟩ => ?_
  subst he
  exact ⟨_, rfl, ⟨_, _, _, [], _, [], hW', trodAll_cons_mk (shut_bool Try.underlying4 _) trodAll_mk0, hAll W' hb, rfl, hb.frame _, fun h => by cases h⟩⟩
/-- The law: whatever the input, it returns true, and the input reads as it did. -/
theorem drossLeft_holds : Rows.DrossLeftSaid :=
  OpenClaim.holds_of_wide 8 Try.f8 rfl rfl rfl rfl rfl rfl rfl ⟨rfl, rfl, rfl, rfl, rfl⟩ rfl rfl rfl rfl rfl (by kernel_rfl) Try.func8 (by kernel_rfl)
    (of_decide_eq_true (by kernel_rfl)) (by unfold Func.isWrapper; first | (rw [if_pos (by decide +kernel)]; kernel_rfl) | (rw [if_neg (by decide +kernel)]; exact ⟨rfl, rfl⟩))
    (fun os started H enc _ => drossLeft_lifted os started H enc)
end
end Go.Proofs.Ytdcglphekafpdaa
