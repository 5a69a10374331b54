/- The statement DrossReached holds: whatever the arguments, the law returns true and leaves its arguments as they were. -/
import Derived.Test.YtdcglphekafpdaaMs
import Derived.Test.YtdcglphekafpdaaMr
import Derived.Test.YtdcglphekafpdaaMk
import Derived.Lib.MinMax
namespace Go.Proofs.Ytdcglphekafpdaa
open Go.RowKit Go.Shelf
def scP (r : Rg) (k : Nat) : List Rg := r :: List.replicate (k - 1) ⟨0, 1000000⟩
theorem scP_succ {r : Rg} {k : Nat} (h : 1 ≤ k) : scP r (k + 1) = scP r k ++ [⟨0, 1000000⟩] := by
  obtain ⟨j, rfl⟩ : ∃ j, k = j + 1 := ⟨k - 1, by omega⟩
  show r :: List.replicate (j + 1) _ = r :: (List.replicate j _ ++ _)
  rw [List.replicate_succ']
theorem scP_len {r : Rg} {k : Nat} (h : 1 ≤ k) : (scP r k).length = k := by unfold scP; rw [List.length_cons, List.length_replicate]; omega
theorem scP_flat (r q : Rg) (k : Nat) : (scR r q k).flatMap cR = (scP r k).flatMap cR ++ [.int .i64 q.lo, .int .i64 q.hi] := by
  show (scP r k ++ [q]).flatMap cR = _
  rw [List.flatMap_append]; rfl
theorem scP_flat_succ {r : Rg} {k : Nat} (h : 1 ≤ k) : (scP r (k + 1)).flatMap cR = (scP r k).flatMap cR ++ [.int .i64 0, .int .i64 1000000] := by
  rw [scP_succ h, List.flatMap_append]; rfl
theorem scP_flat_len {r : Rg} {k : Nat} (h : 1 ≤ k) : ((scP r k).flatMap cR).length = k * 2 := by rw [flat_len (s := 2) (fun _ => rfl), scP_len h]
theorem small_max {k : Nat} (h : k ≤ 100) : k + 1 ≤ maxLen := by unfold maxLen; omega
set_option maxRecDepth 100000 in
set_option maxHeartbeats 4000000 in
theorem reached_main (w : World) (A : Option Addr) (n c : Nat) (row : List Mt) (x1 x2 x3 a b : Int) (hr : MtS w w.heap.size A n row)
    (h0 : checkRow row = 0) (a0 : 0 ≤ x1 ∧ x1 ≤ 4294967295) (b0 : 0 ≤ x2 ∧ x2 ≤ 4294967295) (d0 : 0 ≤ x3 ∧ x3 ≤ 4294967295) (ha : min (x1 % 1000001) (x2 % 1000001) = a) (hbb : max (x1 % 1000001) (x2 % 1000001) = b) :
    Calls Try.prog 9 #[.slice A n c, .int .u32 x1, .int .u32 x2, .int .u32 x3] w fun e w' => e = .returned (.bool true) ∧ Below w.heap.size w w' := by
  obtain ⟨k4, k5, k6⟩ := checkRow_ok h0
  have hlen := hr.len
  have r0 : 0 ≤ a := by omega
  have r1 : a ≤ b := by omega
  have r2 : b ≤ 1000000 := by omega
  have okZ : Hid (okR ⟨a, b⟩ 1000000 = true) := hid (okR_t.2 ⟨r0, r1, r2⟩)
  have hzb := leftOf_bd k6 okZ.out
  have HPO := hid (fun (q : Rg) => scR_poss h0 (r := ⟨a, b⟩) (q := q) okZ.out)
  have HOK := hid (fun (q : Rg) (hq : okR q 1000000 = true) => scR_ok h0 (r := ⟨a, b⟩) (q := q) okZ.out hq)
  rw [hlen] at HPO HOK
  obtain ⟨Z, hZ⟩ : ∃ Z, leftOf row ⟨a, b⟩ = Z := ⟨_, rfl⟩
  rw [hZ] at hzb HPO
  have HZ := hid hZ
  obtain ⟨q0, q1, q2, _⟩ := hzb
  have HR := hid (fun V (h : Below w.heap.size w V) => hr.below h h.size)
  have hd := hid (decide_eq_true h0)
  have H0 := hid h0
  have n7 : n ≤ 7 := by omega
  have n1 : 1 ≤ n := by omega
  obtain ⟨i0, hi, hz0, hz1, hz2⟩ := info_parts info24
  clear hr h0 k4 k5 k6 hlen hZ
  go_enter Try.func9, Try.ntmps9
  have hbel : Below w.heap.size w w := Below.refl _ _
  have hsz := hbel.size
  go_wp2_with (fail)
  refine (fine_any _ _ n c row (HR.out _ ?_)).mono ?_
  · exact (by repeat' (first | with_reducible assumption | with_reducible exact Below.refl _ _ | refine Below.alloc ?_ ?_ _ | refine Below.setCell ?_ ?_ _ | refine Below.drew ?_ | refine below_drewN ?_ _ | (simp; done) | (simp; omega) | omega))
  rw [hd.out]
  rintro e V1 ⟨rfl, hb⟩
  have hst : Below w.heap.size w V1 := Below.trans (by repeat' (first | with_reducible assumption | with_reducible exact Below.refl _ _ | refine Below.alloc ?_ ?_ _ | refine Below.setCell ?_ ?_ _ | refine Below.drew ?_ | refine below_drewN ?_ _ | (simp; done) | (simp; omega) | omega)) (hb.mono (by first | (simp; done) | (simp; omega) | omega))
  replace hbel := hbel.trans (hst.mono hsz)
  replace hsz := hbel.size
  clear hb hst
  go_wp2_with (go_at_call 51; refine (chosen_any _ (by omega) (by omega) _).mono ?_; rintro e W1 ⟨rfl, rfl⟩)
  clear ha hbb a0 b0
  refine (to_any a b _).mono ?_
  rintro e V2 ⟨rfl, hb⟩
  have hst : Below V1.heap.size V1 V2 := Below.trans (by repeat' (first | with_reducible assumption | with_reducible exact Below.refl _ _ | refine Below.alloc ?_ ?_ _ | refine Below.setCell ?_ ?_ _ | refine Below.drew ?_ | refine below_drewN ?_ _ | (simp; done) | (simp; omega) | omega)) (hb.mono (by first | (simp; done) | (simp; omega) | omega))
  replace hbel := hbel.trans (hst.mono hsz)
  replace hsz := hbel.size
  clear hb hst
  go_wp2_with (fail)
  refine (left53_any _ _ n c row ⟨a, b⟩ (HR.out _ ?_) H0.out okZ.out).mono ?_
  · exact (by repeat' (first | with_reducible assumption | with_reducible exact Below.refl _ _ | refine Below.alloc ?_ ?_ _ | refine Below.setCell ?_ ?_ _ | refine Below.drew ?_ | refine below_drewN ?_ _ | (simp; done) | (simp; omega) | omega))
  rw [HZ.out]
  rintro e V3 ⟨rfl, hb⟩
  have hst : Below V2.heap.size V2 V3 := Below.trans (by repeat' (first | with_reducible assumption | with_reducible exact Below.refl _ _ | refine Below.alloc ?_ ?_ _ | refine Below.setCell ?_ ?_ _ | refine Below.drew ?_ | refine below_drewN ?_ _ | (simp; done) | (simp; omega) | omega)) (hb.mono (by first | (simp; done) | (simp; omega) | omega))
  replace hbel := hbel.trans (hst.mono hsz)
  replace hsz := hbel.size
  clear hb hst
  go_wp2_with (fail)
  obtain ⟨V4, hV⟩ : ∃ V : World, V = V3.alloc (.cells #[.int .i64 Z.lo, .int .i64 Z.hi] 24) := ⟨_, rfl⟩
  have hb : Below V3.heap.size V3 V4 := by rw [hV]; exact (Below.refl _ _).alloc (Nat.le_refl _) _
  have BZ : Hid (Blk V4 V3.heap.size 24 #[.int .i64 Z.lo, .int .i64 Z.hi]) := hid (by rw [hV]; exact Blk.new _ _ _)
  rw [← hV]
  clear hV
  have hst : Below V3.heap.size V3 V4 := Below.trans (by repeat' (first | with_reducible assumption | with_reducible exact Below.refl _ _ | refine Below.alloc ?_ ?_ _ | refine Below.setCell ?_ ?_ _ | refine Below.drew ?_ | refine below_drewN ?_ _ | (simp; done) | (simp; omega) | omega)) (hb.mono (by first | (simp; done) | (simp; omega) | omega))
  replace hbel := hbel.trans (hst.mono hsz)
  replace hsz := hbel.size
  clear hb hst
  have e1 := Int.emod_nonneg x3 (b := Z.hi - Z.lo + 1) (by omega)
  have e2 := Int.emod_lt_of_pos x3 (b := Z.hi - Z.lo + 1) (by omega)
  obtain ⟨x, hx⟩ : ∃ x, Z.lo + x3 % (Z.hi - Z.lo + 1) = x := ⟨_, rfl⟩
  have z1 : IntKind.i64.wrap (Z.hi - Z.lo) = Z.hi - Z.lo := IntWalk.i64_in _ (by omega)
  have z2 : IntKind.i64.wrap (Z.hi - Z.lo + 1) = Z.hi - Z.lo + 1 := IntWalk.i64_in _ (by omega)
  have z3 : ¬ (Z.hi - Z.lo + 1 = 0) := by omega
  have z4 : x3.tmod (Z.hi - Z.lo + 1) = x3 % (Z.hi - Z.lo + 1) := Int.tmod_eq_emod_of_nonneg d0.1
  have z5 : IntKind.i64.wrap (x3 % (Z.hi - Z.lo + 1)) = x3 % (Z.hi - Z.lo + 1) := IntWalk.i64_in _ (by omega)
  have z6 : IntKind.i64.wrap (Z.lo + x3 % (Z.hi - Z.lo + 1)) = x := by rw [← hx]; exact IntWalk.i64_in _ (by omega)
  have z7 : IntKind.i64.wrap x3 = x3 := IntWalk.i64_in _ (by omega)
  have x0 : Z.lo ≤ x := by omega
  have xh : x ≤ Z.hi := by omega
  clear hx e1 e2
  have BZ_c0 := BZ.out.cell 0
  have BZ_c1 := BZ.out.cell 1
  have BZ_l := BZ.out.lt
  refine wp_region_hd_all (fun W' => Below V4.heap.size V4 W') (by kernel_rfl) (by kernel_rfl) ((Below.refl _ _).drew) ?_
  iterate 13 (refine wpHd_val (v := ?_) (by rfl) (fun W hW => ?_) ?_; rotate_left; (· obtain ⟨hcW, hfW⟩ := bcell hW; go_simp; with_reducible rfl); simp only [Act.put, List.setIfInBounds_toArray, List.set_cons_zero, List.set_cons_succ])
  refine wpHd_nil ?_
  intro V5 hb
  clear BZ_c0 BZ_c1 BZ_l
  have hst : Below V4.heap.size V4 V5 := Below.trans (by repeat' (first | with_reducible assumption | with_reducible exact Below.refl _ _ | refine Below.alloc ?_ ?_ _ | refine Below.setCell ?_ ?_ _ | refine Below.drew ?_ | refine below_drewN ?_ _ | (simp; done) | (simp; omega) | omega)) (hb.mono (by first | (simp; done) | (simp; omega) | omega))
  replace hbel := hbel.trans (hst.mono hsz)
  replace hsz := hbel.size
  replace BZ := hid (BZ.out.below hst BZ.out.lt)
  clear hb hst z1 z2 z3 z4 z5 z6 z7
  go_wp2_with (fail)
  refine (to_any a b _).mono ?_
  rintro e V6 ⟨rfl, hb⟩
  have hst : Below V5.heap.size V5 V6 := Below.trans (by repeat' (first | with_reducible assumption | with_reducible exact Below.refl _ _ | refine Below.alloc ?_ ?_ _ | refine Below.setCell ?_ ?_ _ | refine Below.drew ?_ | refine below_drewN ?_ _ | (simp; done) | (simp; omega) | omega)) (hb.mono (by first | (simp; done) | (simp; omega) | omega))
  replace hbel := hbel.trans (hst.mono hsz)
  replace hsz := hbel.size
  replace BZ := hid (BZ.out.below hst BZ.out.lt)
  clear hb hst
  go_wp2_with (fail)
  refine (ranges_any _ _).mono ?_
  rintro e W1 ⟨rfl, rfl⟩
  have own0 : (V6.alloc (.cells #[.int .i64 a, .int .i64 b] 24)).ownsRow V6.heap.size 24 2 (.slice (some ⟨V6.heap.size, 0, none⟩) 1 1) 1 ((scP ⟨a, b⟩ 1).flatMap cR) := own_full V6 (Nat.le_refl _) (by unfold maxLen; omega) rfl rfl
  go_wp2_with (fail)
  go_loopw [15, 16] (fun v i wr => ∃ k : Nat, 1 ≤ k ∧ k ≤ n ∧ i = .int .i64 k ∧ wr.ownsRow V6.heap.size 24 2 v k ((scP ⟨a, b⟩ k).flatMap cR) ∧ Below V6.heap.size V6 wr) (fun _ i _ => n - (intOf i).toNat)
  case atStart => exact ⟨1, by omega, by omega, rfl, own0, (Below.refl _ _).alloc (Nat.le_refl _) _⟩
  case round =>
    clear own0
    obtain ⟨k, hk1, hk, rfl, hown, hb⟩ := hrel
    have hbV := hid hb
    have hst : Below V6.heap.size V6 wr := Below.trans (by repeat' (first | with_reducible assumption | with_reducible exact Below.refl _ _ | refine Below.alloc ?_ ?_ _ | refine Below.setCell ?_ ?_ _ | refine Below.drew ?_ | refine below_drewN ?_ _ | (simp; done) | (simp; omega) | omega)) (hb.mono (by first | (simp; done) | (simp; omega) | omega))
    replace hbel := hbel.trans (hst.mono hsz)
    replace hsz := hbel.size
    replace BZ := hid (BZ.out.below hst BZ.out.lt)
    clear hb hst
    have hown' := hid hown
    clear hown
    by_cases hlt : k < n
    · have hlti : (k : Int) < n := by omega
      go_wp2_with (fail)
      refine (all_any _).mono ?_
      rintro e V7 ⟨rfl, hb⟩
      have hbw := hid hb
      have hst : Below wr.heap.size wr V7 := Below.trans (by repeat' (first | with_reducible assumption | with_reducible exact Below.refl _ _ | refine Below.alloc ?_ ?_ _ | refine Below.setCell ?_ ?_ _ | refine Below.drew ?_ | refine below_drewN ?_ _ | (simp; done) | (simp; omega) | omega)) (hb.mono (by first | (simp; done) | (simp; omega) | omega))
      replace hbel := hbel.trans (hst.mono hsz)
      replace hsz := hbel.size
      replace BZ := hid (BZ.out.below hst BZ.out.lt)
      clear hb hst
      have own1 := owns_below hown'.out hbw.out
      go_wp2_with (at_builtin; refine wpList_append_own _ rfl (.tmp 66) (.tmp 68) 34 rfl V6.heap.size 24 i0 _ 2 16 under34 hi hz0 hz1 hz2 rfl (by decide) _ k _ rfl (own1.alloc (.cells #[.int .i64 0, .int .i64 1000000] 24)) ⟨V7.heap.size, 0, none⟩ 1 1 [.int .i64 0, .int .i64 1000000] rfl rfl (fun j u hj => two_cells hj (by simp)) (two_one _ _) (small_max (by omega)) (by omega) (by simp; have := hbV.out.size; have := hbw.out.size; omega) ?_)
      intro v6 w6 own6 gr6 _
      have hb6 : Below V6.heap.size V6 w6 := below_own (R := fun _ => True) ((hbV.out.trans (hbw.out.mono hbV.out.size)).alloc (by have := hbV.out.size; have := hbw.out.size; omega) (.cells #[.int .i64 0, .int .i64 1000000] 24)) (fun q hq => ⟨(own1.lt q hq).1, trivial⟩) gr6 (Nat.le_refl _)
      rw [← scP_flat_succ hk1] at own6
      clear own1 gr6
      go_wp2
      exact ⟨⟨k + 1, by omega, by omega, by go_num, own6, hb6⟩, by simp [intOf]; omega⟩
    · obtain rfl : k = n := by omega
      clear hlt hk
      obtain ⟨g, cap, rfl, hg1, hg2⟩ := own_form2 hown'.out (by omega)
      have hcap : 1 ≤ cap := by obtain ⟨A9, c9, e9, h9, _⟩ := rgs_of_own hown'.out; cases e9; omega
      have HSC := hid (show RgS wr wr.heap.size (some ⟨g, 0, none⟩) k (scP ⟨a, b⟩ k) from by obtain ⟨A9, c9, e9, _, h9⟩ := rgs_of_own hown'.out; cases e9; exact h9)
      have HPO' := HPO
      have hkn := HR.out
      clear hown' hkn HPO'
      have okX : Hid (okR ⟨x, x⟩ 1000000 = true) := hid (okR_t.2 ⟨by show (0 : Int) ≤ x; omega, Int.le_refl _, by show x ≤ (1000000 : Int); omega⟩)
      have pX : Hid (possB row (scR ⟨a, b⟩ ⟨x, x⟩ k) = true) := hid (by rw [HPO.out ⟨x, x⟩]; exact decide_eq_true (by show max x Z.lo ≤ min x Z.hi; omega))
      go_wp2_with (fail)
      refine (ranges_any _ _).mono ?_
      rintro e W1 ⟨rfl, rfl⟩
      go_wp2_with (at_builtin; refine wpList_append_own _ rfl (.tmp 72) (.tmp 73) 34 rfl wr.heap.size 24 i0 _ 2 16 under34 hi hz0 hz1 hz2 rfl (by decide) _ 0 [] rfl (World.ownsRow_nil _ _ _ _) ⟨g, 0, none⟩ k cap ((scP ⟨a, b⟩ k).flatMap cR) rfl (scP_flat_len hk1) (fun j u hj => by rw [add_at]; obtain ⟨b9, o9, e9, _, h9⟩ := HSC.out.2 (by omega); cases e9; exact h9 j u hj) (one_flat _) (by unfold maxLen; omega) (by omega) (Nat.le_refl _) ?_)
      intro v1 V27 own1 gr1 _
      try simp only [Nat.zero_add, List.nil_append] at own1
      have hb : Below wr.heap.size wr V27 := below_own (R := fun _ => True) (Below.refl _ _) (fun q hq => by simp [Value.ownBlock] at hq) gr1 (Nat.le_refl _)
      have hbX := hid hb
      clear hb gr1
      go_wp2_with (fail)
      refine (to_any x x _).mono ?_
      rintro e V28 ⟨rfl, hb⟩
      replace own1 := owns_below own1 hb
      replace hbX := hid (hbX.out.trans (hb.mono hbX.out.size))
      clear hb
      go_wp2_with (at_builtin; refine wpList_append_own _ rfl (.tmp 74) (.tmp 78) 34 rfl wr.heap.size 24 i0 _ 2 16 under34 hi hz0 hz1 hz2 rfl (by decide) _ k _ rfl (own1.alloc (.cells #[.int .i64 x, .int .i64 x] 24)) ⟨V28.heap.size, 0, none⟩ 1 1 [.int .i64 x, .int .i64 x] rfl rfl (fun j u hj => two_cells hj (by simp)) (two_one _ _) (small_max (by omega)) (by omega) (by simp; have := hbX.out.size; omega) ?_)
      intro v2 V29 own2 gr2 _
      have hb : Below wr.heap.size wr V29 := below_own (R := fun _ => True) (hbX.out.alloc hbX.out.size (.cells #[.int .i64 x, .int .i64 x] 24)) (fun q hq => ⟨(own1.lt q hq).1, trivial⟩) gr2 (Nat.le_refl _)
      have hst : Below wr.heap.size wr V29 := Below.trans (by repeat' (first | with_reducible assumption | with_reducible exact Below.refl _ _ | refine Below.alloc ?_ ?_ _ | refine Below.setCell ?_ ?_ _ | refine Below.drew ?_ | refine below_drewN ?_ _ | (simp; done) | (simp; omega) | omega)) (hb.mono (by first | (simp; done) | (simp; omega) | omega))
      replace hbel := hbel.trans (hst.mono hsz)
      replace hsz := hbel.size
      replace BZ := hid (BZ.out.below hst BZ.out.lt)
      replace HSC := hid (HSC.out.below hst hst.size)
      clear hb hst gr2 own1 hbX
      have own3 : V29.ownsRow wr.heap.size 24 2 v2 (k + 1) ((scR ⟨a, b⟩ ⟨x, x⟩ k).flatMap cR) := by rw [scP_flat]; exact own2
      obtain ⟨A5, c5, rfl, _, h5⟩ := rgs_of_own own3
      have H5 := hid h5
      clear own2 own3 h5
      go_wp2_with (fail)
      refine (possible_any _ _ A5 k c (k + 1) c5 row _ (HR.out _ ?_) (H5.out.below (Below.refl _ _) (Nat.le_refl _)) (HOK.out ⟨x, x⟩ okX.out)).mono ?_
      · exact (by repeat' (first | with_reducible assumption | with_reducible exact Below.refl _ _ | refine Below.alloc ?_ ?_ _ | refine Below.setCell ?_ ?_ _ | refine Below.drew ?_ | refine below_drewN ?_ _ | (simp; done) | (simp; omega) | omega))
      rw [pX.out]
      rintro e V30 ⟨rfl, hb⟩
      have hst : Below V29.heap.size V29 V30 := Below.trans (by repeat' (first | with_reducible assumption | with_reducible exact Below.refl _ _ | refine Below.alloc ?_ ?_ _ | refine Below.setCell ?_ ?_ _ | refine Below.drew ?_ | refine below_drewN ?_ _ | (simp; done) | (simp; omega) | omega)) (hb.mono (by first | (simp; done) | (simp; omega) | omega))
      replace hbel := hbel.trans (hst.mono hsz)
      replace hsz := hbel.size
      replace BZ := hid (BZ.out.below hst BZ.out.lt)
      replace HSC := hid (HSC.out.below hst hst.size)
      clear hb hst
      clear H5
      obtain ⟨mm, hmm⟩ : ∃ mm, min (Z.hi + 1) 1000000 = mm := ⟨_, rfl⟩
      have z1 : IntKind.i64.wrap (Z.hi + 1) = Z.hi + 1 := IntWalk.i64_in _ (by omega)
      have okM9 : Hid (okR ⟨mm, 1000000⟩ 1000000 = true) := hid (okR_t.2 ⟨by show (0 : Int) ≤ mm; omega, by show mm ≤ (1000000 : Int); omega, Int.le_refl _⟩)
      obtain ⟨pm, hpm⟩ : ∃ pm, possB row (scR ⟨a, b⟩ ⟨mm, 1000000⟩ k) = pm := ⟨_, rfl⟩
      have hpm2 : (Z.hi = 1000000) ∨ (pm = false) := by
        by_cases h : Z.hi = 1000000
        · exact .inl h
        · right
          rw [← hpm, HPO.out ⟨mm, 1000000⟩]
          exact decide_eq_false (by show ¬ max mm Z.lo ≤ min 1000000 Z.hi; omega)
      have HPM := hid hpm
      have HPM2 := hid hpm2
      clear hpm hpm2
      by_cases hz : 0 < Z.lo
      · have z2 : IntKind.i64.wrap (Z.lo - 1) = Z.lo - 1 := IntWalk.i64_in _ (by omega)
        have okL : Hid (okR ⟨0, Z.lo - 1⟩ 1000000 = true) := hid (okR_t.2 ⟨Int.le_refl _, by show (0 : Int) ≤ Z.lo - 1; omega, by show Z.lo - 1 ≤ (1000000 : Int); omega⟩)
        have pL : Hid (possB row (scR ⟨a, b⟩ ⟨0, Z.lo - 1⟩ k) = false) := hid (by rw [HPO.out ⟨0, Z.lo - 1⟩]; exact decide_eq_false (by show ¬ max 0 Z.lo ≤ min (Z.lo - 1) Z.hi; omega))
        have BZ_c0 := BZ.out.cell 0
        have BZ_c1 := BZ.out.cell 1
        have BZ_l := BZ.out.lt
        go_wp2_with (fail)
        refine wp_region_el [0, 1, 2, 4, 5, 6] 10 (by kernel_rfl) (by kernel_rfl) (fun V31 hX => ?_)
        have hb : Below V30.heap.size V30 V31 := by rw [hX]; exact (Below.refl _ _).drew
        clear hX
        clear BZ_c0 BZ_c1 BZ_l
        have hst : Below V30.heap.size V30 V31 := Below.trans (by repeat' (first | with_reducible assumption | with_reducible exact Below.refl _ _ | refine Below.alloc ?_ ?_ _ | refine Below.setCell ?_ ?_ _ | refine Below.drew ?_ | refine below_drewN ?_ _ | (simp; done) | (simp; omega) | omega)) (hb.mono (by first | (simp; done) | (simp; omega) | omega))
        replace hbel := hbel.trans (hst.mono hsz)
        replace hsz := hbel.size
        replace BZ := hid (BZ.out.below hst BZ.out.lt)
        replace HSC := hid (HSC.out.below hst hst.size)
        clear hb hst
        have BZ_c0 := BZ.out.cell 0
        have BZ_c1 := BZ.out.cell 1
        have BZ_l := BZ.out.lt
        simp only [pick, List.getElem?_toArray, List.getElem?_cons_zero, List.getElem?_cons_succ]
        (refine wpE_val (v := ?_) (by rfl) (fun W hW => ?_) ?_; rotate_left; (· obtain ⟨hcW, hfW⟩ := bcell hW; go_simp; with_reducible rfl); simp only [Act.put, List.setIfInBounds_toArray, List.set_cons_zero, List.set_cons_succ])
        (refine wpE_call (by rfl) (fun W hW => ranges_ext (.slice none 0 0) W) (fun W hW => ?_) ?_; (· obtain ⟨hcW, hfW⟩ := bcell hW; go_simp); simp only [Act.put, List.setIfInBounds_toArray, List.set_cons_zero, List.set_cons_succ])
        iterate 4 (refine wpE_val (v := ?_) (by rfl) (fun W hW => ?_) ?_; rotate_left; (· obtain ⟨hcW, hfW⟩ := bcell hW; go_simp; with_reducible rfl); simp only [Act.put, List.setIfInBounds_toArray, List.set_cons_zero, List.set_cons_succ])
        simp only [wpE]
        clear BZ_c0 BZ_c1 BZ_l
        (refine wpM_one 3 _ (by simp only [List.getElem?_toArray, List.getElem?_cons_zero, List.getElem?_cons_succ]; rfl) (by kernel_rfl) (by rfl) ?_)
        intro X1 hX1 hX1p
        refine lupon_append_own _ _ _ 34 rfl V31.heap.size 24 i0 _ 2 16 under34 hi hz0 hz1 hz2 rfl (by decide) _ 0 [] (by rfl) (World.ownsRow_nil _ _ _ _) ⟨g, 0, none⟩ k cap ((scP ⟨a, b⟩ k).flatMap cR) (by rfl) (scP_flat_len hk1) (fun j u hj => by rw [add_at]; obtain ⟨b9, o9, e9, _, h9⟩ := (HSC.out.below hX1p hX1p.size).2 (by omega); cases e9; exact h9 j u hj) (one_flat _) (by unfold maxLen; omega) (by omega) hX1p.size ?_
        intro v1 w1 own1 gr1
        have hx1 : Ext V31 w1 := below_own (R := fun _ => True) hX1p (fun q hq => by simp [Value.ownBlock] at hq) gr1 (Nat.le_refl _)
        refine ⟨hx1, ?_⟩
        simp only [Act.put, List.setIfInBounds_toArray, List.set_cons_zero, List.set_cons_succ]
        try simp only [Nat.zero_add, List.nil_append] at own1
        refine (wpM_early (by kernel_rfl) [7] 8 _ _ (by kernel_rfl) ?_ : wpM Try.prog .any _ _ _ 9 _ _ _)
        simp only [pick, List.getElem?_toArray, List.getElem?_cons_zero, List.getElem?_cons_succ]
        (refine wpE_call (by rfl) (fun W hW => to_any 0 (Z.lo - 1) W) (fun W hW => ?_) ?_; (· obtain ⟨hcW, hfW⟩ := bcell hW; go_simp); simp only [Act.put, List.setIfInBounds_toArray, List.set_cons_zero, List.set_cons_succ])
        simp only [wpE]
        (refine wpM_one 8 _ (by simp only [List.getElem?_toArray, List.getElem?_cons_zero, List.getElem?_cons_succ]; rfl) (by kernel_rfl) (by rfl) ?_)
        intro X2 hX2 hX2p
        (go_simp; simp only [LUpon, Act.put]; try simp only [List.setIfInBounds_toArray, List.set_cons_zero, List.set_cons_succ])
        refine ⟨hX2p.alloc hX2p.size _, ?_⟩
        (refine wpM_one 9 _ (by simp only [List.getElem?_toArray, List.getElem?_cons_zero, List.getElem?_cons_succ]; rfl) (by kernel_rfl) (by rfl) ?_)
        intro X3 hX3 hX3p
        have own3 := owns_below ((owns_below own1 hX2).alloc (.cells #[.int .i64 0, .int .i64 (Z.lo - 1)] 24)) hX3
        have bV := (Blk.new X2 24 #[.int .i64 0, .int .i64 (Z.lo - 1)]).below hX3 (by simp)
        refine lupon_append_own _ _ _ 34 rfl V31.heap.size 24 i0 _ 2 16 under34 hi hz0 hz1 hz2 rfl (by decide) _ k _ (by rfl) own3 ⟨X2.heap.size, 0, none⟩ 1 1 [.int .i64 0, .int .i64 (Z.lo - 1)] (by rfl) rfl (fun j u hj => by rw [add_at, Nat.zero_add]; exact (bV.cell j).trans (by simpa using hj)) (two_one _ _) (small_max (by omega)) (by omega) hX3p.size ?_
        intro v2 w2 own2 gr2
        have hx2 : Ext V31 w2 := below_own (R := fun _ => True) hX3p (fun q hq => ⟨(own3.lt q hq).1, trivial⟩) gr2 (Nat.le_refl _)
        refine ⟨hx2, ?_⟩
        simp only [Act.put, List.setIfInBounds_toArray, List.set_cons_zero, List.set_cons_succ]
        have own4 : w2.ownsRow V31.heap.size 24 2 v2 (k + 1) ((scR ⟨a, b⟩ ⟨0, (Z.lo - 1)⟩ k).flatMap cR) := by rw [scP_flat]; exact own2
        obtain ⟨A5, c5, rfl, _, h5⟩ := rgs_of_own own4
        have H5 := hid h5
        clear own1 own2 own3 own4 h5 gr1 gr2 bV hX1 hX1p hX2 hX2p hX3 hX3p hx1
        (refine wpM_one 10 _ (by simp only [List.getElem?_toArray, List.getElem?_cons_zero, List.getElem?_cons_succ]; rfl) (by kernel_rfl) (by rfl) ?_)
        intro X4 hX4 hX4p
        (go_simp; simp only [LUpon, Act.put]; try simp only [List.setIfInBounds_toArray, List.set_cons_zero, List.set_cons_succ])
        refine (possible_any _ _ A5 k c (k + 1) c5 row _ (HR.out _ (hbel.trans (hX4p.mono hsz))) (H5.out.below hX4 hX4.size) (HOK.out ⟨0, (Z.lo - 1)⟩ okL.out)).mono ?_
        rw [pL.out]
        rintro e X5 ⟨rfl, hb5⟩
        refine ⟨_, rfl, hX4p.trans' hb5, ?_⟩
        try simp only [Act.put, List.setIfInBounds_toArray, List.set_cons_zero, List.set_cons_succ]
        refine (wpM_early (by kernel_rfl) [11, 12, 13, 14, 15] 0 _ _ (by kernel_rfl) ?_ : wpM Try.prog .any _ _ _ 5 _ _ _)
        simp only [pick, List.getElem?_toArray, List.getElem?_cons_zero, List.getElem?_cons_succ]
        iterate 5 (refine wpE_val (v := ?_) (by rfl) (fun W hW => ?_) ?_; rotate_left; (· obtain ⟨hcW, hfW⟩ := bcell hW; go_simp; with_reducible rfl); simp only [Act.put, List.setIfInBounds_toArray, List.set_cons_zero, List.set_cons_succ])
        simp only [wpE]
        refine wpM_end (by kernel_rfl) ?_
        intro V32 hX6 hb
        clear hX4 hX4p hX6 hb5 hx2 H5
        have hst : Below V31.heap.size V31 V32 := Below.trans (by repeat' (first | with_reducible assumption | with_reducible exact Below.refl _ _ | refine Below.alloc ?_ ?_ _ | refine Below.setCell ?_ ?_ _ | refine Below.drew ?_ | refine below_drewN ?_ _ | (simp; done) | (simp; omega) | omega)) (hb.mono (by first | (simp; done) | (simp; omega) | omega))
        replace hbel := hbel.trans (hst.mono hsz)
        replace hsz := hbel.size
        replace BZ := hid (BZ.out.below hst BZ.out.lt)
        replace HSC := hid (HSC.out.below hst hst.size)
        clear hb hst
        have hmm2 := hmm
        have BZ_c0 := BZ.out.cell 0
        have BZ_c1 := BZ.out.cell 1
        have BZ_l := BZ.out.lt
        go_wp2_with (fail)
        refine wp_region_el [0, 1, 2, 4, 5, 6, 7] 10 (by kernel_rfl) (by kernel_rfl) (fun V33 hX => ?_)
        have hb : Below V32.heap.size V32 V33 := by rw [hX]; exact (Below.refl _ _).drew
        clear hX
        clear BZ_c0 BZ_c1 BZ_l
        have hst : Below V32.heap.size V32 V33 := Below.trans (by repeat' (first | with_reducible assumption | with_reducible exact Below.refl _ _ | refine Below.alloc ?_ ?_ _ | refine Below.setCell ?_ ?_ _ | refine Below.drew ?_ | refine below_drewN ?_ _ | (simp; done) | (simp; omega) | omega)) (hb.mono (by first | (simp; done) | (simp; omega) | omega))
        replace hbel := hbel.trans (hst.mono hsz)
        replace hsz := hbel.size
        replace BZ := hid (BZ.out.below hst BZ.out.lt)
        replace HSC := hid (HSC.out.below hst hst.size)
        clear hb hst
        have BZ_c0 := BZ.out.cell 0
        have BZ_c1 := BZ.out.cell 1
        have BZ_l := BZ.out.lt
        simp only [pick, List.getElem?_toArray, List.getElem?_cons_zero, List.getElem?_cons_succ]
        (refine wpE_val (v := ?_) (by rfl) (fun W hW => ?_) ?_; rotate_left; (· obtain ⟨hcW, hfW⟩ := bcell hW; go_simp; with_reducible rfl); simp only [Act.put, List.setIfInBounds_toArray, List.set_cons_zero, List.set_cons_succ])
        (refine wpE_call (by rfl) (fun W hW => ranges_ext (.slice none 0 0) W) (fun W hW => ?_) ?_; (· obtain ⟨hcW, hfW⟩ := bcell hW; go_simp); simp only [Act.put, List.setIfInBounds_toArray, List.set_cons_zero, List.set_cons_succ])
        iterate 5 (refine wpE_val (v := ?_) (by rfl) (fun W hW => ?_) ?_; rotate_left; (· obtain ⟨hcW, hfW⟩ := bcell hW; go_simp; with_reducible rfl); simp only [Act.put, List.setIfInBounds_toArray, List.set_cons_zero, List.set_cons_succ])
        simp only [wpE]
        clear BZ_c0 BZ_c1 BZ_l
        (refine wpM_one 3 _ (by simp only [List.getElem?_toArray, List.getElem?_cons_zero, List.getElem?_cons_succ]; rfl) (by kernel_rfl) (by rfl) ?_)
        intro X1 hX1 hX1p
        refine lupon_append_own _ _ _ 34 rfl V33.heap.size 24 i0 _ 2 16 under34 hi hz0 hz1 hz2 rfl (by decide) _ 0 [] (by rfl) (World.ownsRow_nil _ _ _ _) ⟨g, 0, none⟩ k cap ((scP ⟨a, b⟩ k).flatMap cR) (by rfl) (scP_flat_len hk1) (fun j u hj => by rw [add_at]; obtain ⟨b9, o9, e9, _, h9⟩ := (HSC.out.below hX1p hX1p.size).2 (by omega); cases e9; exact h9 j u hj) (one_flat _) (by unfold maxLen; omega) (by omega) hX1p.size ?_
        intro v1 w1 own1 gr1
        have hx1 : Ext V33 w1 := below_own (R := fun _ => True) hX1p (fun q hq => by simp [Value.ownBlock] at hq) gr1 (Nat.le_refl _)
        refine ⟨hx1, ?_⟩
        simp only [Act.put, List.setIfInBounds_toArray, List.set_cons_zero, List.set_cons_succ]
        try simp only [Nat.zero_add, List.nil_append] at own1
        refine (wpM_early (by kernel_rfl) [8] 8 _ _ (by kernel_rfl) ?_ : wpM Try.prog .any _ _ _ 9 _ _ _)
        simp only [pick, List.getElem?_toArray, List.getElem?_cons_zero, List.getElem?_cons_succ]
        (refine wpE_call (by rfl) (fun W hW => to_any mm 1000000 W) (fun W hW => ?_) ?_; (· obtain ⟨hcW, hfW⟩ := bcell hW; go_simp); simp only [Act.put, List.setIfInBounds_toArray, List.set_cons_zero, List.set_cons_succ])
        simp only [wpE]
        (refine wpM_one 9 _ (by simp only [List.getElem?_toArray, List.getElem?_cons_zero, List.getElem?_cons_succ]; rfl) (by kernel_rfl) (by rfl) ?_)
        intro X2 hX2 hX2p
        (go_simp; simp only [LUpon, Act.put]; try simp only [List.setIfInBounds_toArray, List.set_cons_zero, List.set_cons_succ])
        refine ⟨hX2p.alloc hX2p.size _, ?_⟩
        (refine wpM_one 10 _ (by simp only [List.getElem?_toArray, List.getElem?_cons_zero, List.getElem?_cons_succ]; rfl) (by kernel_rfl) (by rfl) ?_)
        intro X3 hX3 hX3p
        have own3 := owns_below ((owns_below own1 hX2).alloc (.cells #[.int .i64 mm, .int .i64 1000000] 24)) hX3
        have bV := (Blk.new X2 24 #[.int .i64 mm, .int .i64 1000000]).below hX3 (by simp)
        refine lupon_append_own _ _ _ 34 rfl V33.heap.size 24 i0 _ 2 16 under34 hi hz0 hz1 hz2 rfl (by decide) _ k _ (by rfl) own3 ⟨X2.heap.size, 0, none⟩ 1 1 [.int .i64 mm, .int .i64 1000000] (by rfl) rfl (fun j u hj => by rw [add_at, Nat.zero_add]; exact (bV.cell j).trans (by simpa using hj)) (two_one _ _) (small_max (by omega)) (by omega) hX3p.size ?_
        intro v2 w2 own2 gr2
        have hx2 : Ext V33 w2 := below_own (R := fun _ => True) hX3p (fun q hq => ⟨(own3.lt q hq).1, trivial⟩) gr2 (Nat.le_refl _)
        refine ⟨hx2, ?_⟩
        simp only [Act.put, List.setIfInBounds_toArray, List.set_cons_zero, List.set_cons_succ]
        have own4 : w2.ownsRow V33.heap.size 24 2 v2 (k + 1) ((scR ⟨a, b⟩ ⟨mm, 1000000⟩ k).flatMap cR) := by rw [scP_flat]; exact own2
        obtain ⟨A5, c5, rfl, _, h5⟩ := rgs_of_own own4
        have H5 := hid h5
        clear own1 own2 own3 own4 h5 gr1 gr2 bV hX1 hX1p hX2 hX2p hX3 hX3p hx1
        (refine wpM_one 11 _ (by simp only [List.getElem?_toArray, List.getElem?_cons_zero, List.getElem?_cons_succ]; rfl) (by kernel_rfl) (by rfl) ?_)
        intro X4 hX4 hX4p
        (go_simp; simp only [LUpon, Act.put]; try simp only [List.setIfInBounds_toArray, List.set_cons_zero, List.set_cons_succ])
        refine (possible_any _ _ A5 k c (k + 1) c5 row _ (HR.out _ (hbel.trans (hX4p.mono hsz))) (H5.out.below hX4 hX4.size) (HOK.out ⟨mm, 1000000⟩ okM9.out)).mono ?_
        rw [HPM.out]
        rintro e X5 ⟨rfl, hb5⟩
        refine ⟨_, rfl, hX4p.trans' hb5, ?_⟩
        try simp only [Act.put, List.setIfInBounds_toArray, List.set_cons_zero, List.set_cons_succ]
        refine (wpM_early (by kernel_rfl) [12, 13, 14, 15, 16] 0 _ _ (by kernel_rfl) ?_ : wpM Try.prog .any _ _ _ 5 _ _ _)
        simp only [pick, List.getElem?_toArray, List.getElem?_cons_zero, List.getElem?_cons_succ]
        iterate 5 (refine wpE_val (v := ?_) (by rfl) (fun W hW => ?_) ?_; rotate_left; (· obtain ⟨hcW, hfW⟩ := bcell hW; go_simp; with_reducible rfl); simp only [Act.put, List.setIfInBounds_toArray, List.set_cons_zero, List.set_cons_succ])
        simp only [wpE]
        refine wpM_end (by kernel_rfl) ?_
        intro V34 hX6 hb
        clear hX4 hX4p hX6 hb5 hx2 H5
        have hst : Below V33.heap.size V33 V34 := Below.trans (by repeat' (first | with_reducible assumption | with_reducible exact Below.refl _ _ | refine Below.alloc ?_ ?_ _ | refine Below.setCell ?_ ?_ _ | refine Below.drew ?_ | refine below_drewN ?_ _ | (simp; done) | (simp; omega) | omega)) (hb.mono (by first | (simp; done) | (simp; omega) | omega))
        replace hbel := hbel.trans (hst.mono hsz)
        replace hsz := hbel.size
        replace BZ := hid (BZ.out.below hst BZ.out.lt)
        replace HSC := hid (HSC.out.below hst hst.size)
        clear hb hst
        rcases HPM2.out with hq | rfl
        · cases pm
          all_goals
            have hq2 : (Z.hi == 1000000) = true := by simp [hq]
            have BZ_c0 := BZ.out.cell 0
            have BZ_c1 := BZ.out.cell 1
            have BZ_l := BZ.out.lt
            go_wp2_with (fail)
            refine (works_any _).mono ?_
            rintro e V35 ⟨rfl, hb⟩
            have hst : Below V34.heap.size V34 V35 := Below.trans (by repeat' (first | with_reducible assumption | with_reducible exact Below.refl _ _ | refine Below.alloc ?_ ?_ _ | refine Below.setCell ?_ ?_ _ | refine Below.drew ?_ | refine below_drewN ?_ _ | (simp; done) | (simp; omega) | omega)) (hb.mono (by first | (simp; done) | (simp; omega) | omega))
            replace hbel := hbel.trans (hst.mono hsz)
            replace hsz := hbel.size
            replace BZ := hid (BZ.out.below hst BZ.out.lt)
            replace HSC := hid (HSC.out.below hst hst.size)
            clear hb hst
            go_wp2
            go_ret
            exact ⟨rfl, hbel⟩
        · clear HPM2
          have BZ_c0 := BZ.out.cell 0
          have BZ_c1 := BZ.out.cell 1
          have BZ_l := BZ.out.lt
          go_wp2_with (fail)
          refine (works_any _).mono ?_
          rintro e V35 ⟨rfl, hb⟩
          have hst : Below V34.heap.size V34 V35 := Below.trans (by repeat' (first | with_reducible assumption | with_reducible exact Below.refl _ _ | refine Below.alloc ?_ ?_ _ | refine Below.setCell ?_ ?_ _ | refine Below.drew ?_ | refine below_drewN ?_ _ | (simp; done) | (simp; omega) | omega)) (hb.mono (by first | (simp; done) | (simp; omega) | omega))
          replace hbel := hbel.trans (hst.mono hsz)
          replace hsz := hbel.size
          replace BZ := hid (BZ.out.below hst BZ.out.lt)
          replace HSC := hid (HSC.out.below hst hst.size)
          clear hb hst
          go_wp2
          go_ret
          exact ⟨rfl, hbel⟩
      · skip
        have hmm2 := hmm
        have BZ_c0 := BZ.out.cell 0
        have BZ_c1 := BZ.out.cell 1
        have BZ_l := BZ.out.lt
        go_wp2_with (fail)
        refine wp_region_el [0, 1, 2, 4, 5, 6, 7] 10 (by kernel_rfl) (by kernel_rfl) (fun V61 hX => ?_)
        have hb : Below V30.heap.size V30 V61 := by rw [hX]; exact (Below.refl _ _).drew
        clear hX
        clear BZ_c0 BZ_c1 BZ_l
        have hst : Below V30.heap.size V30 V61 := Below.trans (by repeat' (first | with_reducible assumption | with_reducible exact Below.refl _ _ | refine Below.alloc ?_ ?_ _ | refine Below.setCell ?_ ?_ _ | refine Below.drew ?_ | refine below_drewN ?_ _ | (simp; done) | (simp; omega) | omega)) (hb.mono (by first | (simp; done) | (simp; omega) | omega))
        replace hbel := hbel.trans (hst.mono hsz)
        replace hsz := hbel.size
        replace BZ := hid (BZ.out.below hst BZ.out.lt)
        replace HSC := hid (HSC.out.below hst hst.size)
        clear hb hst
        have BZ_c0 := BZ.out.cell 0
        have BZ_c1 := BZ.out.cell 1
        have BZ_l := BZ.out.lt
        simp only [pick, List.getElem?_toArray, List.getElem?_cons_zero, List.getElem?_cons_succ]
        (refine wpE_val (v := ?_) (by rfl) (fun W hW => ?_) ?_; rotate_left; (· obtain ⟨hcW, hfW⟩ := bcell hW; go_simp; with_reducible rfl); simp only [Act.put, List.setIfInBounds_toArray, List.set_cons_zero, List.set_cons_succ])
        (refine wpE_call (by rfl) (fun W hW => ranges_ext (.slice none 0 0) W) (fun W hW => ?_) ?_; (· obtain ⟨hcW, hfW⟩ := bcell hW; go_simp); simp only [Act.put, List.setIfInBounds_toArray, List.set_cons_zero, List.set_cons_succ])
        iterate 5 (refine wpE_val (v := ?_) (by rfl) (fun W hW => ?_) ?_; rotate_left; (· obtain ⟨hcW, hfW⟩ := bcell hW; go_simp; with_reducible rfl); simp only [Act.put, List.setIfInBounds_toArray, List.set_cons_zero, List.set_cons_succ])
        simp only [wpE]
        clear BZ_c0 BZ_c1 BZ_l
        (refine wpM_one 3 _ (by simp only [List.getElem?_toArray, List.getElem?_cons_zero, List.getElem?_cons_succ]; rfl) (by kernel_rfl) (by rfl) ?_)
        intro X1 hX1 hX1p
        refine lupon_append_own _ _ _ 34 rfl V61.heap.size 24 i0 _ 2 16 under34 hi hz0 hz1 hz2 rfl (by decide) _ 0 [] (by rfl) (World.ownsRow_nil _ _ _ _) ⟨g, 0, none⟩ k cap ((scP ⟨a, b⟩ k).flatMap cR) (by rfl) (scP_flat_len hk1) (fun j u hj => by rw [add_at]; obtain ⟨b9, o9, e9, _, h9⟩ := (HSC.out.below hX1p hX1p.size).2 (by omega); cases e9; exact h9 j u hj) (one_flat _) (by unfold maxLen; omega) (by omega) hX1p.size ?_
        intro v1 w1 own1 gr1
        have hx1 : Ext V61 w1 := below_own (R := fun _ => True) hX1p (fun q hq => by simp [Value.ownBlock] at hq) gr1 (Nat.le_refl _)
        refine ⟨hx1, ?_⟩
        simp only [Act.put, List.setIfInBounds_toArray, List.set_cons_zero, List.set_cons_succ]
        try simp only [Nat.zero_add, List.nil_append] at own1
        refine (wpM_early (by kernel_rfl) [8] 8 _ _ (by kernel_rfl) ?_ : wpM Try.prog .any _ _ _ 9 _ _ _)
        simp only [pick, List.getElem?_toArray, List.getElem?_cons_zero, List.getElem?_cons_succ]
        (refine wpE_call (by rfl) (fun W hW => to_any mm 1000000 W) (fun W hW => ?_) ?_; (· obtain ⟨hcW, hfW⟩ := bcell hW; go_simp); simp only [Act.put, List.setIfInBounds_toArray, List.set_cons_zero, List.set_cons_succ])
        simp only [wpE]
        (refine wpM_one 9 _ (by simp only [List.getElem?_toArray, List.getElem?_cons_zero, List.getElem?_cons_succ]; rfl) (by kernel_rfl) (by rfl) ?_)
        intro X2 hX2 hX2p
        (go_simp; simp only [LUpon, Act.put]; try simp only [List.setIfInBounds_toArray, List.set_cons_zero, List.set_cons_succ])
        refine ⟨hX2p.alloc hX2p.size _, ?_⟩
        (refine wpM_one 10 _ (by simp only [List.getElem?_toArray, List.getElem?_cons_zero, List.getElem?_cons_succ]; rfl) (by kernel_rfl) (by rfl) ?_)
        intro X3 hX3 hX3p
        have own3 := owns_below ((owns_below own1 hX2).alloc (.cells #[.int .i64 mm, .int .i64 1000000] 24)) hX3
        have bV := (Blk.new X2 24 #[.int .i64 mm, .int .i64 1000000]).below hX3 (by simp)
        refine lupon_append_own _ _ _ 34 rfl V61.heap.size 24 i0 _ 2 16 under34 hi hz0 hz1 hz2 rfl (by decide) _ k _ (by rfl) own3 ⟨X2.heap.size, 0, none⟩ 1 1 [.int .i64 mm, .int .i64 1000000] (by rfl) rfl (fun j u hj => by rw [add_at, Nat.zero_add]; exact (bV.cell j).trans (by simpa using hj)) (two_one _ _) (small_max (by omega)) (by omega) hX3p.size ?_
        intro v2 w2 own2 gr2
        have hx2 : Ext V61 w2 := below_own (R := fun _ => True) hX3p (fun q hq => ⟨(own3.lt q hq).1, trivial⟩) gr2 (Nat.le_refl _)
        refine ⟨hx2, ?_⟩
        simp only [Act.put, List.setIfInBounds_toArray, List.set_cons_zero, List.set_cons_succ]
        have own4 : w2.ownsRow V61.heap.size 24 2 v2 (k + 1) ((scR ⟨a, b⟩ ⟨mm, 1000000⟩ k).flatMap cR) := by rw [scP_flat]; exact own2
        obtain ⟨A5, c5, rfl, _, h5⟩ := rgs_of_own own4
        have H5 := hid h5
        clear own1 own2 own3 own4 h5 gr1 gr2 bV hX1 hX1p hX2 hX2p hX3 hX3p hx1
        (refine wpM_one 11 _ (by simp only [List.getElem?_toArray, List.getElem?_cons_zero, List.getElem?_cons_succ]; rfl) (by kernel_rfl) (by rfl) ?_)
        intro X4 hX4 hX4p
        (go_simp; simp only [LUpon, Act.put]; try simp only [List.setIfInBounds_toArray, List.set_cons_zero, List.set_cons_succ])
        refine (possible_any _ _ A5 k c (k + 1) c5 row _ (HR.out _ (hbel.trans (hX4p.mono hsz))) (H5.out.below hX4 hX4.size) (HOK.out ⟨mm, 1000000⟩ okM9.out)).mono ?_
        rw [HPM.out]
        rintro e X5 ⟨rfl, hb5⟩
        refine ⟨_, rfl, hX4p.trans' hb5, ?_⟩
        try simp only [Act.put, List.setIfInBounds_toArray, List.set_cons_zero, List.set_cons_succ]
        refine (wpM_early (by kernel_rfl) [12, 13, 14, 15, 16] 0 _ _ (by kernel_rfl) ?_ : wpM Try.prog .any _ _ _ 5 _ _ _)
        simp only [pick, List.getElem?_toArray, List.getElem?_cons_zero, List.getElem?_cons_succ]
        iterate 5 (refine wpE_val (v := ?_) (by rfl) (fun W hW => ?_) ?_; rotate_left; (· obtain ⟨hcW, hfW⟩ := bcell hW; go_simp; with_reducible rfl); simp only [Act.put, List.setIfInBounds_toArray, List.set_cons_zero, List.set_cons_succ])
        simp only [wpE]
        refine wpM_end (by kernel_rfl) ?_
        intro V62 hX6 hb
        clear hX4 hX4p hX6 hb5 hx2 H5
        have hst : Below V61.heap.size V61 V62 := Below.trans (by repeat' (first | with_reducible assumption | with_reducible exact Below.refl _ _ | refine Below.alloc ?_ ?_ _ | refine Below.setCell ?_ ?_ _ | refine Below.drew ?_ | refine below_drewN ?_ _ | (simp; done) | (simp; omega) | omega)) (hb.mono (by first | (simp; done) | (simp; omega) | omega))
        replace hbel := hbel.trans (hst.mono hsz)
        replace hsz := hbel.size
        replace BZ := hid (BZ.out.below hst BZ.out.lt)
        replace HSC := hid (HSC.out.below hst hst.size)
        clear hb hst
        rcases HPM2.out with hq | rfl
        · cases pm
          all_goals
            have hq2 : (Z.hi == 1000000) = true := by simp [hq]
            have BZ_c0 := BZ.out.cell 0
            have BZ_c1 := BZ.out.cell 1
            have BZ_l := BZ.out.lt
            go_wp2_with (fail)
            refine (works_any _).mono ?_
            rintro e V63 ⟨rfl, hb⟩
            have hst : Below V62.heap.size V62 V63 := Below.trans (by repeat' (first | with_reducible assumption | with_reducible exact Below.refl _ _ | refine Below.alloc ?_ ?_ _ | refine Below.setCell ?_ ?_ _ | refine Below.drew ?_ | refine below_drewN ?_ _ | (simp; done) | (simp; omega) | omega)) (hb.mono (by first | (simp; done) | (simp; omega) | omega))
            replace hbel := hbel.trans (hst.mono hsz)
            replace hsz := hbel.size
            replace BZ := hid (BZ.out.below hst BZ.out.lt)
            replace HSC := hid (HSC.out.below hst hst.size)
            clear hb hst
            go_wp2
            go_ret
            exact ⟨rfl, hbel⟩
        · clear HPM2
          have BZ_c0 := BZ.out.cell 0
          have BZ_c1 := BZ.out.cell 1
          have BZ_l := BZ.out.lt
          go_wp2_with (fail)
          refine (works_any _).mono ?_
          rintro e V63 ⟨rfl, hb⟩
          have hst : Below V62.heap.size V62 V63 := Below.trans (by repeat' (first | with_reducible assumption | with_reducible exact Below.refl _ _ | refine Below.alloc ?_ ?_ _ | refine Below.setCell ?_ ?_ _ | refine Below.drew ?_ | refine below_drewN ?_ _ | (simp; done) | (simp; omega) | omega)) (hb.mono (by first | (simp; done) | (simp; omega) | omega))
          replace hbel := hbel.trans (hst.mono hsz)
          replace hsz := hbel.size
          replace BZ := hid (BZ.out.below hst BZ.out.lt)
          replace HSC := hid (HSC.out.below hst hst.size)
          clear hb hst
          go_wp2
          go_ret
          exact ⟨rfl, hbel⟩
set_option maxRecDepth 100000 in
set_option maxHeartbeats 4000000 in
theorem reached_walk (w : World) (A : Option Addr) (n c : Nat) (row : List Mt) (x1 x2 x3 : Int) (hr : MtS w w.heap.size A n row) (a0 : 0 ≤ x1 ∧ x1 ≤ 4294967295) (b0 : 0 ≤ x2 ∧ x2 ≤ 4294967295) (d0 : 0 ≤ x3 ∧ x3 ≤ 4294967295) :
    Calls Try.prog 9 #[.slice A n c, .int .u32 x1, .int .u32 x2, .int .u32 x3] w fun e w' => e = .returned (.bool true) ∧ Below w.heap.size w w' := by
  by_cases h0 : checkRow row = 0
  · exact reached_main w A n c row x1 x2 x3 _ _ hr h0 a0 b0 d0 rfl rfl
  · have hd := hid (decide_eq_false h0)
    have HR := hid (fun V (h : Below w.heap.size w V) => hr.below h h.size)
    clear hr h0
    go_enter Try.func9, Try.ntmps9
    go_wp2_with (first | (go_at_call 52; refine (fine_any _ A n c row (HR.out _ ?_)).mono ?_; (· exact (by repeat' (first | with_reducible assumption | with_reducible exact Below.refl _ _ | refine Below.alloc ?_ ?_ _ | refine Below.setCell ?_ ?_ _ | refine Below.drew ?_ | refine below_drewN ?_ _ | (simp; done) | (simp; omega) | omega))); rw [hd.out]; rintro e W1 ⟨rfl, hb⟩; have hbel : Below w.heap.size w W1 := Below.trans (by repeat' (first | with_reducible assumption | with_reducible exact Below.refl _ _ | refine Below.alloc ?_ ?_ _ | refine Below.setCell ?_ ?_ _ | refine Below.drew ?_ | refine below_drewN ?_ _ | (simp; done) | (simp; omega) | omega)) (hb.mono (by first | (simp; done) | (simp; omega) | omega))) | (go_at_call 19; refine (works_any _).mono ?_; rintro e W2 ⟨rfl, hb2⟩))
    go_ret
    exact ⟨rfl, Below.trans (by repeat' (first | with_reducible assumption | with_reducible exact Below.refl _ _ | refine Below.alloc ?_ ?_ _ | refine Below.setCell ?_ ?_ _ | refine Below.drew ?_ | refine below_drewN ?_ _ | (simp; done) | (simp; omega) | omega)) (hb2.mono hbel.size)⟩

section
open Go.ChangeShapes Go.WideShapes Go.ChangeAt Go.RowKit
set_option maxRecDepth 100000 in
theorem drossReached_lifted (os : Os) (started : os.Started) (H : Type) (enc : TypeId × Value → H) :
    ReturnsInHanded {} Try.checked os 9 .any (Rows.drossReachedSpec.pre6 enc Try.prog Try.f9 Rows.drossReachedRow.domain false) (Rows.drossReachedSpec.post enc Try.prog Try.f9 false true false false) := by
  refine returnsInHanded_of_change (C := Try.checked) ownKx started (by kernel_rfl) Try.func9
    (ChangeSpec.witness6 (enc := enc) (C := Try.checked) false ⟨#[], #[.slice none 0 0, .int .u32 0, .int .u32 0, .int .u32 0], []⟩ 8 (by kernel_rfl) (by kernel_rfl) (by kernel_rfl) (by kernel_rfl)) ?_
  intro W base args ds gs before hval0 hW hcnd _
  have hval : ∀ (j : Nat) t v, Try.f9.params[j]? = some t → args[j]? = some v → Value.okWide Try.prog W .any base t v := hval0
  have hW' := hW
  obtain ⟨p, q, hA0, hV, rfl, hfz, hnd⟩ := hW
  have hA : DataW.TrodAll enc Try.prog W 0 (fun _ => true) true Try.f9.params.toList args.toList ds p := hA0
  have hlt : ∀ x ∈ p, x.block < W.heap.size := fun x hx => hW'.lt x (List.mem_append_left _ hx)
  have hAll : ∀ W', Below W.heap.size W W' → DataW.TrodAll enc Try.prog W' 0 (fun b => decide (b < W.heap.size)) true Try.f9.params.toList args.toList ds p := fun W' hb => all_below laidOut hb (readable_of (by kernel_rfl)) hlt hA
  rw [Try.params9] at hA hval
  obtain ⟨v0, v1, v2, v3, d0, d1, d2, d3, p0, p1, p2, p3, rfl, rfl, rfl, h0, h1, h2, h3⟩ := trodAll_four hA
  obtain ⟨rfl, rfl⟩ := trodVars_none hV
  clear hA0 hval0
  obtain ⟨A0, n0, c0, rfl⟩ := okWide_slice Try.underlying22 (hval 0 22 v0 rfl rfl)
  obtain ⟨hc0, l0, hl0, hr0⟩ := open_mts h0
  obtain ⟨x1, rfl, rfl, rfl, wx1⟩ := open_int Try.underlying55 (hval 1 55 v1 rfl rfl) h1
  obtain ⟨x2, rfl, rfl, rfl, wx2⟩ := open_int Try.underlying55 (hval 2 55 v2 rfl rfl) h2
  obtain ⟨x3, rfl, rfl, rfl, wx3⟩ := open_int Try.underlying55 (hval 3 55 v3 rfl rfl) h3
  refine (reached_walk W A0 n0 c0 l0 x1 x2 x3 hr0 (u32_bdx wx1) (u32_bdx wx2) (u32_bdx wx3)).mono fun e W' ⟨he, hb⟩ => ?_
  subst he
  exact ⟨_, rfl, ⟨_, _, _, [], _, [], hW', trodAll_cons_mk (shut_bool Try.underlying4 _) trodAll_mk0, hAll W' hb, rfl, hb.frame _, fun h => by cases h⟩⟩
/-- The law: whatever the input, it returns true, and the input reads as it did. -/
theorem drossReached_holds : Rows.DrossReachedSaid :=
  OpenClaim.holds_of_wide 9 Try.f9 rfl rfl rfl rfl rfl rfl rfl ⟨rfl, rfl, rfl, rfl, rfl⟩ rfl rfl rfl rfl rfl (by kernel_rfl) Try.func9 (by kernel_rfl)
    (of_decide_eq_true (by kernel_rfl)) (by unfold Func.isWrapper; first | (rw [if_pos (by decide +kernel)]; kernel_rfl) | (rw [if_neg (by decide +kernel)]; exact ⟨rfl, rfl⟩))
    (fun os started H enc _ => drossReached_lifted os started H enc)
end
end Go.Proofs.Ytdcglphekafpdaa
