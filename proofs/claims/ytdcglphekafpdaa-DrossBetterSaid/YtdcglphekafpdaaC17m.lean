/- The statement DrossBetter holds: whatever the arguments, the law returns true and leaves its arguments as they were. -/
import Derived.Test.YtdcglphekafpdaaMt
import Derived.Test.YtdcglphekafpdaaMr
import Derived.Test.YtdcglphekafpdaaMk
import Derived.Lib.MinMax
namespace Go.Proofs.Ytdcglphekafpdaa
open Go.RowKit Go.Shelf
set_option maxRecDepth 100000 in
set_option maxHeartbeats 4000000 in
theorem better_main (w : World) (A A1 A2 : Option Addr) (n c n1 c1 n2 c2 : Nat) (row : List Mt) (sc : List Rg) (by_ : List Int) (x2 x4 x5 : Int) (i : Nat) (hr : MtS w w.heap.size A n row) (hnc : n ≤ c) (hr' : RgS w w.heap.size A1 n1 sc) (hb : SmS .u16 w w.heap.size A2 n2 by_) (hby : ∀ x ∈ by_, 0 ≤ x ∧ x ≤ 65535) (hn2 : n2 ≤ 20)
    (h0 : checkScales row sc = 0) (a0 : 0 ≤ x2 ∧ x2 ≤ 4294967295) (b0 : 0 ≤ x4 ∧ x4 ≤ 255) (d0 : 0 ≤ x5 ∧ x5 ≤ 255) (hi0 : x4 % (n : Int) = i) :
    Calls Try.prog 15 #[.slice A n c, .slice A1 n1 c1, .int .u32 x2, .slice A2 n2 c2, .int .u8 x4, .int .u8 x5] w fun e w' => e = .returned (.bool true) ∧ Below w.heap.size w w' := by
  obtain ⟨k1, k2, k3⟩ := checkScales_ok h0
  obtain ⟨k4, k5, k6⟩ := checkRow_ok k1
  have hlen := hr.len
  have hlen' := hr'.len
  have hn : n ≤ 12 := by omega
  have hn7 : n ≤ 7 := by omega
  have hn0 : 1 ≤ n := by omega
  have hn1 : n1 ≤ 12 := by omega
  have hnn : Hid (n1 = n + 1) := hid (by omega)
  have HLEN := hid hlen
  have HLEN1 := hid hlen'
  have e2 := Int.emod_lt_of_pos x4 (b := (n : Int)) (by omega)
  have hin : i < n := by omega
  have hn10 : 0 < n1 := by omega
  have m0 : 0 ≤ x2 % 1000001 := by omega
  have m1 : x2 % 1000001 ≤ 1000000 := by omega
  have z1 : x4.tmod (n : Int) = i := by rw [Int.tmod_eq_emod_of_nonneg b0.1]; exact hi0
  have z2 : ¬ ((n : Int) = 0) := by omega
  have n20 : ¬ ((20 : Int) < n2) := by omega
  obtain ⟨bb, off, rfl, hbl, _⟩ := hr.2 (by omega)
  obtain ⟨b1, o1, rfl, hb1, _⟩ := hr'.2 (by omega)
  have hm0 : row[i]? = some (mAt row i) := by unfold mAt; rw [List.getElem?_eq_getElem (by omega)]; rfl
  have hmk := mAt_ok k6 (k := i) (by omega)
  have hbet := better_law h0 (i := i) (by omega) d0.1
  have hbok := better_ok h0 (i := i) (by omega) d0.1
  obtain ⟨m, hm⟩ : ∃ m, mAt row i = m := ⟨_, rfl⟩
  rw [hm] at hm0 hmk hbet hbok
  obtain ⟨q1, q2, q3, q4, q5, q6⟩ := okM_t.1 hmk
  obtain ⟨m', hm'⟩ : ∃ m', widerM m x5 = m' := ⟨_, rfl⟩
  rw [hm'] at hbet hbok
  have y1 : max 0 (m.keep.lo - x5) = m'.keep.lo := by rw [← hm']; rfl
  have y2 : min 1000 (m.keep.hi + x5 / 2) = m'.keep.hi := by rw [← hm']; rfl
  have y3 : max 0 (m.fixed.lo - x5 / 4) = m'.fixed.lo := by rw [← hm']; rfl
  have y4 : min 1000 (m.fixed.hi + x5) = m'.fixed.hi := by rw [← hm']; rfl
  have w1 : IntKind.i64.wrap (m.keep.lo - x5) = m.keep.lo - x5 := IntWalk.i64_in _ (by omega)
  have w2 : x5.tdiv 2 = x5 / 2 := Int.tdiv_eq_ediv_of_nonneg d0.1
  have w3 : IntKind.i64.wrap (x5 / 2) = x5 / 2 := IntWalk.i64_in _ (by omega)
  have w4 : IntKind.i64.wrap (m.keep.hi + x5 / 2) = m.keep.hi + x5 / 2 := IntWalk.i64_in _ (by omega)
  have w5 : x5.tdiv 4 = x5 / 4 := Int.tdiv_eq_ediv_of_nonneg d0.1
  have w6 : IntKind.i64.wrap (x5 / 4) = x5 / 4 := IntWalk.i64_in _ (by omega)
  have w7 : IntKind.i64.wrap (m.fixed.lo - x5 / 4) = m.fixed.lo - x5 / 4 := IntWalk.i64_in _ (by omega)
  have w8 : IntKind.i64.wrap (m.fixed.hi + x5) = m.fixed.hi + x5 := IntWalk.i64_in _ (by omega)
  obtain ⟨row', hrow'⟩ : ∃ row', row.set i m' = row' := ⟨_, rfl⟩
  rw [hrow'] at hbet hbok
  obtain ⟨L1, hL1⟩ : ∃ L, wrongL row sc = L := ⟨_, rfl⟩
  obtain ⟨L2, hL2⟩ : ∃ L, wrongL row' sc = L := ⟨_, rfl⟩
  obtain ⟨L3, hL3⟩ : ∃ L, meltsL row sc = L := ⟨_, rfl⟩
  obtain ⟨L4, hL4⟩ : ∃ L, meltsL row' sc = L := ⟨_, rfl⟩
  obtain ⟨g1, g2, g3, g4⟩ := hbet
  rw [hL1, hL2] at g3
  rw [hL3, hL4] at g4
  obtain ⟨r0, hr0⟩ : ∃ r, sAt sc 0 = r := ⟨_, rfl⟩
  have hr0o : okR r0 1000000 = true := by rw [← hr0]; exact okR_t.2 ⟨(okS_sAt k3 0).1, sAt_ne k3 0, (okS_sAt k3 0).2.2.2⟩
  have HKEEP : Hid (leftOf [keepM] r0 = r0) := hid (keep_all hr0o)
  have HR0 := hid hr0
  have HR0o := hid hr0o
  have HM0 := hid hm0
  have HROW := hid hrow'
  have HL1 := hid hL1
  have HL2 := hid hL2
  have HL3 := hid hL3
  have HL4 := hid hL4
  have G1 := hid g1
  have G2 := hid g2
  have HOW := hid (own_or h0 m0 m1 by_)
  have hwl0 := wghL_len row (x2 % 1000001) by_
  have HB := hid (fun V (h : Below w.heap.size w V) => hb.below h h.size)
  have hby' := hid hby
  have HBOK := hid hbok
  have hn9 : n + 1 ≤ 100 := by omega
  have hinI : (i : Int) < n := by omega
  have hini : (0 : Int) ≤ i := by omega
  have l3d : decide (L1.length < L2.length) = false := decide_eq_false (by omega)
  have l4d : decide (L3.length < L4.length) = false := decide_eq_false (by omega)
  have HR := hid (fun V (h : Below w.heap.size w V) => hr.below h h.size)
  have HS := hid (fun V (h : Below w.heap.size w V) => hr'.below h h.size)
  have hd := hid (decide_eq_true h0)
  have H0 := hid h0
  have HK1 := hid k1
  have HK3 := hid k3
  have HK6 := hid k6
  clear hr hr' hb hby h0 k1 k2 k3 k4 k5 k6 hlen hlen' e2 hm0 hmk hm hm' hrow' hL1 hL2 hL3 hL4 g1 g2 hr0 hr0o hwl0 hbok hi0 q1 q2 q3 q4 q5 q6
  obtain ⟨i0, hi, hz0, hz1, hz2⟩ := info_parts info85
  go_enter Try.func15, Try.ntmps15
  have hbel : Below w.heap.size w w := Below.refl _ _
  have hsz := hbel.size
  go_wp2_with (fail)
  refine (read_any _ _ _ n c n1 c1 row sc (HR.out _ ?_) (HS.out _ ?_)).mono ?_
  · exact (by repeat' (first | with_reducible assumption | with_reducible exact Below.refl _ _ | refine Below.alloc ?_ ?_ _ | refine Below.setCell ?_ ?_ _ | refine Below.drew ?_ | refine below_drewN ?_ _ | (simp; done) | (simp; omega) | omega))
  · exact (by repeat' (first | with_reducible assumption | with_reducible exact Below.refl _ _ | refine Below.alloc ?_ ?_ _ | refine Below.setCell ?_ ?_ _ | refine Below.drew ?_ | refine below_drewN ?_ _ | (simp; done) | (simp; omega) | omega))
  rw [hd.out]
  rintro e V1 ⟨rfl, hb⟩
  have hst : Below w.heap.size w V1 := Below.trans (by repeat' (first | with_reducible assumption | with_reducible exact Below.refl _ _ | refine Below.alloc ?_ ?_ _ | refine Below.setCell ?_ ?_ _ | refine Below.drew ?_ | refine below_drewN ?_ _ | (simp; done) | (simp; omega) | omega)) (hb.mono (by first | (simp; done) | (simp; omega) | omega))
  replace hbel := hbel.trans (hst.mono hsz)
  replace hsz := hbel.size
  clear hb hst
  have hwX : w.heap.size ≤ V1.heap.size := hsz
  have hrX := HR.out V1 hbel
  have hHR := hid hrX
  clear hrX
  go_wp2_with (at_builtin; refine wpList_append_own _ rfl (.tmp 49) (.tmp 50) 22 rfl V1.heap.size 85 i0 _ 4 32 under22 hi hz0 hz1 hz2 rfl (by decide) _ 0 [] rfl (World.ownsRow_made V1 #[] 0 (Nat.le_refl _) (by omega) rfl) ⟨bb, off, none⟩ n c (row.flatMap cM) rfl (by rw [flat_len (s := 4) (fun _ => rfl), HLEN.out]) (fun j u hj => by rw [add_at]; obtain ⟨b9, o9, e9, h9, h8⟩ := hHR.out.2 (by omega); cases e9; exact (World.cell?_alloc_lt _ _ _ h9).trans (h8 j u hj)) (one_flatM _) (by unfold maxLen; omega) (by omega) (by simp) ?_)
  intro v1 V2 own1 gr1 _
  try simp only [Nat.zero_add, List.nil_append] at own1
  have hb : Below V1.heap.size V1 V2 := below_own ((Below.refl _ _).alloc (Nat.le_refl _) (.cells #[] 85)) (World.ownsRow_made V1 #[] 0 (base := V1.heap.size) (size := 4) (e := 85) (Nat.le_refl _) (by omega) rfl).lt gr1 (Nat.le_refl _)
  have hst : Below V1.heap.size V1 V2 := Below.trans (by repeat' (first | with_reducible assumption | with_reducible exact Below.refl _ _ | refine Below.alloc ?_ ?_ _ | refine Below.setCell ?_ ?_ _ | refine Below.drew ?_ | refine below_drewN ?_ _ | (simp; done) | (simp; omega) | omega)) (hb.mono (by first | (simp; done) | (simp; omega) | omega))
  replace hbel := hbel.trans (hst.mono hsz)
  replace hsz := hbel.size
  clear hb hst gr1 hHR
  obtain ⟨g, cap, rfl, hg1, hg2⟩ := own_form2 own1 (by omega)
  have hcap := own_cap own1
  have OWN := hid own1
  clear own1
  obtain ⟨p0, p1, p2, p3, _, _, _, _⟩ := own_atM OWN.out HM0.out
  go_wp2_with (fail)
  refine wp_region_hd 42 (fun W' => Below V2.heap.size V2 W') (by kernel_rfl) (by kernel_rfl) ((Below.refl _ _).drew) ?_
  simp only [List.take_succ_cons, List.take_zero, List.drop_succ_cons, List.drop_zero]
  iterate 40 (refine wpHd_val (v := ?_) (by rfl) (fun W hW => ?_) ?_; rotate_left; (· obtain ⟨hcW, hfW⟩ := bcell hW; go_simp; with_reducible rfl); simp only [Act.put, List.setIfInBounds_toArray, List.set_cons_zero, List.set_cons_succ])
  (refine wpHd_callB (by rfl) (fun W hW => melt_any m'.keep.lo m'.keep.hi m'.fixed.lo m'.fixed.hi _) (fun W hW => ?_) ?_; (· obtain ⟨hcW, hfW⟩ := bcell hW; go_simp); simp only [Act.put, List.setIfInBounds_toArray, List.set_cons_zero, List.set_cons_succ])
  (refine wpHd_val (v := ?_) (by rfl) (fun W hW => ?_) ?_; rotate_left; (· obtain ⟨hcW, hfW⟩ := bcell hW; go_simp; with_reducible rfl); simp only [Act.put, List.setIfInBounds_toArray, List.set_cons_zero, List.set_cons_succ])
  refine wpHd_nil ?_
  intro V3 hb
  have OWN2 := owns_below OWN.out hb
  have hst : Below V2.heap.size V2 V3 := Below.trans (by repeat' (first | with_reducible assumption | with_reducible exact Below.refl _ _ | refine Below.alloc ?_ ?_ _ | refine Below.setCell ?_ ?_ _ | refine Below.drew ?_ | refine below_drewN ?_ _ | (simp; done) | (simp; omega) | omega)) (hb.mono (by first | (simp; done) | (simp; omega) | omega))
  replace hbel := hbel.trans (hst.mono hsz)
  replace hsz := hbel.size
  clear hb hst p0 p1 p2 p3
  obtain ⟨p0, p1, p2, p3, p4, p5, p6, p7⟩ := own_atM OWN2 HM0.out
  have own4 := own_setM OWN2 i m'
  rw [HROW.out] at own4
  have hgw : w.heap.size ≤ g := by omega
  have hbelC := (((hbel.setCell (p := ⟨g, i * 4, none⟩) hgw (.int .i64 m'.keep.lo)).setCell (p := ⟨g, i * 4 + 1, none⟩) hgw (.int .i64 m'.keep.hi)).setCell (p := ⟨g, i * 4 + 2, none⟩) hgw (.int .i64 m'.fixed.lo)).setCell (p := ⟨g, i * 4 + 3, none⟩) hgw (.int .i64 m'.fixed.hi)
  clear y1 y2 y3 y4 w1 w2 w3 w4 w5 w6 w7 w8
  go_wp2_with (fail)
  generalize (((V3.setCell ⟨g, i * 4, none⟩ (.int .i64 m'.keep.lo)).setCell ⟨g, i * 4 + 1, none⟩ (.int .i64 m'.keep.hi)).setCell ⟨g, i * 4 + 2, none⟩ (.int .i64 m'.fixed.lo)).setCell ⟨g, i * 4 + 3, none⟩ (.int .i64 m'.fixed.hi) = V4 at *
  replace hbel := hbelC
  replace hsz := hbel.size
  have HX := hid (mts_of_own own4)
  clear own4 OWN2 hbelC p0 p1 p2 p3 p4 p5 p6 p7
  refine (chosen_any _ a0.1 a0.2 _).mono ?_
  rintro e W1 ⟨rfl, rfl⟩
  go_wp2_with (fail)
  refine (weighed_any _ _ _ n c n2 c2 row (x2 % 1000001) by_ (HR.out _ ?_) HK1.out m0 m1 (HB.out _ ?_) hby'.out hn2).mono ?_
  · exact (by repeat' (first | with_reducible assumption | with_reducible exact Below.refl _ _ | refine Below.alloc ?_ ?_ _ | refine Below.setCell ?_ ?_ _ | refine Below.drew ?_ | refine below_drewN ?_ _ | (simp; done) | (simp; omega) | omega))
  · exact (by repeat' (first | with_reducible assumption | with_reducible exact Below.refl _ _ | refine Below.alloc ?_ ?_ _ | refine Below.setCell ?_ ?_ _ | refine Below.drew ?_ | refine below_drewN ?_ _ | (simp; done) | (simp; omega) | omega))
  rintro e V5 ⟨A3, c3, rfl, hwl, hb⟩
  have hst : Below V4.heap.size V4 V5 := Below.trans (by repeat' (first | with_reducible assumption | with_reducible exact Below.refl _ _ | refine Below.alloc ?_ ?_ _ | refine Below.setCell ?_ ?_ _ | refine Below.drew ?_ | refine below_drewN ?_ _ | (simp; done) | (simp; omega) | omega)) (hb.mono (by first | (simp; done) | (simp; omega) | omega))
  replace hbel := hbel.trans (hst.mono hsz)
  replace hsz := hbel.size
  replace HX := hid (HX.out.below hst hst.size)
  clear hb hst
  have HWL := hid hwl
  clear hwl
  go_wp2_with (fail)
  refine (possible_any _ _ _ n c n1 c1 row sc (HR.out _ ?_) (HS.out _ ?_) H0.out).mono ?_
  · exact (by repeat' (first | with_reducible assumption | with_reducible exact Below.refl _ _ | refine Below.alloc ?_ ?_ _ | refine Below.setCell ?_ ?_ _ | refine Below.drew ?_ | refine below_drewN ?_ _ | (simp; done) | (simp; omega) | omega))
  · exact (by repeat' (first | with_reducible assumption | with_reducible exact Below.refl _ _ | refine Below.alloc ?_ ?_ _ | refine Below.setCell ?_ ?_ _ | refine Below.drew ?_ | refine below_drewN ?_ _ | (simp; done) | (simp; omega) | omega))
  rintro e V6 ⟨rfl, hb⟩
  have hst : Below V5.heap.size V5 V6 := Below.trans (by repeat' (first | with_reducible assumption | with_reducible exact Below.refl _ _ | refine Below.alloc ?_ ?_ _ | refine Below.setCell ?_ ?_ _ | refine Below.drew ?_ | refine below_drewN ?_ _ | (simp; done) | (simp; omega) | omega)) (hb.mono (by first | (simp; done) | (simp; omega) | omega))
  replace hbel := hbel.trans (hst.mono hsz)
  replace hsz := hbel.size
  replace HX := hid (HX.out.below hst hst.size)
  replace HWL := hid (HWL.out.below hst hst.size)
  clear hb hst
  obtain ⟨po, hpo⟩ : ∃ po, possB row sc = po := ⟨_, rfl⟩
  rw [hpo]
  have HPO := hid hpo
  clear hpo
  go_wp2_with (fail)
  refine (possible_any _ _ _ n cap n1 c1 row' sc (HX.out.below (Below.refl _ _) (Nat.le_refl _)) (HS.out _ ?_) HBOK.out).mono ?_
  · exact (by repeat' (first | with_reducible assumption | with_reducible exact Below.refl _ _ | refine Below.alloc ?_ ?_ _ | refine Below.setCell ?_ ?_ _ | refine Below.drew ?_ | refine below_drewN ?_ _ | (simp; done) | (simp; omega) | omega))
  rintro e V7 ⟨rfl, hb⟩
  have hst : Below V6.heap.size V6 V7 := Below.trans (by repeat' (first | with_reducible assumption | with_reducible exact Below.refl _ _ | refine Below.alloc ?_ ?_ _ | refine Below.setCell ?_ ?_ _ | refine Below.drew ?_ | refine below_drewN ?_ _ | (simp; done) | (simp; omega) | omega)) (hb.mono (by first | (simp; done) | (simp; omega) | omega))
  replace hbel := hbel.trans (hst.mono hsz)
  replace hsz := hbel.size
  replace HX := hid (HX.out.below hst hst.size)
  replace HWL := hid (HWL.out.below hst hst.size)
  clear hb hst
  obtain ⟨po2, hpo2⟩ : ∃ po2, possB row' sc = po2 := ⟨_, rfl⟩
  rw [hpo2]
  have HPO2 := hid hpo2
  clear hpo2
  go_wp2_with (fail)
  refine (dWrong_any _ _ _ n c n1 c1 row sc (HR.out _ ?_) hn (HS.out _ ?_) hn1).mono ?_
  · exact (by repeat' (first | with_reducible assumption | with_reducible exact Below.refl _ _ | refine Below.alloc ?_ ?_ _ | refine Below.setCell ?_ ?_ _ | refine Below.drew ?_ | refine below_drewN ?_ _ | (simp; done) | (simp; omega) | omega))
  · exact (by repeat' (first | with_reducible assumption | with_reducible exact Below.refl _ _ | refine Below.alloc ?_ ?_ _ | refine Below.setCell ?_ ?_ _ | refine Below.drew ?_ | refine below_drewN ?_ _ | (simp; done) | (simp; omega) | omega))
  rintro e V8 ⟨u1, rfl, ho, hb⟩
  have hst : Below V7.heap.size V7 V8 := Below.trans (by repeat' (first | with_reducible assumption | with_reducible exact Below.refl _ _ | refine Below.alloc ?_ ?_ _ | refine Below.setCell ?_ ?_ _ | refine Below.drew ?_ | refine below_drewN ?_ _ | (simp; done) | (simp; omega) | omega)) (hb.mono (by first | (simp; done) | (simp; omega) | omega))
  replace hbel := hbel.trans (hst.mono hsz)
  replace hsz := hbel.size
  replace HX := hid (HX.out.below hst hst.size)
  replace HWL := hid (HWL.out.below hst hst.size)
  clear hb hst
  rw [HL1.out] at ho
  rw [H0.out]
  obtain ⟨B1, d1, rfl, _, _⟩ := ins_of_own ho
  clear ho
  go_wp2_with (fail)
  refine (dWrong_any _ _ _ n cap n1 c1 row' sc (HX.out.below (Below.refl _ _) (Nat.le_refl _)) hn (HS.out _ ?_) hn1).mono ?_
  · exact (by repeat' (first | with_reducible assumption | with_reducible exact Below.refl _ _ | refine Below.alloc ?_ ?_ _ | refine Below.setCell ?_ ?_ _ | refine Below.drew ?_ | refine below_drewN ?_ _ | (simp; done) | (simp; omega) | omega))
  rintro e V9 ⟨u2, rfl, ho, hb⟩
  have hst : Below V8.heap.size V8 V9 := Below.trans (by repeat' (first | with_reducible assumption | with_reducible exact Below.refl _ _ | refine Below.alloc ?_ ?_ _ | refine Below.setCell ?_ ?_ _ | refine Below.drew ?_ | refine below_drewN ?_ _ | (simp; done) | (simp; omega) | omega)) (hb.mono (by first | (simp; done) | (simp; omega) | omega))
  replace hbel := hbel.trans (hst.mono hsz)
  replace hsz := hbel.size
  replace HX := hid (HX.out.below hst hst.size)
  replace HWL := hid (HWL.out.below hst hst.size)
  clear hb hst
  rw [HL2.out] at ho
  rw [HBOK.out]
  obtain ⟨B2, d2, rfl, _, _⟩ := ins_of_own ho
  clear ho
  go_wp2_with (fail)
  refine (dMelts_any _ _ _ n c n1 c1 row sc (HR.out _ ?_) hn hnc (HS.out _ ?_) hn1).mono ?_
  · exact (by repeat' (first | with_reducible assumption | with_reducible exact Below.refl _ _ | refine Below.alloc ?_ ?_ _ | refine Below.setCell ?_ ?_ _ | refine Below.drew ?_ | refine below_drewN ?_ _ | (simp; done) | (simp; omega) | omega))
  · exact (by repeat' (first | with_reducible assumption | with_reducible exact Below.refl _ _ | refine Below.alloc ?_ ?_ _ | refine Below.setCell ?_ ?_ _ | refine Below.drew ?_ | refine below_drewN ?_ _ | (simp; done) | (simp; omega) | omega))
  rintro e V10 ⟨u3, rfl, ho, hb⟩
  have hst : Below V9.heap.size V9 V10 := Below.trans (by repeat' (first | with_reducible assumption | with_reducible exact Below.refl _ _ | refine Below.alloc ?_ ?_ _ | refine Below.setCell ?_ ?_ _ | refine Below.drew ?_ | refine below_drewN ?_ _ | (simp; done) | (simp; omega) | omega)) (hb.mono (by first | (simp; done) | (simp; omega) | omega))
  replace hbel := hbel.trans (hst.mono hsz)
  replace hsz := hbel.size
  replace HX := hid (HX.out.below hst hst.size)
  replace HWL := hid (HWL.out.below hst hst.size)
  clear hb hst
  rw [HL3.out] at ho
  rw [H0.out]
  obtain ⟨B3, d3, rfl, _, _⟩ := ins_of_own ho
  clear ho
  go_wp2_with (fail)
  refine (dMelts_any _ _ _ n cap n1 c1 row' sc (HX.out.below (Below.refl _ _) (Nat.le_refl _)) hn hcap (HS.out _ ?_) hn1).mono ?_
  · exact (by repeat' (first | with_reducible assumption | with_reducible exact Below.refl _ _ | refine Below.alloc ?_ ?_ _ | refine Below.setCell ?_ ?_ _ | refine Below.drew ?_ | refine below_drewN ?_ _ | (simp; done) | (simp; omega) | omega))
  rintro e V11 ⟨u4, rfl, ho, hb⟩
  have hst : Below V10.heap.size V10 V11 := Below.trans (by repeat' (first | with_reducible assumption | with_reducible exact Below.refl _ _ | refine Below.alloc ?_ ?_ _ | refine Below.setCell ?_ ?_ _ | refine Below.drew ?_ | refine below_drewN ?_ _ | (simp; done) | (simp; omega) | omega)) (hb.mono (by first | (simp; done) | (simp; omega) | omega))
  replace hbel := hbel.trans (hst.mono hsz)
  replace hsz := hbel.size
  replace HX := hid (HX.out.below hst hst.size)
  replace HWL := hid (HWL.out.below hst hst.size)
  clear hb hst
  rw [HL4.out] at ho
  rw [HBOK.out]
  obtain ⟨B4, d4, rfl, _, _⟩ := ins_of_own ho
  clear ho
  have hpp : po = true → po2 = true := by rw [← HPO.out, ← HPO2.out]; exact G1.out
  obtain ⟨ow, how⟩ : ∃ ow, truthE row sc (wghL row (x2 % 1000001) by_) = ow := ⟨_, rfl⟩
  have hor : (ow = 0 ∧ po = true) ∨ ow = 16 := by rw [← how, ← HPO.out]; exact HOW.out
  have hT2 : Hid (ow = 0 → truthE row' sc (wghL row (x2 % 1000001) by_) = 0) := hid (fun h => G2.out _ (how.trans h))
  have HOO := hid how
  clear how
  obtain ⟨b9, o9, r9, e9, hb9, hr9, v0, v1⟩ := (HS.out V11 hbel).at_ (k := 0) (by omega)
  cases e9
  have er9 : r9 = r0 := by rw [← HR0.out]; exact (sAt_of hr9).symm
  subst er9
  simp only [Nat.zero_mul, Nat.add_zero] at v0 v1
  have HC9 := hid (And.intro v0 v1)
  clear hr9 v0 v1
  have HN1 : (0 : Int) < n1 := by omega
  have hcase : (ow = 0 ∧ po = true ∧ po2 = true) ∨ (ow = 16 ∧ po = true ∧ po2 = true) ∨ (ow = 16 ∧ po = false) := by
    rcases hor with ⟨h1, h2⟩ | h1
    · exact .inl ⟨h1, h2, hpp h2⟩
    · cases po
      · exact .inr (.inr ⟨h1, rfl⟩)
      · exact .inr (.inl ⟨h1, rfl, hpp rfl⟩)
  clear hor hpp
  rcases hcase with ⟨rfl, rfl, rfl⟩ | ⟨rfl, rfl, rfl⟩ | ⟨rfl, rfl⟩
  · have hT3 := hid (hT2.out rfl)
    go_wp2_with (fail)
    refine (dCheckTruth_any _ _ _ A3 n c n1 c1 (n + 1) c3 row sc _ (HR.out _ ?_) hn (HS.out _ ?_) hn1 (HWL.out.below (Below.refl _ _) (Nat.le_refl _)) hn9).mono ?_
    · exact (by repeat' (first | with_reducible assumption | with_reducible exact Below.refl _ _ | refine Below.alloc ?_ ?_ _ | refine Below.setCell ?_ ?_ _ | refine Below.drew ?_ | refine below_drewN ?_ _ | (simp; done) | (simp; omega) | omega))
    · exact (by repeat' (first | with_reducible assumption | with_reducible exact Below.refl _ _ | refine Below.alloc ?_ ?_ _ | refine Below.setCell ?_ ?_ _ | refine Below.drew ?_ | refine below_drewN ?_ _ | (simp; done) | (simp; omega) | omega))
    rw [HOO.out]
    rintro e V12 ⟨rfl, hb⟩
    have hst : Below V11.heap.size V11 V12 := Below.trans (by repeat' (first | with_reducible assumption | with_reducible exact Below.refl _ _ | refine Below.alloc ?_ ?_ _ | refine Below.setCell ?_ ?_ _ | refine Below.drew ?_ | refine below_drewN ?_ _ | (simp; done) | (simp; omega) | omega)) (hb.mono (by first | (simp; done) | (simp; omega) | omega))
    replace hbel := hbel.trans (hst.mono hsz)
    replace hsz := hbel.size
    replace HX := hid (HX.out.below hst hst.size)
    replace HWL := hid (HWL.out.below hst hst.size)
    have hs1 := hid hst
    clear hb hst
    go_wp2_with (fail)
    refine (dCheckTruth_any _ _ _ A3 n cap n1 c1 (n + 1) c3 row' sc _ (HX.out.below (Below.refl _ _) (Nat.le_refl _)) hn (HS.out _ ?_) hn1 (HWL.out.below (Below.refl _ _) (Nat.le_refl _)) hn9).mono ?_
    · exact (by repeat' (first | with_reducible assumption | with_reducible exact Below.refl _ _ | refine Below.alloc ?_ ?_ _ | refine Below.setCell ?_ ?_ _ | refine Below.drew ?_ | refine below_drewN ?_ _ | (simp; done) | (simp; omega) | omega))
    rw [hT3.out]
    rintro e V13 ⟨rfl, hb⟩
    have hst : Below V12.heap.size V12 V13 := Below.trans (by repeat' (first | with_reducible assumption | with_reducible exact Below.refl _ _ | refine Below.alloc ?_ ?_ _ | refine Below.setCell ?_ ?_ _ | refine Below.drew ?_ | refine below_drewN ?_ _ | (simp; done) | (simp; omega) | omega)) (hb.mono (by first | (simp; done) | (simp; omega) | omega))
    replace hbel := hbel.trans (hst.mono hsz)
    replace hsz := hbel.size
    replace HX := hid (HX.out.below hst hst.size)
    replace HWL := hid (HWL.out.below hst hst.size)
    clear hb hst
    clear HC9
    obtain ⟨b9, o9, r8, e9, hb9, hr9, v0, v1⟩ := (HS.out V13 hbel).at_ (k := 0) (by omega)
    cases e9
    have er9 : r8 = r9 := by rw [← HR0.out]; exact (sAt_of hr9).symm
    subst er9
    simp only [Nat.zero_mul, Nat.add_zero] at v0 v1
    clear hr9
    go_wp2_with (fail)
    clear v0 v1
    obtain ⟨V14, hV⟩ : ∃ V : World, V = V13.alloc (.cells #[.int .i64 r8.lo, .int .i64 r8.hi] 24) := ⟨_, rfl⟩
    have hb : Below V13.heap.size V13 V14 := by rw [hV]; exact (Below.refl _ _).alloc (Nat.le_refl _) _
    have BR : Hid (Blk V14 V13.heap.size 24 #[.int .i64 r8.lo, .int .i64 r8.hi]) := hid (by rw [hV]; exact Blk.new _ _ _)
    rw [← hV]
    clear hV
    have hst : Below V13.heap.size V13 V14 := Below.trans (by repeat' (first | with_reducible assumption | with_reducible exact Below.refl _ _ | refine Below.alloc ?_ ?_ _ | refine Below.setCell ?_ ?_ _ | refine Below.drew ?_ | refine below_drewN ?_ _ | (simp; done) | (simp; omega) | omega)) (hb.mono (by first | (simp; done) | (simp; omega) | omega))
    replace hbel := hbel.trans (hst.mono hsz)
    replace hsz := hbel.size
    replace HX := hid (HX.out.below hst hst.size)
    replace HWL := hid (HWL.out.below hst hst.size)
    clear hb hst
    refine wp_region_el [0, 2] 8 (by kernel_rfl) (by kernel_rfl) (fun V15 hX => ?_)
    have hb : Below V14.heap.size V14 V15 := by rw [hX]; exact (Below.refl _ _).drew
    clear hX
    have hst : Below V14.heap.size V14 V15 := Below.trans (by repeat' (first | with_reducible assumption | with_reducible exact Below.refl _ _ | refine Below.alloc ?_ ?_ _ | refine Below.setCell ?_ ?_ _ | refine Below.drew ?_ | refine below_drewN ?_ _ | (simp; done) | (simp; omega) | omega)) (hb.mono (by first | (simp; done) | (simp; omega) | omega))
    replace hbel := hbel.trans (hst.mono hsz)
    replace hsz := hbel.size
    replace BR := hid (BR.out.below hst BR.out.lt)
    replace HX := hid (HX.out.below hst hst.size)
    replace HWL := hid (HWL.out.below hst hst.size)
    clear hb hst
    have BR_c0 := BR.out.cell 0
    have BR_c1 := BR.out.cell 1
    have BR_l := BR.out.lt
    simp only [pick, List.getElem?_toArray, List.getElem?_cons_zero, List.getElem?_cons_succ]
    (refine wpE_call (by rfl) (fun W hW => melt_any 1000 1000 0 0 W) (fun W hW => ?_) ?_; (· obtain ⟨hcW, hfW⟩ := bcell hW; go_simp); simp only [Act.put, List.setIfInBounds_toArray, List.set_cons_zero, List.set_cons_succ])
    (refine wpE_val (v := ?_) (by rfl) (fun W hW => ?_) ?_; rotate_left; (· obtain ⟨hcW, hfW⟩ := bcell hW; go_simp; with_reducible rfl); simp only [Act.put, List.setIfInBounds_toArray, List.set_cons_zero, List.set_cons_succ])
    simp only [wpE]
    clear BR_c0 BR_c1 BR_l
    refine wpM_two 1 7 _ _ (by simp only [List.getElem?_toArray, List.getElem?_cons_zero, List.getElem?_cons_succ]; rfl) (by simp only [List.getElem?_toArray, List.getElem?_cons_zero, List.getElem?_cons_succ]; rfl) (by kernel_rfl) (by rfl) (by rfl) ?_ ?_
    · intro X1 hX1 hX1p
      (go_simp; simp only [LUpon, Act.put]; try simp only [List.setIfInBounds_toArray, List.set_cons_zero, List.set_cons_succ])
      refine ⟨hX1p.alloc hX1p.size _, ?_⟩
      have bm : Blk (X1.alloc (.cells #[.int .i64 1000, .int .i64 1000, .int .i64 0, .int .i64 0] 85)) X1.heap.size 85 #[.int .i64 1000, .int .i64 1000, .int .i64 0, .int .i64 0] := Blk.new _ _ _
      have hq : Ext V15 (X1.alloc (.cells #[.int .i64 1000, .int .i64 1000, .int .i64 0, .int .i64 0] 85)) := hX1p.alloc hX1p.size _
      generalize X1.heap.size = gm at *
      generalize X1.alloc (.cells #[.int .i64 1000, .int .i64 1000, .int .i64 0, .int .i64 0] 85) = V16 at *
      clear hX1 hX1p
      refine wpM_here hq (fun Y hY => ?_)
      subst Y
      have hb := hq
      have hst : Below V15.heap.size V15 V16 := Below.trans (by repeat' (first | with_reducible assumption | with_reducible exact Below.refl _ _ | refine Below.alloc ?_ ?_ _ | refine Below.setCell ?_ ?_ _ | refine Below.drew ?_ | refine below_drewN ?_ _ | (simp; done) | (simp; omega) | omega)) (hb.mono (by first | (simp; done) | (simp; omega) | omega))
      replace hbel := hbel.trans (hst.mono hsz)
      replace hsz := hbel.size
      replace BR := hid (BR.out.below hst BR.out.lt)
      replace HX := hid (HX.out.below hst hst.size)
      replace HWL := hid (HWL.out.below hst hst.size)
      clear hb hst hq
      refine (wpM_early (by kernel_rfl) [3, 4, 5, 6] 3 _ _ (by kernel_rfl) ?_ : wpM Try.prog .any _ _ _ 7 _ _ _)
      simp only [pick, List.getElem?_toArray, List.getElem?_cons_zero, List.getElem?_cons_succ]
      (refine wpE_call (v := .tuple #[.agg #[.int .i64 r8.lo, .int .i64 r8.hi], .bool true]) (by rfl) (fun W hW => by have := left53_any W _ 1 1 [keepM] r8 (mts_keep (bm.below hW bm.lt)) keepM_ok HR0o.out; rw [HKEEP.out] at this; exact this) (fun W hW => ?_) ?_; (· obtain ⟨hcW, hfW⟩ := bcell hW; go_simp); simp only [Act.put, List.setIfInBounds_toArray, List.set_cons_zero, List.set_cons_succ])
      iterate 3 (refine wpE_val (v := ?_) (by rfl) (fun W hW => ?_) ?_; rotate_left; (· obtain ⟨hcW, hfW⟩ := bcell hW; go_simp; with_reducible rfl); simp only [Act.put, List.setIfInBounds_toArray, List.set_cons_zero, List.set_cons_succ])
      simp only [wpE]
      (refine wpM_one 7 _ (by simp only [List.getElem?_toArray, List.getElem?_cons_zero, List.getElem?_cons_succ]; rfl) (by kernel_rfl) (by rfl) ?_)
      intro X2 hX2 hX2p
      (go_simp; simp only [LUpon, Act.put]; try simp only [List.setIfInBounds_toArray, List.set_cons_zero, List.set_cons_succ])
      refine ⟨hX2p.alloc hX2p.size _, ?_⟩
      have b9 : Blk (X2.alloc (.cells #[.int .i64 0, .int .i64 0] 24)) X2.heap.size 24 #[.int .i64 0, .int .i64 0] := Blk.new _ _ _
      have hB9 : V16.heap.size ≤ X2.heap.size := hX2p.size
      generalize X2.heap.size = B9 at *
      generalize X2.alloc (.cells #[.int .i64 0, .int .i64 0] 24) = Z1b at *
      (refine wpM_one 8 _ (by simp only [List.getElem?_toArray, List.getElem?_cons_zero, List.getElem?_cons_succ]; rfl) (by kernel_rfl) (by rfl) ?_)
      intro Z2 hZ2 hZ2p
      replace b9 := b9.below hZ2 b9.lt
      have q0 := b9.frozen 0
      have q1 := b9.frozen 1
      have u0 := b9.cell 0
      have u1 := b9.cell 1
      have hlt2 := b9.lt
      (go_simp; simp only [LUpon, Act.put]; try simp only [List.setIfInBounds_toArray, List.set_cons_zero, List.set_cons_succ])
      refine ⟨(hZ2p.setCell hB9 _).setCell hB9 _, ?_⟩
      replace b9 := b9.set2 (a := .int .i64 r8.lo) (b := .int .i64 r8.hi)
      clear q0 q1 u0 u1
      generalize (Z2.setCell ⟨B9, 0, none⟩ (.int .i64 r8.lo)).setCell ⟨B9, 1, none⟩ (.int .i64 r8.hi) = Z2b at *
      (refine wpM_one 9 _ (by simp only [List.getElem?_toArray, List.getElem?_cons_zero, List.getElem?_cons_succ]; rfl) (by kernel_rfl) (by rfl) ?_)
      intro Z3 hZ3 hZ3p
      replace b9 := b9.below hZ3 b9.lt
      (go_simp; simp only [LUpon, Act.put]; try simp only [List.setIfInBounds_toArray, List.set_cons_zero, List.set_cons_succ])
      refine ⟨hZ3p, ?_⟩
      refine wpM_end (by kernel_rfl) ?_
      intro V17 hZ4 hb
      have BQ := hid (b9.below hZ4 b9.lt)
      have hst : Below V16.heap.size V16 V17 := Below.trans (by repeat' (first | with_reducible assumption | with_reducible exact Below.refl _ _ | refine Below.alloc ?_ ?_ _ | refine Below.setCell ?_ ?_ _ | refine Below.drew ?_ | refine below_drewN ?_ _ | (simp; done) | (simp; omega) | omega)) (hb.mono (by first | (simp; done) | (simp; omega) | omega))
      replace hbel := hbel.trans (hst.mono hsz)
      replace hsz := hbel.size
      replace BR := hid (BR.out.below hst BR.out.lt)
      replace HX := hid (HX.out.below hst hst.size)
      replace HWL := hid (HWL.out.below hst hst.size)
      clear hb hst
      have BQ_c0 := BQ.out.cell 0
      have BQ_c1 := BQ.out.cell 1
      have BQ_l := BQ.out.lt
      have BR_c0 := BR.out.cell 0
      have BR_c1 := BR.out.cell 1
      have BR_l := BR.out.lt
      go_wp2_with (fail)
      refine (works_any _).mono ?_
      rintro e V18 ⟨rfl, hb⟩
      have hst : Below V17.heap.size V17 V18 := Below.trans (by repeat' (first | with_reducible assumption | with_reducible exact Below.refl _ _ | refine Below.alloc ?_ ?_ _ | refine Below.setCell ?_ ?_ _ | refine Below.drew ?_ | refine below_drewN ?_ _ | (simp; done) | (simp; omega) | omega)) (hb.mono (by first | (simp; done) | (simp; omega) | omega))
      replace hbel := hbel.trans (hst.mono hsz)
      replace hsz := hbel.size
      replace BR := hid (BR.out.below hst BR.out.lt)
      replace BQ := hid (BQ.out.below hst BQ.out.lt)
      replace HX := hid (HX.out.below hst hst.size)
      replace HWL := hid (HWL.out.below hst hst.size)
      clear hb hst
      go_wp2
      go_ret
      exact ⟨rfl, hbel⟩
    · intro X1 hX1 hX1p
      (go_simp; simp only [LUpon, Act.put]; try simp only [List.setIfInBounds_toArray, List.set_cons_zero, List.set_cons_succ])
      refine ⟨hX1p.alloc hX1p.size _, ?_⟩
      have b9 : Blk (X1.alloc (.cells #[.int .i64 0, .int .i64 0] 24)) X1.heap.size 24 #[.int .i64 0, .int .i64 0] := Blk.new _ _ _
      have hB9 : V15.heap.size ≤ X1.heap.size := hX1p.size
      generalize X1.heap.size = B9 at *
      generalize X1.alloc (.cells #[.int .i64 0, .int .i64 0] 24) = Z1b at *
      (refine wpM_one 1 _ (by simp only [List.getElem?_toArray, List.getElem?_cons_zero, List.getElem?_cons_succ]; rfl) (by kernel_rfl) (by rfl) ?_)
      intro X2 hX2 hX2p
      replace b9 := b9.below hX2 b9.lt
      have b9n := b9.alloc (.cells #[.int .i64 1000, .int .i64 1000, .int .i64 0, .int .i64 0] 85)
      (go_simp; simp only [LUpon, Act.put]; try simp only [List.setIfInBounds_toArray, List.set_cons_zero, List.set_cons_succ])
      refine ⟨hX2p.alloc hX2p.size _, ?_⟩
      have bm : Blk (X2.alloc (.cells #[.int .i64 1000, .int .i64 1000, .int .i64 0, .int .i64 0] 85)) X2.heap.size 85 #[.int .i64 1000, .int .i64 1000, .int .i64 0, .int .i64 0] := Blk.new _ _ _
      have hq : Ext V15 (X2.alloc (.cells #[.int .i64 1000, .int .i64 1000, .int .i64 0, .int .i64 0] 85)) := hX2p.alloc hX2p.size _
      generalize X2.heap.size = gm at *
      generalize X2.alloc (.cells #[.int .i64 1000, .int .i64 1000, .int .i64 0, .int .i64 0] 85) = V26 at *
      have b9m : Blk V26 B9 24 #[.int .i64 0, .int .i64 0] := by assumption
      clear b9n hX1 hX1p hX2 hX2p
      (refine wpM_one 3 _ (by simp only [List.getElem?_toArray, List.getElem?_cons_zero, List.getElem?_cons_succ]; rfl) (by kernel_rfl) (by rfl) ?_)
      intro X3 hX3 hX3p
      replace b9 := b9m.below hX3 b9m.lt
      replace bm := bm.below hX3 bm.lt
      clear b9m
      (go_simp; simp only [LUpon, Act.put]; try simp only [List.setIfInBounds_toArray, List.set_cons_zero, List.set_cons_succ])
      refine (left53_any _ _ 1 1 [keepM] r8 (mts_keep bm) keepM_ok HR0o.out).mono ?_
      rw [HKEEP.out]
      rintro e X4 ⟨rfl, hb4⟩
      refine ⟨_, rfl, hX3p.trans' hb4, ?_⟩
      try simp only [Act.put, List.setIfInBounds_toArray, List.set_cons_zero, List.set_cons_succ]
      replace b9 := b9.below hb4 b9.lt
      refine (wpM_early (by kernel_rfl) [4, 5, 6] 2 _ _ (by kernel_rfl) ?_ : wpM Try.prog .any _ _ _ 5 _ _ _)
      simp only [pick, List.getElem?_toArray, List.getElem?_cons_zero, List.getElem?_cons_succ]
      iterate 3 (refine wpE_val (v := ?_) (by rfl) (fun W hW => ?_) ?_; rotate_left; (· obtain ⟨hcW, hfW⟩ := bcell hW; go_simp; with_reducible rfl); simp only [Act.put, List.setIfInBounds_toArray, List.set_cons_zero, List.set_cons_succ])
      simp only [wpE]
      (refine wpM_one 8 _ (by simp only [List.getElem?_toArray, List.getElem?_cons_zero, List.getElem?_cons_succ]; rfl) (by kernel_rfl) (by rfl) ?_)
      intro Z2 hZ2 hZ2p
      replace b9 := b9.below hZ2 b9.lt
      have q0 := b9.frozen 0
      have q1 := b9.frozen 1
      have u0 := b9.cell 0
      have u1 := b9.cell 1
      have hlt2 := b9.lt
      (go_simp; simp only [LUpon, Act.put]; try simp only [List.setIfInBounds_toArray, List.set_cons_zero, List.set_cons_succ])
      refine ⟨(hZ2p.setCell hB9 _).setCell hB9 _, ?_⟩
      replace b9 := b9.set2 (a := .int .i64 r8.lo) (b := .int .i64 r8.hi)
      clear q0 q1 u0 u1
      generalize (Z2.setCell ⟨B9, 0, none⟩ (.int .i64 r8.lo)).setCell ⟨B9, 1, none⟩ (.int .i64 r8.hi) = Z2b at *
      (refine wpM_one 9 _ (by simp only [List.getElem?_toArray, List.getElem?_cons_zero, List.getElem?_cons_succ]; rfl) (by kernel_rfl) (by rfl) ?_)
      intro Z3 hZ3 hZ3p
      replace b9 := b9.below hZ3 b9.lt
      (go_simp; simp only [LUpon, Act.put]; try simp only [List.setIfInBounds_toArray, List.set_cons_zero, List.set_cons_succ])
      refine ⟨hZ3p, ?_⟩
      refine wpM_end (by kernel_rfl) ?_
      intro V27 hZ4 hb
      have BQ := hid (b9.below hZ4 b9.lt)
      have hst : Below V15.heap.size V15 V27 := Below.trans (by repeat' (first | with_reducible assumption | with_reducible exact Below.refl _ _ | refine Below.alloc ?_ ?_ _ | refine Below.setCell ?_ ?_ _ | refine Below.drew ?_ | refine below_drewN ?_ _ | (simp; done) | (simp; omega) | omega)) (hb.mono (by first | (simp; done) | (simp; omega) | omega))
      replace hbel := hbel.trans (hst.mono hsz)
      replace hsz := hbel.size
      replace BR := hid (BR.out.below hst BR.out.lt)
      replace HX := hid (HX.out.below hst hst.size)
      replace HWL := hid (HWL.out.below hst hst.size)
      clear hb hst
      have BQ_c0 := BQ.out.cell 0
      have BQ_c1 := BQ.out.cell 1
      have BQ_l := BQ.out.lt
      have BR_c0 := BR.out.cell 0
      have BR_c1 := BR.out.cell 1
      have BR_l := BR.out.lt
      go_wp2_with (fail)
      refine (works_any _).mono ?_
      rintro e V28 ⟨rfl, hb⟩
      have hst : Below V27.heap.size V27 V28 := Below.trans (by repeat' (first | with_reducible assumption | with_reducible exact Below.refl _ _ | refine Below.alloc ?_ ?_ _ | refine Below.setCell ?_ ?_ _ | refine Below.drew ?_ | refine below_drewN ?_ _ | (simp; done) | (simp; omega) | omega)) (hb.mono (by first | (simp; done) | (simp; omega) | omega))
      replace hbel := hbel.trans (hst.mono hsz)
      replace hsz := hbel.size
      replace BR := hid (BR.out.below hst BR.out.lt)
      replace BQ := hid (BQ.out.below hst BQ.out.lt)
      replace HX := hid (HX.out.below hst hst.size)
      replace HWL := hid (HWL.out.below hst hst.size)
      clear hb hst
      go_wp2
      go_ret
      exact ⟨rfl, hbel⟩
  · skip
    go_wp2_with (fail)
    refine (dCheckTruth_any _ _ _ A3 n c n1 c1 (n + 1) c3 row sc _ (HR.out _ ?_) hn (HS.out _ ?_) hn1 (HWL.out.below (Below.refl _ _) (Nat.le_refl _)) hn9).mono ?_
    · exact (by repeat' (first | with_reducible assumption | with_reducible exact Below.refl _ _ | refine Below.alloc ?_ ?_ _ | refine Below.setCell ?_ ?_ _ | refine Below.drew ?_ | refine below_drewN ?_ _ | (simp; done) | (simp; omega) | omega))
    · exact (by repeat' (first | with_reducible assumption | with_reducible exact Below.refl _ _ | refine Below.alloc ?_ ?_ _ | refine Below.setCell ?_ ?_ _ | refine Below.drew ?_ | refine below_drewN ?_ _ | (simp; done) | (simp; omega) | omega))
    rw [HOO.out]
    rintro e V52 ⟨rfl, hb⟩
    have hst : Below V11.heap.size V11 V52 := Below.trans (by repeat' (first | with_reducible assumption | with_reducible exact Below.refl _ _ | refine Below.alloc ?_ ?_ _ | refine Below.setCell ?_ ?_ _ | refine Below.drew ?_ | refine below_drewN ?_ _ | (simp; done) | (simp; omega) | omega)) (hb.mono (by first | (simp; done) | (simp; omega) | omega))
    replace hbel := hbel.trans (hst.mono hsz)
    replace hsz := hbel.size
    replace HX := hid (HX.out.below hst hst.size)
    replace HWL := hid (HWL.out.below hst hst.size)
    have hs1 := hid hst
    clear hb hst
    clear HC9
    obtain ⟨b9, o9, r8, e9, hb9, hr9, v0, v1⟩ := (HS.out V52 hbel).at_ (k := 0) (by omega)
    cases e9
    have er9 : r8 = r9 := by rw [← HR0.out]; exact (sAt_of hr9).symm
    subst er9
    simp only [Nat.zero_mul, Nat.add_zero] at v0 v1
    clear hr9
    go_wp2_with (fail)
    clear v0 v1
    obtain ⟨V53, hV⟩ : ∃ V : World, V = V52.alloc (.cells #[.int .i64 r8.lo, .int .i64 r8.hi] 24) := ⟨_, rfl⟩
    have hb : Below V52.heap.size V52 V53 := by rw [hV]; exact (Below.refl _ _).alloc (Nat.le_refl _) _
    have BR : Hid (Blk V53 V52.heap.size 24 #[.int .i64 r8.lo, .int .i64 r8.hi]) := hid (by rw [hV]; exact Blk.new _ _ _)
    rw [← hV]
    clear hV
    have hst : Below V52.heap.size V52 V53 := Below.trans (by repeat' (first | with_reducible assumption | with_reducible exact Below.refl _ _ | refine Below.alloc ?_ ?_ _ | refine Below.setCell ?_ ?_ _ | refine Below.drew ?_ | refine below_drewN ?_ _ | (simp; done) | (simp; omega) | omega)) (hb.mono (by first | (simp; done) | (simp; omega) | omega))
    replace hbel := hbel.trans (hst.mono hsz)
    replace hsz := hbel.size
    replace HX := hid (HX.out.below hst hst.size)
    replace HWL := hid (HWL.out.below hst hst.size)
    clear hb hst
    refine wp_region_el [0, 2] 8 (by kernel_rfl) (by kernel_rfl) (fun V54 hX => ?_)
    have hb : Below V53.heap.size V53 V54 := by rw [hX]; exact (Below.refl _ _).drew
    clear hX
    have hst : Below V53.heap.size V53 V54 := Below.trans (by repeat' (first | with_reducible assumption | with_reducible exact Below.refl _ _ | refine Below.alloc ?_ ?_ _ | refine Below.setCell ?_ ?_ _ | refine Below.drew ?_ | refine below_drewN ?_ _ | (simp; done) | (simp; omega) | omega)) (hb.mono (by first | (simp; done) | (simp; omega) | omega))
    replace hbel := hbel.trans (hst.mono hsz)
    replace hsz := hbel.size
    replace BR := hid (BR.out.below hst BR.out.lt)
    replace HX := hid (HX.out.below hst hst.size)
    replace HWL := hid (HWL.out.below hst hst.size)
    clear hb hst
    have BR_c0 := BR.out.cell 0
    have BR_c1 := BR.out.cell 1
    have BR_l := BR.out.lt
    simp only [pick, List.getElem?_toArray, List.getElem?_cons_zero, List.getElem?_cons_succ]
    (refine wpE_call (by rfl) (fun W hW => melt_any 1000 1000 0 0 W) (fun W hW => ?_) ?_; (· obtain ⟨hcW, hfW⟩ := bcell hW; go_simp); simp only [Act.put, List.setIfInBounds_toArray, List.set_cons_zero, List.set_cons_succ])
    (refine wpE_val (v := ?_) (by rfl) (fun W hW => ?_) ?_; rotate_left; (· obtain ⟨hcW, hfW⟩ := bcell hW; go_simp; with_reducible rfl); simp only [Act.put, List.setIfInBounds_toArray, List.set_cons_zero, List.set_cons_succ])
    simp only [wpE]
    clear BR_c0 BR_c1 BR_l
    refine wpM_two 1 7 _ _ (by simp only [List.getElem?_toArray, List.getElem?_cons_zero, List.getElem?_cons_succ]; rfl) (by simp only [List.getElem?_toArray, List.getElem?_cons_zero, List.getElem?_cons_succ]; rfl) (by kernel_rfl) (by rfl) (by rfl) ?_ ?_
    · intro X1 hX1 hX1p
      (go_simp; simp only [LUpon, Act.put]; try simp only [List.setIfInBounds_toArray, List.set_cons_zero, List.set_cons_succ])
      refine ⟨hX1p.alloc hX1p.size _, ?_⟩
      have bm : Blk (X1.alloc (.cells #[.int .i64 1000, .int .i64 1000, .int .i64 0, .int .i64 0] 85)) X1.heap.size 85 #[.int .i64 1000, .int .i64 1000, .int .i64 0, .int .i64 0] := Blk.new _ _ _
      have hq : Ext V54 (X1.alloc (.cells #[.int .i64 1000, .int .i64 1000, .int .i64 0, .int .i64 0] 85)) := hX1p.alloc hX1p.size _
      generalize X1.heap.size = gm at *
      generalize X1.alloc (.cells #[.int .i64 1000, .int .i64 1000, .int .i64 0, .int .i64 0] 85) = V55 at *
      clear hX1 hX1p
      refine wpM_here hq (fun Y hY => ?_)
      subst Y
      have hb := hq
      have hst : Below V54.heap.size V54 V55 := Below.trans (by repeat' (first | with_reducible assumption | with_reducible exact Below.refl _ _ | refine Below.alloc ?_ ?_ _ | refine Below.setCell ?_ ?_ _ | refine Below.drew ?_ | refine below_drewN ?_ _ | (simp; done) | (simp; omega) | omega)) (hb.mono (by first | (simp; done) | (simp; omega) | omega))
      replace hbel := hbel.trans (hst.mono hsz)
      replace hsz := hbel.size
      replace BR := hid (BR.out.below hst BR.out.lt)
      replace HX := hid (HX.out.below hst hst.size)
      replace HWL := hid (HWL.out.below hst hst.size)
      clear hb hst hq
      refine (wpM_early (by kernel_rfl) [3, 4, 5, 6] 3 _ _ (by kernel_rfl) ?_ : wpM Try.prog .any _ _ _ 7 _ _ _)
      simp only [pick, List.getElem?_toArray, List.getElem?_cons_zero, List.getElem?_cons_succ]
      (refine wpE_call (v := .tuple #[.agg #[.int .i64 r8.lo, .int .i64 r8.hi], .bool true]) (by rfl) (fun W hW => by have := left53_any W _ 1 1 [keepM] r8 (mts_keep (bm.below hW bm.lt)) keepM_ok HR0o.out; rw [HKEEP.out] at this; exact this) (fun W hW => ?_) ?_; (· obtain ⟨hcW, hfW⟩ := bcell hW; go_simp); simp only [Act.put, List.setIfInBounds_toArray, List.set_cons_zero, List.set_cons_succ])
      iterate 3 (refine wpE_val (v := ?_) (by rfl) (fun W hW => ?_) ?_; rotate_left; (· obtain ⟨hcW, hfW⟩ := bcell hW; go_simp; with_reducible rfl); simp only [Act.put, List.setIfInBounds_toArray, List.set_cons_zero, List.set_cons_succ])
      simp only [wpE]
      (refine wpM_one 7 _ (by simp only [List.getElem?_toArray, List.getElem?_cons_zero, List.getElem?_cons_succ]; rfl) (by kernel_rfl) (by rfl) ?_)
      intro X2 hX2 hX2p
      (go_simp; simp only [LUpon, Act.put]; try simp only [List.setIfInBounds_toArray, List.set_cons_zero, List.set_cons_succ])
      refine ⟨hX2p.alloc hX2p.size _, ?_⟩
      have b9 : Blk (X2.alloc (.cells #[.int .i64 0, .int .i64 0] 24)) X2.heap.size 24 #[.int .i64 0, .int .i64 0] := Blk.new _ _ _
      have hB9 : V55.heap.size ≤ X2.heap.size := hX2p.size
      generalize X2.heap.size = B9 at *
      generalize X2.alloc (.cells #[.int .i64 0, .int .i64 0] 24) = Z1b at *
      (refine wpM_one 8 _ (by simp only [List.getElem?_toArray, List.getElem?_cons_zero, List.getElem?_cons_succ]; rfl) (by kernel_rfl) (by rfl) ?_)
      intro Z2 hZ2 hZ2p
      replace b9 := b9.below hZ2 b9.lt
      have q0 := b9.frozen 0
      have q1 := b9.frozen 1
      have u0 := b9.cell 0
      have u1 := b9.cell 1
      have hlt2 := b9.lt
      (go_simp; simp only [LUpon, Act.put]; try simp only [List.setIfInBounds_toArray, List.set_cons_zero, List.set_cons_succ])
      refine ⟨(hZ2p.setCell hB9 _).setCell hB9 _, ?_⟩
      replace b9 := b9.set2 (a := .int .i64 r8.lo) (b := .int .i64 r8.hi)
      clear q0 q1 u0 u1
      generalize (Z2.setCell ⟨B9, 0, none⟩ (.int .i64 r8.lo)).setCell ⟨B9, 1, none⟩ (.int .i64 r8.hi) = Z2b at *
      (refine wpM_one 9 _ (by simp only [List.getElem?_toArray, List.getElem?_cons_zero, List.getElem?_cons_succ]; rfl) (by kernel_rfl) (by rfl) ?_)
      intro Z3 hZ3 hZ3p
      replace b9 := b9.below hZ3 b9.lt
      (go_simp; simp only [LUpon, Act.put]; try simp only [List.setIfInBounds_toArray, List.set_cons_zero, List.set_cons_succ])
      refine ⟨hZ3p, ?_⟩
      refine wpM_end (by kernel_rfl) ?_
      intro V56 hZ4 hb
      have BQ := hid (b9.below hZ4 b9.lt)
      have hst : Below V55.heap.size V55 V56 := Below.trans (by repeat' (first | with_reducible assumption | with_reducible exact Below.refl _ _ | refine Below.alloc ?_ ?_ _ | refine Below.setCell ?_ ?_ _ | refine Below.drew ?_ | refine below_drewN ?_ _ | (simp; done) | (simp; omega) | omega)) (hb.mono (by first | (simp; done) | (simp; omega) | omega))
      replace hbel := hbel.trans (hst.mono hsz)
      replace hsz := hbel.size
      replace BR := hid (BR.out.below hst BR.out.lt)
      replace HX := hid (HX.out.below hst hst.size)
      replace HWL := hid (HWL.out.below hst hst.size)
      clear hb hst
      have BQ_c0 := BQ.out.cell 0
      have BQ_c1 := BQ.out.cell 1
      have BQ_l := BQ.out.lt
      have BR_c0 := BR.out.cell 0
      have BR_c1 := BR.out.cell 1
      have BR_l := BR.out.lt
      go_wp2_with (fail)
      refine (works_any _).mono ?_
      rintro e V57 ⟨rfl, hb⟩
      have hst : Below V56.heap.size V56 V57 := Below.trans (by repeat' (first | with_reducible assumption | with_reducible exact Below.refl _ _ | refine Below.alloc ?_ ?_ _ | refine Below.setCell ?_ ?_ _ | refine Below.drew ?_ | refine below_drewN ?_ _ | (simp; done) | (simp; omega) | omega)) (hb.mono (by first | (simp; done) | (simp; omega) | omega))
      replace hbel := hbel.trans (hst.mono hsz)
      replace hsz := hbel.size
      replace BR := hid (BR.out.below hst BR.out.lt)
      replace BQ := hid (BQ.out.below hst BQ.out.lt)
      replace HX := hid (HX.out.below hst hst.size)
      replace HWL := hid (HWL.out.below hst hst.size)
      clear hb hst
      go_wp2
      go_ret
      exact ⟨rfl, hbel⟩
    · intro X1 hX1 hX1p
      (go_simp; simp only [LUpon, Act.put]; try simp only [List.setIfInBounds_toArray, List.set_cons_zero, List.set_cons_succ])
      refine ⟨hX1p.alloc hX1p.size _, ?_⟩
      have b9 : Blk (X1.alloc (.cells #[.int .i64 0, .int .i64 0] 24)) X1.heap.size 24 #[.int .i64 0, .int .i64 0] := Blk.new _ _ _
      have hB9 : V54.heap.size ≤ X1.heap.size := hX1p.size
      generalize X1.heap.size = B9 at *
      generalize X1.alloc (.cells #[.int .i64 0, .int .i64 0] 24) = Z1b at *
      (refine wpM_one 1 _ (by simp only [List.getElem?_toArray, List.getElem?_cons_zero, List.getElem?_cons_succ]; rfl) (by kernel_rfl) (by rfl) ?_)
      intro X2 hX2 hX2p
      replace b9 := b9.below hX2 b9.lt
      have b9n := b9.alloc (.cells #[.int .i64 1000, .int .i64 1000, .int .i64 0, .int .i64 0] 85)
      (go_simp; simp only [LUpon, Act.put]; try simp only [List.setIfInBounds_toArray, List.set_cons_zero, List.set_cons_succ])
      refine ⟨hX2p.alloc hX2p.size _, ?_⟩
      have bm : Blk (X2.alloc (.cells #[.int .i64 1000, .int .i64 1000, .int .i64 0, .int .i64 0] 85)) X2.heap.size 85 #[.int .i64 1000, .int .i64 1000, .int .i64 0, .int .i64 0] := Blk.new _ _ _
      have hq : Ext V54 (X2.alloc (.cells #[.int .i64 1000, .int .i64 1000, .int .i64 0, .int .i64 0] 85)) := hX2p.alloc hX2p.size _
      generalize X2.heap.size = gm at *
      generalize X2.alloc (.cells #[.int .i64 1000, .int .i64 1000, .int .i64 0, .int .i64 0] 85) = V65 at *
      have b9m : Blk V65 B9 24 #[.int .i64 0, .int .i64 0] := by assumption
      clear b9n hX1 hX1p hX2 hX2p
      (refine wpM_one 3 _ (by simp only [List.getElem?_toArray, List.getElem?_cons_zero, List.getElem?_cons_succ]; rfl) (by kernel_rfl) (by rfl) ?_)
      intro X3 hX3 hX3p
      replace b9 := b9m.below hX3 b9m.lt
      replace bm := bm.below hX3 bm.lt
      clear b9m
      (go_simp; simp only [LUpon, Act.put]; try simp only [List.setIfInBounds_toArray, List.set_cons_zero, List.set_cons_succ])
      refine (left53_any _ _ 1 1 [keepM] r8 (mts_keep bm) keepM_ok HR0o.out).mono ?_
      rw [HKEEP.out]
      rintro e X4 ⟨rfl, hb4⟩
      refine ⟨_, rfl, hX3p.trans' hb4, ?_⟩
      try simp only [Act.put, List.setIfInBounds_toArray, List.set_cons_zero, List.set_cons_succ]
      replace b9 := b9.below hb4 b9.lt
      refine (wpM_early (by kernel_rfl) [4, 5, 6] 2 _ _ (by kernel_rfl) ?_ : wpM Try.prog .any _ _ _ 5 _ _ _)
      simp only [pick, List.getElem?_toArray, List.getElem?_cons_zero, List.getElem?_cons_succ]
      iterate 3 (refine wpE_val (v := ?_) (by rfl) (fun W hW => ?_) ?_; rotate_left; (· obtain ⟨hcW, hfW⟩ := bcell hW; go_simp; with_reducible rfl); simp only [Act.put, List.setIfInBounds_toArray, List.set_cons_zero, List.set_cons_succ])
      simp only [wpE]
      (refine wpM_one 8 _ (by simp only [List.getElem?_toArray, List.getElem?_cons_zero, List.getElem?_cons_succ]; rfl) (by kernel_rfl) (by rfl) ?_)
      intro Z2 hZ2 hZ2p
      replace b9 := b9.below hZ2 b9.lt
      have q0 := b9.frozen 0
      have q1 := b9.frozen 1
      have u0 := b9.cell 0
      have u1 := b9.cell 1
      have hlt2 := b9.lt
      (go_simp; simp only [LUpon, Act.put]; try simp only [List.setIfInBounds_toArray, List.set_cons_zero, List.set_cons_succ])
      refine ⟨(hZ2p.setCell hB9 _).setCell hB9 _, ?_⟩
      replace b9 := b9.set2 (a := .int .i64 r8.lo) (b := .int .i64 r8.hi)
      clear q0 q1 u0 u1
      generalize (Z2.setCell ⟨B9, 0, none⟩ (.int .i64 r8.lo)).setCell ⟨B9, 1, none⟩ (.int .i64 r8.hi) = Z2b at *
      (refine wpM_one 9 _ (by simp only [List.getElem?_toArray, List.getElem?_cons_zero, List.getElem?_cons_succ]; rfl) (by kernel_rfl) (by rfl) ?_)
      intro Z3 hZ3 hZ3p
      replace b9 := b9.below hZ3 b9.lt
      (go_simp; simp only [LUpon, Act.put]; try simp only [List.setIfInBounds_toArray, List.set_cons_zero, List.set_cons_succ])
      refine ⟨hZ3p, ?_⟩
      refine wpM_end (by kernel_rfl) ?_
      intro V66 hZ4 hb
      have BQ := hid (b9.below hZ4 b9.lt)
      have hst : Below V54.heap.size V54 V66 := Below.trans (by repeat' (first | with_reducible assumption | with_reducible exact Below.refl _ _ | refine Below.alloc ?_ ?_ _ | refine Below.setCell ?_ ?_ _ | refine Below.drew ?_ | refine below_drewN ?_ _ | (simp; done) | (simp; omega) | omega)) (hb.mono (by first | (simp; done) | (simp; omega) | omega))
      replace hbel := hbel.trans (hst.mono hsz)
      replace hsz := hbel.size
      replace BR := hid (BR.out.below hst BR.out.lt)
      replace HX := hid (HX.out.below hst hst.size)
      replace HWL := hid (HWL.out.below hst hst.size)
      clear hb hst
      have BQ_c0 := BQ.out.cell 0
      have BQ_c1 := BQ.out.cell 1
      have BQ_l := BQ.out.lt
      have BR_c0 := BR.out.cell 0
      have BR_c1 := BR.out.cell 1
      have BR_l := BR.out.lt
      go_wp2_with (fail)
      refine (works_any _).mono ?_
      rintro e V67 ⟨rfl, hb⟩
      have hst : Below V66.heap.size V66 V67 := Below.trans (by repeat' (first | with_reducible assumption | with_reducible exact Below.refl _ _ | refine Below.alloc ?_ ?_ _ | refine Below.setCell ?_ ?_ _ | refine Below.drew ?_ | refine below_drewN ?_ _ | (simp; done) | (simp; omega) | omega)) (hb.mono (by first | (simp; done) | (simp; omega) | omega))
      replace hbel := hbel.trans (hst.mono hsz)
      replace hsz := hbel.size
      replace BR := hid (BR.out.below hst BR.out.lt)
      replace BQ := hid (BQ.out.below hst BQ.out.lt)
      replace HX := hid (HX.out.below hst hst.size)
      replace HWL := hid (HWL.out.below hst hst.size)
      clear hb hst
      go_wp2
      go_ret
      exact ⟨rfl, hbel⟩
  · skip
    go_wp2_with (fail)
    refine (dCheckTruth_any _ _ _ A3 n c n1 c1 (n + 1) c3 row sc _ (HR.out _ ?_) hn (HS.out _ ?_) hn1 (HWL.out.below (Below.refl _ _) (Nat.le_refl _)) hn9).mono ?_
    · exact (by repeat' (first | with_reducible assumption | with_reducible exact Below.refl _ _ | refine Below.alloc ?_ ?_ _ | refine Below.setCell ?_ ?_ _ | refine Below.drew ?_ | refine below_drewN ?_ _ | (simp; done) | (simp; omega) | omega))
    · exact (by repeat' (first | with_reducible assumption | with_reducible exact Below.refl _ _ | refine Below.alloc ?_ ?_ _ | refine Below.setCell ?_ ?_ _ | refine Below.drew ?_ | refine below_drewN ?_ _ | (simp; done) | (simp; omega) | omega))
    rw [HOO.out]
    rintro e V92 ⟨rfl, hb⟩
    have hst : Below V11.heap.size V11 V92 := Below.trans (by repeat' (first | with_reducible assumption | with_reducible exact Below.refl _ _ | refine Below.alloc ?_ ?_ _ | refine Below.setCell ?_ ?_ _ | refine Below.drew ?_ | refine below_drewN ?_ _ | (simp; done) | (simp; omega) | omega)) (hb.mono (by first | (simp; done) | (simp; omega) | omega))
    replace hbel := hbel.trans (hst.mono hsz)
    replace hsz := hbel.size
    replace HX := hid (HX.out.below hst hst.size)
    replace HWL := hid (HWL.out.below hst hst.size)
    have hs1 := hid hst
    clear hb hst
    clear HC9
    obtain ⟨b9, o9, r8, e9, hb9, hr9, v0, v1⟩ := (HS.out V92 hbel).at_ (k := 0) (by omega)
    cases e9
    have er9 : r8 = r9 := by rw [← HR0.out]; exact (sAt_of hr9).symm
    subst er9
    simp only [Nat.zero_mul, Nat.add_zero] at v0 v1
    clear hr9
    go_wp2_with (fail)
    clear v0 v1
    obtain ⟨V93, hV⟩ : ∃ V : World, V = V92.alloc (.cells #[.int .i64 r8.lo, .int .i64 r8.hi] 24) := ⟨_, rfl⟩
    have hb : Below V92.heap.size V92 V93 := by rw [hV]; exact (Below.refl _ _).alloc (Nat.le_refl _) _
    have BR : Hid (Blk V93 V92.heap.size 24 #[.int .i64 r8.lo, .int .i64 r8.hi]) := hid (by rw [hV]; exact Blk.new _ _ _)
    rw [← hV]
    clear hV
    have hst : Below V92.heap.size V92 V93 := Below.trans (by repeat' (first | with_reducible assumption | with_reducible exact Below.refl _ _ | refine Below.alloc ?_ ?_ _ | refine Below.setCell ?_ ?_ _ | refine Below.drew ?_ | refine below_drewN ?_ _ | (simp; done) | (simp; omega) | omega)) (hb.mono (by first | (simp; done) | (simp; omega) | omega))
    replace hbel := hbel.trans (hst.mono hsz)
    replace hsz := hbel.size
    replace HX := hid (HX.out.below hst hst.size)
    replace HWL := hid (HWL.out.below hst hst.size)
    clear hb hst
    refine wp_region_el [0, 2] 8 (by kernel_rfl) (by kernel_rfl) (fun V94 hX => ?_)
    have hb : Below V93.heap.size V93 V94 := by rw [hX]; exact (Below.refl _ _).drew
    clear hX
    have hst : Below V93.heap.size V93 V94 := Below.trans (by repeat' (first | with_reducible assumption | with_reducible exact Below.refl _ _ | refine Below.alloc ?_ ?_ _ | refine Below.setCell ?_ ?_ _ | refine Below.drew ?_ | refine below_drewN ?_ _ | (simp; done) | (simp; omega) | omega)) (hb.mono (by first | (simp; done) | (simp; omega) | omega))
    replace hbel := hbel.trans (hst.mono hsz)
    replace hsz := hbel.size
    replace BR := hid (BR.out.below hst BR.out.lt)
    replace HX := hid (HX.out.below hst hst.size)
    replace HWL := hid (HWL.out.below hst hst.size)
    clear hb hst
    have BR_c0 := BR.out.cell 0
    have BR_c1 := BR.out.cell 1
    have BR_l := BR.out.lt
    simp only [pick, List.getElem?_toArray, List.getElem?_cons_zero, List.getElem?_cons_succ]
    (refine wpE_call (by rfl) (fun W hW => melt_any 1000 1000 0 0 W) (fun W hW => ?_) ?_; (· obtain ⟨hcW, hfW⟩ := bcell hW; go_simp); simp only [Act.put, List.setIfInBounds_toArray, List.set_cons_zero, List.set_cons_succ])
    (refine wpE_val (v := ?_) (by rfl) (fun W hW => ?_) ?_; rotate_left; (· obtain ⟨hcW, hfW⟩ := bcell hW; go_simp; with_reducible rfl); simp only [Act.put, List.setIfInBounds_toArray, List.set_cons_zero, List.set_cons_succ])
    simp only [wpE]
    clear BR_c0 BR_c1 BR_l
    refine wpM_two 1 7 _ _ (by simp only [List.getElem?_toArray, List.getElem?_cons_zero, List.getElem?_cons_succ]; rfl) (by simp only [List.getElem?_toArray, List.getElem?_cons_zero, List.getElem?_cons_succ]; rfl) (by kernel_rfl) (by rfl) (by rfl) ?_ ?_
    · intro X1 hX1 hX1p
      (go_simp; simp only [LUpon, Act.put]; try simp only [List.setIfInBounds_toArray, List.set_cons_zero, List.set_cons_succ])
      refine ⟨hX1p.alloc hX1p.size _, ?_⟩
      have bm : Blk (X1.alloc (.cells #[.int .i64 1000, .int .i64 1000, .int .i64 0, .int .i64 0] 85)) X1.heap.size 85 #[.int .i64 1000, .int .i64 1000, .int .i64 0, .int .i64 0] := Blk.new _ _ _
      have hq : Ext V94 (X1.alloc (.cells #[.int .i64 1000, .int .i64 1000, .int .i64 0, .int .i64 0] 85)) := hX1p.alloc hX1p.size _
      generalize X1.heap.size = gm at *
      generalize X1.alloc (.cells #[.int .i64 1000, .int .i64 1000, .int .i64 0, .int .i64 0] 85) = V95 at *
      clear hX1 hX1p
      refine wpM_here hq (fun Y hY => ?_)
      subst Y
      have hb := hq
      have hst : Below V94.heap.size V94 V95 := Below.trans (by repeat' (first | with_reducible assumption | with_reducible exact Below.refl _ _ | refine Below.alloc ?_ ?_ _ | refine Below.setCell ?_ ?_ _ | refine Below.drew ?_ | refine below_drewN ?_ _ | (simp; done) | (simp; omega) | omega)) (hb.mono (by first | (simp; done) | (simp; omega) | omega))
      replace hbel := hbel.trans (hst.mono hsz)
      replace hsz := hbel.size
      replace BR := hid (BR.out.below hst BR.out.lt)
      replace HX := hid (HX.out.below hst hst.size)
      replace HWL := hid (HWL.out.below hst hst.size)
      clear hb hst hq
      refine (wpM_early (by kernel_rfl) [3, 4, 5, 6] 3 _ _ (by kernel_rfl) ?_ : wpM Try.prog .any _ _ _ 7 _ _ _)
      simp only [pick, List.getElem?_toArray, List.getElem?_cons_zero, List.getElem?_cons_succ]
      (refine wpE_call (v := .tuple #[.agg #[.int .i64 r8.lo, .int .i64 r8.hi], .bool true]) (by rfl) (fun W hW => by have := left53_any W _ 1 1 [keepM] r8 (mts_keep (bm.below hW bm.lt)) keepM_ok HR0o.out; rw [HKEEP.out] at this; exact this) (fun W hW => ?_) ?_; (· obtain ⟨hcW, hfW⟩ := bcell hW; go_simp); simp only [Act.put, List.setIfInBounds_toArray, List.set_cons_zero, List.set_cons_succ])
      iterate 3 (refine wpE_val (v := ?_) (by rfl) (fun W hW => ?_) ?_; rotate_left; (· obtain ⟨hcW, hfW⟩ := bcell hW; go_simp; with_reducible rfl); simp only [Act.put, List.setIfInBounds_toArray, List.set_cons_zero, List.set_cons_succ])
      simp only [wpE]
      (refine wpM_one 7 _ (by simp only [List.getElem?_toArray, List.getElem?_cons_zero, List.getElem?_cons_succ]; rfl) (by kernel_rfl) (by rfl) ?_)
      intro X2 hX2 hX2p
      (go_simp; simp only [LUpon, Act.put]; try simp only [List.setIfInBounds_toArray, List.set_cons_zero, List.set_cons_succ])
      refine ⟨hX2p.alloc hX2p.size _, ?_⟩
      have b9 : Blk (X2.alloc (.cells #[.int .i64 0, .int .i64 0] 24)) X2.heap.size 24 #[.int .i64 0, .int .i64 0] := Blk.new _ _ _
      have hB9 : V95.heap.size ≤ X2.heap.size := hX2p.size
      generalize X2.heap.size = B9 at *
      generalize X2.alloc (.cells #[.int .i64 0, .int .i64 0] 24) = Z1b at *
      (refine wpM_one 8 _ (by simp only [List.getElem?_toArray, List.getElem?_cons_zero, List.getElem?_cons_succ]; rfl) (by kernel_rfl) (by rfl) ?_)
      intro Z2 hZ2 hZ2p
      replace b9 := b9.below hZ2 b9.lt
      have q0 := b9.frozen 0
      have q1 := b9.frozen 1
      have u0 := b9.cell 0
      have u1 := b9.cell 1
      have hlt2 := b9.lt
      (go_simp; simp only [LUpon, Act.put]; try simp only [List.setIfInBounds_toArray, List.set_cons_zero, List.set_cons_succ])
      refine ⟨(hZ2p.setCell hB9 _).setCell hB9 _, ?_⟩
      replace b9 := b9.set2 (a := .int .i64 r8.lo) (b := .int .i64 r8.hi)
      clear q0 q1 u0 u1
      generalize (Z2.setCell ⟨B9, 0, none⟩ (.int .i64 r8.lo)).setCell ⟨B9, 1, none⟩ (.int .i64 r8.hi) = Z2b at *
      (refine wpM_one 9 _ (by simp only [List.getElem?_toArray, List.getElem?_cons_zero, List.getElem?_cons_succ]; rfl) (by kernel_rfl) (by rfl) ?_)
      intro Z3 hZ3 hZ3p
      replace b9 := b9.below hZ3 b9.lt
      (go_simp; simp only [LUpon, Act.put]; try simp only [List.setIfInBounds_toArray, List.set_cons_zero, List.set_cons_succ])
      refine ⟨hZ3p, ?_⟩
      refine wpM_end (by kernel_rfl) ?_
      intro V96 hZ4 hb
      have BQ := hid (b9.below hZ4 b9.lt)
      have hst : Below V95.heap.size V95 V96 := Below.trans (by repeat' (first | with_reducible assumption | with_reducible exact Below.refl _ _ | refine Below.alloc ?_ ?_ _ | refine Below.setCell ?_ ?_ _ | refine Below.drew ?_ | refine below_drewN ?_ _ | (simp; done) | (simp; omega) | omega)) (hb.mono (by first | (simp; done) | (simp; omega) | omega))
      replace hbel := hbel.trans (hst.mono hsz)
      replace hsz := hbel.size
      replace BR := hid (BR.out.below hst BR.out.lt)
      replace HX := hid (HX.out.below hst hst.size)
      replace HWL := hid (HWL.out.below hst hst.size)
      clear hb hst
      have BQ_c0 := BQ.out.cell 0
      have BQ_c1 := BQ.out.cell 1
      have BQ_l := BQ.out.lt
      have BR_c0 := BR.out.cell 0
      have BR_c1 := BR.out.cell 1
      have BR_l := BR.out.lt
      go_wp2_with (fail)
      refine (works_any _).mono ?_
      rintro e V97 ⟨rfl, hb⟩
      have hst : Below V96.heap.size V96 V97 := Below.trans (by repeat' (first | with_reducible assumption | with_reducible exact Below.refl _ _ | refine Below.alloc ?_ ?_ _ | refine Below.setCell ?_ ?_ _ | refine Below.drew ?_ | refine below_drewN ?_ _ | (simp; done) | (simp; omega) | omega)) (hb.mono (by first | (simp; done) | (simp; omega) | omega))
      replace hbel := hbel.trans (hst.mono hsz)
      replace hsz := hbel.size
      replace BR := hid (BR.out.below hst BR.out.lt)
      replace BQ := hid (BQ.out.below hst BQ.out.lt)
      replace HX := hid (HX.out.below hst hst.size)
      replace HWL := hid (HWL.out.below hst hst.size)
      clear hb hst
      go_wp2
      go_ret
      exact ⟨rfl, hbel⟩
    · intro X1 hX1 hX1p
      (go_simp; simp only [LUpon, Act.put]; try simp only [List.setIfInBounds_toArray, List.set_cons_zero, List.set_cons_succ])
      refine ⟨hX1p.alloc hX1p.size _, ?_⟩
      have b9 : Blk (X1.alloc (.cells #[.int .i64 0, .int .i64 0] 24)) X1.heap.size 24 #[.int .i64 0, .int .i64 0] := Blk.new _ _ _
      have hB9 : V94.heap.size ≤ X1.heap.size := hX1p.size
      generalize X1.heap.size = B9 at *
      generalize X1.alloc (.cells #[.int .i64 0, .int .i64 0] 24) = Z1b at *
      (refine wpM_one 1 _ (by simp only [List.getElem?_toArray, List.getElem?_cons_zero, List.getElem?_cons_succ]; rfl) (by kernel_rfl) (by rfl) ?_)
      intro X2 hX2 hX2p
      replace b9 := b9.below hX2 b9.lt
      have b9n := b9.alloc (.cells #[.int .i64 1000, .int .i64 1000, .int .i64 0, .int .i64 0] 85)
      (go_simp; simp only [LUpon, Act.put]; try simp only [List.setIfInBounds_toArray, List.set_cons_zero, List.set_cons_succ])
      refine ⟨hX2p.alloc hX2p.size _, ?_⟩
      have bm : Blk (X2.alloc (.cells #[.int .i64 1000, .int .i64 1000, .int .i64 0, .int .i64 0] 85)) X2.heap.size 85 #[.int .i64 1000, .int .i64 1000, .int .i64 0, .int .i64 0] := Blk.new _ _ _
      have hq : Ext V94 (X2.alloc (.cells #[.int .i64 1000, .int .i64 1000, .int .i64 0, .int .i64 0] 85)) := hX2p.alloc hX2p.size _
      generalize X2.heap.size = gm at *
      generalize X2.alloc (.cells #[.int .i64 1000, .int .i64 1000, .int .i64 0, .int .i64 0] 85) = V105 at *
      have b9m : Blk V105 B9 24 #[.int .i64 0, .int .i64 0] := by assumption
      clear b9n hX1 hX1p hX2 hX2p
      (refine wpM_one 3 _ (by simp only [List.getElem?_toArray, List.getElem?_cons_zero, List.getElem?_cons_succ]; rfl) (by kernel_rfl) (by rfl) ?_)
      intro X3 hX3 hX3p
      replace b9 := b9m.below hX3 b9m.lt
      replace bm := bm.below hX3 bm.lt
      clear b9m
      (go_simp; simp only [LUpon, Act.put]; try simp only [List.setIfInBounds_toArray, List.set_cons_zero, List.set_cons_succ])
      refine (left53_any _ _ 1 1 [keepM] r8 (mts_keep bm) keepM_ok HR0o.out).mono ?_
      rw [HKEEP.out]
      rintro e X4 ⟨rfl, hb4⟩
      refine ⟨_, rfl, hX3p.trans' hb4, ?_⟩
      try simp only [Act.put, List.setIfInBounds_toArray, List.set_cons_zero, List.set_cons_succ]
      replace b9 := b9.below hb4 b9.lt
      refine (wpM_early (by kernel_rfl) [4, 5, 6] 2 _ _ (by kernel_rfl) ?_ : wpM Try.prog .any _ _ _ 5 _ _ _)
      simp only [pick, List.getElem?_toArray, List.getElem?_cons_zero, List.getElem?_cons_succ]
      iterate 3 (refine wpE_val (v := ?_) (by rfl) (fun W hW => ?_) ?_; rotate_left; (· obtain ⟨hcW, hfW⟩ := bcell hW; go_simp; with_reducible rfl); simp only [Act.put, List.setIfInBounds_toArray, List.set_cons_zero, List.set_cons_succ])
      simp only [wpE]
      (refine wpM_one 8 _ (by simp only [List.getElem?_toArray, List.getElem?_cons_zero, List.getElem?_cons_succ]; rfl) (by kernel_rfl) (by rfl) ?_)
      intro Z2 hZ2 hZ2p
      replace b9 := b9.below hZ2 b9.lt
      have q0 := b9.frozen 0
      have q1 := b9.frozen 1
      have u0 := b9.cell 0
      have u1 := b9.cell 1
      have hlt2 := b9.lt
      (go_simp; simp only [LUpon, Act.put]; try simp only [List.setIfInBounds_toArray, List.set_cons_zero, List.set_cons_succ])
      refine ⟨(hZ2p.setCell hB9 _).setCell hB9 _, ?_⟩
      replace b9 := b9.set2 (a := .int .i64 r8.lo) (b := .int .i64 r8.hi)
      clear q0 q1 u0 u1
      generalize (Z2.setCell ⟨B9, 0, none⟩ (.int .i64 r8.lo)).setCell ⟨B9, 1, none⟩ (.int .i64 r8.hi) = Z2b at *
      (refine wpM_one 9 _ (by simp only [List.getElem?_toArray, List.getElem?_cons_zero, List.getElem?_cons_succ]; rfl) (by kernel_rfl) (by rfl) ?_)
      intro Z3 hZ3 hZ3p
      replace b9 := b9.below hZ3 b9.lt
      (go_simp; simp only [LUpon, Act.put]; try simp only [List.setIfInBounds_toArray, List.set_cons_zero, List.set_cons_succ])
      refine ⟨hZ3p, ?_⟩
      refine wpM_end (by kernel_rfl) ?_
      intro V106 hZ4 hb
      have BQ := hid (b9.below hZ4 b9.lt)
      have hst : Below V94.heap.size V94 V106 := Below.trans (by repeat' (first | with_reducible assumption | with_reducible exact Below.refl _ _ | refine Below.alloc ?_ ?_ _ | refine Below.setCell ?_ ?_ _ | refine Below.drew ?_ | refine below_drewN ?_ _ | (simp; done) | (simp; omega) | omega)) (hb.mono (by first | (simp; done) | (simp; omega) | omega))
      replace hbel := hbel.trans (hst.mono hsz)
      replace hsz := hbel.size
      replace BR := hid (BR.out.below hst BR.out.lt)
      replace HX := hid (HX.out.below hst hst.size)
      replace HWL := hid (HWL.out.below hst hst.size)
      clear hb hst
      have BQ_c0 := BQ.out.cell 0
      have BQ_c1 := BQ.out.cell 1
      have BQ_l := BQ.out.lt
      have BR_c0 := BR.out.cell 0
      have BR_c1 := BR.out.cell 1
      have BR_l := BR.out.lt
      go_wp2_with (fail)
      refine (works_any _).mono ?_
      rintro e V107 ⟨rfl, hb⟩
      have hst : Below V106.heap.size V106 V107 := Below.trans (by repeat' (first | with_reducible assumption | with_reducible exact Below.refl _ _ | refine Below.alloc ?_ ?_ _ | refine Below.setCell ?_ ?_ _ | refine Below.drew ?_ | refine below_drewN ?_ _ | (simp; done) | (simp; omega) | omega)) (hb.mono (by first | (simp; done) | (simp; omega) | omega))
      replace hbel := hbel.trans (hst.mono hsz)
      replace hsz := hbel.size
      replace BR := hid (BR.out.below hst BR.out.lt)
      replace BQ := hid (BQ.out.below hst BQ.out.lt)
      replace HX := hid (HX.out.below hst hst.size)
      replace HWL := hid (HWL.out.below hst hst.size)
      clear hb hst
      go_wp2
      go_ret
      exact ⟨rfl, hbel⟩
set_option maxRecDepth 100000 in
set_option maxHeartbeats 4000000 in
theorem better_walk (w : World) (A A1 A2 : Option Addr) (n c n1 c1 n2 c2 : Nat) (row : List Mt) (sc : List Rg) (by_ : List Int) (x2 x4 x5 : Int) (hr : MtS w w.heap.size A n row) (hnc : n ≤ c) (hr' : RgS w w.heap.size A1 n1 sc) (hb : SmS .u16 w w.heap.size A2 n2 by_) (hby : ∀ x ∈ by_, 0 ≤ x ∧ x ≤ 65535)
    (a0 : 0 ≤ x2 ∧ x2 ≤ 4294967295) (b0 : 0 ≤ x4 ∧ x4 ≤ 255) (d0 : 0 ≤ x5 ∧ x5 ≤ 255) :
    Calls Try.prog 15 #[.slice A n c, .slice A1 n1 c1, .int .u32 x2, .slice A2 n2 c2, .int .u8 x4, .int .u8 x5] w fun e w' => e = .returned (.bool true) ∧ Below w.heap.size w w' := by
  by_cases h0 : checkScales row sc = 0
  · by_cases hn2 : n2 ≤ 20
    · have hl := hr.len
      have hk := checkRow_ok (checkScales_ok h0).1
      have e1 := Int.emod_nonneg x4 (b := (n : Int)) (by omega)
      exact better_main w A A1 A2 n c n1 c1 n2 c2 row sc by_ x2 x4 x5 (x4 % (n : Int)).toNat hr hnc hr' hb hby hn2 h0 a0 b0 d0 (by omega)
    · have h20 : (20 : Int) < n2 := by omega
      have hd := hid (decide_eq_true h0)
      have HR := hid (fun V (h : Below w.heap.size w V) => hr.below h h.size)
      have HS := hid (fun V (h : Below w.heap.size w V) => hr'.below h h.size)
      clear hr hr' hb hby h0
      go_enter Try.func15, Try.ntmps15
      go_wp2_with (first | (go_at_call 48; refine (read_any _ _ _ n c n1 c1 row sc (HR.out _ ?_) (HS.out _ ?_)).mono ?_; (· exact (by repeat' (first | with_reducible assumption | with_reducible exact Below.refl _ _ | refine Below.alloc ?_ ?_ _ | refine Below.setCell ?_ ?_ _ | refine Below.drew ?_ | refine below_drewN ?_ _ | (simp; done) | (simp; omega) | omega))); (· exact (by repeat' (first | with_reducible assumption | with_reducible exact Below.refl _ _ | refine Below.alloc ?_ ?_ _ | refine Below.setCell ?_ ?_ _ | refine Below.drew ?_ | refine below_drewN ?_ _ | (simp; done) | (simp; omega) | omega))); rw [hd.out]; rintro e W1 ⟨rfl, hb⟩; have hbel : Below w.heap.size w W1 := Below.trans (by repeat' (first | with_reducible assumption | with_reducible exact Below.refl _ _ | refine Below.alloc ?_ ?_ _ | refine Below.setCell ?_ ?_ _ | refine Below.drew ?_ | refine below_drewN ?_ _ | (simp; done) | (simp; omega) | omega)) (hb.mono (by first | (simp; done) | (simp; omega) | omega))) | (go_at_call 19; refine (works_any _).mono ?_; rintro e W2 ⟨rfl, hb2⟩))
      go_ret
      exact ⟨rfl, Below.trans (by repeat' (first | with_reducible assumption | with_reducible exact Below.refl _ _ | refine Below.alloc ?_ ?_ _ | refine Below.setCell ?_ ?_ _ | refine Below.drew ?_ | refine below_drewN ?_ _ | (simp; done) | (simp; omega) | omega)) (hb2.mono hbel.size)⟩
  · have hd := hid (decide_eq_false h0)
    have HR := hid (fun V (h : Below w.heap.size w V) => hr.below h h.size)
    have HS := hid (fun V (h : Below w.heap.size w V) => hr'.below h h.size)
    clear hr hr' hb hby h0
    go_enter Try.func15, Try.ntmps15
    go_wp2_with (first | (go_at_call 48; refine (read_any _ _ _ n c n1 c1 row sc (HR.out _ ?_) (HS.out _ ?_)).mono ?_; (· exact (by repeat' (first | with_reducible assumption | with_reducible exact Below.refl _ _ | refine Below.alloc ?_ ?_ _ | refine Below.setCell ?_ ?_ _ | refine Below.drew ?_ | refine below_drewN ?_ _ | (simp; done) | (simp; omega) | omega))); (· exact (by repeat' (first | with_reducible assumption | with_reducible exact Below.refl _ _ | refine Below.alloc ?_ ?_ _ | refine Below.setCell ?_ ?_ _ | refine Below.drew ?_ | refine below_drewN ?_ _ | (simp; done) | (simp; omega) | omega))); rw [hd.out]; rintro e W1 ⟨rfl, hb⟩; have hbel : Below w.heap.size w W1 := Below.trans (by repeat' (first | with_reducible assumption | with_reducible exact Below.refl _ _ | refine Below.alloc ?_ ?_ _ | refine Below.setCell ?_ ?_ _ | refine Below.drew ?_ | refine below_drewN ?_ _ | (simp; done) | (simp; omega) | omega)) (hb.mono (by first | (simp; done) | (simp; omega) | omega))) | (go_at_call 19; refine (works_any _).mono ?_; rintro e W2 ⟨rfl, hb2⟩))
    go_ret
    exact ⟨rfl, Below.trans (by repeat' (first | with_reducible assumption | with_reducible exact Below.refl _ _ | refine Below.alloc ?_ ?_ _ | refine Below.setCell ?_ ?_ _ | refine Below.drew ?_ | refine below_drewN ?_ _ | (simp; done) | (simp; omega) | omega)) (hb2.mono hbel.size)⟩

section
open Go.ChangeShapes Go.WideShapes Go.ChangeAt Go.RowKit
set_option maxRecDepth 100000 in
theorem drossBetter_lifted (os : Os) (started : os.Started) (H : Type) (enc : TypeId × Value → H) :
    ReturnsInHanded {} Try.checked os 15 .any (Rows.drossBetterSpec.pre6 enc Try.prog Try.f15 Rows.drossBetterRow.domain false) (Rows.drossBetterSpec.post enc Try.prog Try.f15 false true false false) := by
  refine returnsInHanded_of_change (C := Try.checked) ownKx started (by kernel_rfl) Try.func15
    (ChangeSpec.witness6 (enc := enc) (C := Try.checked) false ⟨#[], #[.slice none 0 0, .slice none 0 0, .int .u32 0, .slice none 0 0, .int .u8 0, .int .u8 0], []⟩ 8 (by kernel_rfl) (by kernel_rfl) (by kernel_rfl) (by kernel_rfl)) ?_
  intro W base args ds gs before hval0 hW hcnd _
  have hval : ∀ (j : Nat) t v, Try.f15.params[j]? = some t → args[j]? = some v → Value.okWide Try.prog W .any base t v := hval0
  have hW' := hW
  obtain ⟨p, q, hA0, hV, rfl, hfz, hnd⟩ := hW
  have hA : DataW.TrodAll enc Try.prog W 0 (fun _ => true) true Try.f15.params.toList args.toList ds p := hA0
  have hlt : ∀ x ∈ p, x.block < W.heap.size := fun x hx => hW'.lt x (List.mem_append_left _ hx)
  have hAll : ∀ W', Below W.heap.size W W' → DataW.TrodAll enc Try.prog W' 0 (fun b => decide (b < W.heap.size)) true Try.f15.params.toList args.toList ds p := fun W' hb => all_below laidOut hb (readable_of (by kernel_rfl)) hlt hA
  rw [Try.params15] at hA hval
  obtain ⟨v0, v1, v2, v3, v4, v5, d0, d1, d2, d3, d4, d5, p0, p1, p2, p3, p4, p5, rfl, rfl, rfl, h0, h1, h2, h3, h4, h5⟩ := trodAll_six hA
  obtain ⟨rfl, rfl⟩ := trodVars_none hV
  clear hA0 hval0
  obtain ⟨A0, n0, c0, rfl⟩ := okWide_slice Try.underlying22 (hval 0 22 v0 rfl rfl)
  obtain ⟨hc0, l0, hl0, hr0⟩ := open_mts h0
  obtain ⟨A1, n1, c1, rfl⟩ := okWide_slice Try.underlying34 (hval 1 34 v1 rfl rfl)
  obtain ⟨hc1, l1, hl1, hr1⟩ := open_rgs h1
  obtain ⟨x2, rfl, rfl, rfl, wx2⟩ := open_int Try.underlying55 (hval 2 55 v2 rfl rfl) h2
  obtain ⟨A3, n3, c3, rfl⟩ := okWide_slice Try.underlying56 (hval 3 56 v3 rfl rfl)
  obtain ⟨hc3, l3, hl3, hr3⟩ := open_is Try.underlying56 Try.underlying73 (by kernel_rfl) h3
  obtain ⟨x4, rfl, rfl, rfl, wx4⟩ := open_int Try.underlying5 (hval 4 5 v4 rfl rfl) h4
  obtain ⟨x5, rfl, rfl, rfl, wx5⟩ := open_int Try.underlying5 (hval 5 5 v5 rfl rfl) h5
  refine (better_walk W A0 A1 A3 n0 c0 n1 c1 n3 c3 l0 l1 (l3.map (·.1)) x2 x4 x5 hr0 hc0 hr1 (sm_of hr3) sm16_bd (u32_bdx wx2) (u8_bdx wx4) (u8_bdx wx5)).mono fun e W' ⟨he, hb⟩ => ?_
  subst he
  exact ⟨_, rfl, ⟨_, _, _, [], _, [], hW', trodAll_cons_mk (shut_bool Try.underlying4 _) trodAll_mk0, hAll W' hb, rfl, hb.frame _, fun h => by cases h⟩⟩
/-- The law: whatever the input, it returns true, and the input reads as it did. -/
theorem drossBetter_holds : Rows.DrossBetterSaid :=
  OpenClaim.holds_of_wide 15 Try.f15 rfl rfl rfl rfl rfl rfl rfl ⟨rfl, rfl, rfl, rfl, rfl⟩ rfl rfl rfl rfl rfl (by kernel_rfl) Try.func15 (by kernel_rfl)
    (of_decide_eq_true (by kernel_rfl)) (by unfold Func.isWrapper; first | (rw [if_pos (by decide +kernel)]; kernel_rfl) | (rw [if_neg (by decide +kernel)]; exact ⟨rfl, rfl⟩))
    (fun os started H enc _ => drossBetter_lifted os started H enc)
end
end Go.Proofs.Ytdcglphekafpdaa
