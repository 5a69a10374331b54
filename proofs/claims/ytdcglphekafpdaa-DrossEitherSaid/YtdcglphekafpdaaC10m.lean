/- The statement DrossEither holds: whatever the arguments, the law returns true and leaves its arguments as they were. -/
import Derived.Test.YtdcglphekafpdaaMr
import Derived.Test.YtdcglphekafpdaaMk
namespace Go.Proofs.Ytdcglphekafpdaa
open Go.RowKit Go.Shelf
set_option maxRecDepth 100000 in
set_option maxHeartbeats 4000000 in
theorem either_main (w : World) (A A1 A2 : Option Addr) (n c n1 c1 n2 c2 : Nat) (row : List Mt) (sc : List Rg) (by_ : List Int) (x3 x4 x5 : Int) (a y : Nat) (hr : MtS w w.heap.size A n row) (hnc : n ≤ c) (hr' : RgS w w.heap.size A1 n1 sc) (hb : SmS .u16 w w.heap.size A2 n2 by_) (hby : ∀ x ∈ by_, 0 ≤ x ∧ x ≤ 65535) (hn2 : n2 ≤ 20)
    (h0 : checkScales row sc = 0) (a0 : 0 ≤ x3 ∧ x3 ≤ 4294967295) (b0 : 0 ≤ x4 ∧ x4 ≤ 255) (d0 : 0 ≤ x5 ∧ x5 ≤ 255) (ha : x4 % (n : Int) = a) (hy : (a : Int) + 1 + x5 % ((n : Int) - a) = y) :
    Calls Try.prog 7 #[.slice A n c, .slice A1 n1 c1, .int .u32 x3, .slice A2 n2 c2, .int .u8 x4, .int .u8 x5] w fun e w' => e = .returned (.bool true) ∧ Below w.heap.size w w' := by
  obtain ⟨k1, k2, k3⟩ := checkScales_ok h0
  obtain ⟨k4, k5, k6⟩ := checkRow_ok k1
  have hlen := hr.len
  have hlen' := hr'.len
  have hn : n ≤ 12 := by omega
  have hn1 : n1 ≤ 12 := by omega
  have e1 := Int.emod_nonneg x4 (b := (n : Int)) (by omega)
  have e2 := Int.emod_lt_of_pos x4 (b := (n : Int)) (by omega)
  have e3 := Int.emod_nonneg x5 (b := (n : Int) - a) (by omega)
  have e4 := Int.emod_lt_of_pos x5 (b := (n : Int) - a) (by omega)
  have hay : a < y := by omega
  have hyn : y ≤ row.length := by omega
  have m0 : 0 ≤ x3 % 1000001 := by omega
  have m1 : x3 % 1000001 ≤ 1000000 := by omega
  have z1 : x4.tmod (n : Int) = a := by rw [Int.tmod_eq_emod_of_nonneg b0.1]; exact ha
  have z2 : ¬ ((n : Int) = 0) := by omega
  have z3 : ¬ ((n : Int) - a = 0) := by omega
  have z4 : IntKind.i64.wrap ((n : Int) - a) = (n : Int) - a := IntWalk.i64_in _ (by omega)
  have z5 : x5.tmod ((n : Int) - a) = x5 % ((n : Int) - a) := Int.tmod_eq_emod_of_nonneg d0.1
  have z6 : IntKind.i64.wrap (x5 % ((n : Int) - a)) = x5 % ((n : Int) - a) := IntWalk.i64_in _ (by omega)
  have z7 : IntKind.i64.wrap ((a : Int) + 1) = (a : Int) + 1 := IntWalk.i64_in _ (by omega)
  have z8 : IntKind.i64.wrap ((a : Int) + 1 + x5 % ((n : Int) - a)) = y := by rw [hy]; exact IntWalk.i64_in _ (by omega)
  have n20 : ¬ ((20 : Int) < n2) := by omega
  have HOR := hid (clash_or h0 hay hyn)
  have HOW := hid (own_or h0 m0 m1 by_)
  have HYES := hid (fun hp => And.intro (either_yes h0 hp) (clash_yes h0 hp hay hyn))
  have HNO := hid (either_no h0)
  have HSOME := hid (fun (i k : Nat) (p1 : i < k) (p2 : k ≤ row.length) (p3 : sideV row sc i k ≠ 0) => clash_some h0 p1 p2 p3)
  have hwl0 := wghL_len row (x3 % 1000001) by_
  have HR := hid (fun V (h : Below w.heap.size w V) => hr.below h h.size)
  have HS := hid (fun V (h : Below w.heap.size w V) => hr'.below h h.size)
  have HB := hid (fun V (h : Below w.heap.size w V) => hb.below h h.size)
  have hd := hid (decide_eq_true h0)
  have H0 := hid h0
  have HK1 := hid k1
  have hby' := hid hby
  have hn9 : n + 1 ≤ 100 := by omega
  clear hr hr' hb hby h0 k1 k2 k3 k4 k5 k6 hlen hlen' e1 e2 e3 e4 hwl0 hay hyn ha hy
  go_enter Try.func7, Try.ntmps7
  have hbel : Below w.heap.size w w := Below.refl _ _
  have hsz := hbel.size
  go_wp2_with (fail)
  refine (read_any _ _ _ n c n1 c1 row sc (HR.out _ ?_) (HS.out _ ?_)).mono ?_
  · exact (by repeat' (first | with_reducible assumption | with_reducible exact Below.refl _ _ | refine Below.alloc ?_ ?_ _ | refine Below.setCell ?_ ?_ _ | refine Below.drew ?_ | refine below_drewN ?_ _ | (simp; done) | (simp; omega) | omega))
  · exact (by repeat' (first | with_reducible assumption | with_reducible exact Below.refl _ _ | refine Below.alloc ?_ ?_ _ | refine Below.setCell ?_ ?_ _ | refine Below.drew ?_ | refine below_drewN ?_ _ | (simp; done) | (simp; omega) | omega))
  rw [hd.out]
  rintro e V1 ⟨rfl, hb⟩
  have hst : Below w.heap.size w V1 := Below.trans (by repeat' (first | with_reducible assumption | with_reducible exact Below.refl _ _ | refine Below.alloc ?_ ?_ _ | refine Below.setCell ?_ ?_ _ | refine Below.drew ?_ | refine below_drewN ?_ _ | (simp; done) | (simp; omega) | omega)) (hb.mono (by first | (simp; done) | (simp; omega) | omega))
  replace hbel := hbel.trans (hst.mono hsz)
  replace hsz := hbel.size
  clear hb hst
  go_wp2_with (fail)
  refine (possible_any _ _ _ n c n1 c1 row sc (HR.out _ ?_) (HS.out _ ?_) H0.out).mono ?_
  · exact (by repeat' (first | with_reducible assumption | with_reducible exact Below.refl _ _ | refine Below.alloc ?_ ?_ _ | refine Below.setCell ?_ ?_ _ | refine Below.drew ?_ | refine below_drewN ?_ _ | (simp; done) | (simp; omega) | omega))
  · exact (by repeat' (first | with_reducible assumption | with_reducible exact Below.refl _ _ | refine Below.alloc ?_ ?_ _ | refine Below.setCell ?_ ?_ _ | refine Below.drew ?_ | refine below_drewN ?_ _ | (simp; done) | (simp; omega) | omega))
  rintro e V2 ⟨rfl, hb⟩
  have hst : Below V1.heap.size V1 V2 := Below.trans (by repeat' (first | with_reducible assumption | with_reducible exact Below.refl _ _ | refine Below.alloc ?_ ?_ _ | refine Below.setCell ?_ ?_ _ | refine Below.drew ?_ | refine below_drewN ?_ _ | (simp; done) | (simp; omega) | omega)) (hb.mono (by first | (simp; done) | (simp; omega) | omega))
  replace hbel := hbel.trans (hst.mono hsz)
  replace hsz := hbel.size
  clear hb hst
  obtain ⟨po, hpo⟩ : ∃ po, possB row sc = po := ⟨_, rfl⟩
  rw [hpo]
  have HPO := hid hpo
  clear hpo
  obtain ⟨cr, hcr⟩ : ∃ cr, clashR row sc = cr := ⟨_, rfl⟩
  have HCR := hid hcr
  clear hcr
  obtain ⟨ev, hev⟩ : ∃ ev, clashV row sc a y = ev := ⟨_, rfl⟩
  have HEV := hid hev
  clear hev
  obtain ⟨ee, hee⟩ : ∃ ee, clashE row sc a y = ee := ⟨_, rfl⟩
  have HEE := hid hee
  clear hee
  obtain ⟨ow, how⟩ : ∃ ow, truthE row sc (wghL row (x3 % 1000001) by_) = ow := ⟨_, rfl⟩
  have HOO := hid how
  clear how
  cases po
  · obtain ⟨i, k, i1, i2, i3, i4⟩ := HNO.out HPO.out
    obtain ⟨s1, s2⟩ := HSOME.out i k i1 i2 i3
    have HC4 := hid (HCR.out.symm.trans i4)
    have hw16 : ow = 16 := by
     rcases HOW.out with ⟨_, h2⟩ | h1
     · rw [HPO.out] at h2; cases h2
     · rw [← HOO.out]; exact h1
    subst hw16
    have ik1 : (i : Int) < k := by omega
    have S1 := hid s1
    have S2 := hid s2
    clear i1 i3 i4 s1 s2
    go_wp2_with (fail)
    refine (dClash_any _ _ _ n c n1 c1 row sc (HR.out _ ?_) hn hnc (HS.out _ ?_) hn1).mono ?_
    · exact (by repeat' (first | with_reducible assumption | with_reducible exact Below.refl _ _ | refine Below.alloc ?_ ?_ _ | refine Below.setCell ?_ ?_ _ | refine Below.drew ?_ | refine below_drewN ?_ _ | (simp; done) | (simp; omega) | omega))
    · exact (by repeat' (first | with_reducible assumption | with_reducible exact Below.refl _ _ | refine Below.alloc ?_ ?_ _ | refine Below.setCell ?_ ?_ _ | refine Below.drew ?_ | refine below_drewN ?_ _ | (simp; done) | (simp; omega) | omega))
    rw [HCR.out, HC4.out]
    rintro e V3 ⟨rfl, hb⟩
    have hst : Below V2.heap.size V2 V3 := Below.trans (by repeat' (first | with_reducible assumption | with_reducible exact Below.refl _ _ | refine Below.alloc ?_ ?_ _ | refine Below.setCell ?_ ?_ _ | refine Below.drew ?_ | refine below_drewN ?_ _ | (simp; done) | (simp; omega) | omega)) (hb.mono (by first | (simp; done) | (simp; omega) | omega))
    replace hbel := hbel.trans (hst.mono hsz)
    replace hsz := hbel.size
    clear hb hst
    go_wp2_with (fail)
    refine (dCheckClash_any _ _ _ n c n1 c1 row sc a y (HR.out _ ?_) hn hnc (HS.out _ ?_) hn1).mono ?_
    · exact (by repeat' (first | with_reducible assumption | with_reducible exact Below.refl _ _ | refine Below.alloc ?_ ?_ _ | refine Below.setCell ?_ ?_ _ | refine Below.drew ?_ | refine below_drewN ?_ _ | (simp; done) | (simp; omega) | omega))
    · exact (by repeat' (first | with_reducible assumption | with_reducible exact Below.refl _ _ | refine Below.alloc ?_ ?_ _ | refine Below.setCell ?_ ?_ _ | refine Below.drew ?_ | refine below_drewN ?_ _ | (simp; done) | (simp; omega) | omega))
    rw [HEV.out, HEE.out]
    rintro e V4 ⟨rfl, hb⟩
    have hst : Below V3.heap.size V3 V4 := Below.trans (by repeat' (first | with_reducible assumption | with_reducible exact Below.refl _ _ | refine Below.alloc ?_ ?_ _ | refine Below.setCell ?_ ?_ _ | refine Below.drew ?_ | refine below_drewN ?_ _ | (simp; done) | (simp; omega) | omega)) (hb.mono (by first | (simp; done) | (simp; omega) | omega))
    replace hbel := hbel.trans (hst.mono hsz)
    replace hsz := hbel.size
    clear hb hst
    go_wp2_with (fail)
    refine (chosen_any _ a0.1 a0.2 _).mono ?_
    rintro e W1 ⟨rfl, rfl⟩
    go_wp2_with (fail)
    refine (weighed_any _ _ _ n c n2 c2 row (x3 % 1000001) by_ (HR.out _ ?_) HK1.out m0 m1 (HB.out _ ?_) hby'.out hn2).mono ?_
    · exact (by repeat' (first | with_reducible assumption | with_reducible exact Below.refl _ _ | refine Below.alloc ?_ ?_ _ | refine Below.setCell ?_ ?_ _ | refine Below.drew ?_ | refine below_drewN ?_ _ | (simp; done) | (simp; omega) | omega))
    · exact (by repeat' (first | with_reducible assumption | with_reducible exact Below.refl _ _ | refine Below.alloc ?_ ?_ _ | refine Below.setCell ?_ ?_ _ | refine Below.drew ?_ | refine below_drewN ?_ _ | (simp; done) | (simp; omega) | omega))
    rintro e V5 ⟨A3, c3, rfl, hwl, hb⟩
    have hst : Below V4.heap.size V4 V5 := Below.trans (by repeat' (first | with_reducible assumption | with_reducible exact Below.refl _ _ | refine Below.alloc ?_ ?_ _ | refine Below.setCell ?_ ?_ _ | refine Below.drew ?_ | refine below_drewN ?_ _ | (simp; done) | (simp; omega) | omega)) (hb.mono (by first | (simp; done) | (simp; omega) | omega))
    replace hbel := hbel.trans (hst.mono hsz)
    replace hsz := hbel.size
    clear hb hst
    have HWL := hid hwl
    clear hwl
    go_wp2_with (fail)
    refine (dCheckTruth_any _ _ _ A3 n c n1 c1 (n + 1) c3 row sc _ (HR.out _ ?_) hn (HS.out _ ?_) hn1 (HWL.out.below (Below.refl _ _) (Nat.le_refl _)) hn9).mono ?_
    · exact (by repeat' (first | with_reducible assumption | with_reducible exact Below.refl _ _ | refine Below.alloc ?_ ?_ _ | refine Below.setCell ?_ ?_ _ | refine Below.drew ?_ | refine below_drewN ?_ _ | (simp; done) | (simp; omega) | omega))
    · exact (by repeat' (first | with_reducible assumption | with_reducible exact Below.refl _ _ | refine Below.alloc ?_ ?_ _ | refine Below.setCell ?_ ?_ _ | refine Below.drew ?_ | refine below_drewN ?_ _ | (simp; done) | (simp; omega) | omega))
    rw [HOO.out]
    rintro e V6 ⟨rfl, hb⟩
    have hst : Below V5.heap.size V5 V6 := Below.trans (by repeat' (first | with_reducible assumption | with_reducible exact Below.refl _ _ | refine Below.alloc ?_ ?_ _ | refine Below.setCell ?_ ?_ _ | refine Below.drew ?_ | refine below_drewN ?_ _ | (simp; done) | (simp; omega) | omega)) (hb.mono (by first | (simp; done) | (simp; omega) | omega))
    replace hbel := hbel.trans (hst.mono hsz)
    replace hsz := hbel.size
    replace HWL := hid (HWL.out.below hst hst.size)
    clear hb hst
    obtain ⟨v2, hv2⟩ : ∃ v2, clashV row sc i k = v2 := ⟨_, rfl⟩
    have HV2 := hid hv2
    rw [hv2] at S2
    clear hv2
    have hcase : (ee = 0 ∧ (ev = 1 ∨ ev = 2)) ∨ (ee = 5 ∧ ev = 0) := by rw [← HEE.out, ← HEV.out]; exact HOR.out
    rcases hcase with ⟨rfl, rfl | rfl⟩ | ⟨rfl, rfl⟩
    all_goals rcases S2.out with rfl | rfl
    all_goals
      clear S2
      go_wp2_with (fail)
      refine (dCheckClash_any _ _ _ n c n1 c1 row sc i k (HR.out _ ?_) hn hnc (HS.out _ ?_) hn1).mono ?_
      · exact (by repeat' (first | with_reducible assumption | with_reducible exact Below.refl _ _ | refine Below.alloc ?_ ?_ _ | refine Below.setCell ?_ ?_ _ | refine Below.drew ?_ | refine below_drewN ?_ _ | (simp; done) | (simp; omega) | omega))
      · exact (by repeat' (first | with_reducible assumption | with_reducible exact Below.refl _ _ | refine Below.alloc ?_ ?_ _ | refine Below.setCell ?_ ?_ _ | refine Below.drew ?_ | refine below_drewN ?_ _ | (simp; done) | (simp; omega) | omega))
      rw [HV2.out, S1.out]
      rintro e V7 ⟨rfl, hb⟩
      have hst : Below V6.heap.size V6 V7 := Below.trans (by repeat' (first | with_reducible assumption | with_reducible exact Below.refl _ _ | refine Below.alloc ?_ ?_ _ | refine Below.setCell ?_ ?_ _ | refine Below.drew ?_ | refine below_drewN ?_ _ | (simp; done) | (simp; omega) | omega)) (hb.mono (by first | (simp; done) | (simp; omega) | omega))
      replace hbel := hbel.trans (hst.mono hsz)
      replace hsz := hbel.size
      replace HWL := hid (HWL.out.below hst hst.size)
      clear hb hst
      go_wp2_with (fail)
      refine (refCheckClash_any _ _ _ n c n1 c1 row sc i k (HR.out _ ?_) hn hnc (HS.out _ ?_) hn1).mono ?_
      · exact (by repeat' (first | with_reducible assumption | with_reducible exact Below.refl _ _ | refine Below.alloc ?_ ?_ _ | refine Below.setCell ?_ ?_ _ | refine Below.drew ?_ | refine below_drewN ?_ _ | (simp; done) | (simp; omega) | omega))
      · exact (by repeat' (first | with_reducible assumption | with_reducible exact Below.refl _ _ | refine Below.alloc ?_ ?_ _ | refine Below.setCell ?_ ?_ _ | refine Below.drew ?_ | refine below_drewN ?_ _ | (simp; done) | (simp; omega) | omega))
      rw [HV2.out, S1.out]
      rintro e V8 ⟨rfl, hb⟩
      have hst : Below V7.heap.size V7 V8 := Below.trans (by repeat' (first | with_reducible assumption | with_reducible exact Below.refl _ _ | refine Below.alloc ?_ ?_ _ | refine Below.setCell ?_ ?_ _ | refine Below.drew ?_ | refine below_drewN ?_ _ | (simp; done) | (simp; omega) | omega)) (hb.mono (by first | (simp; done) | (simp; omega) | omega))
      replace hbel := hbel.trans (hst.mono hsz)
      replace hsz := hbel.size
      replace HWL := hid (HWL.out.below hst hst.size)
      clear hb hst
      go_wp2_with (fail)
      refine (works_any _).mono ?_
      rintro e V9 ⟨rfl, hb⟩
      have hst : Below V8.heap.size V8 V9 := Below.trans (by repeat' (first | with_reducible assumption | with_reducible exact Below.refl _ _ | refine Below.alloc ?_ ?_ _ | refine Below.setCell ?_ ?_ _ | refine Below.drew ?_ | refine below_drewN ?_ _ | (simp; done) | (simp; omega) | omega)) (hb.mono (by first | (simp; done) | (simp; omega) | omega))
      replace hbel := hbel.trans (hst.mono hsz)
      replace hsz := hbel.size
      replace HWL := hid (HWL.out.below hst hst.size)
      clear hb hst
      go_wp2
      go_ret
      exact ⟨rfl, hbel⟩
  · obtain ⟨i4, s1, s2⟩ := HYES.out HPO.out
    have hev0 : ev = 0 := by rw [← HEV.out]; exact s1
    have hee5 : ee = 5 := by rw [← HEE.out]; exact s2
    subst hev0
    subst hee5
    have HC4 := hid (HCR.out.symm.trans i4)
    clear i4 s1 s2
    have hw : ow = 0 ∨ ow = 16 := by
     rw [← HOO.out]
     rcases HOW.out with ⟨h1, _⟩ | h1
     · exact .inl h1
     · exact .inr h1
    go_wp2_with (fail)
    refine (dClash_any _ _ _ n c n1 c1 row sc (HR.out _ ?_) hn hnc (HS.out _ ?_) hn1).mono ?_
    · exact (by repeat' (first | with_reducible assumption | with_reducible exact Below.refl _ _ | refine Below.alloc ?_ ?_ _ | refine Below.setCell ?_ ?_ _ | refine Below.drew ?_ | refine below_drewN ?_ _ | (simp; done) | (simp; omega) | omega))
    · exact (by repeat' (first | with_reducible assumption | with_reducible exact Below.refl _ _ | refine Below.alloc ?_ ?_ _ | refine Below.setCell ?_ ?_ _ | refine Below.drew ?_ | refine below_drewN ?_ _ | (simp; done) | (simp; omega) | omega))
    rw [HCR.out, HC4.out]
    rintro e V3 ⟨rfl, hb⟩
    have hst : Below V2.heap.size V2 V3 := Below.trans (by repeat' (first | with_reducible assumption | with_reducible exact Below.refl _ _ | refine Below.alloc ?_ ?_ _ | refine Below.setCell ?_ ?_ _ | refine Below.drew ?_ | refine below_drewN ?_ _ | (simp; done) | (simp; omega) | omega)) (hb.mono (by first | (simp; done) | (simp; omega) | omega))
    replace hbel := hbel.trans (hst.mono hsz)
    replace hsz := hbel.size
    clear hb hst
    go_wp2_with (fail)
    refine (dCheckClash_any _ _ _ n c n1 c1 row sc a y (HR.out _ ?_) hn hnc (HS.out _ ?_) hn1).mono ?_
    · exact (by repeat' (first | with_reducible assumption | with_reducible exact Below.refl _ _ | refine Below.alloc ?_ ?_ _ | refine Below.setCell ?_ ?_ _ | refine Below.drew ?_ | refine below_drewN ?_ _ | (simp; done) | (simp; omega) | omega))
    · exact (by repeat' (first | with_reducible assumption | with_reducible exact Below.refl _ _ | refine Below.alloc ?_ ?_ _ | refine Below.setCell ?_ ?_ _ | refine Below.drew ?_ | refine below_drewN ?_ _ | (simp; done) | (simp; omega) | omega))
    rw [HEV.out, HEE.out]
    rintro e V4 ⟨rfl, hb⟩
    have hst : Below V3.heap.size V3 V4 := Below.trans (by repeat' (first | with_reducible assumption | with_reducible exact Below.refl _ _ | refine Below.alloc ?_ ?_ _ | refine Below.setCell ?_ ?_ _ | refine Below.drew ?_ | refine below_drewN ?_ _ | (simp; done) | (simp; omega) | omega)) (hb.mono (by first | (simp; done) | (simp; omega) | omega))
    replace hbel := hbel.trans (hst.mono hsz)
    replace hsz := hbel.size
    clear hb hst
    go_wp2_with (fail)
    refine (chosen_any _ a0.1 a0.2 _).mono ?_
    rintro e W1 ⟨rfl, rfl⟩
    go_wp2_with (fail)
    refine (weighed_any _ _ _ n c n2 c2 row (x3 % 1000001) by_ (HR.out _ ?_) HK1.out m0 m1 (HB.out _ ?_) hby'.out hn2).mono ?_
    · exact (by repeat' (first | with_reducible assumption | with_reducible exact Below.refl _ _ | refine Below.alloc ?_ ?_ _ | refine Below.setCell ?_ ?_ _ | refine Below.drew ?_ | refine below_drewN ?_ _ | (simp; done) | (simp; omega) | omega))
    · exact (by repeat' (first | with_reducible assumption | with_reducible exact Below.refl _ _ | refine Below.alloc ?_ ?_ _ | refine Below.setCell ?_ ?_ _ | refine Below.drew ?_ | refine below_drewN ?_ _ | (simp; done) | (simp; omega) | omega))
    rintro e V5 ⟨A3, c3, rfl, hwl, hb⟩
    have hst : Below V4.heap.size V4 V5 := Below.trans (by repeat' (first | with_reducible assumption | with_reducible exact Below.refl _ _ | refine Below.alloc ?_ ?_ _ | refine Below.setCell ?_ ?_ _ | refine Below.drew ?_ | refine below_drewN ?_ _ | (simp; done) | (simp; omega) | omega)) (hb.mono (by first | (simp; done) | (simp; omega) | omega))
    replace hbel := hbel.trans (hst.mono hsz)
    replace hsz := hbel.size
    clear hb hst
    have HWL := hid hwl
    clear hwl
    go_wp2_with (fail)
    refine (dCheckTruth_any _ _ _ A3 n c n1 c1 (n + 1) c3 row sc _ (HR.out _ ?_) hn (HS.out _ ?_) hn1 (HWL.out.below (Below.refl _ _) (Nat.le_refl _)) hn9).mono ?_
    · exact (by repeat' (first | with_reducible assumption | with_reducible exact Below.refl _ _ | refine Below.alloc ?_ ?_ _ | refine Below.setCell ?_ ?_ _ | refine Below.drew ?_ | refine below_drewN ?_ _ | (simp; done) | (simp; omega) | omega))
    · exact (by repeat' (first | with_reducible assumption | with_reducible exact Below.refl _ _ | refine Below.alloc ?_ ?_ _ | refine Below.setCell ?_ ?_ _ | refine Below.drew ?_ | refine below_drewN ?_ _ | (simp; done) | (simp; omega) | omega))
    rw [HOO.out]
    rintro e V6 ⟨rfl, hb⟩
    have hst : Below V5.heap.size V5 V6 := Below.trans (by repeat' (first | with_reducible assumption | with_reducible exact Below.refl _ _ | refine Below.alloc ?_ ?_ _ | refine Below.setCell ?_ ?_ _ | refine Below.drew ?_ | refine below_drewN ?_ _ | (simp; done) | (simp; omega) | omega)) (hb.mono (by first | (simp; done) | (simp; omega) | omega))
    replace hbel := hbel.trans (hst.mono hsz)
    replace hsz := hbel.size
    replace HWL := hid (HWL.out.below hst hst.size)
    clear hb hst
    rcases hw with rfl | rfl
    all_goals
      go_wp2_with (fail)
      refine (works_any _).mono ?_
      rintro e V7 ⟨rfl, hb⟩
      have hst : Below V6.heap.size V6 V7 := Below.trans (by repeat' (first | with_reducible assumption | with_reducible exact Below.refl _ _ | refine Below.alloc ?_ ?_ _ | refine Below.setCell ?_ ?_ _ | refine Below.drew ?_ | refine below_drewN ?_ _ | (simp; done) | (simp; omega) | omega)) (hb.mono (by first | (simp; done) | (simp; omega) | omega))
      replace hbel := hbel.trans (hst.mono hsz)
      replace hsz := hbel.size
      replace HWL := hid (HWL.out.below hst hst.size)
      clear hb hst
      go_wp2
      go_ret
      exact ⟨rfl, hbel⟩
set_option maxRecDepth 100000 in
set_option maxHeartbeats 4000000 in
theorem either_walk (w : World) (A A1 A2 : Option Addr) (n c n1 c1 n2 c2 : Nat) (row : List Mt) (sc : List Rg) (by_ : List Int) (x3 x4 x5 : Int) (hr : MtS w w.heap.size A n row) (hnc : n ≤ c) (hr' : RgS w w.heap.size A1 n1 sc) (hb : SmS .u16 w w.heap.size A2 n2 by_) (hby : ∀ x ∈ by_, 0 ≤ x ∧ x ≤ 65535)
    (a0 : 0 ≤ x3 ∧ x3 ≤ 4294967295) (b0 : 0 ≤ x4 ∧ x4 ≤ 255) (d0 : 0 ≤ x5 ∧ x5 ≤ 255) :
    Calls Try.prog 7 #[.slice A n c, .slice A1 n1 c1, .int .u32 x3, .slice A2 n2 c2, .int .u8 x4, .int .u8 x5] w fun e w' => e = .returned (.bool true) ∧ Below w.heap.size w w' := by
  have HR := hid (fun V (h : Below w.heap.size w V) => hr.below h h.size)
  have HS := hid (fun V (h : Below w.heap.size w V) => hr'.below h h.size)
  by_cases h0 : checkScales row sc = 0
  · have hd := hid (decide_eq_true h0)
    by_cases hn2 : n2 ≤ 20
    · have hl := hr.len
      have hk := checkRow_ok (checkScales_ok h0).1
      have e1 := Int.emod_nonneg x4 (b := (n : Int)) (by omega)
      have e2 := Int.emod_lt_of_pos x4 (b := (n : Int)) (by omega)
      have e3 := Int.emod_nonneg x5 (b := (n : Int) - x4 % (n : Int)) (by omega)
      obtain ⟨a, ha⟩ : ∃ a : Nat, x4 % (n : Int) = a := ⟨(x4 % (n : Int)).toNat, by omega⟩
      rw [ha] at e3
      obtain ⟨y, hy⟩ : ∃ y : Nat, (a : Int) + 1 + x5 % ((n : Int) - a) = y := ⟨((a : Int) + 1 + x5 % ((n : Int) - a)).toNat, by omega⟩
      exact either_main w A A1 A2 n c n1 c1 n2 c2 row sc by_ x3 x4 x5 a y hr hnc hr' hb hby hn2 h0 a0 b0 d0 ha hy
    · have h20 : (20 : Int) < n2 := by omega
      clear hr hr' hb hby h0
      go_enter Try.func7, Try.ntmps7
      go_wp2_with (first | (go_at_call 48; refine (read_any _ _ _ n c n1 c1 row sc (HR.out _ ?_) (HS.out _ ?_)).mono ?_; (· exact (by repeat' (first | with_reducible assumption | with_reducible exact Below.refl _ _ | refine Below.alloc ?_ ?_ _ | refine Below.setCell ?_ ?_ _ | refine Below.drew ?_ | refine below_drewN ?_ _ | (simp; done) | (simp; omega) | omega))); (· exact (by repeat' (first | with_reducible assumption | with_reducible exact Below.refl _ _ | refine Below.alloc ?_ ?_ _ | refine Below.setCell ?_ ?_ _ | refine Below.drew ?_ | refine below_drewN ?_ _ | (simp; done) | (simp; omega) | omega))); rw [hd.out]; rintro e W1 ⟨rfl, hb⟩; have hbel : Below w.heap.size w W1 := Below.trans (by repeat' (first | with_reducible assumption | with_reducible exact Below.refl _ _ | refine Below.alloc ?_ ?_ _ | refine Below.setCell ?_ ?_ _ | refine Below.drew ?_ | refine below_drewN ?_ _ | (simp; done) | (simp; omega) | omega)) (hb.mono (by first | (simp; done) | (simp; omega) | omega))) | (go_at_call 19; refine (works_any _).mono ?_; rintro e W2 ⟨rfl, hb2⟩))
      go_ret
      exact ⟨rfl, Below.trans (by repeat' (first | with_reducible assumption | with_reducible exact Below.refl _ _ | refine Below.alloc ?_ ?_ _ | refine Below.setCell ?_ ?_ _ | refine Below.drew ?_ | refine below_drewN ?_ _ | (simp; done) | (simp; omega) | omega)) (hb2.mono hbel.size)⟩
  · have hd := hid (decide_eq_false h0)
    clear hr hr' hb hby h0
    go_enter Try.func7, Try.ntmps7
    go_wp2_with (first | (go_at_call 48; refine (read_any _ _ _ n c n1 c1 row sc (HR.out _ ?_) (HS.out _ ?_)).mono ?_; (· exact (by repeat' (first | with_reducible assumption | with_reducible exact Below.refl _ _ | refine Below.alloc ?_ ?_ _ | refine Below.setCell ?_ ?_ _ | refine Below.drew ?_ | refine below_drewN ?_ _ | (simp; done) | (simp; omega) | omega))); (· exact (by repeat' (first | with_reducible assumption | with_reducible exact Below.refl _ _ | refine Below.alloc ?_ ?_ _ | refine Below.setCell ?_ ?_ _ | refine Below.drew ?_ | refine below_drewN ?_ _ | (simp; done) | (simp; omega) | omega))); rw [hd.out]; rintro e W1 ⟨rfl, hb⟩; have hbel : Below w.heap.size w W1 := Below.trans (by repeat' (first | with_reducible assumption | with_reducible exact Below.refl _ _ | refine Below.alloc ?_ ?_ _ | refine Below.setCell ?_ ?_ _ | refine Below.drew ?_ | refine below_drewN ?_ _ | (simp; done) | (simp; omega) | omega)) (hb.mono (by first | (simp; done) | (simp; omega) | omega))) | (go_at_call 19; refine (works_any _).mono ?_; rintro e W2 ⟨rfl, hb2⟩))
    go_ret
    exact ⟨rfl, Below.trans (by repeat' (first | with_reducible assumption | with_reducible exact Below.refl _ _ | refine Below.alloc ?_ ?_ _ | refine Below.setCell ?_ ?_ _ | refine Below.drew ?_ | refine below_drewN ?_ _ | (simp; done) | (simp; omega) | omega)) (hb2.mono hbel.size)⟩

section
open Go.ChangeShapes Go.WideShapes Go.ChangeAt Go.RowKit
set_option maxRecDepth 100000 in
theorem drossEither_lifted (os : Os) (started : os.Started) (H : Type) (enc : TypeId × Value → H) :
    ReturnsInHanded {} Try.checked os 7 .any (Rows.drossEitherSpec.pre6 enc Try.prog Try.f7 Rows.drossEitherRow.domain false) (Rows.drossEitherSpec.post enc Try.prog Try.f7 false true false false) := by
  refine returnsInHanded_of_change (C := Try.checked) ownKx started (by kernel_rfl) Try.func7
    (ChangeSpec.witness6 (enc := enc) (C := Try.checked) false ⟨#[], #[.slice none 0 0, .slice none 0 0, .int .u32 0, .slice none 0 0, .int .u8 0, .int .u8 0], []⟩ 8 (by kernel_rfl) (by kernel_rfl) (by kernel_rfl) (by kernel_rfl)) ?_
  intro W base args ds gs before hval0 hW hcnd _
  have hval : ∀ (j : Nat) t v, Try.f7.params[j]? = some t → args[j]? = some v → Value.okWide Try.prog W .any base t v := hval0
  have hW' := hW
  obtain ⟨p, q, hA0, hV, rfl, hfz, hnd⟩ := hW
  have hA : DataW.TrodAll enc Try.prog W 0 (fun _ => true) true Try.f7.params.toList args.toList ds p := hA0
  have hlt : ∀ x ∈ p, x.block < W.heap.size := fun x hx => hW'.lt x (List.mem_append_left _ hx)
  have hAll : ∀ W', Below W.heap.size W W' → DataW.TrodAll enc Try.prog W' 0 (fun b => decide (b < W.heap.size)) true Try.f7.params.toList args.toList ds p := fun W' hb => all_below laidOut hb (readable_of (by kernel_rfl)) hlt hA
  rw [Try.params7] at hA hval
  obtain ⟨v0, v1, v2, v3, v4, v5, d0, d1, d2, d3, d4, d5, p0, p1, p2, p3, p4, p5, rfl, rfl, rfl, h0, h1, h2, h3, h4, h5⟩ := trodAll_six hA
  obtain ⟨rfl, rfl⟩ := trodVars_none hV
  clear hA0 hval0
  obtain ⟨A0, n0, c0, rfl⟩ := okWide_slice Try.underlying22 (hval 0 22 v0 rfl rfl)
  obtain ⟨hc0, l0, hl0, hr0⟩ := open_mts h0
  obtain ⟨A1, n1, c1, rfl⟩ := okWide_slice Try.underlying34 (hval 1 34 v1 rfl rfl)
  obtain ⟨hc1, l1, hl1, hr1⟩ := open_rgs h1
  obtain ⟨x2, rfl, rfl, rfl, wx2⟩ := open_int Try.underlying55 (hval 2 55 v2 rfl rfl) h2
  obtain ⟨A3, n3, c3, rfl⟩ := okWide_slice Try.underlying56 (hval 3 56 v3 rfl rfl)
  obtain ⟨hc3, l3, hl3, hr3⟩ := open_is Try.underlying56 Try.underlying73 (by kernel_rfl) h3
  obtain ⟨x4, rfl, rfl, rfl, wx4⟩ := open_int Try.underlying5 (hval 4 5 v4 rfl rfl) h4
  obtain ⟨x5, rfl, rfl, rfl, wx5⟩ := open_int Try.underlying5 (hval 5 5 v5 rfl rfl) h5
  refine (either_walk W A0 A1 A3 n0 c0 n1 c1 n3 c3 l0 l1 (l3.map (·.1)) x2 x4 x5 hr0 hc0 hr1 (sm_of hr3) sm16_bd (u32_bdx wx2) (u8_bdx wx4) (u8_bdx wx5)).mono fun e W' ⟨he, hb⟩ => ?_
  subst he
  exact ⟨_, rfl, ⟨_, _, _, [], _, [], hW', trodAll_cons_mk (shut_bool Try.underlying4 _) trodAll_mk0, hAll W' hb, rfl, hb.frame _, fun h => by cases h⟩⟩
/-- The law: whatever the input, it returns true, and the input reads as it did. -/
theorem drossEither_holds : Rows.DrossEitherSaid :=
  OpenClaim.holds_of_wide 7 Try.f7 rfl rfl rfl rfl rfl rfl rfl ⟨rfl, rfl, rfl, rfl, rfl⟩ rfl rfl rfl rfl rfl (by kernel_rfl) Try.func7 (by kernel_rfl)
    (of_decide_eq_true (by kernel_rfl)) (by unfold Func.isWrapper; first | (rw [if_pos (by decide +kernel)]; kernel_rfl) | (rw [if_neg (by decide +kernel)]; exact ⟨rfl, rfl⟩))
    (fun os started H enc _ => drossEither_lifted os started H enc)
end
end Go.Proofs.Ytdcglphekafpdaa
