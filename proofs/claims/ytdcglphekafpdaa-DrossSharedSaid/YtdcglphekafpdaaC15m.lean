/- The statement DrossShared holds: whatever the arguments, the law returns true and leaves its arguments as they were. -/
import Derived.Test.YtdcglphekafpdaaMr
import Derived.Test.YtdcglphekafpdaaMk
import Derived.Lib.MinMax
namespace Go.Proofs.Ytdcglphekafpdaa
open Go.RowKit Go.Shelf
set_option maxRecDepth 100000 in
set_option maxHeartbeats 4000000 in
theorem shared_main (w : World) (A A1 : Option Addr) (n c n1 c1 : Nat) (row : List Mt) (sc : List Rg) (b2 b3 i k : Nat) (hr : MtS w w.heap.size A n row) (hnc : n ≤ c) (hr' : RgS w w.heap.size A1 n1 sc)
    (h0 : checkScales row sc = 0) (a0 : b2 < 256) (a1 : b3 < 256) (hik : i < k) (hk : k ≤ row.length) (hs : sideV row sc i k ≠ 0) (hcr : clashR row sc = .tuple #[.int .i64 i, .int .i64 k, .int .i64 0]) :
    Calls Try.prog 14 #[.slice A n c, .slice A1 n1 c1, .int .u8 b2, .int .u8 b3] w fun e w' => e = .returned (.bool true) ∧ Below w.heap.size w w' := by
  obtain ⟨k1, k2, k3⟩ := checkScales_ok h0
  obtain ⟨k4, k5, k6⟩ := checkRow_ok k1
  have hlen := hr.len
  have hlen' := hr'.len
  have hn : n ≤ 12 := by omega
  have hn7 : n ≤ 7 := by omega
  have hn0 : 1 ≤ n := by omega
  have hn1 : n1 ≤ 12 := by omega
  have hnn : Hid (n1 = n + 1) := hid (by omega)
  have HLEN := hid hlen
  have HLEN1 := hid hlen'
  have z1 : (0 : Int) ≤ i := by omega
  have z2 : (i : Int) < k := by omega
  have z3 : (k : Int) < n1 := by omega
  have z4 : IntKind.i64.wrap ((k : Int) - 1) = (k : Int) - 1 := IntWalk.i64_in _ (by omega)
  obtain ⟨v2, hv2⟩ : ∃ v2, sideV row sc i k = v2 := ⟨_, rfl⟩
  have hv0 : (v2 == 0) = false := by rw [← hv2]; simp [hs]
  have HV := hid hv2
  have HCR := hid hcr
  have LW := filN_len (fun i => b2.testBit i) n1
  have LM := filN_len (fun i => b3.testBit i) n
  have lw : (ownN b2 n1).length ≤ 100 := by have e : ownN b2 n1 = filN (fun i => b2.testBit i) n1 := by unfold ownN filN; simp
                                            rw [e]; omega
  have lm : (ownN b3 n).length ≤ 100 := by have e : ownN b3 n = filN (fun i => b3.testBit i) n := by unfold ownN filN; simp
                                           rw [e]; omega
  have hwl := wrong_law h0
  have hml := melts_law h0
  have lwl : (wrongL row sc).length ≤ 100 := by omega
  have lml : (meltsL row sc).length ≤ 100 := by omega
  have HE1 := hid (wrongE_inc h0 (hlen' ▸ inc_own b2 n1 : Inc sc.length 0 (ownN b2 n1)))
  have HE2 := hid (meltsE_inc h0 (hlen ▸ inc_own b3 n : Inc row.length 0 (ownN b3 n)))
  have G1 := hid (fun l (hl : ∀ x ∈ l, 0 ≤ x) hg => shared_wrong h0 hik hk hs (l := l) hl hg)
  have G2 := hid (fun l hg => shared_melts h0 hik hk hs (l := l) hg)
  have HIK := hid hik
  have HKN : Hid (k ≤ n) := hid (by omega)
  have n80 : n1 ≤ 8 := by omega
  have n81 : n ≤ 8 := by omega
  have HWL := hid hwl
  have HML := hid hml
  have HR := hid (fun V (h : Below w.heap.size w V) => hr.below h h.size)
  have HS := hid (fun V (h : Below w.heap.size w V) => hr'.below h h.size)
  have hd := hid (decide_eq_true h0)
  have H0 := hid h0
  have HK1 := hid k1
  have HK3 := hid k3
  have HK6 := hid k6
  clear hr hr' h0 k1 k2 k3 k4 k5 k6 hlen hlen' hs hcr hv2 LW LM hwl hml hik hk
  have I3 := hid (inc_own b2 n1)
  obtain ⟨L3, hL3⟩ : ∃ L, ownN b2 n1 = L := ⟨_, rfl⟩
  obtain ⟨L5, hL5⟩ : ∃ L, ownN b3 n = L := ⟨_, rfl⟩
  obtain ⟨L7, hL7⟩ : ∃ L, wrongL row sc = L := ⟨_, rfl⟩
  obtain ⟨L8, hL8⟩ : ∃ L, meltsL row sc = L := ⟨_, rfl⟩
  rw [hL3] at lw HE1 I3
  rw [hL5] at lm HE2
  rw [hL7] at lwl HWL
  rw [hL8] at lml HML
  have HL3 := hid hL3
  have HL5 := hid hL5
  have HL7 := hid hL7
  have HL8 := hid hL8
  clear hL3 hL5 hL7 hL8
  go_enter Try.func14, Try.ntmps14
  have hbel : Below w.heap.size w w := Below.refl _ _
  have hsz := hbel.size
  go_wp2_with (fail)
  refine (read_any _ _ _ n c n1 c1 row sc (HR.out _ ?_) (HS.out _ ?_)).mono ?_
  · exact (by repeat' (first | with_reducible assumption | with_reducible exact Below.refl _ _ | refine Below.alloc ?_ ?_ _ | refine Below.setCell ?_ ?_ _ | refine Below.drew ?_ | refine below_drewN ?_ _ | (simp; done) | (simp; omega) | omega))
  · exact (by repeat' (first | with_reducible assumption | with_reducible exact Below.refl _ _ | refine Below.alloc ?_ ?_ _ | refine Below.setCell ?_ ?_ _ | refine Below.drew ?_ | refine below_drewN ?_ _ | (simp; done) | (simp; omega) | omega))
  rw [hd.out]
  rintro e V1 ⟨rfl, hb⟩
  have hst : Below w.heap.size w V1 := Below.trans (by repeat' (first | with_reducible assumption | with_reducible exact Below.refl _ _ | refine Below.alloc ?_ ?_ _ | refine Below.setCell ?_ ?_ _ | refine Below.drew ?_ | refine below_drewN ?_ _ | (simp; done) | (simp; omega) | omega)) (hb.mono (by first | (simp; done) | (simp; omega) | omega))
  replace hbel := hbel.trans (hst.mono hsz)
  replace hsz := hbel.size
  clear hb hst
  go_wp2_with (fail)
  refine (dClash_any _ _ _ n c n1 c1 row sc (HR.out _ ?_) hn hnc (HS.out _ ?_) hn1).mono ?_
  · exact (by repeat' (first | with_reducible assumption | with_reducible exact Below.refl _ _ | refine Below.alloc ?_ ?_ _ | refine Below.setCell ?_ ?_ _ | refine Below.drew ?_ | refine below_drewN ?_ _ | (simp; done) | (simp; omega) | omega))
  · exact (by repeat' (first | with_reducible assumption | with_reducible exact Below.refl _ _ | refine Below.alloc ?_ ?_ _ | refine Below.setCell ?_ ?_ _ | refine Below.drew ?_ | refine below_drewN ?_ _ | (simp; done) | (simp; omega) | omega))
  rw [HCR.out]
  rintro e V2 ⟨rfl, hb⟩
  have hst : Below V1.heap.size V1 V2 := Below.trans (by repeat' (first | with_reducible assumption | with_reducible exact Below.refl _ _ | refine Below.alloc ?_ ?_ _ | refine Below.setCell ?_ ?_ _ | refine Below.drew ?_ | refine below_drewN ?_ _ | (simp; done) | (simp; omega) | omega)) (hb.mono (by first | (simp; done) | (simp; omega) | omega))
  replace hbel := hbel.trans (hst.mono hsz)
  replace hsz := hbel.size
  clear hb hst
  go_wp2_with (fail)
  refine (checkRow_any _ _ n c row (HR.out _ ?_) hn).mono ?_
  · exact (by repeat' (first | with_reducible assumption | with_reducible exact Below.refl _ _ | refine Below.alloc ?_ ?_ _ | refine Below.setCell ?_ ?_ _ | refine Below.drew ?_ | refine below_drewN ?_ _ | (simp; done) | (simp; omega) | omega))
  rw [HK1.out]
  rintro e V3 ⟨rfl, hb⟩
  have hst : Below V2.heap.size V2 V3 := Below.trans (by repeat' (first | with_reducible assumption | with_reducible exact Below.refl _ _ | refine Below.alloc ?_ ?_ _ | refine Below.setCell ?_ ?_ _ | refine Below.drew ?_ | refine below_drewN ?_ _ | (simp; done) | (simp; omega) | omega)) (hb.mono (by first | (simp; done) | (simp; omega) | omega))
  replace hbel := hbel.trans (hst.mono hsz)
  replace hsz := hbel.size
  clear hb hst
  go_wp2_with (fail)
  refine (side_any _ _ _ n c n1 c1 row sc i k (HR.out _ ?_) hn7 hn0 hnc (HS.out _ ?_) hnn.out HK6.out HK3.out HIK.out HKN.out).mono ?_
  · exact (by repeat' (first | with_reducible assumption | with_reducible exact Below.refl _ _ | refine Below.alloc ?_ ?_ _ | refine Below.setCell ?_ ?_ _ | refine Below.drew ?_ | refine below_drewN ?_ _ | (simp; done) | (simp; omega) | omega))
  · exact (by repeat' (first | with_reducible assumption | with_reducible exact Below.refl _ _ | refine Below.alloc ?_ ?_ _ | refine Below.setCell ?_ ?_ _ | refine Below.drew ?_ | refine below_drewN ?_ _ | (simp; done) | (simp; omega) | omega))
  rw [HV.out]
  rintro e V4 ⟨rfl, hb⟩
  have hst : Below V3.heap.size V3 V4 := Below.trans (by repeat' (first | with_reducible assumption | with_reducible exact Below.refl _ _ | refine Below.alloc ?_ ?_ _ | refine Below.setCell ?_ ?_ _ | refine Below.drew ?_ | refine below_drewN ?_ _ | (simp; done) | (simp; omega) | omega)) (hb.mono (by first | (simp; done) | (simp; omega) | omega))
  replace hbel := hbel.trans (hst.mono hsz)
  replace hsz := hbel.size
  clear hb hst
  go_wp2_with (fail)
  refine (chosen62_any _ b2 (-1) n1 a0 n80).mono ?_
  rintro e V5 ⟨A3, c3, A4, c4, rfl, h3, _, hb⟩
  have hst : Below V4.heap.size V4 V5 := Below.trans (by repeat' (first | with_reducible assumption | with_reducible exact Below.refl _ _ | refine Below.alloc ?_ ?_ _ | refine Below.setCell ?_ ?_ _ | refine Below.drew ?_ | refine below_drewN ?_ _ | (simp; done) | (simp; omega) | omega)) (hb.mono (by first | (simp; done) | (simp; omega) | omega))
  replace hbel := hbel.trans (hst.mono hsz)
  replace hsz := hbel.size
  clear hb hst
  rw [HL3.out] at h3
  rw [HL3.out]
  have H3 := hid h3
  clear h3
  go_wp2_with (fail)
  refine (chosen62_any _ b3 (-1) n a1 n81).mono ?_
  rintro e V6 ⟨A5, c5, A6, c6, rfl, h5, _, hb⟩
  have hst : Below V5.heap.size V5 V6 := Below.trans (by repeat' (first | with_reducible assumption | with_reducible exact Below.refl _ _ | refine Below.alloc ?_ ?_ _ | refine Below.setCell ?_ ?_ _ | refine Below.drew ?_ | refine below_drewN ?_ _ | (simp; done) | (simp; omega) | omega)) (hb.mono (by first | (simp; done) | (simp; omega) | omega))
  replace hbel := hbel.trans (hst.mono hsz)
  replace hsz := hbel.size
  replace H3 := hid (H3.out.below hst hst.size)
  clear hb hst
  rw [HL5.out] at h5
  rw [HL5.out]
  have H5 := hid h5
  clear h5
  go_wp2_with (fail)
  refine (dWrong_any _ _ _ n c n1 c1 row sc (HR.out _ ?_) hn (HS.out _ ?_) hn1).mono ?_
  · exact (by repeat' (first | with_reducible assumption | with_reducible exact Below.refl _ _ | refine Below.alloc ?_ ?_ _ | refine Below.setCell ?_ ?_ _ | refine Below.drew ?_ | refine below_drewN ?_ _ | (simp; done) | (simp; omega) | omega))
  · exact (by repeat' (first | with_reducible assumption | with_reducible exact Below.refl _ _ | refine Below.alloc ?_ ?_ _ | refine Below.setCell ?_ ?_ _ | refine Below.drew ?_ | refine below_drewN ?_ _ | (simp; done) | (simp; omega) | omega))
  rintro e V7 ⟨u1, rfl, ho1, hb⟩
  have hst : Below V6.heap.size V6 V7 := Below.trans (by repeat' (first | with_reducible assumption | with_reducible exact Below.refl _ _ | refine Below.alloc ?_ ?_ _ | refine Below.setCell ?_ ?_ _ | refine Below.drew ?_ | refine below_drewN ?_ _ | (simp; done) | (simp; omega) | omega)) (hb.mono (by first | (simp; done) | (simp; omega) | omega))
  replace hbel := hbel.trans (hst.mono hsz)
  replace hsz := hbel.size
  replace H3 := hid (H3.out.below hst hst.size)
  replace H5 := hid (H5.out.below hst hst.size)
  clear hb hst
  rw [HL7.out] at ho1
  rw [H0.out]
  obtain ⟨A7, c7, rfl, _, h7⟩ := ins_of_own ho1
  have H7 := hid h7
  clear h7 ho1
  go_wp2_with (fail)
  refine (dMelts_any _ _ _ n c n1 c1 row sc (HR.out _ ?_) hn hnc (HS.out _ ?_) hn1).mono ?_
  · exact (by repeat' (first | with_reducible assumption | with_reducible exact Below.refl _ _ | refine Below.alloc ?_ ?_ _ | refine Below.setCell ?_ ?_ _ | refine Below.drew ?_ | refine below_drewN ?_ _ | (simp; done) | (simp; omega) | omega))
  · exact (by repeat' (first | with_reducible assumption | with_reducible exact Below.refl _ _ | refine Below.alloc ?_ ?_ _ | refine Below.setCell ?_ ?_ _ | refine Below.drew ?_ | refine below_drewN ?_ _ | (simp; done) | (simp; omega) | omega))
  rintro e V8 ⟨u2, rfl, ho2, hb⟩
  have hst : Below V7.heap.size V7 V8 := Below.trans (by repeat' (first | with_reducible assumption | with_reducible exact Below.refl _ _ | refine Below.alloc ?_ ?_ _ | refine Below.setCell ?_ ?_ _ | refine Below.drew ?_ | refine below_drewN ?_ _ | (simp; done) | (simp; omega) | omega)) (hb.mono (by first | (simp; done) | (simp; omega) | omega))
  replace hbel := hbel.trans (hst.mono hsz)
  replace hsz := hbel.size
  replace H3 := hid (H3.out.below hst hst.size)
  replace H5 := hid (H5.out.below hst hst.size)
  replace H7 := hid (H7.out.below hst hst.size)
  clear hb hst
  rw [HL8.out] at ho2
  rw [H0.out]
  obtain ⟨A8, c8, rfl, _, h8⟩ := ins_of_own ho2
  have H8 := hid h8
  clear h8 ho2
  obtain ⟨ew, hew⟩ : ∃ ew, wrongE row sc L3 = ew := ⟨_, rfl⟩
  obtain ⟨em, hem⟩ : ∃ em, meltsE row sc L5 = em := ⟨_, rfl⟩
  obtain ⟨p, hp⟩ : ∃ p, (L3.any fun x => decide ((i : Int) ≤ x) && decide (x ≤ i)) = p := ⟨_, rfl⟩
  obtain ⟨q, hq⟩ : ∃ q, (L3.any fun x => decide ((k : Int) ≤ x) && decide (x ≤ k)) = q := ⟨_, rfl⟩
  obtain ⟨r, hr⟩ : ∃ r, (L5.any fun x => decide ((i : Int) ≤ x) && decide (x ≤ (k : Int) - 1)) = r := ⟨_, rfl⟩
  obtain ⟨P, hP⟩ : ∃ P, (L7.any fun x => decide ((i : Int) ≤ x) && decide (x ≤ i)) = P := ⟨_, rfl⟩
  obtain ⟨Q, hQ⟩ : ∃ Q, (L7.any fun x => decide ((k : Int) ≤ x) && decide (x ≤ k)) = Q := ⟨_, rfl⟩
  have hM1 : Hid ((L7.any fun x => decide ((i : Int) ≤ x) && decide (x ≤ k)) = true) := hid (by
    rcases G1.out _ HWL.out.1.nonneg HWL.out.2.1 with h | h
    · exact any_one h (by omega) (by omega)
    · exact any_one h (by omega) (by omega))
  have hM2 : Hid ((L8.any fun x => decide ((i : Int) ≤ x) && decide (x ≤ (k : Int) - 1)) = true) := hid (by
    obtain ⟨j, j1, j2, h⟩ := G2.out _ HML.out.2.1
    exact any_one h (by omega) (by omega))
  have hPQ : P = true ∨ (P = false ∧ Q = true) := by
    cases P
    · right
      refine ⟨rfl, ?_⟩
      rcases G1.out _ HWL.out.1.nonneg HWL.out.2.1 with h | h
      · rw [any_one h (by omega) (by omega)] at hP; cases hP
      · rw [← hQ]; exact any_one h (by omega) (by omega)
    · exact .inl rfl
  have hpq : (ew = 0 ∧ p = true) ∨ (ew = 0 ∧ p = false ∧ q = true) ∨ ew = 14 := by
    cases hg : wrongG row sc L3
    · right; right; rw [← hew, HE1.out, hg]; rfl
    · have e0 : ew = 0 := by rw [← hew, HE1.out, hg]; rfl
      have hnn := I3.out.nonneg
      cases p
      · right; left
        refine ⟨e0, rfl, ?_⟩
        rcases G1.out _ hnn hg with h | h
        · rw [any_one h (by omega) (by omega)] at hp; cases hp
        · rw [← hq]; exact any_one h (by omega) (by omega)
      · exact .inl ⟨e0, rfl⟩
  have hrr : (em = 0 ∧ r = true) ∨ em = 14 := by
    cases hg : meltsG row sc L5
    · right; rw [← hem, HE2.out, hg]; rfl
    · left
      refine ⟨by rw [← hem, HE2.out, hg]; rfl, ?_⟩
      obtain ⟨j, j1, j2, h⟩ := G2.out _ hg
      rw [← hr]
      exact any_one h (by omega) (by omega)
  have Hew := hid hew
  have Hem := hid hem
  have Hp := hid hp
  have Hq := hid hq
  have Hr := hid hr
  have HP := hid hP
  have HQ := hid hQ
  have HPQ := hid hPQ
  have Hpq := hid hpq
  have Hrr := hid hrr
  clear hew hem hp hq hr hP hQ hPQ hpq hrr
  go_wp2_with (fail)
  refine (has_any _ _ _ _ L7 _ _ H7.out lwl).mono ?_
  rw [hM1.out]
  rintro e W1 ⟨rfl, rfl⟩
  go_wp2_with (fail)
  refine (has_any _ _ _ _ L8 _ _ H8.out lml).mono ?_
  rw [hM2.out]
  rintro e W1 ⟨rfl, rfl⟩
  go_wp2_with (fail)
  refine (dCheckWrong_any _ _ _ A3 n c n1 c1 L3.length c3 row sc L3 (HR.out _ ?_) hn (HS.out _ ?_) hn1 (H3.out.below (Below.refl _ _) (Nat.le_refl _)) lw).mono ?_
  · exact (by repeat' (first | with_reducible assumption | with_reducible exact Below.refl _ _ | refine Below.alloc ?_ ?_ _ | refine Below.setCell ?_ ?_ _ | refine Below.drew ?_ | refine below_drewN ?_ _ | (simp; done) | (simp; omega) | omega))
  · exact (by repeat' (first | with_reducible assumption | with_reducible exact Below.refl _ _ | refine Below.alloc ?_ ?_ _ | refine Below.setCell ?_ ?_ _ | refine Below.drew ?_ | refine below_drewN ?_ _ | (simp; done) | (simp; omega) | omega))
  rw [Hew.out]
  rintro e V9 ⟨rfl, hb⟩
  have hst : Below V8.heap.size V8 V9 := Below.trans (by repeat' (first | with_reducible assumption | with_reducible exact Below.refl _ _ | refine Below.alloc ?_ ?_ _ | refine Below.setCell ?_ ?_ _ | refine Below.drew ?_ | refine below_drewN ?_ _ | (simp; done) | (simp; omega) | omega)) (hb.mono (by first | (simp; done) | (simp; omega) | omega))
  replace hbel := hbel.trans (hst.mono hsz)
  replace hsz := hbel.size
  replace H3 := hid (H3.out.below hst hst.size)
  replace H5 := hid (H5.out.below hst hst.size)
  replace H7 := hid (H7.out.below hst hst.size)
  replace H8 := hid (H8.out.below hst hst.size)
  clear hb hst
  go_wp2_with (fail)
  refine (dCheckMelts_any _ _ _ A5 n c n1 c1 L5.length c5 row sc L5 (HR.out _ ?_) hn hnc (HS.out _ ?_) hn1 (H5.out.below (Below.refl _ _) (Nat.le_refl _)) lm).mono ?_
  · exact (by repeat' (first | with_reducible assumption | with_reducible exact Below.refl _ _ | refine Below.alloc ?_ ?_ _ | refine Below.setCell ?_ ?_ _ | refine Below.drew ?_ | refine below_drewN ?_ _ | (simp; done) | (simp; omega) | omega))
  · exact (by repeat' (first | with_reducible assumption | with_reducible exact Below.refl _ _ | refine Below.alloc ?_ ?_ _ | refine Below.setCell ?_ ?_ _ | refine Below.drew ?_ | refine below_drewN ?_ _ | (simp; done) | (simp; omega) | omega))
  rw [Hem.out]
  rintro e V10 ⟨rfl, hb⟩
  have hst : Below V9.heap.size V9 V10 := Below.trans (by repeat' (first | with_reducible assumption | with_reducible exact Below.refl _ _ | refine Below.alloc ?_ ?_ _ | refine Below.setCell ?_ ?_ _ | refine Below.drew ?_ | refine below_drewN ?_ _ | (simp; done) | (simp; omega) | omega)) (hb.mono (by first | (simp; done) | (simp; omega) | omega))
  replace hbel := hbel.trans (hst.mono hsz)
  replace hsz := hbel.size
  replace H3 := hid (H3.out.below hst hst.size)
  replace H5 := hid (H5.out.below hst hst.size)
  replace H7 := hid (H7.out.below hst hst.size)
  replace H8 := hid (H8.out.below hst hst.size)
  clear hb hst
  rcases Hpq.out with ⟨rfl, rfl⟩ | ⟨rfl, rfl, rfl⟩ | rfl
  · rcases Hrr.out with ⟨rfl, rfl⟩ | rfl
    · rcases HPQ.out with rfl | ⟨rfl, rfl⟩
      · clear Hpq Hrr HPQ
        go_wp2_with (fail)
        refine (hasOne_any _ _ _ _ L3 i H3.out lw).mono ?_
        rw [Hp.out]
        rintro e W1 ⟨rfl, rfl⟩
        go_wp2_with (fail)
        refine (has_any _ _ _ _ L5 _ _ H5.out lm).mono ?_
        rw [Hr.out]
        rintro e W1 ⟨rfl, rfl⟩
        go_wp2_with (fail)
        refine (hasOne_any _ _ _ _ L7 i H7.out lwl).mono ?_
        rw [HP.out]
        rintro e W1 ⟨rfl, rfl⟩
        go_wp2_with (fail)
        refine (works_any _).mono ?_
        rintro e V11 ⟨rfl, hb⟩
        have hst : Below V10.heap.size V10 V11 := Below.trans (by repeat' (first | with_reducible assumption | with_reducible exact Below.refl _ _ | refine Below.alloc ?_ ?_ _ | refine Below.setCell ?_ ?_ _ | refine Below.drew ?_ | refine below_drewN ?_ _ | (simp; done) | (simp; omega) | omega)) (hb.mono (by first | (simp; done) | (simp; omega) | omega))
        replace hbel := hbel.trans (hst.mono hsz)
        replace hsz := hbel.size
        replace H3 := hid (H3.out.below hst hst.size)
        replace H5 := hid (H5.out.below hst hst.size)
        replace H7 := hid (H7.out.below hst hst.size)
        replace H8 := hid (H8.out.below hst hst.size)
        clear hb hst
        go_wp2
        go_ret
        exact ⟨rfl, hbel⟩
      · clear Hpq Hrr HPQ
        go_wp2_with (fail)
        refine (hasOne_any _ _ _ _ L3 i H3.out lw).mono ?_
        rw [Hp.out]
        rintro e W1 ⟨rfl, rfl⟩
        go_wp2_with (fail)
        refine (has_any _ _ _ _ L5 _ _ H5.out lm).mono ?_
        rw [Hr.out]
        rintro e W1 ⟨rfl, rfl⟩
        go_wp2_with (fail)
        refine (hasOne_any _ _ _ _ L7 i H7.out lwl).mono ?_
        rw [HP.out]
        rintro e W1 ⟨rfl, rfl⟩
        go_wp2_with (fail)
        refine (hasOne_any _ _ _ _ L7 k H7.out lwl).mono ?_
        rw [HQ.out]
        rintro e W1 ⟨rfl, rfl⟩
        go_wp2_with (fail)
        refine (works_any _).mono ?_
        rintro e V11 ⟨rfl, hb⟩
        have hst : Below V10.heap.size V10 V11 := Below.trans (by repeat' (first | with_reducible assumption | with_reducible exact Below.refl _ _ | refine Below.alloc ?_ ?_ _ | refine Below.setCell ?_ ?_ _ | refine Below.drew ?_ | refine below_drewN ?_ _ | (simp; done) | (simp; omega) | omega)) (hb.mono (by first | (simp; done) | (simp; omega) | omega))
        replace hbel := hbel.trans (hst.mono hsz)
        replace hsz := hbel.size
        replace H3 := hid (H3.out.below hst hst.size)
        replace H5 := hid (H5.out.below hst hst.size)
        replace H7 := hid (H7.out.below hst hst.size)
        replace H8 := hid (H8.out.below hst hst.size)
        clear hb hst
        go_wp2
        go_ret
        exact ⟨rfl, hbel⟩
    · rcases HPQ.out with rfl | ⟨rfl, rfl⟩
      · clear Hpq Hrr HPQ
        go_wp2_with (fail)
        refine (hasOne_any _ _ _ _ L3 i H3.out lw).mono ?_
        rw [Hp.out]
        rintro e W1 ⟨rfl, rfl⟩
        go_wp2_with (fail)
        refine (hasOne_any _ _ _ _ L7 i H7.out lwl).mono ?_
        rw [HP.out]
        rintro e W1 ⟨rfl, rfl⟩
        go_wp2_with (fail)
        refine (works_any _).mono ?_
        rintro e V11 ⟨rfl, hb⟩
        have hst : Below V10.heap.size V10 V11 := Below.trans (by repeat' (first | with_reducible assumption | with_reducible exact Below.refl _ _ | refine Below.alloc ?_ ?_ _ | refine Below.setCell ?_ ?_ _ | refine Below.drew ?_ | refine below_drewN ?_ _ | (simp; done) | (simp; omega) | omega)) (hb.mono (by first | (simp; done) | (simp; omega) | omega))
        replace hbel := hbel.trans (hst.mono hsz)
        replace hsz := hbel.size
        replace H3 := hid (H3.out.below hst hst.size)
        replace H5 := hid (H5.out.below hst hst.size)
        replace H7 := hid (H7.out.below hst hst.size)
        replace H8 := hid (H8.out.below hst hst.size)
        clear hb hst
        go_wp2
        go_ret
        exact ⟨rfl, hbel⟩
      · clear Hpq Hrr HPQ
        go_wp2_with (fail)
        refine (hasOne_any _ _ _ _ L3 i H3.out lw).mono ?_
        rw [Hp.out]
        rintro e W1 ⟨rfl, rfl⟩
        go_wp2_with (fail)
        refine (hasOne_any _ _ _ _ L7 i H7.out lwl).mono ?_
        rw [HP.out]
        rintro e W1 ⟨rfl, rfl⟩
        go_wp2_with (fail)
        refine (hasOne_any _ _ _ _ L7 k H7.out lwl).mono ?_
        rw [HQ.out]
        rintro e W1 ⟨rfl, rfl⟩
        go_wp2_with (fail)
        refine (works_any _).mono ?_
        rintro e V11 ⟨rfl, hb⟩
        have hst : Below V10.heap.size V10 V11 := Below.trans (by repeat' (first | with_reducible assumption | with_reducible exact Below.refl _ _ | refine Below.alloc ?_ ?_ _ | refine Below.setCell ?_ ?_ _ | refine Below.drew ?_ | refine below_drewN ?_ _ | (simp; done) | (simp; omega) | omega)) (hb.mono (by first | (simp; done) | (simp; omega) | omega))
        replace hbel := hbel.trans (hst.mono hsz)
        replace hsz := hbel.size
        replace H3 := hid (H3.out.below hst hst.size)
        replace H5 := hid (H5.out.below hst hst.size)
        replace H7 := hid (H7.out.below hst hst.size)
        replace H8 := hid (H8.out.below hst hst.size)
        clear hb hst
        go_wp2
        go_ret
        exact ⟨rfl, hbel⟩
  · rcases Hrr.out with ⟨rfl, rfl⟩ | rfl
    · rcases HPQ.out with rfl | ⟨rfl, rfl⟩
      · clear Hpq Hrr HPQ
        go_wp2_with (fail)
        refine (hasOne_any _ _ _ _ L3 i H3.out lw).mono ?_
        rw [Hp.out]
        rintro e W1 ⟨rfl, rfl⟩
        go_wp2_with (fail)
        refine (hasOne_any _ _ _ _ L3 k H3.out lw).mono ?_
        rw [Hq.out]
        rintro e W1 ⟨rfl, rfl⟩
        go_wp2_with (fail)
        refine (has_any _ _ _ _ L5 _ _ H5.out lm).mono ?_
        rw [Hr.out]
        rintro e W1 ⟨rfl, rfl⟩
        go_wp2_with (fail)
        refine (hasOne_any _ _ _ _ L7 i H7.out lwl).mono ?_
        rw [HP.out]
        rintro e W1 ⟨rfl, rfl⟩
        go_wp2_with (fail)
        refine (works_any _).mono ?_
        rintro e V11 ⟨rfl, hb⟩
        have hst : Below V10.heap.size V10 V11 := Below.trans (by repeat' (first | with_reducible assumption | with_reducible exact Below.refl _ _ | refine Below.alloc ?_ ?_ _ | refine Below.setCell ?_ ?_ _ | refine Below.drew ?_ | refine below_drewN ?_ _ | (simp; done) | (simp; omega) | omega)) (hb.mono (by first | (simp; done) | (simp; omega) | omega))
        replace hbel := hbel.trans (hst.mono hsz)
        replace hsz := hbel.size
        replace H3 := hid (H3.out.below hst hst.size)
        replace H5 := hid (H5.out.below hst hst.size)
        replace H7 := hid (H7.out.below hst hst.size)
        replace H8 := hid (H8.out.below hst hst.size)
        clear hb hst
        go_wp2
        go_ret
        exact ⟨rfl, hbel⟩
      · clear Hpq Hrr HPQ
        go_wp2_with (fail)
        refine (hasOne_any _ _ _ _ L3 i H3.out lw).mono ?_
        rw [Hp.out]
        rintro e W1 ⟨rfl, rfl⟩
        go_wp2_with (fail)
        refine (hasOne_any _ _ _ _ L3 k H3.out lw).mono ?_
        rw [Hq.out]
        rintro e W1 ⟨rfl, rfl⟩
        go_wp2_with (fail)
        refine (has_any _ _ _ _ L5 _ _ H5.out lm).mono ?_
        rw [Hr.out]
        rintro e W1 ⟨rfl, rfl⟩
        go_wp2_with (fail)
        refine (hasOne_any _ _ _ _ L7 i H7.out lwl).mono ?_
        rw [HP.out]
        rintro e W1 ⟨rfl, rfl⟩
        go_wp2_with (fail)
        refine (hasOne_any _ _ _ _ L7 k H7.out lwl).mono ?_
        rw [HQ.out]
        rintro e W1 ⟨rfl, rfl⟩
        go_wp2_with (fail)
        refine (works_any _).mono ?_
        rintro e V11 ⟨rfl, hb⟩
        have hst : Below V10.heap.size V10 V11 := Below.trans (by repeat' (first | with_reducible assumption | with_reducible exact Below.refl _ _ | refine Below.alloc ?_ ?_ _ | refine Below.setCell ?_ ?_ _ | refine Below.drew ?_ | refine below_drewN ?_ _ | (simp; done) | (simp; omega) | omega)) (hb.mono (by first | (simp; done) | (simp; omega) | omega))
        replace hbel := hbel.trans (hst.mono hsz)
        replace hsz := hbel.size
        replace H3 := hid (H3.out.below hst hst.size)
        replace H5 := hid (H5.out.below hst hst.size)
        replace H7 := hid (H7.out.below hst hst.size)
        replace H8 := hid (H8.out.below hst hst.size)
        clear hb hst
        go_wp2
        go_ret
        exact ⟨rfl, hbel⟩
    · rcases HPQ.out with rfl | ⟨rfl, rfl⟩
      · clear Hpq Hrr HPQ
        go_wp2_with (fail)
        refine (hasOne_any _ _ _ _ L3 i H3.out lw).mono ?_
        rw [Hp.out]
        rintro e W1 ⟨rfl, rfl⟩
        go_wp2_with (fail)
        refine (hasOne_any _ _ _ _ L3 k H3.out lw).mono ?_
        rw [Hq.out]
        rintro e W1 ⟨rfl, rfl⟩
        go_wp2_with (fail)
        refine (hasOne_any _ _ _ _ L7 i H7.out lwl).mono ?_
        rw [HP.out]
        rintro e W1 ⟨rfl, rfl⟩
        go_wp2_with (fail)
        refine (works_any _).mono ?_
        rintro e V11 ⟨rfl, hb⟩
        have hst : Below V10.heap.size V10 V11 := Below.trans (by repeat' (first | with_reducible assumption | with_reducible exact Below.refl _ _ | refine Below.alloc ?_ ?_ _ | refine Below.setCell ?_ ?_ _ | refine Below.drew ?_ | refine below_drewN ?_ _ | (simp; done) | (simp; omega) | omega)) (hb.mono (by first | (simp; done) | (simp; omega) | omega))
        replace hbel := hbel.trans (hst.mono hsz)
        replace hsz := hbel.size
        replace H3 := hid (H3.out.below hst hst.size)
        replace H5 := hid (H5.out.below hst hst.size)
        replace H7 := hid (H7.out.below hst hst.size)
        replace H8 := hid (H8.out.below hst hst.size)
        clear hb hst
        go_wp2
        go_ret
        exact ⟨rfl, hbel⟩
      · clear Hpq Hrr HPQ
        go_wp2_with (fail)
        refine (hasOne_any _ _ _ _ L3 i H3.out lw).mono ?_
        rw [Hp.out]
        rintro e W1 ⟨rfl, rfl⟩
        go_wp2_with (fail)
        refine (hasOne_any _ _ _ _ L3 k H3.out lw).mono ?_
        rw [Hq.out]
        rintro e W1 ⟨rfl, rfl⟩
        go_wp2_with (fail)
        refine (hasOne_any _ _ _ _ L7 i H7.out lwl).mono ?_
        rw [HP.out]
        rintro e W1 ⟨rfl, rfl⟩
        go_wp2_with (fail)
        refine (hasOne_any _ _ _ _ L7 k H7.out lwl).mono ?_
        rw [HQ.out]
        rintro e W1 ⟨rfl, rfl⟩
        go_wp2_with (fail)
        refine (works_any _).mono ?_
        rintro e V11 ⟨rfl, hb⟩
        have hst : Below V10.heap.size V10 V11 := Below.trans (by repeat' (first | with_reducible assumption | with_reducible exact Below.refl _ _ | refine Below.alloc ?_ ?_ _ | refine Below.setCell ?_ ?_ _ | refine Below.drew ?_ | refine below_drewN ?_ _ | (simp; done) | (simp; omega) | omega)) (hb.mono (by first | (simp; done) | (simp; omega) | omega))
        replace hbel := hbel.trans (hst.mono hsz)
        replace hsz := hbel.size
        replace H3 := hid (H3.out.below hst hst.size)
        replace H5 := hid (H5.out.below hst hst.size)
        replace H7 := hid (H7.out.below hst hst.size)
        replace H8 := hid (H8.out.below hst hst.size)
        clear hb hst
        go_wp2
        go_ret
        exact ⟨rfl, hbel⟩
  · rcases Hrr.out with ⟨rfl, rfl⟩ | rfl
    · rcases HPQ.out with rfl | ⟨rfl, rfl⟩
      · clear Hpq Hrr HPQ
        go_wp2_with (fail)
        refine (has_any _ _ _ _ L5 _ _ H5.out lm).mono ?_
        rw [Hr.out]
        rintro e W1 ⟨rfl, rfl⟩
        go_wp2_with (fail)
        refine (hasOne_any _ _ _ _ L7 i H7.out lwl).mono ?_
        rw [HP.out]
        rintro e W1 ⟨rfl, rfl⟩
        go_wp2_with (fail)
        refine (works_any _).mono ?_
        rintro e V11 ⟨rfl, hb⟩
        have hst : Below V10.heap.size V10 V11 := Below.trans (by repeat' (first | with_reducible assumption | with_reducible exact Below.refl _ _ | refine Below.alloc ?_ ?_ _ | refine Below.setCell ?_ ?_ _ | refine Below.drew ?_ | refine below_drewN ?_ _ | (simp; done) | (simp; omega) | omega)) (hb.mono (by first | (simp; done) | (simp; omega) | omega))
        replace hbel := hbel.trans (hst.mono hsz)
        replace hsz := hbel.size
        replace H3 := hid (H3.out.below hst hst.size)
        replace H5 := hid (H5.out.below hst hst.size)
        replace H7 := hid (H7.out.below hst hst.size)
        replace H8 := hid (H8.out.below hst hst.size)
        clear hb hst
        go_wp2
        go_ret
        exact ⟨rfl, hbel⟩
      · clear Hpq Hrr HPQ
        go_wp2_with (fail)
        refine (has_any _ _ _ _ L5 _ _ H5.out lm).mono ?_
        rw [Hr.out]
        rintro e W1 ⟨rfl, rfl⟩
        go_wp2_with (fail)
        refine (hasOne_any _ _ _ _ L7 i H7.out lwl).mono ?_
        rw [HP.out]
        rintro e W1 ⟨rfl, rfl⟩
        go_wp2_with (fail)
        refine (hasOne_any _ _ _ _ L7 k H7.out lwl).mono ?_
        rw [HQ.out]
        rintro e W1 ⟨rfl, rfl⟩
        go_wp2_with (fail)
        refine (works_any _).mono ?_
        rintro e V11 ⟨rfl, hb⟩
        have hst : Below V10.heap.size V10 V11 := Below.trans (by repeat' (first | with_reducible assumption | with_reducible exact Below.refl _ _ | refine Below.alloc ?_ ?_ _ | refine Below.setCell ?_ ?_ _ | refine Below.drew ?_ | refine below_drewN ?_ _ | (simp; done) | (simp; omega) | omega)) (hb.mono (by first | (simp; done) | (simp; omega) | omega))
        replace hbel := hbel.trans (hst.mono hsz)
        replace hsz := hbel.size
        replace H3 := hid (H3.out.below hst hst.size)
        replace H5 := hid (H5.out.below hst hst.size)
        replace H7 := hid (H7.out.below hst hst.size)
        replace H8 := hid (H8.out.below hst hst.size)
        clear hb hst
        go_wp2
        go_ret
        exact ⟨rfl, hbel⟩
    · rcases HPQ.out with rfl | ⟨rfl, rfl⟩
      · clear Hpq Hrr HPQ
        go_wp2_with (fail)
        refine (hasOne_any _ _ _ _ L7 i H7.out lwl).mono ?_
        rw [HP.out]
        rintro e W1 ⟨rfl, rfl⟩
        go_wp2_with (fail)
        refine (works_any _).mono ?_
        rintro e V11 ⟨rfl, hb⟩
        have hst : Below V10.heap.size V10 V11 := Below.trans (by repeat' (first | with_reducible assumption | with_reducible exact Below.refl _ _ | refine Below.alloc ?_ ?_ _ | refine Below.setCell ?_ ?_ _ | refine Below.drew ?_ | refine below_drewN ?_ _ | (simp; done) | (simp; omega) | omega)) (hb.mono (by first | (simp; done) | (simp; omega) | omega))
        replace hbel := hbel.trans (hst.mono hsz)
        replace hsz := hbel.size
        replace H3 := hid (H3.out.below hst hst.size)
        replace H5 := hid (H5.out.below hst hst.size)
        replace H7 := hid (H7.out.below hst hst.size)
        replace H8 := hid (H8.out.below hst hst.size)
        clear hb hst
        go_wp2
        go_ret
        exact ⟨rfl, hbel⟩
      · clear Hpq Hrr HPQ
        go_wp2_with (fail)
        refine (hasOne_any _ _ _ _ L7 i H7.out lwl).mono ?_
        rw [HP.out]
        rintro e W1 ⟨rfl, rfl⟩
        go_wp2_with (fail)
        refine (hasOne_any _ _ _ _ L7 k H7.out lwl).mono ?_
        rw [HQ.out]
        rintro e W1 ⟨rfl, rfl⟩
        go_wp2_with (fail)
        refine (works_any _).mono ?_
        rintro e V11 ⟨rfl, hb⟩
        have hst : Below V10.heap.size V10 V11 := Below.trans (by repeat' (first | with_reducible assumption | with_reducible exact Below.refl _ _ | refine Below.alloc ?_ ?_ _ | refine Below.setCell ?_ ?_ _ | refine Below.drew ?_ | refine below_drewN ?_ _ | (simp; done) | (simp; omega) | omega)) (hb.mono (by first | (simp; done) | (simp; omega) | omega))
        replace hbel := hbel.trans (hst.mono hsz)
        replace hsz := hbel.size
        replace H3 := hid (H3.out.below hst hst.size)
        replace H5 := hid (H5.out.below hst hst.size)
        replace H7 := hid (H7.out.below hst hst.size)
        replace H8 := hid (H8.out.below hst hst.size)
        clear hb hst
        go_wp2
        go_ret
        exact ⟨rfl, hbel⟩
set_option maxRecDepth 100000 in
set_option maxHeartbeats 4000000 in
theorem shared_walk (w : World) (A A1 : Option Addr) (n c n1 c1 : Nat) (row : List Mt) (sc : List Rg) (x2 x3 : Int) (hr : MtS w w.heap.size A n row) (hnc : n ≤ c) (hr' : RgS w w.heap.size A1 n1 sc) (a0 : 0 ≤ x2 ∧ x2 ≤ 255) (a1 : 0 ≤ x3 ∧ x3 ≤ 255) :
    Calls Try.prog 14 #[.slice A n c, .slice A1 n1 c1, .int .u8 x2, .int .u8 x3] w fun e w' => e = .returned (.bool true) ∧ Below w.heap.size w w' := by
  by_cases h0 : checkScales row sc = 0
  · cases hp : possB row sc
    · obtain ⟨i, k, h1, h2, h3, h4⟩ := either_no h0 hp
      obtain ⟨b2, rfl⟩ : ∃ b : Nat, x2 = b := ⟨x2.toNat, by omega⟩
      obtain ⟨b3, rfl⟩ : ∃ b : Nat, x3 = b := ⟨x3.toNat, by omega⟩
      exact shared_main w A A1 n c n1 c1 row sc b2 b3 i k hr hnc hr' h0 (by omega) (by omega) h1 h2 h3 h4
    · have hc := hid (either_yes h0 hp)
      obtain ⟨k1, k2, k3⟩ := checkScales_ok h0
      obtain ⟨k4, k5, k6⟩ := checkRow_ok k1
      have hlen := hr.len
      have hlen' := hr'.len
      have hn : n ≤ 12 := by omega
      have hn7 : n ≤ 7 := by omega
      have hn0 : 1 ≤ n := by omega
      have hn1 : n1 ≤ 12 := by omega
      have hnn : Hid (n1 = n + 1) := hid (by omega)
      have HLEN := hid hlen
      have HLEN1 := hid hlen'
      have HR := hid (fun V (h : Below w.heap.size w V) => hr.below h h.size)
      have HS := hid (fun V (h : Below w.heap.size w V) => hr'.below h h.size)
      have hd := hid (decide_eq_true h0)
      have H0 := hid h0
      have HK1 := hid k1
      have HK3 := hid k3
      have HK6 := hid k6
      clear hr hr' h0 k1 k2 k3 k4 k5 k6 hlen hlen' hp
      go_enter Try.func14, Try.ntmps14
      have hbel : Below w.heap.size w w := Below.refl _ _
      have hsz := hbel.size
      go_wp2_with (fail)
      refine (read_any _ _ _ n c n1 c1 row sc (HR.out _ ?_) (HS.out _ ?_)).mono ?_
      · exact (by repeat' (first | with_reducible assumption | with_reducible exact Below.refl _ _ | refine Below.alloc ?_ ?_ _ | refine Below.setCell ?_ ?_ _ | refine Below.drew ?_ | refine below_drewN ?_ _ | (simp; done) | (simp; omega) | omega))
      · exact (by repeat' (first | with_reducible assumption | with_reducible exact Below.refl _ _ | refine Below.alloc ?_ ?_ _ | refine Below.setCell ?_ ?_ _ | refine Below.drew ?_ | refine below_drewN ?_ _ | (simp; done) | (simp; omega) | omega))
      rw [hd.out]
      rintro e V1 ⟨rfl, hb⟩
      have hst : Below w.heap.size w V1 := Below.trans (by repeat' (first | with_reducible assumption | with_reducible exact Below.refl _ _ | refine Below.alloc ?_ ?_ _ | refine Below.setCell ?_ ?_ _ | refine Below.drew ?_ | refine below_drewN ?_ _ | (simp; done) | (simp; omega) | omega)) (hb.mono (by first | (simp; done) | (simp; omega) | omega))
      replace hbel := hbel.trans (hst.mono hsz)
      replace hsz := hbel.size
      clear hb hst
      go_wp2_with (fail)
      refine (dClash_any _ _ _ n c n1 c1 row sc (HR.out _ ?_) hn hnc (HS.out _ ?_) hn1).mono ?_
      · exact (by repeat' (first | with_reducible assumption | with_reducible exact Below.refl _ _ | refine Below.alloc ?_ ?_ _ | refine Below.setCell ?_ ?_ _ | refine Below.drew ?_ | refine below_drewN ?_ _ | (simp; done) | (simp; omega) | omega))
      · exact (by repeat' (first | with_reducible assumption | with_reducible exact Below.refl _ _ | refine Below.alloc ?_ ?_ _ | refine Below.setCell ?_ ?_ _ | refine Below.drew ?_ | refine below_drewN ?_ _ | (simp; done) | (simp; omega) | omega))
      rw [hc.out]
      rintro e V2 ⟨rfl, hb⟩
      have hst : Below V1.heap.size V1 V2 := Below.trans (by repeat' (first | with_reducible assumption | with_reducible exact Below.refl _ _ | refine Below.alloc ?_ ?_ _ | refine Below.setCell ?_ ?_ _ | refine Below.drew ?_ | refine below_drewN ?_ _ | (simp; done) | (simp; omega) | omega)) (hb.mono (by first | (simp; done) | (simp; omega) | omega))
      replace hbel := hbel.trans (hst.mono hsz)
      replace hsz := hbel.size
      clear hb hst
      go_wp2_with (fail)
      refine (works_any _).mono ?_
      rintro e V3 ⟨rfl, hb⟩
      have hst : Below V2.heap.size V2 V3 := Below.trans (by repeat' (first | with_reducible assumption | with_reducible exact Below.refl _ _ | refine Below.alloc ?_ ?_ _ | refine Below.setCell ?_ ?_ _ | refine Below.drew ?_ | refine below_drewN ?_ _ | (simp; done) | (simp; omega) | omega)) (hb.mono (by first | (simp; done) | (simp; omega) | omega))
      replace hbel := hbel.trans (hst.mono hsz)
      replace hsz := hbel.size
      clear hb hst
      go_wp2
      go_ret
      exact ⟨rfl, hbel⟩
  · have hd := hid (decide_eq_false h0)
    have HR := hid (fun V (h : Below w.heap.size w V) => hr.below h h.size)
    have HS := hid (fun V (h : Below w.heap.size w V) => hr'.below h h.size)
    clear hr hr' h0
    go_enter Try.func14, Try.ntmps14
    go_wp2_with (first | (go_at_call 48; refine (read_any _ _ _ n c n1 c1 row sc (HR.out _ ?_) (HS.out _ ?_)).mono ?_; (· exact (by repeat' (first | with_reducible assumption | with_reducible exact Below.refl _ _ | refine Below.alloc ?_ ?_ _ | refine Below.setCell ?_ ?_ _ | refine Below.drew ?_ | refine below_drewN ?_ _ | (simp; done) | (simp; omega) | omega))); (· exact (by repeat' (first | with_reducible assumption | with_reducible exact Below.refl _ _ | refine Below.alloc ?_ ?_ _ | refine Below.setCell ?_ ?_ _ | refine Below.drew ?_ | refine below_drewN ?_ _ | (simp; done) | (simp; omega) | omega))); rw [hd.out]; rintro e W1 ⟨rfl, hb⟩; have hbel : Below w.heap.size w W1 := Below.trans (by repeat' (first | with_reducible assumption | with_reducible exact Below.refl _ _ | refine Below.alloc ?_ ?_ _ | refine Below.setCell ?_ ?_ _ | refine Below.drew ?_ | refine below_drewN ?_ _ | (simp; done) | (simp; omega) | omega)) (hb.mono (by first | (simp; done) | (simp; omega) | omega))) | (go_at_call 19; refine (works_any _).mono ?_; rintro e W2 ⟨rfl, hb2⟩))
    go_ret
    exact ⟨rfl, Below.trans (by repeat' (first | with_reducible assumption | with_reducible exact Below.refl _ _ | refine Below.alloc ?_ ?_ _ | refine Below.setCell ?_ ?_ _ | refine Below.drew ?_ | refine below_drewN ?_ _ | (simp; done) | (simp; omega) | omega)) (hb2.mono hbel.size)⟩

section
open Go.ChangeShapes Go.WideShapes Go.ChangeAt Go.RowKit
set_option maxRecDepth 100000 in
theorem drossShared_lifted (os : Os) (started : os.Started) (H : Type) (enc : TypeId × Value → H) :
    ReturnsInHanded {} Try.checked os 14 .any (Rows.drossSharedSpec.pre6 enc Try.prog Try.f14 Rows.drossSharedRow.domain false) (Rows.drossSharedSpec.post enc Try.prog Try.f14 false true false false) := by
  refine returnsInHanded_of_change (C := Try.checked) ownKx started (by kernel_rfl) Try.func14
    (ChangeSpec.witness6 (enc := enc) (C := Try.checked) false ⟨#[], #[.slice none 0 0, .slice none 0 0, .int .u8 0, .int .u8 0], []⟩ 8 (by kernel_rfl) (by kernel_rfl) (by kernel_rfl) (by kernel_rfl)) ?_
  intro W base args ds gs before hval0 hW hcnd _
  have hval : ∀ (j : Nat) t v, Try.f14.params[j]? = some t → args[j]? = some v → Value.okWide Try.prog W .any base t v := hval0
  have hW' := hW
  obtain ⟨p, q, hA0, hV, rfl, hfz, hnd⟩ := hW
  have hA : DataW.TrodAll enc Try.prog W 0 (fun _ => true) true Try.f14.params.toList args.toList ds p := hA0
  have hlt : ∀ x ∈ p, x.block < W.heap.size := fun x hx => hW'.lt x (List.mem_append_left _ hx)
  have hAll : ∀ W', Below W.heap.size W W' → DataW.TrodAll enc Try.prog W' 0 (fun b => decide (b < W.heap.size)) true Try.f14.params.toList args.toList ds p := fun W' hb => all_below laidOut hb (readable_of (by kernel_rfl)) hlt hA
  rw [Try.params14] at hA hval
  obtain ⟨v0, v1, v2, v3, d0, d1, d2, d3, p0, p1, p2, p3, rfl, rfl, rfl, h0, h1, h2, h3⟩ := trodAll_four hA
  obtain ⟨rfl, rfl⟩ := trodVars_none hV
  clear hA0 hval0
  obtain ⟨A0, n0, c0, rfl⟩ := okWide_slice Try.underlying22 (hval 0 22 v0 rfl rfl)
  obtain ⟨hc0, l0, hl0, hr0⟩ := open_mts h0
  obtain ⟨A1, n1, c1, rfl⟩ := okWide_slice Try.underlying34 (hval 1 34 v1 rfl rfl)
  obtain ⟨hc1, l1, hl1, hr1⟩ := open_rgs h1
  obtain ⟨x2, rfl, rfl, rfl, wx2⟩ := open_int Try.underlying5 (hval 2 5 v2 rfl rfl) h2
  obtain ⟨x3, rfl, rfl, rfl, wx3⟩ := open_int Try.underlying5 (hval 3 5 v3 rfl rfl) h3
  refine (shared_walk W A0 A1 n0 c0 n1 c1 l0 l1 x2 x3 hr0 hc0 hr1 (u8_bdx wx2) (u8_bdx wx3)).mono fun e W' ⟨he, hb⟩ => ?_
  subst he
  exact ⟨_, rfl, ⟨_, _, _, [], _, [], hW', trodAll_cons_mk (shut_bool Try.underlying4 _) trodAll_mk0, hAll W' hb, rfl, hb.frame _, fun h => by cases h⟩⟩
/-- The law: whatever the input, it returns true, and the input reads as it did. -/
theorem drossShared_holds : Rows.DrossSharedSaid :=
  OpenClaim.holds_of_wide 14 Try.f14 rfl rfl rfl rfl rfl rfl rfl ⟨rfl, rfl, rfl, rfl, rfl⟩ rfl rfl rfl rfl rfl (by kernel_rfl) Try.func14 (by kernel_rfl)
    (of_decide_eq_true (by kernel_rfl)) (by unfold Func.isWrapper; first | (rw [if_pos (by decide +kernel)]; kernel_rfl) | (rw [if_neg (by decide +kernel)]; exact ⟨rfl, rfl⟩))
    (fun os started H enc _ => drossShared_lifted os started H enc)
end
end Go.Proofs.Ytdcglphekafpdaa
