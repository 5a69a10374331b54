/- Texts of the proof, laid together by program. -/
import Derived.Test.YtdcglphekafpdaaMj
namespace Go.Proofs.Ytdcglphekafpdaa
open Go.RowKit Go.Shelf
theorem ranges_ext (v : Value) (w : World) : Calls Try.prog 56 #[v] w fun e w' => e = .returned v ∧ Below w.heap.size w w' := (ranges_any v w).mono fun e w' h => ⟨h.1, by rw [← h.2]; exact Below.refl _ _⟩
theorem of_ext (v : Value) (w : World) : Calls Try.prog 61 #[v] w fun e w' => e = .returned v ∧ Below w.heap.size w w' := (of_any v w).mono fun e w' h => ⟨h.1, by rw [← h.2]; exact Below.refl _ _⟩
set_option maxRecDepth 1000000 in
set_option maxHeartbeats 20000000 in
theorem works_any (w : World) : Calls Try.prog 19 #[] w fun e w' => e = .returned (.bool true) ∧ Below w.heap.size w w' := by
  go_enter Try.func19, Try.ntmps19
  go_wp2_with (first | (go_at_call 67; refine (two_any _).mono ?_; rintro e w1 ⟨g1, rfl, h1, hb1⟩) | (go_at_call 68; refine (good_any _).mono ?_; rintro e w2 ⟨g2, rfl, h2, hb2⟩) | (go_at_call 69; refine (bad_any _).mono ?_; rintro e w3 ⟨g3, rfl, h3, hb3⟩; have hB3 : Below w.heap.size w w3 := hb1.trans ((hb2.trans (hb3.mono hb2.size)).mono hb1.size); have HR := hid (h1.below (hb2.trans (hb3.mono hb2.size)) (by have := hb2.size; have := hb3.size; omega) : MtS w3 w3.heap.size _ 2 twoL); have HG := hid (h2.below hb3 hb3.size : RgS w3 w3.heap.size _ 3 goodL); have HB := hid (h3 : RgS w3 w3.heap.size _ 3 badL); clear h1 h2 h3 hb1 hb2 hb3) | fail)
  obtain ⟨W0, hW0⟩ : ∃ W0 : World, W0 = w3 := ⟨_, rfl⟩
  have hbel : Below w3.heap.size w3 W0 := by rw [hW0]; exact Below.refl _ _
  have hsz := hbel.size
  rw [← hW0]
  clear hW0
  go_wp2_with (fail)
  refine (to_any 100 110 _).mono ?_
  rintro e W1 ⟨rfl, hb⟩
  have hst : Below W0.heap.size W0 W1 := Below.trans (by repeat' (first | with_reducible assumption | with_reducible exact Below.refl _ _ | refine Below.alloc ?_ ?_ _ | refine Below.setCell ?_ ?_ _ | refine Below.drew ?_ | refine below_drewN ?_ _ | (simp; done) | (simp; omega) | omega)) (hb.mono (by first | (simp; done) | (simp; omega) | omega))
  replace hbel := hbel.trans (hst.mono hsz)
  replace hsz := hbel.size
  clear hb hst
  obtain ⟨W0, rfl⟩ : ∃ W0 : World, W0 = W1 := ⟨_, rfl⟩
  go_wp2_with (fail)
  refine (dLeft_any _ _ 2 2 twoL ⟨100, 110⟩ (HR.out.below (by repeat' (first | with_reducible assumption | with_reducible exact Below.refl _ _ | refine Below.alloc ?_ ?_ _ | refine Below.setCell ?_ ?_ _ | refine Below.drew ?_ | refine below_drewN ?_ _ | (simp; done) | (simp; omega) | omega)) (by first | (simp; done) | (simp; omega) | omega)) (by omega)).mono ?_
  rw [kL1.1, kL1.2]
  rintro e W1 ⟨rfl, hb⟩
  have hst : Below W0.heap.size W0 W1 := Below.trans (by repeat' (first | with_reducible assumption | with_reducible exact Below.refl _ _ | refine Below.alloc ?_ ?_ _ | refine Below.setCell ?_ ?_ _ | refine Below.drew ?_ | refine below_drewN ?_ _ | (simp; done) | (simp; omega) | omega)) (hb.mono (by first | (simp; done) | (simp; omega) | omega))
  replace hbel := hbel.trans (hst.mono hsz)
  replace hsz := hbel.size
  clear hb hst
  obtain ⟨W0, rfl⟩ : ∃ W0 : World, W0 = W1 := ⟨_, rfl⟩
  go_wp2_with (fail)
  refine (to_any 5 4 _).mono ?_
  rintro e W1 ⟨rfl, hb⟩
  have hst : Below W0.heap.size W0 W1 := Below.trans (by repeat' (first | with_reducible assumption | with_reducible exact Below.refl _ _ | refine Below.alloc ?_ ?_ _ | refine Below.setCell ?_ ?_ _ | refine Below.drew ?_ | refine below_drewN ?_ _ | (simp; done) | (simp; omega) | omega)) (hb.mono (by first | (simp; done) | (simp; omega) | omega))
  replace hbel := hbel.trans (hst.mono hsz)
  replace hsz := hbel.size
  have HX := hid ((Blk.new W0 24 #[.int .i64 82, .int .i64 103]).below hb (by simp))
  clear hb hst
  obtain ⟨W0, rfl⟩ : ∃ W0 : World, W0 = W1 := ⟨_, rfl⟩
  go_wp2_with (fail)
  refine (dLeft_any _ _ 2 2 twoL ⟨5, 4⟩ (HR.out.below (by repeat' (first | with_reducible assumption | with_reducible exact Below.refl _ _ | refine Below.alloc ?_ ?_ _ | refine Below.setCell ?_ ?_ _ | refine Below.drew ?_ | refine below_drewN ?_ _ | (simp; done) | (simp; omega) | omega)) (by first | (simp; done) | (simp; omega) | omega)) (by omega)).mono ?_
  rw [kL2]
  rintro e W1 ⟨rfl, hb⟩
  have hst : Below W0.heap.size W0 W1 := Below.trans (by repeat' (first | with_reducible assumption | with_reducible exact Below.refl _ _ | refine Below.alloc ?_ ?_ _ | refine Below.setCell ?_ ?_ _ | refine Below.drew ?_ | refine below_drewN ?_ _ | (simp; done) | (simp; omega) | omega)) (hb.mono (by first | (simp; done) | (simp; omega) | omega))
  replace hbel := hbel.trans (hst.mono hsz)
  replace hsz := hbel.size
  replace HX := hid (HX.out.below hst HX.out.lt)
  clear hb hst
  obtain ⟨W0, rfl⟩ : ∃ W0 : World, W0 = W1 := ⟨_, rfl⟩
  go_wp2_with (fail)
  refine (dNeeded_any _ _ 2 2 twoL 90 true (HR.out.below (by repeat' (first | with_reducible assumption | with_reducible exact Below.refl _ _ | refine Below.alloc ?_ ?_ _ | refine Below.setCell ?_ ?_ _ | refine Below.drew ?_ | refine below_drewN ?_ _ | (simp; done) | (simp; omega) | omega)) (by first | (simp; done) | (simp; omega) | omega)) (by omega)).mono ?_
  rw [kN1.1, kN1.2]
  rintro e W1 ⟨rfl, hb⟩
  have hst : Below W0.heap.size W0 W1 := Below.trans (by repeat' (first | with_reducible assumption | with_reducible exact Below.refl _ _ | refine Below.alloc ?_ ?_ _ | refine Below.setCell ?_ ?_ _ | refine Below.drew ?_ | refine below_drewN ?_ _ | (simp; done) | (simp; omega) | omega)) (hb.mono (by first | (simp; done) | (simp; omega) | omega))
  replace hbel := hbel.trans (hst.mono hsz)
  replace hsz := hbel.size
  replace HX := hid (HX.out.below hst HX.out.lt)
  clear hb hst
  obtain ⟨W0, rfl⟩ : ∃ W0 : World, W0 = W1 := ⟨_, rfl⟩
  go_wp2_with (fail)
  refine (dNeeded_any _ _ 2 2 twoL 90 false (HR.out.below (by repeat' (first | with_reducible assumption | with_reducible exact Below.refl _ _ | refine Below.alloc ?_ ?_ _ | refine Below.setCell ?_ ?_ _ | refine Below.drew ?_ | refine below_drewN ?_ _ | (simp; done) | (simp; omega) | omega)) (by first | (simp; done) | (simp; omega) | omega)) (by omega)).mono ?_
  rw [kN2.1, kN2.2]
  rintro e W1 ⟨rfl, hb⟩
  have hst : Below W0.heap.size W0 W1 := Below.trans (by repeat' (first | with_reducible assumption | with_reducible exact Below.refl _ _ | refine Below.alloc ?_ ?_ _ | refine Below.setCell ?_ ?_ _ | refine Below.drew ?_ | refine below_drewN ?_ _ | (simp; done) | (simp; omega) | omega)) (hb.mono (by first | (simp; done) | (simp; omega) | omega))
  replace hbel := hbel.trans (hst.mono hsz)
  replace hsz := hbel.size
  replace HX := hid (HX.out.below hst HX.out.lt)
  clear hb hst
  obtain ⟨W0, rfl⟩ : ∃ W0 : World, W0 = W1 := ⟨_, rfl⟩
  go_wp2_with (fail)
  refine (dNeeded_any _ _ 2 2 twoL 1000000 false (HR.out.below (by repeat' (first | with_reducible assumption | with_reducible exact Below.refl _ _ | refine Below.alloc ?_ ?_ _ | refine Below.setCell ?_ ?_ _ | refine Below.drew ?_ | refine below_drewN ?_ _ | (simp; done) | (simp; omega) | omega)) (by first | (simp; done) | (simp; omega) | omega)) (by omega)).mono ?_
  rw [kN3]
  rintro e W1 ⟨rfl, hb⟩
  have hst : Below W0.heap.size W0 W1 := Below.trans (by repeat' (first | with_reducible assumption | with_reducible exact Below.refl _ _ | refine Below.alloc ?_ ?_ _ | refine Below.setCell ?_ ?_ _ | refine Below.drew ?_ | refine below_drewN ?_ _ | (simp; done) | (simp; omega) | omega)) (hb.mono (by first | (simp; done) | (simp; omega) | omega))
  replace hbel := hbel.trans (hst.mono hsz)
  replace hsz := hbel.size
  replace HX := hid (HX.out.below hst HX.out.lt)
  clear hb hst
  obtain ⟨W0, rfl⟩ : ∃ W0 : World, W0 = W1 := ⟨_, rfl⟩
  go_wp2_with (fail)
  refine (longs_any _ _).mono ?_
  rintro e W1 ⟨rfl, hw1⟩
  subst hw1
  go_wp2_with (fail)
  refine (dCheckTruth_any _ _ _ _ 2 2 3 3 3 3 twoL goodL [100, 90, 88] (HR.out.below (by repeat' (first | with_reducible assumption | with_reducible exact Below.refl _ _ | refine Below.alloc ?_ ?_ _ | refine Below.setCell ?_ ?_ _ | refine Below.drew ?_ | refine below_drewN ?_ _ | (simp; done) | (simp; omega) | omega)) (by first | (simp; done) | (simp; omega) | omega)) (by omega) (HG.out.below (by repeat' (first | with_reducible assumption | with_reducible exact Below.refl _ _ | refine Below.alloc ?_ ?_ _ | refine Below.setCell ?_ ?_ _ | refine Below.drew ?_ | refine below_drewN ?_ _ | (simp; done) | (simp; omega) | omega)) (by first | (simp; done) | (simp; omega) | omega)) (by omega) (ins_blk (l := [100, 90, 88]) (Blk.new _ _ _) (by simp)) (by omega)).mono ?_
  rw [kT1]
  rintro e W1 ⟨rfl, hb⟩
  have hst : Below W0.heap.size W0 W1 := Below.trans (by repeat' (first | with_reducible assumption | with_reducible exact Below.refl _ _ | refine Below.alloc ?_ ?_ _ | refine Below.setCell ?_ ?_ _ | refine Below.drew ?_ | refine below_drewN ?_ _ | (simp; done) | (simp; omega) | omega)) (hb.mono (by first | (simp; done) | (simp; omega) | omega))
  replace hbel := hbel.trans (hst.mono hsz)
  replace hsz := hbel.size
  replace HX := hid (HX.out.below hst HX.out.lt)
  clear hb hst
  obtain ⟨W0, rfl⟩ : ∃ W0 : World, W0 = W1 := ⟨_, rfl⟩
  go_wp2_with (fail)
  refine (longs_any _ _).mono ?_
  rintro e W1 ⟨rfl, hw1⟩
  subst hw1
  go_wp2_with (fail)
  refine (dCheckTruth_any _ _ _ _ 2 2 3 3 3 3 twoL goodL [100, 95, 92] (HR.out.below (by repeat' (first | with_reducible assumption | with_reducible exact Below.refl _ _ | refine Below.alloc ?_ ?_ _ | refine Below.setCell ?_ ?_ _ | refine Below.drew ?_ | refine below_drewN ?_ _ | (simp; done) | (simp; omega) | omega)) (by first | (simp; done) | (simp; omega) | omega)) (by omega) (HG.out.below (by repeat' (first | with_reducible assumption | with_reducible exact Below.refl _ _ | refine Below.alloc ?_ ?_ _ | refine Below.setCell ?_ ?_ _ | refine Below.drew ?_ | refine below_drewN ?_ _ | (simp; done) | (simp; omega) | omega)) (by first | (simp; done) | (simp; omega) | omega)) (by omega) (ins_blk (l := [100, 95, 92]) (Blk.new _ _ _) (by simp)) (by omega)).mono ?_
  rw [kT2]
  rintro e W1 ⟨rfl, hb⟩
  have hst : Below W0.heap.size W0 W1 := Below.trans (by repeat' (first | with_reducible assumption | with_reducible exact Below.refl _ _ | refine Below.alloc ?_ ?_ _ | refine Below.setCell ?_ ?_ _ | refine Below.drew ?_ | refine below_drewN ?_ _ | (simp; done) | (simp; omega) | omega)) (hb.mono (by first | (simp; done) | (simp; omega) | omega))
  replace hbel := hbel.trans (hst.mono hsz)
  replace hsz := hbel.size
  replace HX := hid (HX.out.below hst HX.out.lt)
  clear hb hst
  obtain ⟨W0, rfl⟩ : ∃ W0 : World, W0 = W1 := ⟨_, rfl⟩
  go_wp2_with (fail)
  refine (longs_any _ _).mono ?_
  rintro e W1 ⟨rfl, hw1⟩
  subst hw1
  go_wp2_with (fail)
  refine (dCheckTruth_any _ _ _ _ 2 2 3 3 2 2 twoL goodL [100, 90] (HR.out.below (by repeat' (first | with_reducible assumption | with_reducible exact Below.refl _ _ | refine Below.alloc ?_ ?_ _ | refine Below.setCell ?_ ?_ _ | refine Below.drew ?_ | refine below_drewN ?_ _ | (simp; done) | (simp; omega) | omega)) (by first | (simp; done) | (simp; omega) | omega)) (by omega) (HG.out.below (by repeat' (first | with_reducible assumption | with_reducible exact Below.refl _ _ | refine Below.alloc ?_ ?_ _ | refine Below.setCell ?_ ?_ _ | refine Below.drew ?_ | refine below_drewN ?_ _ | (simp; done) | (simp; omega) | omega)) (by first | (simp; done) | (simp; omega) | omega)) (by omega) (ins_blk (l := [100, 90]) (Blk.new _ _ _) (by simp)) (by omega)).mono ?_
  rw [kT3]
  rintro e W1 ⟨rfl, hb⟩
  have hst : Below W0.heap.size W0 W1 := Below.trans (by repeat' (first | with_reducible assumption | with_reducible exact Below.refl _ _ | refine Below.alloc ?_ ?_ _ | refine Below.setCell ?_ ?_ _ | refine Below.drew ?_ | refine below_drewN ?_ _ | (simp; done) | (simp; omega) | omega)) (hb.mono (by first | (simp; done) | (simp; omega) | omega))
  replace hbel := hbel.trans (hst.mono hsz)
  replace hsz := hbel.size
  replace HX := hid (HX.out.below hst HX.out.lt)
  clear hb hst
  obtain ⟨W0, rfl⟩ : ∃ W0 : World, W0 = W1 := ⟨_, rfl⟩
  go_wp2_with (fail)
  refine (dTruth_any _ _ _ 2 2 3 3 twoL goodL (HR.out.below (by repeat' (first | with_reducible assumption | with_reducible exact Below.refl _ _ | refine Below.alloc ?_ ?_ _ | refine Below.setCell ?_ ?_ _ | refine Below.drew ?_ | refine below_drewN ?_ _ | (simp; done) | (simp; omega) | omega)) (by first | (simp; done) | (simp; omega) | omega)) (by omega) (HG.out.below (by repeat' (first | with_reducible assumption | with_reducible exact Below.refl _ _ | refine Below.alloc ?_ ?_ _ | refine Below.setCell ?_ ?_ _ | refine Below.drew ?_ | refine below_drewN ?_ _ | (simp; done) | (simp; omega) | omega)) (by first | (simp; done) | (simp; omega) | omega)) (by omega)).mono ?_
  rintro e W1 ⟨At, mt, ct, ts, rfl, hts, ht1, ht0, hb⟩
  have hst : Below W0.heap.size W0 W1 := Below.trans (by repeat' (first | with_reducible assumption | with_reducible exact Below.refl _ _ | refine Below.alloc ?_ ?_ _ | refine Below.setCell ?_ ?_ _ | refine Below.drew ?_ | refine below_drewN ?_ _ | (simp; done) | (simp; omega) | omega)) (hb.mono (by first | (simp; done) | (simp; omega) | omega))
  replace hbel := hbel.trans (hst.mono hsz)
  replace hsz := hbel.size
  replace HX := hid (HX.out.below hst HX.out.lt)
  have Hts := hid hts; have Ht1 := hid (ht1 kE1); clear hts ht1 ht0; rw [kE1]
  clear hb hst
  obtain ⟨W0, rfl⟩ : ∃ W0 : World, W0 = W1 := ⟨_, rfl⟩
  go_wp2_with (fail)
  refine (dTruth_any _ _ _ 2 2 3 3 twoL badL (HR.out.below (by repeat' (first | with_reducible assumption | with_reducible exact Below.refl _ _ | refine Below.alloc ?_ ?_ _ | refine Below.setCell ?_ ?_ _ | refine Below.drew ?_ | refine below_drewN ?_ _ | (simp; done) | (simp; omega) | omega)) (by first | (simp; done) | (simp; omega) | omega)) (by omega) (HB.out.below (by repeat' (first | with_reducible assumption | with_reducible exact Below.refl _ _ | refine Below.alloc ?_ ?_ _ | refine Below.setCell ?_ ?_ _ | refine Below.drew ?_ | refine below_drewN ?_ _ | (simp; done) | (simp; omega) | omega)) (by first | (simp; done) | (simp; omega) | omega)) (by omega)).mono ?_
  rintro e W1 ⟨Au, mu_, cu, us, rfl, hus, hu1, hu0, hb⟩
  have hst : Below W0.heap.size W0 W1 := Below.trans (by repeat' (first | with_reducible assumption | with_reducible exact Below.refl _ _ | refine Below.alloc ?_ ?_ _ | refine Below.setCell ?_ ?_ _ | refine Below.drew ?_ | refine below_drewN ?_ _ | (simp; done) | (simp; omega) | omega)) (hb.mono (by first | (simp; done) | (simp; omega) | omega))
  replace hbel := hbel.trans (hst.mono hsz)
  replace hsz := hbel.size
  replace HX := hid (HX.out.below hst HX.out.lt)
  replace Hts := hid (Hts.out.below hst hst.size)
  clear hus hu1 hu0; rw [kE2]
  clear hb hst
  obtain ⟨W0, rfl⟩ : ∃ W0 : World, W0 = W1 := ⟨_, rfl⟩
  go_wp2_with (fail)
  refine (dBetween_any _ _ _ 2 2 3 3 twoL goodL (HR.out.below (by repeat' (first | with_reducible assumption | with_reducible exact Below.refl _ _ | refine Below.alloc ?_ ?_ _ | refine Below.setCell ?_ ?_ _ | refine Below.drew ?_ | refine below_drewN ?_ _ | (simp; done) | (simp; omega) | omega)) (by first | (simp; done) | (simp; omega) | omega)) (by omega) (HG.out.below (by repeat' (first | with_reducible assumption | with_reducible exact Below.refl _ _ | refine Below.alloc ?_ ?_ _ | refine Below.setCell ?_ ?_ _ | refine Below.drew ?_ | refine below_drewN ?_ _ | (simp; done) | (simp; omega) | omega)) (by first | (simp; done) | (simp; omega) | omega)) (by omega)).mono ?_
  rintro e W1 ⟨Al, ml, cl, rfl, hl, hb⟩
  have hst : Below W0.heap.size W0 W1 := Below.trans (by repeat' (first | with_reducible assumption | with_reducible exact Below.refl _ _ | refine Below.alloc ?_ ?_ _ | refine Below.setCell ?_ ?_ _ | refine Below.drew ?_ | refine below_drewN ?_ _ | (simp; done) | (simp; omega) | omega)) (hb.mono (by first | (simp; done) | (simp; omega) | omega))
  replace hbel := hbel.trans (hst.mono hsz)
  replace hsz := hbel.size
  replace HX := hid (HX.out.below hst HX.out.lt)
  replace Hts := hid (Hts.out.below hst hst.size)
  rw [kB1] at hl; have Hl := hid hl; clear hl; rw [kE1]
  clear hb hst
  obtain ⟨W0, rfl⟩ : ∃ W0 : World, W0 = W1 := ⟨_, rfl⟩
  go_wp2_with (fail)
  refine (dCheckClash_any _ _ _ 2 2 3 3 twoL badL 0 1 (HR.out.below (by repeat' (first | with_reducible assumption | with_reducible exact Below.refl _ _ | refine Below.alloc ?_ ?_ _ | refine Below.setCell ?_ ?_ _ | refine Below.drew ?_ | refine below_drewN ?_ _ | (simp; done) | (simp; omega) | omega)) (by first | (simp; done) | (simp; omega) | omega)) (by omega) (by omega) (HB.out.below (by repeat' (first | with_reducible assumption | with_reducible exact Below.refl _ _ | refine Below.alloc ?_ ?_ _ | refine Below.setCell ?_ ?_ _ | refine Below.drew ?_ | refine below_drewN ?_ _ | (simp; done) | (simp; omega) | omega)) (by first | (simp; done) | (simp; omega) | omega)) (by omega)).mono ?_
  rw [kC1.1, kC1.2]
  rintro e W1 ⟨rfl, hb⟩
  have hst : Below W0.heap.size W0 W1 := Below.trans (by repeat' (first | with_reducible assumption | with_reducible exact Below.refl _ _ | refine Below.alloc ?_ ?_ _ | refine Below.setCell ?_ ?_ _ | refine Below.drew ?_ | refine below_drewN ?_ _ | (simp; done) | (simp; omega) | omega)) (hb.mono (by first | (simp; done) | (simp; omega) | omega))
  replace hbel := hbel.trans (hst.mono hsz)
  replace hsz := hbel.size
  replace HX := hid (HX.out.below hst HX.out.lt)
  replace Hts := hid (Hts.out.below hst hst.size)
  replace Hl := hid (Hl.out.below hst hst.size)
  clear hb hst
  obtain ⟨W0, rfl⟩ : ∃ W0 : World, W0 = W1 := ⟨_, rfl⟩
  go_wp2_with (fail)
  refine (dCheckClash_any _ _ _ 2 2 3 3 twoL badL 1 2 (HR.out.below (by repeat' (first | with_reducible assumption | with_reducible exact Below.refl _ _ | refine Below.alloc ?_ ?_ _ | refine Below.setCell ?_ ?_ _ | refine Below.drew ?_ | refine below_drewN ?_ _ | (simp; done) | (simp; omega) | omega)) (by first | (simp; done) | (simp; omega) | omega)) (by omega) (by omega) (HB.out.below (by repeat' (first | with_reducible assumption | with_reducible exact Below.refl _ _ | refine Below.alloc ?_ ?_ _ | refine Below.setCell ?_ ?_ _ | refine Below.drew ?_ | refine below_drewN ?_ _ | (simp; done) | (simp; omega) | omega)) (by first | (simp; done) | (simp; omega) | omega)) (by omega)).mono ?_
  rw [kC2.1, kC2.2]
  rintro e W1 ⟨rfl, hb⟩
  have hst : Below W0.heap.size W0 W1 := Below.trans (by repeat' (first | with_reducible assumption | with_reducible exact Below.refl _ _ | refine Below.alloc ?_ ?_ _ | refine Below.setCell ?_ ?_ _ | refine Below.drew ?_ | refine below_drewN ?_ _ | (simp; done) | (simp; omega) | omega)) (hb.mono (by first | (simp; done) | (simp; omega) | omega))
  replace hbel := hbel.trans (hst.mono hsz)
  replace hsz := hbel.size
  replace HX := hid (HX.out.below hst HX.out.lt)
  replace Hts := hid (Hts.out.below hst hst.size)
  replace Hl := hid (Hl.out.below hst hst.size)
  clear hb hst
  obtain ⟨W0, rfl⟩ : ∃ W0 : World, W0 = W1 := ⟨_, rfl⟩
  go_wp2_with (fail)
  refine (dCheckClash_any _ _ _ 2 2 3 3 twoL badL 0 2 (HR.out.below (by repeat' (first | with_reducible assumption | with_reducible exact Below.refl _ _ | refine Below.alloc ?_ ?_ _ | refine Below.setCell ?_ ?_ _ | refine Below.drew ?_ | refine below_drewN ?_ _ | (simp; done) | (simp; omega) | omega)) (by first | (simp; done) | (simp; omega) | omega)) (by omega) (by omega) (HB.out.below (by repeat' (first | with_reducible assumption | with_reducible exact Below.refl _ _ | refine Below.alloc ?_ ?_ _ | refine Below.setCell ?_ ?_ _ | refine Below.drew ?_ | refine below_drewN ?_ _ | (simp; done) | (simp; omega) | omega)) (by first | (simp; done) | (simp; omega) | omega)) (by omega)).mono ?_
  rw [kC3]
  rintro e W1 ⟨rfl, hb⟩
  have hst : Below W0.heap.size W0 W1 := Below.trans (by repeat' (first | with_reducible assumption | with_reducible exact Below.refl _ _ | refine Below.alloc ?_ ?_ _ | refine Below.setCell ?_ ?_ _ | refine Below.drew ?_ | refine below_drewN ?_ _ | (simp; done) | (simp; omega) | omega)) (hb.mono (by first | (simp; done) | (simp; omega) | omega))
  replace hbel := hbel.trans (hst.mono hsz)
  replace hsz := hbel.size
  replace HX := hid (HX.out.below hst HX.out.lt)
  replace Hts := hid (Hts.out.below hst hst.size)
  replace Hl := hid (Hl.out.below hst hst.size)
  clear hb hst
  obtain ⟨W0, rfl⟩ : ∃ W0 : World, W0 = W1 := ⟨_, rfl⟩
  go_wp2_with (fail)
  refine (dCheckClash_any _ _ _ 2 2 3 3 twoL badL 1 1 (HR.out.below (by repeat' (first | with_reducible assumption | with_reducible exact Below.refl _ _ | refine Below.alloc ?_ ?_ _ | refine Below.setCell ?_ ?_ _ | refine Below.drew ?_ | refine below_drewN ?_ _ | (simp; done) | (simp; omega) | omega)) (by first | (simp; done) | (simp; omega) | omega)) (by omega) (by omega) (HB.out.below (by repeat' (first | with_reducible assumption | with_reducible exact Below.refl _ _ | refine Below.alloc ?_ ?_ _ | refine Below.setCell ?_ ?_ _ | refine Below.drew ?_ | refine below_drewN ?_ _ | (simp; done) | (simp; omega) | omega)) (by first | (simp; done) | (simp; omega) | omega)) (by omega)).mono ?_
  rw [kC4]
  rintro e W1 ⟨rfl, hb⟩
  have hst : Below W0.heap.size W0 W1 := Below.trans (by repeat' (first | with_reducible assumption | with_reducible exact Below.refl _ _ | refine Below.alloc ?_ ?_ _ | refine Below.setCell ?_ ?_ _ | refine Below.drew ?_ | refine below_drewN ?_ _ | (simp; done) | (simp; omega) | omega)) (hb.mono (by first | (simp; done) | (simp; omega) | omega))
  replace hbel := hbel.trans (hst.mono hsz)
  replace hsz := hbel.size
  replace HX := hid (HX.out.below hst HX.out.lt)
  replace Hts := hid (Hts.out.below hst hst.size)
  replace Hl := hid (Hl.out.below hst hst.size)
  clear hb hst
  obtain ⟨W0, rfl⟩ : ∃ W0 : World, W0 = W1 := ⟨_, rfl⟩
  go_wp2_with (fail)
  refine (dClash_any _ _ _ 2 2 3 3 twoL badL (HR.out.below (by repeat' (first | with_reducible assumption | with_reducible exact Below.refl _ _ | refine Below.alloc ?_ ?_ _ | refine Below.setCell ?_ ?_ _ | refine Below.drew ?_ | refine below_drewN ?_ _ | (simp; done) | (simp; omega) | omega)) (by first | (simp; done) | (simp; omega) | omega)) (by omega) (by omega) (HB.out.below (by repeat' (first | with_reducible assumption | with_reducible exact Below.refl _ _ | refine Below.alloc ?_ ?_ _ | refine Below.setCell ?_ ?_ _ | refine Below.drew ?_ | refine below_drewN ?_ _ | (simp; done) | (simp; omega) | omega)) (by first | (simp; done) | (simp; omega) | omega)) (by omega)).mono ?_
  rw [kR1]
  rintro e W1 ⟨rfl, hb⟩
  have hst : Below W0.heap.size W0 W1 := Below.trans (by repeat' (first | with_reducible assumption | with_reducible exact Below.refl _ _ | refine Below.alloc ?_ ?_ _ | refine Below.setCell ?_ ?_ _ | refine Below.drew ?_ | refine below_drewN ?_ _ | (simp; done) | (simp; omega) | omega)) (hb.mono (by first | (simp; done) | (simp; omega) | omega))
  replace hbel := hbel.trans (hst.mono hsz)
  replace hsz := hbel.size
  replace HX := hid (HX.out.below hst HX.out.lt)
  replace Hts := hid (Hts.out.below hst hst.size)
  replace Hl := hid (Hl.out.below hst hst.size)
  clear hb hst
  obtain ⟨W0, rfl⟩ : ∃ W0 : World, W0 = W1 := ⟨_, rfl⟩
  go_wp2_with (fail)
  refine (dClash_any _ _ _ 2 2 3 3 twoL goodL (HR.out.below (by repeat' (first | with_reducible assumption | with_reducible exact Below.refl _ _ | refine Below.alloc ?_ ?_ _ | refine Below.setCell ?_ ?_ _ | refine Below.drew ?_ | refine below_drewN ?_ _ | (simp; done) | (simp; omega) | omega)) (by first | (simp; done) | (simp; omega) | omega)) (by omega) (by omega) (HG.out.below (by repeat' (first | with_reducible assumption | with_reducible exact Below.refl _ _ | refine Below.alloc ?_ ?_ _ | refine Below.setCell ?_ ?_ _ | refine Below.drew ?_ | refine below_drewN ?_ _ | (simp; done) | (simp; omega) | omega)) (by first | (simp; done) | (simp; omega) | omega)) (by omega)).mono ?_
  rw [kR2]
  rintro e W1 ⟨rfl, hb⟩
  have hst : Below W0.heap.size W0 W1 := Below.trans (by repeat' (first | with_reducible assumption | with_reducible exact Below.refl _ _ | refine Below.alloc ?_ ?_ _ | refine Below.setCell ?_ ?_ _ | refine Below.drew ?_ | refine below_drewN ?_ _ | (simp; done) | (simp; omega) | omega)) (hb.mono (by first | (simp; done) | (simp; omega) | omega))
  replace hbel := hbel.trans (hst.mono hsz)
  replace hsz := hbel.size
  replace HX := hid (HX.out.below hst HX.out.lt)
  replace Hts := hid (Hts.out.below hst hst.size)
  replace Hl := hid (Hl.out.below hst hst.size)
  clear hb hst
  obtain ⟨W0, rfl⟩ : ∃ W0 : World, W0 = W1 := ⟨_, rfl⟩
  go_wp2_with (fail)
  refine (dWrong_any _ _ _ 2 2 3 3 twoL badL (HR.out.below (by repeat' (first | with_reducible assumption | with_reducible exact Below.refl _ _ | refine Below.alloc ?_ ?_ _ | refine Below.setCell ?_ ?_ _ | refine Below.drew ?_ | refine below_drewN ?_ _ | (simp; done) | (simp; omega) | omega)) (by first | (simp; done) | (simp; omega) | omega)) (by omega) (HB.out.below (by repeat' (first | with_reducible assumption | with_reducible exact Below.refl _ _ | refine Below.alloc ?_ ?_ _ | refine Below.setCell ?_ ?_ _ | refine Below.drew ?_ | refine below_drewN ?_ _ | (simp; done) | (simp; omega) | omega)) (by first | (simp; done) | (simp; omega) | omega)) (by omega)).mono ?_
  rw [kW1, kS2]
  rintro e W1 ⟨uw, rfl, hw, hb⟩
  have hst : Below W0.heap.size W0 W1 := Below.trans (by repeat' (first | with_reducible assumption | with_reducible exact Below.refl _ _ | refine Below.alloc ?_ ?_ _ | refine Below.setCell ?_ ?_ _ | refine Below.drew ?_ | refine below_drewN ?_ _ | (simp; done) | (simp; omega) | omega)) (hb.mono (by first | (simp; done) | (simp; omega) | omega))
  replace hbel := hbel.trans (hst.mono hsz)
  replace hsz := hbel.size
  replace HX := hid (HX.out.below hst HX.out.lt)
  replace Hts := hid (Hts.out.below hst hst.size)
  replace Hl := hid (Hl.out.below hst hst.size)
  obtain ⟨Aw, cw, rfl, hsw, _⟩ := hw.form; have Hw := hid hsw; clear hw hsw
  clear hb hst
  obtain ⟨W0, rfl⟩ : ∃ W0 : World, W0 = W1 := ⟨_, rfl⟩
  go_wp2_with (fail)
  refine (dWrong_any _ _ _ 2 2 3 3 twoL goodL (HR.out.below (by repeat' (first | with_reducible assumption | with_reducible exact Below.refl _ _ | refine Below.alloc ?_ ?_ _ | refine Below.setCell ?_ ?_ _ | refine Below.drew ?_ | refine below_drewN ?_ _ | (simp; done) | (simp; omega) | omega)) (by first | (simp; done) | (simp; omega) | omega)) (by omega) (HG.out.below (by repeat' (first | with_reducible assumption | with_reducible exact Below.refl _ _ | refine Below.alloc ?_ ?_ _ | refine Below.setCell ?_ ?_ _ | refine Below.drew ?_ | refine below_drewN ?_ _ | (simp; done) | (simp; omega) | omega)) (by first | (simp; done) | (simp; omega) | omega)) (by omega)).mono ?_
  rw [kW2, kS1]
  rintro e W1 ⟨uv, rfl, hv, hb⟩
  have hst : Below W0.heap.size W0 W1 := Below.trans (by repeat' (first | with_reducible assumption | with_reducible exact Below.refl _ _ | refine Below.alloc ?_ ?_ _ | refine Below.setCell ?_ ?_ _ | refine Below.drew ?_ | refine below_drewN ?_ _ | (simp; done) | (simp; omega) | omega)) (hb.mono (by first | (simp; done) | (simp; omega) | omega))
  replace hbel := hbel.trans (hst.mono hsz)
  replace hsz := hbel.size
  replace HX := hid (HX.out.below hst HX.out.lt)
  replace Hts := hid (Hts.out.below hst hst.size)
  replace Hl := hid (Hl.out.below hst hst.size)
  replace Hw := hid (Hw.out.below hst hst.size)
  obtain ⟨Av, cv, rfl, hsv, _⟩ := hv.form; clear hv hsv
  clear hb hst
  obtain ⟨W0, rfl⟩ : ∃ W0 : World, W0 = W1 := ⟨_, rfl⟩
  go_wp2_with (fail)
  refine (of_any _ _).mono ?_
  rintro e W1 ⟨rfl, hw1⟩
  subst hw1
  go_wp2_with (fail)
  refine (dCheckWrong_any _ _ _ _ 2 2 3 3 1 1 twoL badL [1] (HR.out.below (by repeat' (first | with_reducible assumption | with_reducible exact Below.refl _ _ | refine Below.alloc ?_ ?_ _ | refine Below.setCell ?_ ?_ _ | refine Below.drew ?_ | refine below_drewN ?_ _ | (simp; done) | (simp; omega) | omega)) (by first | (simp; done) | (simp; omega) | omega)) (by omega) (HB.out.below (by repeat' (first | with_reducible assumption | with_reducible exact Below.refl _ _ | refine Below.alloc ?_ ?_ _ | refine Below.setCell ?_ ?_ _ | refine Below.drew ?_ | refine below_drewN ?_ _ | (simp; done) | (simp; omega) | omega)) (by first | (simp; done) | (simp; omega) | omega)) (by omega) (ins_blk (l := [1]) (Blk.new _ _ _) (by simp)) (by omega)).mono ?_
  rw [kW3]
  rintro e W1 ⟨rfl, hb⟩
  have hst : Below W0.heap.size W0 W1 := Below.trans (by repeat' (first | with_reducible assumption | with_reducible exact Below.refl _ _ | refine Below.alloc ?_ ?_ _ | refine Below.setCell ?_ ?_ _ | refine Below.drew ?_ | refine below_drewN ?_ _ | (simp; done) | (simp; omega) | omega)) (hb.mono (by first | (simp; done) | (simp; omega) | omega))
  replace hbel := hbel.trans (hst.mono hsz)
  replace hsz := hbel.size
  replace HX := hid (HX.out.below hst HX.out.lt)
  replace Hts := hid (Hts.out.below hst hst.size)
  replace Hl := hid (Hl.out.below hst hst.size)
  replace Hw := hid (Hw.out.below hst hst.size)
  clear hb hst
  obtain ⟨W0, rfl⟩ : ∃ W0 : World, W0 = W1 := ⟨_, rfl⟩
  go_wp2_with (fail)
  refine (of_any _ _).mono ?_
  rintro e W1 ⟨rfl, hw1⟩
  subst hw1
  go_wp2_with (fail)
  refine (dCheckWrong_any _ _ _ _ 2 2 3 3 1 1 twoL badL [0] (HR.out.below (by repeat' (first | with_reducible assumption | with_reducible exact Below.refl _ _ | refine Below.alloc ?_ ?_ _ | refine Below.setCell ?_ ?_ _ | refine Below.drew ?_ | refine below_drewN ?_ _ | (simp; done) | (simp; omega) | omega)) (by first | (simp; done) | (simp; omega) | omega)) (by omega) (HB.out.below (by repeat' (first | with_reducible assumption | with_reducible exact Below.refl _ _ | refine Below.alloc ?_ ?_ _ | refine Below.setCell ?_ ?_ _ | refine Below.drew ?_ | refine below_drewN ?_ _ | (simp; done) | (simp; omega) | omega)) (by first | (simp; done) | (simp; omega) | omega)) (by omega) (ins_blk (l := [0]) (Blk.new _ _ _) (by simp)) (by omega)).mono ?_
  rw [kW4]
  rintro e W1 ⟨rfl, hb⟩
  have hst : Below W0.heap.size W0 W1 := Below.trans (by repeat' (first | with_reducible assumption | with_reducible exact Below.refl _ _ | refine Below.alloc ?_ ?_ _ | refine Below.setCell ?_ ?_ _ | refine Below.drew ?_ | refine below_drewN ?_ _ | (simp; done) | (simp; omega) | omega)) (hb.mono (by first | (simp; done) | (simp; omega) | omega))
  replace hbel := hbel.trans (hst.mono hsz)
  replace hsz := hbel.size
  replace HX := hid (HX.out.below hst HX.out.lt)
  replace Hts := hid (Hts.out.below hst hst.size)
  replace Hl := hid (Hl.out.below hst hst.size)
  replace Hw := hid (Hw.out.below hst hst.size)
  clear hb hst
  obtain ⟨W0, rfl⟩ : ∃ W0 : World, W0 = W1 := ⟨_, rfl⟩
  go_wp2_with (fail)
  refine (dMelts_any _ _ _ 2 2 3 3 twoL badL (HR.out.below (by repeat' (first | with_reducible assumption | with_reducible exact Below.refl _ _ | refine Below.alloc ?_ ?_ _ | refine Below.setCell ?_ ?_ _ | refine Below.drew ?_ | refine below_drewN ?_ _ | (simp; done) | (simp; omega) | omega)) (by first | (simp; done) | (simp; omega) | omega)) (by omega) (by omega) (HB.out.below (by repeat' (first | with_reducible assumption | with_reducible exact Below.refl _ _ | refine Below.alloc ?_ ?_ _ | refine Below.setCell ?_ ?_ _ | refine Below.drew ?_ | refine below_drewN ?_ _ | (simp; done) | (simp; omega) | omega)) (by first | (simp; done) | (simp; omega) | omega)) (by omega)).mono ?_
  rw [kM1, kS2]
  rintro e W1 ⟨uc, rfl, hc, hb⟩
  have hst : Below W0.heap.size W0 W1 := Below.trans (by repeat' (first | with_reducible assumption | with_reducible exact Below.refl _ _ | refine Below.alloc ?_ ?_ _ | refine Below.setCell ?_ ?_ _ | refine Below.drew ?_ | refine below_drewN ?_ _ | (simp; done) | (simp; omega) | omega)) (hb.mono (by first | (simp; done) | (simp; omega) | omega))
  replace hbel := hbel.trans (hst.mono hsz)
  replace hsz := hbel.size
  replace HX := hid (HX.out.below hst HX.out.lt)
  replace Hts := hid (Hts.out.below hst hst.size)
  replace Hl := hid (Hl.out.below hst hst.size)
  replace Hw := hid (Hw.out.below hst hst.size)
  obtain ⟨Ac, cc, rfl, hsc, _⟩ := hc.form; have Hc := hid hsc; clear hc hsc
  clear hb hst
  obtain ⟨W0, rfl⟩ : ∃ W0 : World, W0 = W1 := ⟨_, rfl⟩
  go_wp2_with (fail)
  refine (of_any _ _).mono ?_
  rintro e W1 ⟨rfl, hw1⟩
  subst hw1
  go_wp2_with (fail)
  refine (dCheckMelts_any _ _ _ _ 2 2 3 3 1 1 twoL badL [0] (HR.out.below (by repeat' (first | with_reducible assumption | with_reducible exact Below.refl _ _ | refine Below.alloc ?_ ?_ _ | refine Below.setCell ?_ ?_ _ | refine Below.drew ?_ | refine below_drewN ?_ _ | (simp; done) | (simp; omega) | omega)) (by first | (simp; done) | (simp; omega) | omega)) (by omega) (by omega) (HB.out.below (by repeat' (first | with_reducible assumption | with_reducible exact Below.refl _ _ | refine Below.alloc ?_ ?_ _ | refine Below.setCell ?_ ?_ _ | refine Below.drew ?_ | refine below_drewN ?_ _ | (simp; done) | (simp; omega) | omega)) (by first | (simp; done) | (simp; omega) | omega)) (by omega) (ins_blk (l := [0]) (Blk.new _ _ _) (by simp)) (by omega)).mono ?_
  rw [kM2]
  rintro e W1 ⟨rfl, hb⟩
  have hst : Below W0.heap.size W0 W1 := Below.trans (by repeat' (first | with_reducible assumption | with_reducible exact Below.refl _ _ | refine Below.alloc ?_ ?_ _ | refine Below.setCell ?_ ?_ _ | refine Below.drew ?_ | refine below_drewN ?_ _ | (simp; done) | (simp; omega) | omega)) (hb.mono (by first | (simp; done) | (simp; omega) | omega))
  replace hbel := hbel.trans (hst.mono hsz)
  replace hsz := hbel.size
  replace HX := hid (HX.out.below hst HX.out.lt)
  replace Hts := hid (Hts.out.below hst hst.size)
  replace Hl := hid (Hl.out.below hst hst.size)
  replace Hw := hid (Hw.out.below hst hst.size)
  replace Hc := hid (Hc.out.below hst hst.size)
  clear hb hst
  obtain ⟨W0, rfl⟩ : ∃ W0 : World, W0 = W1 := ⟨_, rfl⟩
  go_wp2_with (fail)
  refine (of_any _ _).mono ?_
  rintro e W1 ⟨rfl, hw1⟩
  subst hw1
  go_wp2_with (fail)
  refine (dCheckMelts_any _ _ _ _ 2 2 3 3 1 1 twoL badL [2] (HR.out.below (by repeat' (first | with_reducible assumption | with_reducible exact Below.refl _ _ | refine Below.alloc ?_ ?_ _ | refine Below.setCell ?_ ?_ _ | refine Below.drew ?_ | refine below_drewN ?_ _ | (simp; done) | (simp; omega) | omega)) (by first | (simp; done) | (simp; omega) | omega)) (by omega) (by omega) (HB.out.below (by repeat' (first | with_reducible assumption | with_reducible exact Below.refl _ _ | refine Below.alloc ?_ ?_ _ | refine Below.setCell ?_ ?_ _ | refine Below.drew ?_ | refine below_drewN ?_ _ | (simp; done) | (simp; omega) | omega)) (by first | (simp; done) | (simp; omega) | omega)) (by omega) (ins_blk (l := [2]) (Blk.new _ _ _) (by simp)) (by omega)).mono ?_
  rw [kM3]
  rintro e W1 ⟨rfl, hb⟩
  have hst : Below W0.heap.size W0 W1 := Below.trans (by repeat' (first | with_reducible assumption | with_reducible exact Below.refl _ _ | refine Below.alloc ?_ ?_ _ | refine Below.setCell ?_ ?_ _ | refine Below.drew ?_ | refine below_drewN ?_ _ | (simp; done) | (simp; omega) | omega)) (hb.mono (by first | (simp; done) | (simp; omega) | omega))
  replace hbel := hbel.trans (hst.mono hsz)
  replace hsz := hbel.size
  replace HX := hid (HX.out.below hst HX.out.lt)
  replace Hts := hid (Hts.out.below hst hst.size)
  replace Hl := hid (Hl.out.below hst hst.size)
  replace Hw := hid (Hw.out.below hst hst.size)
  replace Hc := hid (Hc.out.below hst hst.size)
  clear hb hst
  obtain ⟨W0, rfl⟩ : ∃ W0 : World, W0 = W1 := ⟨_, rfl⟩
  go_wp2_with (fail)
  have heq := fun W => eql24 W 82 103 82 103
  have hmt : mt = 3 := by rw [← Hts.out.len, Ht1.out.1]; rfl
  have Htr := hid (truthE_of kS1 Ht1.out.1 Ht1.out.2)
  have hml : ml = 3 := by rw [← Hl.out.len]; rfl
  subst hmt
  subst hml
  refine wp_region_el [0, 1, 2, 3, 4, 5, 6, 7, 8, 9, 10, 11, 12, 13, 14, 15, 16, 17, 18, 19, 20, 21, 22] 38 (by kernel_rfl) (by kernel_rfl) (fun X hX => ?_)
  have hWX : Below W0.heap.size W0 X := by rw [hX]; exact (Below.refl _ _).drew
  clear hX
  have hb0 : Below w3.heap.size w3 X := hbel.trans (hWX.mono hsz)
  replace HX := hid (HX.out.below hWX HX.out.lt)
  replace Hts := hid (Hts.out.below hWX hWX.size)
  replace Hl := hid (Hl.out.below hWX hWX.size)
  replace Hw := hid (Hw.out.below hWX hWX.size)
  replace Hc := hid (Hc.out.below hWX hWX.size)
  have q0 := HX.out.cell 0
  have q1 := HX.out.cell 1
  have l4 := HX.out.lt
  have hs0 := hb0.size
  simp only [pick, List.getElem?_toArray, List.getElem?_cons_zero, List.getElem?_cons_succ]
  (refine wpE_val (v := ?_) (by rfl) (fun W hW => ?_) ?_; rotate_left; (· obtain ⟨hcW, hfW⟩ := bcell hW; go_simp; with_reducible rfl); simp only [Act.put, List.setIfInBounds_toArray, List.set_cons_zero, List.set_cons_succ])
  (refine wpE_call (by rfl) (fun W hW => to_any 82 103 W) (fun W hW => ?_) ?_; (· obtain ⟨hcW, hfW⟩ := bcell hW; go_simp); simp only [Act.put, List.setIfInBounds_toArray, List.set_cons_zero, List.set_cons_succ])
  iterate 13 (refine wpE_val (v := ?_) (by rfl) (fun W hW => ?_) ?_; rotate_left; (· obtain ⟨hcW, hfW⟩ := bcell hW; go_simp; with_reducible rfl); simp only [Act.put, List.setIfInBounds_toArray, List.set_cons_zero, List.set_cons_succ])
  (refine wpE_call (by rfl) (fun W hW => (by have := refCheckTruth_any W _ _ _ 2 2 3 3 3 ct twoL goodL ts (HR.out.below (hb0.trans (hW.mono hs0)) (by have := hW.size; omega)) (by omega) (HG.out.below (hb0.trans (hW.mono hs0)) (by have := hW.size; omega)) (by omega) (Hts.out.below hW hW.size) (by omega); rw [Htr.out] at this; exact this)) (fun W hW => ?_) ?_; (· obtain ⟨hcW, hfW⟩ := bcell hW; go_simp); simp only [Act.put, List.setIfInBounds_toArray, List.set_cons_zero, List.set_cons_succ])
  iterate 4 (refine wpE_val (v := ?_) (by rfl) (fun W hW => ?_) ?_; rotate_left; (· obtain ⟨hcW, hfW⟩ := bcell hW; go_simp; with_reducible rfl); simp only [Act.put, List.setIfInBounds_toArray, List.set_cons_zero, List.set_cons_succ])
  (refine wpE_call (by rfl) (fun W hW => to_any 100 105 W) (fun W hW => ?_) ?_; (· obtain ⟨hcW, hfW⟩ := bcell hW; go_simp); simp only [Act.put, List.setIfInBounds_toArray, List.set_cons_zero, List.set_cons_succ])
  (refine wpE_call (by rfl) (fun W hW => to_any 90 92 W) (fun W hW => ?_) ?_; (· obtain ⟨hcW, hfW⟩ := bcell hW; go_simp); simp only [Act.put, List.setIfInBounds_toArray, List.set_cons_zero, List.set_cons_succ])
  (refine wpE_call (by rfl) (fun W hW => to_any 88 92 W) (fun W hW => ?_) ?_; (· obtain ⟨hcW, hfW⟩ := bcell hW; go_simp); simp only [Act.put, List.setIfInBounds_toArray, List.set_cons_zero, List.set_cons_succ])
  simp only [wpE]
  (refine wpM_one 23 _ (by simp only [List.getElem?_toArray, List.getElem?_cons_zero, List.getElem?_cons_succ]; rfl) (by kernel_rfl) (by rfl) ?_)
  intro X1 hX1 hX1'
  (go_simp; simp only [LUpon, Act.put]; try simp only [List.setIfInBounds_toArray, List.set_cons_zero, List.set_cons_succ])
  refine ⟨hX1'.alloc hX1'.size _, ?_⟩
  refine wpM_here (hX1'.alloc hX1'.size _) (fun Y1 hY1 => ?_)
  have hXY1 : Below X.heap.size X Y1 := by rw [hY1]; exact hX1'.alloc hX1'.size _
  have bl1 : Blk Y1 X1.heap.size 24 #[.int .i64 100, .int .i64 105, .int .i64 90, .int .i64 92, .int .i64 88, .int .i64 92] := by rw [hY1]; exact Blk.new _ _ _
  have ll1 := bl1.lt
  have hs1 := hXY1.size
  clear hY1 hX1 hX1'
  refine (wpM_early (by kernel_rfl) [24, 25, 26, 27, 28, 29, 30, 31, 32, 33, 34, 35, 36, 37, 38, 39, 40, 41, 42, 43, 44] 16 _ _ (by kernel_rfl) ?_ : wpM Try.prog .any _ _ _ 37 _ _ _)
  simp only [pick, List.getElem?_toArray, List.getElem?_cons_zero, List.getElem?_cons_succ]
  (refine wpE_call (by rfl) (fun W hW => ranges_ext (.slice (some ⟨X1.heap.size, 0, none⟩) 3 3) W) (fun W hW => ?_) ?_; (· obtain ⟨hcW, hfW⟩ := bcell hW; go_simp); simp only [Act.put, List.setIfInBounds_toArray, List.set_cons_zero, List.set_cons_succ])
  (refine wpE_call (by rfl) (fun W hW => (by have := rangesEq_any W _ _ 3 cl 3 3 [⟨100, 105⟩, ⟨90, 92⟩, ⟨88, 92⟩] [⟨100, 105⟩, ⟨90, 92⟩, ⟨88, 92⟩] (Hl.out.below (hXY1.trans (hW.mono hs1)) (by have := hW.size; omega)) (rgs_blk (l := [⟨100, 105⟩, ⟨90, 92⟩, ⟨88, 92⟩]) (bl1.below hW ll1) (by have := hW.size; omega)) (by omega) (by omega); rw [kQ1] at this; exact this)) (fun W hW => ?_) ?_; (· obtain ⟨hcW, hfW⟩ := bcell hW; go_simp); simp only [Act.put, List.setIfInBounds_toArray, List.set_cons_zero, List.set_cons_succ])
  iterate 19 (refine wpE_val (v := ?_) (by rfl) (fun W hW => ?_) ?_; rotate_left; (· obtain ⟨hcW, hfW⟩ := bcell hW; go_simp; with_reducible rfl); simp only [Act.put, List.setIfInBounds_toArray, List.set_cons_zero, List.set_cons_succ])
  simp only [wpE]
  (refine wpM_one 45 _ (by simp only [List.getElem?_toArray, List.getElem?_cons_zero, List.getElem?_cons_succ]; rfl) (by kernel_rfl) (by rfl) ?_)
  intro X2 hX2 hX2'
  (go_simp; simp only [LUpon, Act.put]; try simp only [List.setIfInBounds_toArray, List.set_cons_zero, List.set_cons_succ])
  refine ⟨hX2'.alloc hX2'.size _, ?_⟩
  refine wpM_here (hX2'.alloc hX2'.size _) (fun Y2 hY2 => ?_)
  have hXY2 : Below Y1.heap.size Y1 Y2 := by rw [hY2]; exact hX2'.alloc hX2'.size _
  have bl2 : Blk Y2 X2.heap.size 3 #[.int .i64 1] := by rw [hY2]; exact Blk.new _ _ _
  have ll2 := bl2.lt
  have hs2 := hXY2.size
  clear hY2 hX2 hX2'
  refine (wpM_early (by kernel_rfl) [46, 47, 48, 49, 50, 51, 52, 53, 54, 55] 5 _ _ (by kernel_rfl) ?_ : wpM Try.prog .any _ _ _ 15 _ _ _)
  simp only [pick, List.getElem?_toArray, List.getElem?_cons_zero, List.getElem?_cons_succ]
  (refine wpE_call (by rfl) (fun W hW => of_ext (.slice (some ⟨X2.heap.size, 0, none⟩) 1 1) W) (fun W hW => ?_) ?_; (· obtain ⟨hcW, hfW⟩ := bcell hW; go_simp); simp only [Act.put, List.setIfInBounds_toArray, List.set_cons_zero, List.set_cons_succ])
  (refine wpE_call (by rfl) (fun W hW => (by have := ints_any W _ _ 1 cw 1 1 [1] [1] (Hw.out.below ((hXY1.trans (hXY2.mono hs1)).trans (hW.mono (by omega))) (by have := hW.size; omega)) (ins_blk (l := [1]) (bl2.below hW ll2) (by have := hW.size; omega)) (by omega) (by omega); rw [kQ2] at this; exact this)) (fun W hW => ?_) ?_; (· obtain ⟨hcW, hfW⟩ := bcell hW; go_simp); simp only [Act.put, List.setIfInBounds_toArray, List.set_cons_zero, List.set_cons_succ])
  iterate 8 (refine wpE_val (v := ?_) (by rfl) (fun W hW => ?_) ?_; rotate_left; (· obtain ⟨hcW, hfW⟩ := bcell hW; go_simp; with_reducible rfl); simp only [Act.put, List.setIfInBounds_toArray, List.set_cons_zero, List.set_cons_succ])
  simp only [wpE]
  (refine wpM_one 56 _ (by simp only [List.getElem?_toArray, List.getElem?_cons_zero, List.getElem?_cons_succ]; rfl) (by kernel_rfl) (by rfl) ?_)
  intro X3 hX3 hX3'
  (go_simp; simp only [LUpon, Act.put]; try simp only [List.setIfInBounds_toArray, List.set_cons_zero, List.set_cons_succ])
  refine ⟨hX3'.alloc hX3'.size _, ?_⟩
  refine wpM_here (hX3'.alloc hX3'.size _) (fun Y3 hY3 => ?_)
  have hXY3 : Below Y2.heap.size Y2 Y3 := by rw [hY3]; exact hX3'.alloc hX3'.size _
  have bl3 : Blk Y3 X3.heap.size 3 #[.int .i64 0, .int .i64 1] := by rw [hY3]; exact Blk.new _ _ _
  have ll3 := bl3.lt
  have hs3 := hXY3.size
  clear hY3 hX3 hX3'
  refine (wpM_early (by kernel_rfl) [57, 58, 59, 60] 0 _ _ (by kernel_rfl) ?_ : wpM Try.prog .any _ _ _ 4 _ _ _)
  simp only [pick, List.getElem?_toArray, List.getElem?_cons_zero, List.getElem?_cons_succ]
  (refine wpE_call (by rfl) (fun W hW => of_ext (.slice (some ⟨X3.heap.size, 0, none⟩) 2 2) W) (fun W hW => ?_) ?_; (· obtain ⟨hcW, hfW⟩ := bcell hW; go_simp); simp only [Act.put, List.setIfInBounds_toArray, List.set_cons_zero, List.set_cons_succ])
  (refine wpE_call (by rfl) (fun W hW => (by have := ints_any W _ _ 2 cc 2 2 [0, 1] [0, 1] (Hc.out.below (((hXY1.trans (hXY2.mono hs1)).trans (hXY3.mono (by omega))).trans (hW.mono (by omega))) (by have := hW.size; omega)) (ins_blk (l := [0, 1]) (bl3.below hW ll3) (by have := hW.size; omega)) (by omega) (by omega); rw [kQ3] at this; exact this)) (fun W hW => ?_) ?_; (· obtain ⟨hcW, hfW⟩ := bcell hW; go_simp); simp only [Act.put, List.setIfInBounds_toArray, List.set_cons_zero, List.set_cons_succ])
  iterate 2 (refine wpE_val (v := ?_) (by rfl) (fun W hW => ?_) ?_; rotate_left; (· obtain ⟨hcW, hfW⟩ := bcell hW; go_simp; with_reducible rfl); simp only [Act.put, List.setIfInBounds_toArray, List.set_cons_zero, List.set_cons_succ])
  simp only [wpE]
  refine wpM_end (by kernel_rfl) ?_
  intro X4 hX4 _
  have hfin : Below w3.heap.size w3 X4 := hb0.trans ((((hXY1.trans (hXY2.mono hs1)).trans (hXY3.mono (by omega))).trans (hX4.mono (by omega))).mono hs0)
  have hfin2 := hid (hB3.trans (hfin.mono hB3.size))
  go_wp2
  go_ret
  exact ⟨rfl, hfin2.out⟩
end Go.Proofs.Ytdcglphekafpdaa
