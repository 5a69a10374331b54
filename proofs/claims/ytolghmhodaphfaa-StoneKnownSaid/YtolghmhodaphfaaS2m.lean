/- The statement StoneKnown holds: whatever the arguments, the law returns true and leaves its arguments as they were. -/
import Derived.Test.YtolghmhodaphfaaMl
namespace Go.Proofs.Ytolghmhodaphfaa
open Go.RowKit Go.Shelf
attribute [local go_sem] Oper.semAt_some
theorem nWeighs : openE eE 2 = 0 ∧ weighsL 2 eE = [1, 2, 3, 5] := by decide +kernel
theorem nUpto : openE kE 1 = 0 ∧ uptoV 1 kE = 1 ∧ openE eE 1 = 0 ∧ uptoV 1 eE = 0 := by decide +kernel
theorem nWays : askedE kE 2 5 = 0 ∧ waysV 2 kE 5 = 1 ∧ askedE dE 1 4 = 0 ∧ waysV 1 dE 4 = 1 ∧ askedE kE 1 5 = 0 ∧ waysV 1 kE 5 = 0 := by decide +kernel
theorem nLay : layE 2 dE 1 = 0 ∧ layV 2 dE 1 = [1, 0] := by decide +kernel
theorem nPerf : perfE 1 dE = 0 ∧ perfV 1 dE = 5 ∧ perfE 2 dE = 24 ∧ perfV 2 dE = 1 := by decide +kernel
theorem nFact : perfE 2 kE = 0 ∧ factsL 2 kE = [3, 3, 3] := by decide +kernel
theorem nCount : countV 1 5 = 3 ∧ ofE 1 5 60 = 0 ∧ countV 2 4 = 2 ∧ ofE 2 4 60 = 0 := by decide +kernel
theorem nEn : ofE 2 13 121 = 0 ∧ ofE 1 7 121 = 0 ∧ ofE 1 8 121 = 0 ∧ (enL 2 13).length = 3 ∧ (enL 1 7).length = 3 ∧ (enL 1 8).length = 4 := by decide +kernel
theorem nEq : eqI [1, 2, 3, 5] [1, 2, 3, 5] = true ∧ eqI [1, 0] [1, 0] = true ∧ eqI [3, 3, 3] [3, 3, 3] = true ∧ checkSet kE = 0 := ⟨eqI_t.2 rfl, eqI_t.2 rfl, eqI_t.2 rfl, by decide +kernel⟩
set_option maxRecDepth 1000000 in
set_option maxHeartbeats 20000000 in
theorem known_walk (w : World) : Calls Try.prog 16 #[] w fun e w' => e = .returned (.bool true) ∧ Below w.heap.size w w' := by
  go_enter Try.func16, Try.ntmps16
  obtain ⟨W0, hW0⟩ : ∃ W0 : World, W0 = w := ⟨_, rfl⟩
  rw [← hW0]
  clear hW0
  have hbel : Below W0.heap.size W0 W0 := Below.refl _ _
  have hsz := hbel.size
  go_wp2_with (fail)
  refine (e_lit _).mono ?_
  rintro e W1 ⟨A1, c1, rfl, hk, hb⟩
  have hst : Below W0.heap.size W0 W1 := Below.trans (by repeat' (first | with_reducible assumption | with_reducible exact Below.refl _ _ | refine Below.alloc ?_ ?_ _ | refine Below.setCell ?_ ?_ _ | refine Below.drew ?_ | refine below_drewN ?_ _ | (simp; done) | (simp; omega) | omega)) (hb.mono (by first | (simp; done) | (simp; omega) | omega))
  replace hbel := hbel.trans (hst.mono hsz)
  replace hsz := hbel.size
  have HK := hid hk
  clear hk
  clear hb hst
  obtain ⟨W0, rfl⟩ : ∃ W0 : World, W0 = W1 := ⟨_, rfl⟩
  go_wp2_with (fail)
  refine (weighs_walk _ A1 2 c1 eE 2 (HK.out.below (by repeat' (first | with_reducible assumption | with_reducible exact Below.refl _ _ | refine Below.alloc ?_ ?_ _ | refine Below.setCell ?_ ?_ _ | refine Below.drew ?_ | refine below_drewN ?_ _ | (simp; done) | (simp; omega) | omega)) (by first | (simp; done) | (simp; omega) | omega)) (by omega)).mono ?_
  rw [nWeighs.1, nWeighs.2]
  rintro e W1 ⟨Aw, mw, cw, rfl, hw, hb⟩
  have hmw := hw.len
  have hmw2 : mw = 4 := hmw.symm
  clear hmw
  subst hmw2
  have hst : Below W0.heap.size W0 W1 := Below.trans (by repeat' (first | with_reducible assumption | with_reducible exact Below.refl _ _ | refine Below.alloc ?_ ?_ _ | refine Below.setCell ?_ ?_ _ | refine Below.drew ?_ | refine below_drewN ?_ _ | (simp; done) | (simp; omega) | omega)) (hb.mono (by first | (simp; done) | (simp; omega) | omega))
  replace hbel := hbel.trans (hst.mono hsz)
  replace hsz := hbel.size
  replace HK := hid (HK.out.below hst hst.size)
  have HW := hid hw
  clear hw
  clear hb hst
  obtain ⟨W0, rfl⟩ : ∃ W0 : World, W0 = W1 := ⟨_, rfl⟩
  clear HK
  go_wp2_with (fail)
  refine (k_lit _).mono ?_
  rintro e W1 ⟨A2, c2, rfl, hk, hb⟩
  have hst : Below W0.heap.size W0 W1 := Below.trans (by repeat' (first | with_reducible assumption | with_reducible exact Below.refl _ _ | refine Below.alloc ?_ ?_ _ | refine Below.setCell ?_ ?_ _ | refine Below.drew ?_ | refine below_drewN ?_ _ | (simp; done) | (simp; omega) | omega)) (hb.mono (by first | (simp; done) | (simp; omega) | omega))
  replace hbel := hbel.trans (hst.mono hsz)
  replace hsz := hbel.size
  replace HW := hid (HW.out.below hst hst.size)
  have HK := hid hk
  clear hk
  clear hb hst
  obtain ⟨W0, rfl⟩ : ∃ W0 : World, W0 = W1 := ⟨_, rfl⟩
  go_wp2_with (fail)
  refine (upto_any _ A2 3 c2 kE 1 (HK.out.below (by repeat' (first | with_reducible assumption | with_reducible exact Below.refl _ _ | refine Below.alloc ?_ ?_ _ | refine Below.setCell ?_ ?_ _ | refine Below.drew ?_ | refine below_drewN ?_ _ | (simp; done) | (simp; omega) | omega)) (by first | (simp; done) | (simp; omega) | omega)) (by omega)).mono ?_
  rw [nUpto.1, nUpto.2.1]
  rintro e W1 ⟨rfl, hb⟩
  have hst : Below W0.heap.size W0 W1 := Below.trans (by repeat' (first | with_reducible assumption | with_reducible exact Below.refl _ _ | refine Below.alloc ?_ ?_ _ | refine Below.setCell ?_ ?_ _ | refine Below.drew ?_ | refine below_drewN ?_ _ | (simp; done) | (simp; omega) | omega)) (hb.mono (by first | (simp; done) | (simp; omega) | omega))
  replace hbel := hbel.trans (hst.mono hsz)
  replace hsz := hbel.size
  replace HW := hid (HW.out.below hst hst.size)
  replace HK := hid (HK.out.below hst hst.size)
  clear hb hst
  obtain ⟨W0, rfl⟩ : ∃ W0 : World, W0 = W1 := ⟨_, rfl⟩
  clear HK
  go_wp2_with (fail)
  refine (e_lit _).mono ?_
  rintro e W1 ⟨A3, c3, rfl, hk, hb⟩
  have hst : Below W0.heap.size W0 W1 := Below.trans (by repeat' (first | with_reducible assumption | with_reducible exact Below.refl _ _ | refine Below.alloc ?_ ?_ _ | refine Below.setCell ?_ ?_ _ | refine Below.drew ?_ | refine below_drewN ?_ _ | (simp; done) | (simp; omega) | omega)) (hb.mono (by first | (simp; done) | (simp; omega) | omega))
  replace hbel := hbel.trans (hst.mono hsz)
  replace hsz := hbel.size
  replace HW := hid (HW.out.below hst hst.size)
  have HK := hid hk
  clear hk
  clear hb hst
  obtain ⟨W0, rfl⟩ : ∃ W0 : World, W0 = W1 := ⟨_, rfl⟩
  go_wp2_with (fail)
  refine (upto_any _ A3 2 c3 eE 1 (HK.out.below (by repeat' (first | with_reducible assumption | with_reducible exact Below.refl _ _ | refine Below.alloc ?_ ?_ _ | refine Below.setCell ?_ ?_ _ | refine Below.drew ?_ | refine below_drewN ?_ _ | (simp; done) | (simp; omega) | omega)) (by first | (simp; done) | (simp; omega) | omega)) (by omega)).mono ?_
  rw [nUpto.2.2.1, nUpto.2.2.2]
  rintro e W1 ⟨rfl, hb⟩
  have hst : Below W0.heap.size W0 W1 := Below.trans (by repeat' (first | with_reducible assumption | with_reducible exact Below.refl _ _ | refine Below.alloc ?_ ?_ _ | refine Below.setCell ?_ ?_ _ | refine Below.drew ?_ | refine below_drewN ?_ _ | (simp; done) | (simp; omega) | omega)) (hb.mono (by first | (simp; done) | (simp; omega) | omega))
  replace hbel := hbel.trans (hst.mono hsz)
  replace hsz := hbel.size
  replace HW := hid (HW.out.below hst hst.size)
  replace HK := hid (HK.out.below hst hst.size)
  clear hb hst
  obtain ⟨W0, rfl⟩ : ∃ W0 : World, W0 = W1 := ⟨_, rfl⟩
  clear HK
  go_wp2_with (fail)
  refine (k_lit _).mono ?_
  rintro e W1 ⟨A4, c4, rfl, hk, hb⟩
  have hst : Below W0.heap.size W0 W1 := Below.trans (by repeat' (first | with_reducible assumption | with_reducible exact Below.refl _ _ | refine Below.alloc ?_ ?_ _ | refine Below.setCell ?_ ?_ _ | refine Below.drew ?_ | refine below_drewN ?_ _ | (simp; done) | (simp; omega) | omega)) (hb.mono (by first | (simp; done) | (simp; omega) | omega))
  replace hbel := hbel.trans (hst.mono hsz)
  replace hsz := hbel.size
  replace HW := hid (HW.out.below hst hst.size)
  have HK := hid hk
  clear hk
  clear hb hst
  obtain ⟨W0, rfl⟩ : ∃ W0 : World, W0 = W1 := ⟨_, rfl⟩
  go_wp2_with (fail)
  refine (ways_any _ A4 3 c4 kE 2 5 (HK.out.below (by repeat' (first | with_reducible assumption | with_reducible exact Below.refl _ _ | refine Below.alloc ?_ ?_ _ | refine Below.setCell ?_ ?_ _ | refine Below.drew ?_ | refine below_drewN ?_ _ | (simp; done) | (simp; omega) | omega)) (by first | (simp; done) | (simp; omega) | omega)) (by omega)).mono ?_
  rw [nWays.1, nWays.2.1]
  rintro e W1 ⟨rfl, hb⟩
  have hst : Below W0.heap.size W0 W1 := Below.trans (by repeat' (first | with_reducible assumption | with_reducible exact Below.refl _ _ | refine Below.alloc ?_ ?_ _ | refine Below.setCell ?_ ?_ _ | refine Below.drew ?_ | refine below_drewN ?_ _ | (simp; done) | (simp; omega) | omega)) (hb.mono (by first | (simp; done) | (simp; omega) | omega))
  replace hbel := hbel.trans (hst.mono hsz)
  replace hsz := hbel.size
  replace HW := hid (HW.out.below hst hst.size)
  replace HK := hid (HK.out.below hst hst.size)
  clear hb hst
  obtain ⟨W0, rfl⟩ : ∃ W0 : World, W0 = W1 := ⟨_, rfl⟩
  clear HK
  go_wp2_with (fail)
  refine (d_lit _).mono ?_
  rintro e W1 ⟨A5, c5, rfl, hk, hb⟩
  have hst : Below W0.heap.size W0 W1 := Below.trans (by repeat' (first | with_reducible assumption | with_reducible exact Below.refl _ _ | refine Below.alloc ?_ ?_ _ | refine Below.setCell ?_ ?_ _ | refine Below.drew ?_ | refine below_drewN ?_ _ | (simp; done) | (simp; omega) | omega)) (hb.mono (by first | (simp; done) | (simp; omega) | omega))
  replace hbel := hbel.trans (hst.mono hsz)
  replace hsz := hbel.size
  replace HW := hid (HW.out.below hst hst.size)
  have HK := hid hk
  clear hk
  clear hb hst
  obtain ⟨W0, rfl⟩ : ∃ W0 : World, W0 = W1 := ⟨_, rfl⟩
  go_wp2_with (fail)
  refine (ways_any _ A5 2 c5 dE 1 4 (HK.out.below (by repeat' (first | with_reducible assumption | with_reducible exact Below.refl _ _ | refine Below.alloc ?_ ?_ _ | refine Below.setCell ?_ ?_ _ | refine Below.drew ?_ | refine below_drewN ?_ _ | (simp; done) | (simp; omega) | omega)) (by first | (simp; done) | (simp; omega) | omega)) (by omega)).mono ?_
  rw [nWays.2.2.1, nWays.2.2.2.1]
  rintro e W1 ⟨rfl, hb⟩
  have hst : Below W0.heap.size W0 W1 := Below.trans (by repeat' (first | with_reducible assumption | with_reducible exact Below.refl _ _ | refine Below.alloc ?_ ?_ _ | refine Below.setCell ?_ ?_ _ | refine Below.drew ?_ | refine below_drewN ?_ _ | (simp; done) | (simp; omega) | omega)) (hb.mono (by first | (simp; done) | (simp; omega) | omega))
  replace hbel := hbel.trans (hst.mono hsz)
  replace hsz := hbel.size
  replace HW := hid (HW.out.below hst hst.size)
  replace HK := hid (HK.out.below hst hst.size)
  clear hb hst
  obtain ⟨W0, rfl⟩ : ∃ W0 : World, W0 = W1 := ⟨_, rfl⟩
  clear HK
  go_wp2_with (fail)
  refine (k_lit _).mono ?_
  rintro e W1 ⟨A6, c6, rfl, hk, hb⟩
  have hst : Below W0.heap.size W0 W1 := Below.trans (by repeat' (first | with_reducible assumption | with_reducible exact Below.refl _ _ | refine Below.alloc ?_ ?_ _ | refine Below.setCell ?_ ?_ _ | refine Below.drew ?_ | refine below_drewN ?_ _ | (simp; done) | (simp; omega) | omega)) (hb.mono (by first | (simp; done) | (simp; omega) | omega))
  replace hbel := hbel.trans (hst.mono hsz)
  replace hsz := hbel.size
  replace HW := hid (HW.out.below hst hst.size)
  have HK := hid hk
  clear hk
  clear hb hst
  obtain ⟨W0, rfl⟩ : ∃ W0 : World, W0 = W1 := ⟨_, rfl⟩
  go_wp2_with (fail)
  refine (ways_any _ A6 3 c6 kE 1 5 (HK.out.below (by repeat' (first | with_reducible assumption | with_reducible exact Below.refl _ _ | refine Below.alloc ?_ ?_ _ | refine Below.setCell ?_ ?_ _ | refine Below.drew ?_ | refine below_drewN ?_ _ | (simp; done) | (simp; omega) | omega)) (by first | (simp; done) | (simp; omega) | omega)) (by omega)).mono ?_
  rw [nWays.2.2.2.2.1, nWays.2.2.2.2.2]
  rintro e W1 ⟨rfl, hb⟩
  have hst : Below W0.heap.size W0 W1 := Below.trans (by repeat' (first | with_reducible assumption | with_reducible exact Below.refl _ _ | refine Below.alloc ?_ ?_ _ | refine Below.setCell ?_ ?_ _ | refine Below.drew ?_ | refine below_drewN ?_ _ | (simp; done) | (simp; omega) | omega)) (hb.mono (by first | (simp; done) | (simp; omega) | omega))
  replace hbel := hbel.trans (hst.mono hsz)
  replace hsz := hbel.size
  replace HW := hid (HW.out.below hst hst.size)
  replace HK := hid (HK.out.below hst hst.size)
  clear hb hst
  obtain ⟨W0, rfl⟩ : ∃ W0 : World, W0 = W1 := ⟨_, rfl⟩
  clear HK
  go_wp2_with (fail)
  refine (d_lit _).mono ?_
  rintro e W1 ⟨A7, c7, rfl, hk, hb⟩
  have hst : Below W0.heap.size W0 W1 := Below.trans (by repeat' (first | with_reducible assumption | with_reducible exact Below.refl _ _ | refine Below.alloc ?_ ?_ _ | refine Below.setCell ?_ ?_ _ | refine Below.drew ?_ | refine below_drewN ?_ _ | (simp; done) | (simp; omega) | omega)) (hb.mono (by first | (simp; done) | (simp; omega) | omega))
  replace hbel := hbel.trans (hst.mono hsz)
  replace hsz := hbel.size
  replace HW := hid (HW.out.below hst hst.size)
  have HK := hid hk
  clear hk
  clear hb hst
  obtain ⟨W0, rfl⟩ : ∃ W0 : World, W0 = W1 := ⟨_, rfl⟩
  go_wp2_with (fail)
  refine (lay_any _ A7 2 c7 dE 2 1 (HK.out.below (by repeat' (first | with_reducible assumption | with_reducible exact Below.refl _ _ | refine Below.alloc ?_ ?_ _ | refine Below.setCell ?_ ?_ _ | refine Below.drew ?_ | refine below_drewN ?_ _ | (simp; done) | (simp; omega) | omega)) (by first | (simp; done) | (simp; omega) | omega)) (by omega)).mono ?_
  rw [nLay.1, nLay.2]
  rintro e W1 ⟨Ax, mx, cx, rfl, hx, hb⟩
  have hmx := hx.len
  have hmx2 : mx = 2 := hmx.symm
  clear hmx
  subst hmx2
  have hst : Below W0.heap.size W0 W1 := Below.trans (by repeat' (first | with_reducible assumption | with_reducible exact Below.refl _ _ | refine Below.alloc ?_ ?_ _ | refine Below.setCell ?_ ?_ _ | refine Below.drew ?_ | refine below_drewN ?_ _ | (simp; done) | (simp; omega) | omega)) (hb.mono (by first | (simp; done) | (simp; omega) | omega))
  replace hbel := hbel.trans (hst.mono hsz)
  replace hsz := hbel.size
  replace HW := hid (HW.out.below hst hst.size)
  replace HK := hid (HK.out.below hst hst.size)
  have HX := hid hx
  clear hx
  clear hb hst
  obtain ⟨W0, rfl⟩ : ∃ W0 : World, W0 = W1 := ⟨_, rfl⟩
  clear HK
  go_wp2_with (fail)
  refine (d_lit _).mono ?_
  rintro e W1 ⟨A8, c8, rfl, hk, hb⟩
  have hst : Below W0.heap.size W0 W1 := Below.trans (by repeat' (first | with_reducible assumption | with_reducible exact Below.refl _ _ | refine Below.alloc ?_ ?_ _ | refine Below.setCell ?_ ?_ _ | refine Below.drew ?_ | refine below_drewN ?_ _ | (simp; done) | (simp; omega) | omega)) (hb.mono (by first | (simp; done) | (simp; omega) | omega))
  replace hbel := hbel.trans (hst.mono hsz)
  replace hsz := hbel.size
  replace HW := hid (HW.out.below hst hst.size)
  replace HX := hid (HX.out.below hst hst.size)
  have HK := hid hk
  clear hk
  clear hb hst
  obtain ⟨W0, rfl⟩ : ∃ W0 : World, W0 = W1 := ⟨_, rfl⟩
  go_wp2_with (fail)
  refine (perfect_any _ A8 2 c8 dE 1 (HK.out.below (by repeat' (first | with_reducible assumption | with_reducible exact Below.refl _ _ | refine Below.alloc ?_ ?_ _ | refine Below.setCell ?_ ?_ _ | refine Below.drew ?_ | refine below_drewN ?_ _ | (simp; done) | (simp; omega) | omega)) (by first | (simp; done) | (simp; omega) | omega)) (by omega)).mono ?_
  rw [nPerf.1, nPerf.2.1]
  rintro e W1 ⟨rfl, hb⟩
  have hst : Below W0.heap.size W0 W1 := Below.trans (by repeat' (first | with_reducible assumption | with_reducible exact Below.refl _ _ | refine Below.alloc ?_ ?_ _ | refine Below.setCell ?_ ?_ _ | refine Below.drew ?_ | refine below_drewN ?_ _ | (simp; done) | (simp; omega) | omega)) (hb.mono (by first | (simp; done) | (simp; omega) | omega))
  replace hbel := hbel.trans (hst.mono hsz)
  replace hsz := hbel.size
  replace HW := hid (HW.out.below hst hst.size)
  replace HX := hid (HX.out.below hst hst.size)
  replace HK := hid (HK.out.below hst hst.size)
  clear hb hst
  obtain ⟨W0, rfl⟩ : ∃ W0 : World, W0 = W1 := ⟨_, rfl⟩
  clear HK
  go_wp2_with (fail)
  refine (d_lit _).mono ?_
  rintro e W1 ⟨A9, c9, rfl, hk, hb⟩
  have hst : Below W0.heap.size W0 W1 := Below.trans (by repeat' (first | with_reducible assumption | with_reducible exact Below.refl _ _ | refine Below.alloc ?_ ?_ _ | refine Below.setCell ?_ ?_ _ | refine Below.drew ?_ | refine below_drewN ?_ _ | (simp; done) | (simp; omega) | omega)) (hb.mono (by first | (simp; done) | (simp; omega) | omega))
  replace hbel := hbel.trans (hst.mono hsz)
  replace hsz := hbel.size
  replace HW := hid (HW.out.below hst hst.size)
  replace HX := hid (HX.out.below hst hst.size)
  have HK := hid hk
  clear hk
  clear hb hst
  obtain ⟨W0, rfl⟩ : ∃ W0 : World, W0 = W1 := ⟨_, rfl⟩
  go_wp2_with (fail)
  refine (perfect_any _ A9 2 c9 dE 2 (HK.out.below (by repeat' (first | with_reducible assumption | with_reducible exact Below.refl _ _ | refine Below.alloc ?_ ?_ _ | refine Below.setCell ?_ ?_ _ | refine Below.drew ?_ | refine below_drewN ?_ _ | (simp; done) | (simp; omega) | omega)) (by first | (simp; done) | (simp; omega) | omega)) (by omega)).mono ?_
  rw [nPerf.2.2.1, nPerf.2.2.2]
  rintro e W1 ⟨rfl, hb⟩
  have hst : Below W0.heap.size W0 W1 := Below.trans (by repeat' (first | with_reducible assumption | with_reducible exact Below.refl _ _ | refine Below.alloc ?_ ?_ _ | refine Below.setCell ?_ ?_ _ | refine Below.drew ?_ | refine below_drewN ?_ _ | (simp; done) | (simp; omega) | omega)) (hb.mono (by first | (simp; done) | (simp; omega) | omega))
  replace hbel := hbel.trans (hst.mono hsz)
  replace hsz := hbel.size
  replace HW := hid (HW.out.below hst hst.size)
  replace HX := hid (HX.out.below hst hst.size)
  replace HK := hid (HK.out.below hst hst.size)
  clear hb hst
  obtain ⟨W0, rfl⟩ : ∃ W0 : World, W0 = W1 := ⟨_, rfl⟩
  clear HK
  go_wp2_with (fail)
  refine (k_lit _).mono ?_
  rintro e W1 ⟨A10, c10, rfl, hk, hb⟩
  have hst : Below W0.heap.size W0 W1 := Below.trans (by repeat' (first | with_reducible assumption | with_reducible exact Below.refl _ _ | refine Below.alloc ?_ ?_ _ | refine Below.setCell ?_ ?_ _ | refine Below.drew ?_ | refine below_drewN ?_ _ | (simp; done) | (simp; omega) | omega)) (hb.mono (by first | (simp; done) | (simp; omega) | omega))
  replace hbel := hbel.trans (hst.mono hsz)
  replace hsz := hbel.size
  replace HW := hid (HW.out.below hst hst.size)
  replace HX := hid (HX.out.below hst hst.size)
  have HK := hid hk
  clear hk
  clear hb hst
  obtain ⟨W0, rfl⟩ : ∃ W0 : World, W0 = W1 := ⟨_, rfl⟩
  go_wp2_with (fail)
  refine (factors_any _ A10 3 c10 kE 2 (HK.out.below (by repeat' (first | with_reducible assumption | with_reducible exact Below.refl _ _ | refine Below.alloc ?_ ?_ _ | refine Below.setCell ?_ ?_ _ | refine Below.drew ?_ | refine below_drewN ?_ _ | (simp; done) | (simp; omega) | omega)) (by first | (simp; done) | (simp; omega) | omega)) (by omega)).mono ?_
  rw [nFact.1]
  rintro e W1 ⟨vy, rfl, hy, hb⟩
  rw [if_pos rfl, nFact.2] at hy
  obtain ⟨Ay, cy, hvy, hy2⟩ := sl_of_owns hy
  subst hvy
  replace hy2 : InS W1 W1.heap.size Ay 3 [3, 3, 3] := hy2
  clear hy
  have hst : Below W0.heap.size W0 W1 := Below.trans (by repeat' (first | with_reducible assumption | with_reducible exact Below.refl _ _ | refine Below.alloc ?_ ?_ _ | refine Below.setCell ?_ ?_ _ | refine Below.drew ?_ | refine below_drewN ?_ _ | (simp; done) | (simp; omega) | omega)) (hb.mono (by first | (simp; done) | (simp; omega) | omega))
  replace hbel := hbel.trans (hst.mono hsz)
  replace hsz := hbel.size
  replace HW := hid (HW.out.below hst hst.size)
  replace HX := hid (HX.out.below hst hst.size)
  replace HK := hid (HK.out.below hst hst.size)
  have HY := hid hy2
  clear hy2
  clear hb hst
  obtain ⟨W0, rfl⟩ : ∃ W0 : World, W0 = W1 := ⟨_, rfl⟩
  clear HK
  go_wp2_with (fail)
  refine (count_any 1 5 _).mono ?_
  rw [nCount.1, nCount.2.1]
  rintro e W1 ⟨rfl, hb⟩
  have hst : Below W0.heap.size W0 W1 := Below.trans (by repeat' (first | with_reducible assumption | with_reducible exact Below.refl _ _ | refine Below.alloc ?_ ?_ _ | refine Below.setCell ?_ ?_ _ | refine Below.drew ?_ | refine below_drewN ?_ _ | (simp; done) | (simp; omega) | omega)) (hb.mono (by first | (simp; done) | (simp; omega) | omega))
  replace hbel := hbel.trans (hst.mono hsz)
  replace hsz := hbel.size
  replace HW := hid (HW.out.below hst hst.size)
  replace HX := hid (HX.out.below hst hst.size)
  replace HY := hid (HY.out.below hst hst.size)
  clear hb hst
  obtain ⟨W0, rfl⟩ : ∃ W0 : World, W0 = W1 := ⟨_, rfl⟩
  go_wp2_with (fail)
  refine (count_any 2 4 _).mono ?_
  rw [nCount.2.2.1, nCount.2.2.2]
  rintro e W1 ⟨rfl, hb⟩
  have hst : Below W0.heap.size W0 W1 := Below.trans (by repeat' (first | with_reducible assumption | with_reducible exact Below.refl _ _ | refine Below.alloc ?_ ?_ _ | refine Below.setCell ?_ ?_ _ | refine Below.drew ?_ | refine below_drewN ?_ _ | (simp; done) | (simp; omega) | omega)) (hb.mono (by first | (simp; done) | (simp; omega) | omega))
  replace hbel := hbel.trans (hst.mono hsz)
  replace hsz := hbel.size
  replace HW := hid (HW.out.below hst hst.size)
  replace HX := hid (HX.out.below hst hst.size)
  replace HY := hid (HY.out.below hst hst.size)
  clear hb hst
  obtain ⟨W0, rfl⟩ : ∃ W0 : World, W0 = W1 := ⟨_, rfl⟩
  go_wp2_with (fail)
  refine (fewW_any 2 13 _).mono ?_
  rw [nEn.1, nEn.2.2.2.1]
  rintro e W1 ⟨rfl, hb⟩
  have hst : Below W0.heap.size W0 W1 := Below.trans (by repeat' (first | with_reducible assumption | with_reducible exact Below.refl _ _ | refine Below.alloc ?_ ?_ _ | refine Below.setCell ?_ ?_ _ | refine Below.drew ?_ | refine below_drewN ?_ _ | (simp; done) | (simp; omega) | omega)) (hb.mono (by first | (simp; done) | (simp; omega) | omega))
  replace hbel := hbel.trans (hst.mono hsz)
  replace hsz := hbel.size
  replace HW := hid (HW.out.below hst hst.size)
  replace HX := hid (HX.out.below hst hst.size)
  replace HY := hid (HY.out.below hst hst.size)
  clear hb hst
  obtain ⟨W0, rfl⟩ : ∃ W0 : World, W0 = W1 := ⟨_, rfl⟩
  go_wp2_with (fail)
  refine (fewW_any 1 7 _).mono ?_
  rw [nEn.2.1, nEn.2.2.2.2.1]
  rintro e W1 ⟨rfl, hb⟩
  have hst : Below W0.heap.size W0 W1 := Below.trans (by repeat' (first | with_reducible assumption | with_reducible exact Below.refl _ _ | refine Below.alloc ?_ ?_ _ | refine Below.setCell ?_ ?_ _ | refine Below.drew ?_ | refine below_drewN ?_ _ | (simp; done) | (simp; omega) | omega)) (hb.mono (by first | (simp; done) | (simp; omega) | omega))
  replace hbel := hbel.trans (hst.mono hsz)
  replace hsz := hbel.size
  replace HW := hid (HW.out.below hst hst.size)
  replace HX := hid (HX.out.below hst hst.size)
  replace HY := hid (HY.out.below hst hst.size)
  clear hb hst
  obtain ⟨W0, rfl⟩ : ∃ W0 : World, W0 = W1 := ⟨_, rfl⟩
  go_wp2_with (fail)
  refine (fewW_any 1 8 _).mono ?_
  rw [nEn.2.2.1, nEn.2.2.2.2.2]
  rintro e W1 ⟨rfl, hb⟩
  have hst : Below W0.heap.size W0 W1 := Below.trans (by repeat' (first | with_reducible assumption | with_reducible exact Below.refl _ _ | refine Below.alloc ?_ ?_ _ | refine Below.setCell ?_ ?_ _ | refine Below.drew ?_ | refine below_drewN ?_ _ | (simp; done) | (simp; omega) | omega)) (hb.mono (by first | (simp; done) | (simp; omega) | omega))
  replace hbel := hbel.trans (hst.mono hsz)
  replace hsz := hbel.size
  replace HW := hid (HW.out.below hst hst.size)
  replace HX := hid (HX.out.below hst hst.size)
  replace HY := hid (HY.out.below hst hst.size)
  clear hb hst
  obtain ⟨W0, rfl⟩ : ∃ W0 : World, W0 = W1 := ⟨_, rfl⟩
  go_wp2_with (fail)
  refine (longsF_any _ _).mono ?_
  rintro e W1 ⟨rfl, hw1⟩
  subst hw1
  go_wp2_with (fail)
  refine (longs_any _ Aw _ 4 cw 4 4 [1, 2, 3, 5] [1, 2, 3, 5] (HW.out.below (by repeat' (first | with_reducible assumption | with_reducible exact Below.refl _ _ | refine Below.alloc ?_ ?_ _ | refine Below.setCell ?_ ?_ _ | refine Below.drew ?_ | refine below_drewN ?_ _ | (simp; done) | (simp; omega) | omega)) (by first | (simp; done) | (simp; omega) | omega)) (ins_blk (l := [1, 2, 3, 5]) (Blk.new _ _ _) (by simp)) (by omega)).mono ?_
  rw [nEq.1]
  rintro e W1 ⟨rfl, hb⟩
  have hst : Below W0.heap.size W0 W1 := Below.trans (by repeat' (first | with_reducible assumption | with_reducible exact Below.refl _ _ | refine Below.alloc ?_ ?_ _ | refine Below.setCell ?_ ?_ _ | refine Below.drew ?_ | refine below_drewN ?_ _ | (simp; done) | (simp; omega) | omega)) (hb.mono (by first | (simp; done) | (simp; omega) | omega))
  replace hbel := hbel.trans (hst.mono hsz)
  replace hsz := hbel.size
  replace HW := hid (HW.out.below hst hst.size)
  replace HX := hid (HX.out.below hst hst.size)
  replace HY := hid (HY.out.below hst hst.size)
  clear hb hst
  obtain ⟨W0, rfl⟩ : ∃ W0 : World, W0 = W1 := ⟨_, rfl⟩
  clear HW
  go_wp2_with (fail)
  refine (longsF_any _ _).mono ?_
  rintro e W1 ⟨rfl, hw1⟩
  subst hw1
  go_wp2_with (fail)
  refine (longs_any _ Ax _ 2 cx 2 2 [1, 0] [1, 0] (HX.out.below (by repeat' (first | with_reducible assumption | with_reducible exact Below.refl _ _ | refine Below.alloc ?_ ?_ _ | refine Below.setCell ?_ ?_ _ | refine Below.drew ?_ | refine below_drewN ?_ _ | (simp; done) | (simp; omega) | omega)) (by first | (simp; done) | (simp; omega) | omega)) (ins_blk (l := [1, 0]) (Blk.new _ _ _) (by simp)) (by omega)).mono ?_
  rw [nEq.2.1]
  rintro e W1 ⟨rfl, hb⟩
  have hst : Below W0.heap.size W0 W1 := Below.trans (by repeat' (first | with_reducible assumption | with_reducible exact Below.refl _ _ | refine Below.alloc ?_ ?_ _ | refine Below.setCell ?_ ?_ _ | refine Below.drew ?_ | refine below_drewN ?_ _ | (simp; done) | (simp; omega) | omega)) (hb.mono (by first | (simp; done) | (simp; omega) | omega))
  replace hbel := hbel.trans (hst.mono hsz)
  replace hsz := hbel.size
  replace HX := hid (HX.out.below hst hst.size)
  replace HY := hid (HY.out.below hst hst.size)
  clear hb hst
  obtain ⟨W0, rfl⟩ : ∃ W0 : World, W0 = W1 := ⟨_, rfl⟩
  clear HX
  go_wp2_with (fail)
  refine (longsF_any _ _).mono ?_
  rintro e W1 ⟨rfl, hw1⟩
  subst hw1
  go_wp2_with (fail)
  refine (longs_any _ Ay _ 3 cy 3 3 [3, 3, 3] [3, 3, 3] (HY.out.below (by repeat' (first | with_reducible assumption | with_reducible exact Below.refl _ _ | refine Below.alloc ?_ ?_ _ | refine Below.setCell ?_ ?_ _ | refine Below.drew ?_ | refine below_drewN ?_ _ | (simp; done) | (simp; omega) | omega)) (by first | (simp; done) | (simp; omega) | omega)) (ins_blk (l := [3, 3, 3]) (Blk.new _ _ _) (by simp)) (by omega)).mono ?_
  rw [nEq.2.2.1]
  rintro e W1 ⟨rfl, hb⟩
  have hst : Below W0.heap.size W0 W1 := Below.trans (by repeat' (first | with_reducible assumption | with_reducible exact Below.refl _ _ | refine Below.alloc ?_ ?_ _ | refine Below.setCell ?_ ?_ _ | refine Below.drew ?_ | refine below_drewN ?_ _ | (simp; done) | (simp; omega) | omega)) (hb.mono (by first | (simp; done) | (simp; omega) | omega))
  replace hbel := hbel.trans (hst.mono hsz)
  replace hsz := hbel.size
  replace HY := hid (HY.out.below hst hst.size)
  clear hb hst
  obtain ⟨W0, rfl⟩ : ∃ W0 : World, W0 = W1 := ⟨_, rfl⟩
  clear HY
  go_wp2_with (fail)
  refine (k_lit _).mono ?_
  rintro e W1 ⟨A11, c11, rfl, hk, hb⟩
  have hst : Below W0.heap.size W0 W1 := Below.trans (by repeat' (first | with_reducible assumption | with_reducible exact Below.refl _ _ | refine Below.alloc ?_ ?_ _ | refine Below.setCell ?_ ?_ _ | refine Below.drew ?_ | refine below_drewN ?_ _ | (simp; done) | (simp; omega) | omega)) (hb.mono (by first | (simp; done) | (simp; omega) | omega))
  replace hbel := hbel.trans (hst.mono hsz)
  replace hsz := hbel.size
  have HK := hid hk
  clear hk
  clear hb hst
  obtain ⟨W0, rfl⟩ : ∃ W0 : World, W0 = W1 := ⟨_, rfl⟩
  go_wp2_with (fail)
  refine (checkSet_any _ A11 3 c11 kE (HK.out.below (by repeat' (first | with_reducible assumption | with_reducible exact Below.refl _ _ | refine Below.alloc ?_ ?_ _ | refine Below.setCell ?_ ?_ _ | refine Below.drew ?_ | refine below_drewN ?_ _ | (simp; done) | (simp; omega) | omega)) (by first | (simp; done) | (simp; omega) | omega)) (by omega)).mono ?_
  rw [nEq.2.2.2]
  rintro e W1 ⟨rfl, hb⟩
  have hst : Below W0.heap.size W0 W1 := Below.trans (by repeat' (first | with_reducible assumption | with_reducible exact Below.refl _ _ | refine Below.alloc ?_ ?_ _ | refine Below.setCell ?_ ?_ _ | refine Below.drew ?_ | refine below_drewN ?_ _ | (simp; done) | (simp; omega) | omega)) (hb.mono (by first | (simp; done) | (simp; omega) | omega))
  replace hbel := hbel.trans (hst.mono hsz)
  replace hsz := hbel.size
  replace HK := hid (HK.out.below hst hst.size)
  clear hb hst
  obtain ⟨W0, rfl⟩ : ∃ W0 : World, W0 = W1 := ⟨_, rfl⟩
  clear HK
  go_wp2_with (fail)
  refine (works_any _).mono ?_
  rintro e W1 ⟨rfl, hb⟩
  have hst : Below W0.heap.size W0 W1 := Below.trans (by repeat' (first | with_reducible assumption | with_reducible exact Below.refl _ _ | refine Below.alloc ?_ ?_ _ | refine Below.setCell ?_ ?_ _ | refine Below.drew ?_ | refine below_drewN ?_ _ | (simp; done) | (simp; omega) | omega)) (hb.mono (by first | (simp; done) | (simp; omega) | omega))
  replace hbel := hbel.trans (hst.mono hsz)
  replace hsz := hbel.size
  clear hb hst
  obtain ⟨W0, rfl⟩ : ∃ W0 : World, W0 = W1 := ⟨_, rfl⟩
  go_wp2
  go_ret
  exact ⟨rfl, hbel⟩

section
open Go.ChangeShapes Go.WideShapes Go.ChangeAt Go.RowKit
set_option maxRecDepth 100000 in
theorem stoneKnown_lifted (os : Os) (started : os.Started) (H : Type) (enc : TypeId × Value → H) :
    ReturnsInHanded {} Try.checked os 16 .any (Rows.stoneKnownSpec.pre6 enc Try.prog Try.f16 Rows.stoneKnownRow.domain false) (Rows.stoneKnownSpec.post enc Try.prog Try.f16 false true false false) := by
  refine returnsInHanded_of_change (C := Try.checked) ownKx started (by kernel_rfl) Try.func16
    (ChangeSpec.witness6 (enc := enc) (C := Try.checked) false ⟨#[], #[], []⟩ 8 (by kernel_rfl) (by kernel_rfl) (by kernel_rfl) (by kernel_rfl)) ?_
  intro W base args ds gs before hval0 hW hcnd _
  have hval : ∀ (j : Nat) t v, Try.f16.params[j]? = some t → args[j]? = some v → Value.okWide Try.prog W .any base t v := hval0
  have hW' := hW
  obtain ⟨p, q, hA0, hV, rfl, hfz, hnd⟩ := hW
  have hA : DataW.TrodAll enc Try.prog W 0 (fun _ => true) true Try.f16.params.toList args.toList ds p := hA0
  have hlt : ∀ x ∈ p, x.block < W.heap.size := fun x hx => hW'.lt x (List.mem_append_left _ hx)
  have hAll : ∀ W', Below W.heap.size W W' → DataW.TrodAll enc Try.prog W' 0 (fun b => decide (b < W.heap.size)) true Try.f16.params.toList args.toList ds p := fun W' hb => all_below laidOut hb (readable_of (by kernel_rfl)) hlt hA
  rw [Try.params16] at hA hval
  obtain ⟨rfl, rfl, rfl⟩ := trodAll_none hA
  obtain ⟨rfl, rfl⟩ := trodVars_none hV
  clear hA0 hval0

  refine (known_walk W ).mono fun e W' ⟨he, hb⟩ => ?_
  subst he
  exact ⟨_, rfl, ⟨_, _, _, [], _, [], hW', trodAll_cons_mk (shut_bool Try.underlying4 _) trodAll_mk0, hAll W' hb, rfl, hb.frame _, fun h => by cases h⟩⟩
/-- The law: whatever the input, it returns true, and the input reads as it did. -/
theorem stoneKnown_holds : Rows.StoneKnownSaid :=
  OpenClaim.holds_of_wide 16 Try.f16 rfl rfl rfl rfl rfl rfl rfl ⟨rfl, rfl, rfl, rfl, rfl⟩ rfl rfl rfl rfl rfl (by kernel_rfl) Try.func16 (by kernel_rfl)
    (of_decide_eq_true (by kernel_rfl)) (by unfold Func.isWrapper; first | (rw [if_pos (by decide +kernel)]; kernel_rfl) | (rw [if_neg (by decide +kernel)]; exact ⟨rfl, rfl⟩))
    (fun os started H enc _ => stoneKnown_lifted os started H enc)
end
end Go.Proofs.Ytolghmhodaphfaa

