/- Texts of the proof, laid together by program. -/
import Derived.Test.YtiobmfggnacplaaMj
set_option linter.unusedSimpArgs false
set_option linter.unusedVariables false
/- Walks: Works. Printed by genw4.py. -/
namespace Go.Proofs.Ytiobmfggnacplaa
open Go.RowKit
attribute [local go_sem] Oper.semAt_some
set_option maxRecDepth 1000000 in
set_option maxHeartbeats 20000000 in
theorem works_any (w : World) : Calls Try.prog 18 #[] w fun e w' => e = .returned (.bool true) ∧ Below w.heap.size w w' := by
  go_enter Try.func18, Try.ntmps18
  obtain ⟨W0, hW0⟩ : ∃ W0 : World, W0 = w := ⟨_, rfl⟩
  rw [← hW0]
  clear hW0
  have hbel : Below W0.heap.size W0 W0 := Below.refl _ _
  have hsz := hbel.size
  go_wp2_with (fail)
  refine (r_any _).mono ?_
  rintro e W1 ⟨A1, rfl, hk, hb⟩
  have hst : Below W0.heap.size W0 W1 := Below.trans (by repeat' (first | with_reducible assumption | with_reducible exact Below.refl _ _ | refine Below.alloc ?_ ?_ _ | refine Below.setCell ?_ ?_ _ | refine Below.drew ?_ | refine below_drewN ?_ _ | (simp; done) | (simp; omega) | omega)) (hb.mono (by first | (simp; done) | (simp; omega) | omega))
  replace hbel := hbel.trans (hst.mono hsz)
  replace hsz := hbel.size
  have H1 := hid hk
  clear hk
  clear hb hst
  obtain ⟨W0, rfl⟩ : ∃ W0 : World, W0 = W1 := ⟨_, rfl⟩
  go_wp2_with (fail)
  refine (checkRim_any 1 A1 5 5 [1, 0, 1, 0, 0] _ (H1.out.below (by repeat' (first | with_reducible assumption | with_reducible exact Below.refl _ _ | refine Below.alloc ?_ ?_ _ | refine Below.setCell ?_ ?_ _ | refine Below.drew ?_ | refine below_drewN ?_ _ | (simp; done) | (simp; omega) | omega)) (by first | (simp; done) | (simp; omega) | omega)) (by omega)).mono ?_
  rw [kA.1]
  rintro e W1 ⟨rfl, hb⟩
  have hst : Below W0.heap.size W0 W1 := Below.trans (by repeat' (first | with_reducible assumption | with_reducible exact Below.refl _ _ | refine Below.alloc ?_ ?_ _ | refine Below.setCell ?_ ?_ _ | refine Below.drew ?_ | refine below_drewN ?_ _ | (simp; done) | (simp; omega) | omega)) (hb.mono (by first | (simp; done) | (simp; omega) | omega))
  replace hbel := hbel.trans (hst.mono hsz)
  replace hsz := hbel.size
  replace H1 := hid (H1.out.below hst hst.size)
  clear hb hst
  obtain ⟨W0, rfl⟩ : ∃ W0 : World, W0 = W1 := ⟨_, rfl⟩
  clear H1
  go_wp2_with (fail)
  refine (r_any _).mono ?_
  rintro e W1 ⟨A2, rfl, hk, hb⟩
  have hst : Below W0.heap.size W0 W1 := Below.trans (by repeat' (first | with_reducible assumption | with_reducible exact Below.refl _ _ | refine Below.alloc ?_ ?_ _ | refine Below.setCell ?_ ?_ _ | refine Below.drew ?_ | refine below_drewN ?_ _ | (simp; done) | (simp; omega) | omega)) (hb.mono (by first | (simp; done) | (simp; omega) | omega))
  replace hbel := hbel.trans (hst.mono hsz)
  replace hsz := hbel.size
  have H2 := hid hk
  clear hk
  clear hb hst
  obtain ⟨W0, rfl⟩ : ∃ W0 : World, W0 = W1 := ⟨_, rfl⟩
  go_wp2_with (fail)
  refine (checkRim_any 5 A2 5 5 [1, 0, 1, 0, 0] _ (H2.out.below (by repeat' (first | with_reducible assumption | with_reducible exact Below.refl _ _ | refine Below.alloc ?_ ?_ _ | refine Below.setCell ?_ ?_ _ | refine Below.drew ?_ | refine below_drewN ?_ _ | (simp; done) | (simp; omega) | omega)) (by first | (simp; done) | (simp; omega) | omega)) (by omega)).mono ?_
  rw [kA.2.1]
  rintro e W1 ⟨rfl, hb⟩
  have hst : Below W0.heap.size W0 W1 := Below.trans (by repeat' (first | with_reducible assumption | with_reducible exact Below.refl _ _ | refine Below.alloc ?_ ?_ _ | refine Below.setCell ?_ ?_ _ | refine Below.drew ?_ | refine below_drewN ?_ _ | (simp; done) | (simp; omega) | omega)) (hb.mono (by first | (simp; done) | (simp; omega) | omega))
  replace hbel := hbel.trans (hst.mono hsz)
  replace hsz := hbel.size
  replace H2 := hid (H2.out.below hst hst.size)
  clear hb hst
  obtain ⟨W0, rfl⟩ : ∃ W0 : World, W0 = W1 := ⟨_, rfl⟩
  clear H2
  go_wp2_with (fail)
  refine (r_any _).mono ?_
  rintro e W1 ⟨A3, rfl, hk, hb⟩
  have hst : Below W0.heap.size W0 W1 := Below.trans (by repeat' (first | with_reducible assumption | with_reducible exact Below.refl _ _ | refine Below.alloc ?_ ?_ _ | refine Below.setCell ?_ ?_ _ | refine Below.drew ?_ | refine below_drewN ?_ _ | (simp; done) | (simp; omega) | omega)) (hb.mono (by first | (simp; done) | (simp; omega) | omega))
  replace hbel := hbel.trans (hst.mono hsz)
  replace hsz := hbel.size
  have H3 := hid hk
  clear hk
  clear hb hst
  obtain ⟨W0, rfl⟩ : ∃ W0 : World, W0 = W1 := ⟨_, rfl⟩
  go_wp2_with (fail)
  refine (turn_any 2 A3 5 5 [1, 0, 1, 0, 0] 3 _ (H3.out.below (by repeat' (first | with_reducible assumption | with_reducible exact Below.refl _ _ | refine Below.alloc ?_ ?_ _ | refine Below.setCell ?_ ?_ _ | refine Below.drew ?_ | refine below_drewN ?_ _ | (simp; done) | (simp; omega) | omega)) (by first | (simp; done) | (simp; omega) | omega)) (by omega) (by omega)).mono ?_
  rw [kA.2.2.1, kA.2.2.2.1]
  rintro e W1 ⟨At, mt, ct, rfl, ht, hb⟩
  have hst : Below W0.heap.size W0 W1 := Below.trans (by repeat' (first | with_reducible assumption | with_reducible exact Below.refl _ _ | refine Below.alloc ?_ ?_ _ | refine Below.setCell ?_ ?_ _ | refine Below.drew ?_ | refine below_drewN ?_ _ | (simp; done) | (simp; omega) | omega)) (hb.mono (by first | (simp; done) | (simp; omega) | omega))
  replace hbel := hbel.trans (hst.mono hsz)
  replace hsz := hbel.size
  replace H3 := hid (H3.out.below hst hst.size)
  have hmt := ht.1.len
  have hmt2 : mt = 5 := hmt.symm
  clear hmt
  subst hmt2
  have HT := hid ht.1
  clear ht
  clear hb hst
  obtain ⟨W0, rfl⟩ : ∃ W0 : World, W0 = W1 := ⟨_, rfl⟩
  clear H3
  go_wp2_with (fail)
  refine (r_any _).mono ?_
  rintro e W1 ⟨A4, rfl, hk, hb⟩
  have hst : Below W0.heap.size W0 W1 := Below.trans (by repeat' (first | with_reducible assumption | with_reducible exact Below.refl _ _ | refine Below.alloc ?_ ?_ _ | refine Below.setCell ?_ ?_ _ | refine Below.drew ?_ | refine below_drewN ?_ _ | (simp; done) | (simp; omega) | omega)) (hb.mono (by first | (simp; done) | (simp; omega) | omega))
  replace hbel := hbel.trans (hst.mono hsz)
  replace hsz := hbel.size
  replace HT := hid (HT.out.below hst hst.size)
  have H4 := hid hk
  clear hk
  clear hb hst
  obtain ⟨W0, rfl⟩ : ∃ W0 : World, W0 = W1 := ⟨_, rfl⟩
  go_wp2_with (fail)
  refine (turn_any 2 A4 5 5 [1, 0, 1, 0, 0] 5 _ (H4.out.below (by repeat' (first | with_reducible assumption | with_reducible exact Below.refl _ _ | refine Below.alloc ?_ ?_ _ | refine Below.setCell ?_ ?_ _ | refine Below.drew ?_ | refine below_drewN ?_ _ | (simp; done) | (simp; omega) | omega)) (by first | (simp; done) | (simp; omega) | omega)) (by omega) (by omega)).mono ?_
  rw [kA.2.2.2.2.1]
  rintro e W1 ⟨Au, mu, cu, rfl, hu, hb⟩
  have hst : Below W0.heap.size W0 W1 := Below.trans (by repeat' (first | with_reducible assumption | with_reducible exact Below.refl _ _ | refine Below.alloc ?_ ?_ _ | refine Below.setCell ?_ ?_ _ | refine Below.drew ?_ | refine below_drewN ?_ _ | (simp; done) | (simp; omega) | omega)) (hb.mono (by first | (simp; done) | (simp; omega) | omega))
  replace hbel := hbel.trans (hst.mono hsz)
  replace hsz := hbel.size
  replace HT := hid (HT.out.below hst hst.size)
  replace H4 := hid (H4.out.below hst hst.size)
  clear hu
  clear hb hst
  obtain ⟨W0, rfl⟩ : ∃ W0 : World, W0 = W1 := ⟨_, rfl⟩
  clear H4
  go_wp2_with (fail)
  refine (r_any _).mono ?_
  rintro e W1 ⟨A5, rfl, hk, hb⟩
  have hst : Below W0.heap.size W0 W1 := Below.trans (by repeat' (first | with_reducible assumption | with_reducible exact Below.refl _ _ | refine Below.alloc ?_ ?_ _ | refine Below.setCell ?_ ?_ _ | refine Below.drew ?_ | refine below_drewN ?_ _ | (simp; done) | (simp; omega) | omega)) (hb.mono (by first | (simp; done) | (simp; omega) | omega))
  replace hbel := hbel.trans (hst.mono hsz)
  replace hsz := hbel.size
  replace HT := hid (HT.out.below hst hst.size)
  have H5 := hid hk
  clear hk
  clear hb hst
  obtain ⟨W0, rfl⟩ : ∃ W0 : World, W0 = W1 := ⟨_, rfl⟩
  go_wp2_with (fail)
  refine (leastP_any 2 A5 5 5 [1, 0, 1, 0, 0] _ (H5.out.below (by repeat' (first | with_reducible assumption | with_reducible exact Below.refl _ _ | refine Below.alloc ?_ ?_ _ | refine Below.setCell ?_ ?_ _ | refine Below.drew ?_ | refine below_drewN ?_ _ | (simp; done) | (simp; omega) | omega)) (by first | (simp; done) | (simp; omega) | omega)) (by omega) (by omega)).mono ?_
  rw [kA.2.2.2.2.2.1, kA.2.2.2.2.2.2.1, kA.2.2.2.2.2.2.2.1]
  rintro e W1 ⟨Al, ml, cl, rfl, hl, hb⟩
  have hst : Below W0.heap.size W0 W1 := Below.trans (by repeat' (first | with_reducible assumption | with_reducible exact Below.refl _ _ | refine Below.alloc ?_ ?_ _ | refine Below.setCell ?_ ?_ _ | refine Below.drew ?_ | refine below_drewN ?_ _ | (simp; done) | (simp; omega) | omega)) (hb.mono (by first | (simp; done) | (simp; omega) | omega))
  replace hbel := hbel.trans (hst.mono hsz)
  replace hsz := hbel.size
  replace HT := hid (HT.out.below hst hst.size)
  replace H5 := hid (H5.out.below hst hst.size)
  have hml := hl.1.len
  have hml2 : ml = 5 := hml.symm
  clear hml
  subst hml2
  have HL := hid hl.1
  clear hl
  clear hb hst
  obtain ⟨W0, rfl⟩ : ∃ W0 : World, W0 = W1 := ⟨_, rfl⟩
  clear H5
  go_wp2_with (fail)
  refine (s_any _).mono ?_
  rintro e W1 ⟨A6, rfl, hk, hb⟩
  have hst : Below W0.heap.size W0 W1 := Below.trans (by repeat' (first | with_reducible assumption | with_reducible exact Below.refl _ _ | refine Below.alloc ?_ ?_ _ | refine Below.setCell ?_ ?_ _ | refine Below.drew ?_ | refine below_drewN ?_ _ | (simp; done) | (simp; omega) | omega)) (hb.mono (by first | (simp; done) | (simp; omega) | omega))
  replace hbel := hbel.trans (hst.mono hsz)
  replace hsz := hbel.size
  replace HT := hid (HT.out.below hst hst.size)
  replace HL := hid (HL.out.below hst hst.size)
  have H6 := hid hk
  clear hk
  clear hb hst
  obtain ⟨W0, rfl⟩ : ∃ W0 : World, W0 = W1 := ⟨_, rfl⟩
  go_wp2_with (fail)
  refine (periodF_any 2 A6 4 4 [0, 1, 0, 1] _ (H6.out.below (by repeat' (first | with_reducible assumption | with_reducible exact Below.refl _ _ | refine Below.alloc ?_ ?_ _ | refine Below.setCell ?_ ?_ _ | refine Below.drew ?_ | refine below_drewN ?_ _ | (simp; done) | (simp; omega) | omega)) (by first | (simp; done) | (simp; omega) | omega)) (by omega) (by omega)).mono ?_
  rw [kA.2.2.2.2.2.2.2.2.1, kA.2.2.2.2.2.2.2.2.2]
  rintro e W1 ⟨rfl, hb⟩
  have hst : Below W0.heap.size W0 W1 := Below.trans (by repeat' (first | with_reducible assumption | with_reducible exact Below.refl _ _ | refine Below.alloc ?_ ?_ _ | refine Below.setCell ?_ ?_ _ | refine Below.drew ?_ | refine below_drewN ?_ _ | (simp; done) | (simp; omega) | omega)) (hb.mono (by first | (simp; done) | (simp; omega) | omega))
  replace hbel := hbel.trans (hst.mono hsz)
  replace hsz := hbel.size
  replace HT := hid (HT.out.below hst hst.size)
  replace HL := hid (HL.out.below hst hst.size)
  replace H6 := hid (H6.out.below hst hst.size)
  clear hb hst
  obtain ⟨W0, rfl⟩ : ∃ W0 : World, W0 = W1 := ⟨_, rfl⟩
  clear H6
  go_wp2_with (fail)
  refine (r_any _).mono ?_
  rintro e W1 ⟨A7, rfl, hk, hb⟩
  have hst : Below W0.heap.size W0 W1 := Below.trans (by repeat' (first | with_reducible assumption | with_reducible exact Below.refl _ _ | refine Below.alloc ?_ ?_ _ | refine Below.setCell ?_ ?_ _ | refine Below.drew ?_ | refine below_drewN ?_ _ | (simp; done) | (simp; omega) | omega)) (hb.mono (by first | (simp; done) | (simp; omega) | omega))
  replace hbel := hbel.trans (hst.mono hsz)
  replace hsz := hbel.size
  replace HT := hid (HT.out.below hst hst.size)
  replace HL := hid (HL.out.below hst hst.size)
  have H7 := hid hk
  clear hk
  clear hb hst
  obtain ⟨W0, rfl⟩ : ∃ W0 : World, W0 = W1 := ⟨_, rfl⟩
  go_wp2_with (fail)
  obtain ⟨W1, hW1⟩ : ∃ W1, W0.alloc (.cells #[.int .i64 0, .int .i64 0, .int .i64 1, .int .i64 0, .int .i64 1] 3) = W1 := ⟨_, rfl⟩
  have hb : Below W0.heap.size W0 W1 := by rw [← hW1]; exact (by repeat' (first | with_reducible assumption | with_reducible exact Below.refl _ _ | refine Below.alloc ?_ ?_ _ | refine Below.setCell ?_ ?_ _ | refine Below.drew ?_ | refine below_drewN ?_ _ | (simp; done) | (simp; omega) | omega))
  have hk : InS W1 W1.heap.size (some ⟨W0.heap.size, 0, none⟩) 5 [0, 0, 1, 0, 1] := by rw [← hW1]; exact ins_blk (l := [0, 0, 1, 0, 1]) (Blk.new _ _ _) (by simp)
  obtain ⟨g8, hg⟩ : ∃ g, W0.heap.size = g := ⟨_, rfl⟩
  rw [hW1]; rw [hg]; rw [hg] at hk
  have H8 := hid hk
  clear hk hg hW1
  refine (of_any _ _ _ _).mono ?_
  rintro e W1 ⟨rfl, rfl⟩
  have hst : Below W0.heap.size W0 W1 := Below.trans (by repeat' (first | with_reducible assumption | with_reducible exact Below.refl _ _ | refine Below.alloc ?_ ?_ _ | refine Below.setCell ?_ ?_ _ | refine Below.drew ?_ | refine below_drewN ?_ _ | (simp; done) | (simp; omega) | omega)) (hb.mono (by first | (simp; done) | (simp; omega) | omega))
  replace hbel := hbel.trans (hst.mono hsz)
  replace hsz := hbel.size
  replace HT := hid (HT.out.below hst hst.size)
  replace HL := hid (HL.out.below hst hst.size)
  replace H7 := hid (H7.out.below hst hst.size)
  clear hb hst
  obtain ⟨W0, rfl⟩ : ∃ W0 : World, W0 = W1 := ⟨_, rfl⟩
  go_wp2_with (fail)
  refine (shift_any 2 A7 (some ⟨g8, 0, none⟩) 5 5 5 5 [1, 0, 1, 0, 0] [0, 0, 1, 0, 1] _ (H7.out.below (by repeat' (first | with_reducible assumption | with_reducible exact Below.refl _ _ | refine Below.alloc ?_ ?_ _ | refine Below.setCell ?_ ?_ _ | refine Below.drew ?_ | refine below_drewN ?_ _ | (simp; done) | (simp; omega) | omega)) (by first | (simp; done) | (simp; omega) | omega)) (H8.out.below (by repeat' (first | with_reducible assumption | with_reducible exact Below.refl _ _ | refine Below.alloc ?_ ?_ _ | refine Below.setCell ?_ ?_ _ | refine Below.drew ?_ | refine below_drewN ?_ _ | (simp; done) | (simp; omega) | omega)) (by first | (simp; done) | (simp; omega) | omega)) (by omega) (by omega) (by omega)).mono ?_
  rw [kB.1, kB.2.1]
  rintro e W1 ⟨rfl, hb⟩
  have hst : Below W0.heap.size W0 W1 := Below.trans (by repeat' (first | with_reducible assumption | with_reducible exact Below.refl _ _ | refine Below.alloc ?_ ?_ _ | refine Below.setCell ?_ ?_ _ | refine Below.drew ?_ | refine below_drewN ?_ _ | (simp; done) | (simp; omega) | omega)) (hb.mono (by first | (simp; done) | (simp; omega) | omega))
  replace hbel := hbel.trans (hst.mono hsz)
  replace hsz := hbel.size
  replace HT := hid (HT.out.below hst hst.size)
  replace HL := hid (HL.out.below hst hst.size)
  replace H7 := hid (H7.out.below hst hst.size)
  replace H8 := hid (H8.out.below hst hst.size)
  clear hb hst
  obtain ⟨W0, rfl⟩ : ∃ W0 : World, W0 = W1 := ⟨_, rfl⟩
  clear H7 H8
  go_wp2_with (fail)
  refine (r_any _).mono ?_
  rintro e W1 ⟨A9, rfl, hk, hb⟩
  have hst : Below W0.heap.size W0 W1 := Below.trans (by repeat' (first | with_reducible assumption | with_reducible exact Below.refl _ _ | refine Below.alloc ?_ ?_ _ | refine Below.setCell ?_ ?_ _ | refine Below.drew ?_ | refine below_drewN ?_ _ | (simp; done) | (simp; omega) | omega)) (hb.mono (by first | (simp; done) | (simp; omega) | omega))
  replace hbel := hbel.trans (hst.mono hsz)
  replace hsz := hbel.size
  replace HT := hid (HT.out.below hst hst.size)
  replace HL := hid (HL.out.below hst hst.size)
  have H9 := hid hk
  clear hk
  clear hb hst
  obtain ⟨W0, rfl⟩ : ∃ W0 : World, W0 = W1 := ⟨_, rfl⟩
  go_wp2_with (fail)
  refine (s_any _).mono ?_
  rintro e W1 ⟨A10, rfl, hk, hb⟩
  have hst : Below W0.heap.size W0 W1 := Below.trans (by repeat' (first | with_reducible assumption | with_reducible exact Below.refl _ _ | refine Below.alloc ?_ ?_ _ | refine Below.setCell ?_ ?_ _ | refine Below.drew ?_ | refine below_drewN ?_ _ | (simp; done) | (simp; omega) | omega)) (hb.mono (by first | (simp; done) | (simp; omega) | omega))
  replace hbel := hbel.trans (hst.mono hsz)
  replace hsz := hbel.size
  replace HT := hid (HT.out.below hst hst.size)
  replace HL := hid (HL.out.below hst hst.size)
  replace H9 := hid (H9.out.below hst hst.size)
  have H10 := hid hk
  clear hk
  clear hb hst
  obtain ⟨W0, rfl⟩ : ∃ W0 : World, W0 = W1 := ⟨_, rfl⟩
  go_wp2_with (fail)
  refine (shift_any 2 A9 A10 5 5 4 4 [1, 0, 1, 0, 0] [0, 1, 0, 1] _ (H9.out.below (by repeat' (first | with_reducible assumption | with_reducible exact Below.refl _ _ | refine Below.alloc ?_ ?_ _ | refine Below.setCell ?_ ?_ _ | refine Below.drew ?_ | refine below_drewN ?_ _ | (simp; done) | (simp; omega) | omega)) (by first | (simp; done) | (simp; omega) | omega)) (H10.out.below (by repeat' (first | with_reducible assumption | with_reducible exact Below.refl _ _ | refine Below.alloc ?_ ?_ _ | refine Below.setCell ?_ ?_ _ | refine Below.drew ?_ | refine below_drewN ?_ _ | (simp; done) | (simp; omega) | omega)) (by first | (simp; done) | (simp; omega) | omega)) (by omega) (by omega) (by omega)).mono ?_
  rw [kB.2.2.1, kB.2.2.2.1]
  rintro e W1 ⟨rfl, hb⟩
  have hst : Below W0.heap.size W0 W1 := Below.trans (by repeat' (first | with_reducible assumption | with_reducible exact Below.refl _ _ | refine Below.alloc ?_ ?_ _ | refine Below.setCell ?_ ?_ _ | refine Below.drew ?_ | refine below_drewN ?_ _ | (simp; done) | (simp; omega) | omega)) (hb.mono (by first | (simp; done) | (simp; omega) | omega))
  replace hbel := hbel.trans (hst.mono hsz)
  replace hsz := hbel.size
  replace HT := hid (HT.out.below hst hst.size)
  replace HL := hid (HL.out.below hst hst.size)
  replace H9 := hid (H9.out.below hst hst.size)
  replace H10 := hid (H10.out.below hst hst.size)
  clear hb hst
  obtain ⟨W0, rfl⟩ : ∃ W0 : World, W0 = W1 := ⟨_, rfl⟩
  clear H9 H10
  go_wp2_with (fail)
  refine (r_any _).mono ?_
  rintro e W1 ⟨A11, rfl, hk, hb⟩
  have hst : Below W0.heap.size W0 W1 := Below.trans (by repeat' (first | with_reducible assumption | with_reducible exact Below.refl _ _ | refine Below.alloc ?_ ?_ _ | refine Below.setCell ?_ ?_ _ | refine Below.drew ?_ | refine below_drewN ?_ _ | (simp; done) | (simp; omega) | omega)) (hb.mono (by first | (simp; done) | (simp; omega) | omega))
  replace hbel := hbel.trans (hst.mono hsz)
  replace hsz := hbel.size
  replace HT := hid (HT.out.below hst hst.size)
  replace HL := hid (HL.out.below hst hst.size)
  have H11 := hid hk
  clear hk
  clear hb hst
  obtain ⟨W0, rfl⟩ : ∃ W0 : World, W0 = W1 := ⟨_, rfl⟩
  go_wp2_with (fail)
  refine (words_any 2 A11 5 5 [1, 0, 1, 0, 0] _ (H11.out.below (by repeat' (first | with_reducible assumption | with_reducible exact Below.refl _ _ | refine Below.alloc ?_ ?_ _ | refine Below.setCell ?_ ?_ _ | refine Below.drew ?_ | refine below_drewN ?_ _ | (simp; done) | (simp; omega) | omega)) (by first | (simp; done) | (simp; omega) | omega)) (by omega)).mono ?_
  rw [kB.2.2.2.2.1, kA.2.2.2.2.2.2.2.1]
  rintro e W1 ⟨Aw, cw, rfl, hw, hb⟩
  have hst : Below W0.heap.size W0 W1 := Below.trans (by repeat' (first | with_reducible assumption | with_reducible exact Below.refl _ _ | refine Below.alloc ?_ ?_ _ | refine Below.setCell ?_ ?_ _ | refine Below.drew ?_ | refine below_drewN ?_ _ | (simp; done) | (simp; omega) | omega)) (hb.mono (by first | (simp; done) | (simp; omega) | omega))
  replace hbel := hbel.trans (hst.mono hsz)
  replace hsz := hbel.size
  replace HT := hid (HT.out.below hst hst.size)
  replace HL := hid (HL.out.below hst hst.size)
  replace H11 := hid (H11.out.below hst hst.size)
  have HW : Hid (InS W1 W1.heap.size Aw 4 [0, 1, 3, 4]) := hid hw.1
  clear hw
  clear hb hst
  obtain ⟨W0, rfl⟩ : ∃ W0 : World, W0 = W1 := ⟨_, rfl⟩
  clear H11
  go_wp2_with (fail)
  refine (r_any _).mono ?_
  rintro e W1 ⟨A12, rfl, hk, hb⟩
  have hst : Below W0.heap.size W0 W1 := Below.trans (by repeat' (first | with_reducible assumption | with_reducible exact Below.refl _ _ | refine Below.alloc ?_ ?_ _ | refine Below.setCell ?_ ?_ _ | refine Below.drew ?_ | refine below_drewN ?_ _ | (simp; done) | (simp; omega) | omega)) (hb.mono (by first | (simp; done) | (simp; omega) | omega))
  replace hbel := hbel.trans (hst.mono hsz)
  replace hsz := hbel.size
  replace HT := hid (HT.out.below hst hst.size)
  replace HL := hid (HL.out.below hst hst.size)
  replace HW := hid (HW.out.below hst hst.size)
  have H12 := hid hk
  clear hk
  clear hb hst
  obtain ⟨W0, rfl⟩ : ∃ W0 : World, W0 = W1 := ⟨_, rfl⟩
  go_wp2_with (fail)
  obtain ⟨W1, hW1⟩ : ∃ W1, W0.alloc (.cells #[.int .i64 0, .int .i64 1, .int .i64 3] 3) = W1 := ⟨_, rfl⟩
  have hb : Below W0.heap.size W0 W1 := by rw [← hW1]; exact (by repeat' (first | with_reducible assumption | with_reducible exact Below.refl _ _ | refine Below.alloc ?_ ?_ _ | refine Below.setCell ?_ ?_ _ | refine Below.drew ?_ | refine below_drewN ?_ _ | (simp; done) | (simp; omega) | omega))
  have hk : InS W1 W1.heap.size (some ⟨W0.heap.size, 0, none⟩) 3 [0, 1, 3] := by rw [← hW1]; exact ins_blk (l := [0, 1, 3]) (Blk.new _ _ _) (by simp)
  obtain ⟨g13, hg⟩ : ∃ g, W0.heap.size = g := ⟨_, rfl⟩
  rw [hW1]; rw [hg]; rw [hg] at hk
  have H13 := hid hk
  clear hk hg hW1
  refine (of_any _ _ _ _).mono ?_
  rintro e W1 ⟨rfl, rfl⟩
  have hst : Below W0.heap.size W0 W1 := Below.trans (by repeat' (first | with_reducible assumption | with_reducible exact Below.refl _ _ | refine Below.alloc ?_ ?_ _ | refine Below.setCell ?_ ?_ _ | refine Below.drew ?_ | refine below_drewN ?_ _ | (simp; done) | (simp; omega) | omega)) (hb.mono (by first | (simp; done) | (simp; omega) | omega))
  replace hbel := hbel.trans (hst.mono hsz)
  replace hsz := hbel.size
  replace HT := hid (HT.out.below hst hst.size)
  replace HL := hid (HL.out.below hst hst.size)
  replace HW := hid (HW.out.below hst hst.size)
  replace H12 := hid (H12.out.below hst hst.size)
  clear hb hst
  obtain ⟨W0, rfl⟩ : ∃ W0 : World, W0 = W1 := ⟨_, rfl⟩
  go_wp2_with (fail)
  refine (checkWords_any 2 A12 (some ⟨g13, 0, none⟩) 5 5 3 3 [1, 0, 1, 0, 0] [0, 1, 3] _ (H12.out.below (by repeat' (first | with_reducible assumption | with_reducible exact Below.refl _ _ | refine Below.alloc ?_ ?_ _ | refine Below.setCell ?_ ?_ _ | refine Below.drew ?_ | refine below_drewN ?_ _ | (simp; done) | (simp; omega) | omega)) (by first | (simp; done) | (simp; omega) | omega)) (H13.out.below (by repeat' (first | with_reducible assumption | with_reducible exact Below.refl _ _ | refine Below.alloc ?_ ?_ _ | refine Below.setCell ?_ ?_ _ | refine Below.drew ?_ | refine below_drewN ?_ _ | (simp; done) | (simp; omega) | omega)) (by first | (simp; done) | (simp; omega) | omega)) (by omega) (by omega) (by omega)).mono ?_
  rw [kB.2.2.2.2.2.1]
  rintro e W1 ⟨rfl, hb⟩
  have hst : Below W0.heap.size W0 W1 := Below.trans (by repeat' (first | with_reducible assumption | with_reducible exact Below.refl _ _ | refine Below.alloc ?_ ?_ _ | refine Below.setCell ?_ ?_ _ | refine Below.drew ?_ | refine below_drewN ?_ _ | (simp; done) | (simp; omega) | omega)) (hb.mono (by first | (simp; done) | (simp; omega) | omega))
  replace hbel := hbel.trans (hst.mono hsz)
  replace hsz := hbel.size
  replace HT := hid (HT.out.below hst hst.size)
  replace HL := hid (HL.out.below hst hst.size)
  replace HW := hid (HW.out.below hst hst.size)
  replace H12 := hid (H12.out.below hst hst.size)
  replace H13 := hid (H13.out.below hst hst.size)
  clear hb hst
  obtain ⟨W0, rfl⟩ : ∃ W0 : World, W0 = W1 := ⟨_, rfl⟩
  clear H12 H13
  go_wp2_with (fail)
  refine (r_any _).mono ?_
  rintro e W1 ⟨A14, rfl, hk, hb⟩
  have hst : Below W0.heap.size W0 W1 := Below.trans (by repeat' (first | with_reducible assumption | with_reducible exact Below.refl _ _ | refine Below.alloc ?_ ?_ _ | refine Below.setCell ?_ ?_ _ | refine Below.drew ?_ | refine below_drewN ?_ _ | (simp; done) | (simp; omega) | omega)) (hb.mono (by first | (simp; done) | (simp; omega) | omega))
  replace hbel := hbel.trans (hst.mono hsz)
  replace hsz := hbel.size
  replace HT := hid (HT.out.below hst hst.size)
  replace HL := hid (HL.out.below hst hst.size)
  replace HW := hid (HW.out.below hst hst.size)
  have H14 := hid hk
  clear hk
  clear hb hst
  obtain ⟨W0, rfl⟩ : ∃ W0 : World, W0 = W1 := ⟨_, rfl⟩
  go_wp2_with (fail)
  obtain ⟨W1, hW1⟩ : ∃ W1, W0.alloc (.cells #[.int .i64 1, .int .i64 3] 3) = W1 := ⟨_, rfl⟩
  have hb : Below W0.heap.size W0 W1 := by rw [← hW1]; exact (by repeat' (first | with_reducible assumption | with_reducible exact Below.refl _ _ | refine Below.alloc ?_ ?_ _ | refine Below.setCell ?_ ?_ _ | refine Below.drew ?_ | refine below_drewN ?_ _ | (simp; done) | (simp; omega) | omega))
  have hk : InS W1 W1.heap.size (some ⟨W0.heap.size, 0, none⟩) 2 [1, 3] := by rw [← hW1]; exact ins_blk (l := [1, 3]) (Blk.new _ _ _) (by simp)
  obtain ⟨g15, hg⟩ : ∃ g, W0.heap.size = g := ⟨_, rfl⟩
  rw [hW1]; rw [hg]; rw [hg] at hk
  have H15 := hid hk
  clear hk hg hW1
  refine (of_any _ _ _ _).mono ?_
  rintro e W1 ⟨rfl, rfl⟩
  have hst : Below W0.heap.size W0 W1 := Below.trans (by repeat' (first | with_reducible assumption | with_reducible exact Below.refl _ _ | refine Below.alloc ?_ ?_ _ | refine Below.setCell ?_ ?_ _ | refine Below.drew ?_ | refine below_drewN ?_ _ | (simp; done) | (simp; omega) | omega)) (hb.mono (by first | (simp; done) | (simp; omega) | omega))
  replace hbel := hbel.trans (hst.mono hsz)
  replace hsz := hbel.size
  replace HT := hid (HT.out.below hst hst.size)
  replace HL := hid (HL.out.below hst hst.size)
  replace HW := hid (HW.out.below hst hst.size)
  replace H14 := hid (H14.out.below hst hst.size)
  clear hb hst
  obtain ⟨W0, rfl⟩ : ∃ W0 : World, W0 = W1 := ⟨_, rfl⟩
  go_wp2_with (fail)
  refine (checkWords_any 2 A14 (some ⟨g15, 0, none⟩) 5 5 2 2 [1, 0, 1, 0, 0] [1, 3] _ (H14.out.below (by repeat' (first | with_reducible assumption | with_reducible exact Below.refl _ _ | refine Below.alloc ?_ ?_ _ | refine Below.setCell ?_ ?_ _ | refine Below.drew ?_ | refine below_drewN ?_ _ | (simp; done) | (simp; omega) | omega)) (by first | (simp; done) | (simp; omega) | omega)) (H15.out.below (by repeat' (first | with_reducible assumption | with_reducible exact Below.refl _ _ | refine Below.alloc ?_ ?_ _ | refine Below.setCell ?_ ?_ _ | refine Below.drew ?_ | refine below_drewN ?_ _ | (simp; done) | (simp; omega) | omega)) (by first | (simp; done) | (simp; omega) | omega)) (by omega) (by omega) (by omega)).mono ?_
  rw [kB.2.2.2.2.2.2]
  rintro e W1 ⟨rfl, hb⟩
  have hst : Below W0.heap.size W0 W1 := Below.trans (by repeat' (first | with_reducible assumption | with_reducible exact Below.refl _ _ | refine Below.alloc ?_ ?_ _ | refine Below.setCell ?_ ?_ _ | refine Below.drew ?_ | refine below_drewN ?_ _ | (simp; done) | (simp; omega) | omega)) (hb.mono (by first | (simp; done) | (simp; omega) | omega))
  replace hbel := hbel.trans (hst.mono hsz)
  replace hsz := hbel.size
  replace HT := hid (HT.out.below hst hst.size)
  replace HL := hid (HL.out.below hst hst.size)
  replace HW := hid (HW.out.below hst hst.size)
  replace H14 := hid (H14.out.below hst hst.size)
  replace H15 := hid (H15.out.below hst hst.size)
  clear hb hst
  obtain ⟨W0, rfl⟩ : ∃ W0 : World, W0 = W1 := ⟨_, rfl⟩
  clear H14 H15
  go_wp2_with (fail)
  refine (count_any 3 3 _).mono ?_
  rw [kC.1, kC.2.1]
  rintro e W1 ⟨rfl, hb⟩
  have hst : Below W0.heap.size W0 W1 := Below.trans (by repeat' (first | with_reducible assumption | with_reducible exact Below.refl _ _ | refine Below.alloc ?_ ?_ _ | refine Below.setCell ?_ ?_ _ | refine Below.drew ?_ | refine below_drewN ?_ _ | (simp; done) | (simp; omega) | omega)) (hb.mono (by first | (simp; done) | (simp; omega) | omega))
  replace hbel := hbel.trans (hst.mono hsz)
  replace hsz := hbel.size
  replace HT := hid (HT.out.below hst hst.size)
  replace HL := hid (HL.out.below hst hst.size)
  replace HW := hid (HW.out.below hst hst.size)
  clear hb hst
  obtain ⟨W0, rfl⟩ : ∃ W0 : World, W0 = W1 := ⟨_, rfl⟩
  go_wp2_with (fail)
  refine (single_any 2 5 _).mono ?_
  rw [kC.2.2.1, kC.2.2.2.1]
  rintro e W1 ⟨rfl, hb⟩
  have hst : Below W0.heap.size W0 W1 := Below.trans (by repeat' (first | with_reducible assumption | with_reducible exact Below.refl _ _ | refine Below.alloc ?_ ?_ _ | refine Below.setCell ?_ ?_ _ | refine Below.drew ?_ | refine below_drewN ?_ _ | (simp; done) | (simp; omega) | omega)) (hb.mono (by first | (simp; done) | (simp; omega) | omega))
  replace hbel := hbel.trans (hst.mono hsz)
  replace hsz := hbel.size
  replace HT := hid (HT.out.below hst hst.size)
  replace HL := hid (HL.out.below hst hst.size)
  replace HW := hid (HW.out.below hst hst.size)
  clear hb hst
  obtain ⟨W0, rfl⟩ : ∃ W0 : World, W0 = W1 := ⟨_, rfl⟩
  go_wp2_with (fail)
  refine (single_any 2 13 _).mono ?_
  rw [kC.2.2.2.2.1, kC.2.2.2.2.2.1]
  rintro e W1 ⟨rfl, hb⟩
  have hst : Below W0.heap.size W0 W1 := Below.trans (by repeat' (first | with_reducible assumption | with_reducible exact Below.refl _ _ | refine Below.alloc ?_ ?_ _ | refine Below.setCell ?_ ?_ _ | refine Below.drew ?_ | refine below_drewN ?_ _ | (simp; done) | (simp; omega) | omega)) (hb.mono (by first | (simp; done) | (simp; omega) | omega))
  replace hbel := hbel.trans (hst.mono hsz)
  replace hsz := hbel.size
  replace HT := hid (HT.out.below hst hst.size)
  replace HL := hid (HL.out.below hst hst.size)
  replace HW := hid (HW.out.below hst hst.size)
  clear hb hst
  obtain ⟨W0, rfl⟩ : ∃ W0 : World, W0 = W1 := ⟨_, rfl⟩
  go_wp2_with (fail)
  refine (all_any 2 3 _).mono ?_
  rw [kC.2.2.2.2.2.2.1, kC.2.2.2.2.2.2.2.1]
  rintro e W1 ⟨va, rfl, ha, hb⟩
  have hst : Below W0.heap.size W0 W1 := Below.trans (by repeat' (first | with_reducible assumption | with_reducible exact Below.refl _ _ | refine Below.alloc ?_ ?_ _ | refine Below.setCell ?_ ?_ _ | refine Below.drew ?_ | refine below_drewN ?_ _ | (simp; done) | (simp; omega) | omega)) (hb.mono (by first | (simp; done) | (simp; omega) | omega))
  replace hbel := hbel.trans (hst.mono hsz)
  replace hsz := hbel.size
  replace HT := hid (HT.out.below hst hst.size)
  replace HL := hid (HL.out.below hst hst.size)
  replace HW := hid (HW.out.below hst hst.size)
  obtain ⟨Aa, ca, hva, ha2, -⟩ := ha.lis
  subst hva
  have HA : Hid (LiS W1 W1.heap.size Aa 4 [[0, 0, 0], [0, 0, 1], [0, 1, 1], [1, 1, 1]]) := hid ha2
  clear ha ha2
  clear hb hst
  obtain ⟨W0, rfl⟩ : ∃ W0 : World, W0 = W1 := ⟨_, rfl⟩
  go_wp2_with (fail)
  refine (all_any 4 6 _).mono ?_
  rw [kC.2.2.2.2.2.2.2.2]
  rintro e W1 ⟨vb, rfl, ha, hb⟩
  have hst : Below W0.heap.size W0 W1 := Below.trans (by repeat' (first | with_reducible assumption | with_reducible exact Below.refl _ _ | refine Below.alloc ?_ ?_ _ | refine Below.setCell ?_ ?_ _ | refine Below.drew ?_ | refine below_drewN ?_ _ | (simp; done) | (simp; omega) | omega)) (hb.mono (by first | (simp; done) | (simp; omega) | omega))
  replace hbel := hbel.trans (hst.mono hsz)
  replace hsz := hbel.size
  replace HT := hid (HT.out.below hst hst.size)
  replace HL := hid (HL.out.below hst hst.size)
  replace HW := hid (HW.out.below hst hst.size)
  replace HA := hid (HA.out.below hst hst.size)
  clear ha
  clear hb hst
  obtain ⟨W0, rfl⟩ : ∃ W0 : World, W0 = W1 := ⟨_, rfl⟩
  go_wp2_with (fail)
  refine (row_any 2 3 _).mono ?_
  rw [kD.1, kD.2.1]
  rintro e W1 ⟨Ao, co, rfl, ho, hb⟩
  have hst : Below W0.heap.size W0 W1 := Below.trans (by repeat' (first | with_reducible assumption | with_reducible exact Below.refl _ _ | refine Below.alloc ?_ ?_ _ | refine Below.setCell ?_ ?_ _ | refine Below.drew ?_ | refine below_drewN ?_ _ | (simp; done) | (simp; omega) | omega)) (hb.mono (by first | (simp; done) | (simp; omega) | omega))
  replace hbel := hbel.trans (hst.mono hsz)
  replace hsz := hbel.size
  replace HT := hid (HT.out.below hst hst.size)
  replace HL := hid (HL.out.below hst hst.size)
  replace HW := hid (HW.out.below hst hst.size)
  replace HA := hid (HA.out.below hst hst.size)
  have HO : Hid (InS W1 W1.heap.size Ao 8 [0, 0, 0, 1, 0, 1, 1, 1]) := hid ho.1
  clear ho
  clear hb hst
  obtain ⟨W0, rfl⟩ : ∃ W0 : World, W0 = W1 := ⟨_, rfl⟩
  go_wp2_with (fail)
  obtain ⟨W1, hW1⟩ : ∃ W1, W0.alloc (.cells #[.int .i64 1, .int .i64 1, .int .i64 1, .int .i64 0, .int .i64 0, .int .i64 0, .int .i64 1, .int .i64 0] 3) = W1 := ⟨_, rfl⟩
  have hb : Below W0.heap.size W0 W1 := by rw [← hW1]; exact (by repeat' (first | with_reducible assumption | with_reducible exact Below.refl _ _ | refine Below.alloc ?_ ?_ _ | refine Below.setCell ?_ ?_ _ | refine Below.drew ?_ | refine below_drewN ?_ _ | (simp; done) | (simp; omega) | omega))
  have hk : InS W1 W1.heap.size (some ⟨W0.heap.size, 0, none⟩) 8 [1, 1, 1, 0, 0, 0, 1, 0] := by rw [← hW1]; exact ins_blk (l := [1, 1, 1, 0, 0, 0, 1, 0]) (Blk.new _ _ _) (by simp)
  obtain ⟨g16, hg⟩ : ∃ g, W0.heap.size = g := ⟨_, rfl⟩
  rw [hW1]; rw [hg]; rw [hg] at hk
  have H16 := hid hk
  clear hk hg hW1
  refine (of_any _ _ _ _).mono ?_
  rintro e W1 ⟨rfl, rfl⟩
  have hst : Below W0.heap.size W0 W1 := Below.trans (by repeat' (first | with_reducible assumption | with_reducible exact Below.refl _ _ | refine Below.alloc ?_ ?_ _ | refine Below.setCell ?_ ?_ _ | refine Below.drew ?_ | refine below_drewN ?_ _ | (simp; done) | (simp; omega) | omega)) (hb.mono (by first | (simp; done) | (simp; omega) | omega))
  replace hbel := hbel.trans (hst.mono hsz)
  replace hsz := hbel.size
  replace HT := hid (HT.out.below hst hst.size)
  replace HL := hid (HL.out.below hst hst.size)
  replace HW := hid (HW.out.below hst hst.size)
  replace HA := hid (HA.out.below hst hst.size)
  replace HO := hid (HO.out.below hst hst.size)
  clear hb hst
  obtain ⟨W0, rfl⟩ : ∃ W0 : World, W0 = W1 := ⟨_, rfl⟩
  go_wp2_with (fail)
  refine (checkRow_any 2 3 (some ⟨g16, 0, none⟩) 8 8 [1, 1, 1, 0, 0, 0, 1, 0] _ (H16.out.below (by repeat' (first | with_reducible assumption | with_reducible exact Below.refl _ _ | refine Below.alloc ?_ ?_ _ | refine Below.setCell ?_ ?_ _ | refine Below.drew ?_ | refine below_drewN ?_ _ | (simp; done) | (simp; omega) | omega)) (by first | (simp; done) | (simp; omega) | omega)) (by omega) (by omega)).mono ?_
  rw [kD.2.2.1]
  rintro e W1 ⟨rfl, hb⟩
  have hst : Below W0.heap.size W0 W1 := Below.trans (by repeat' (first | with_reducible assumption | with_reducible exact Below.refl _ _ | refine Below.alloc ?_ ?_ _ | refine Below.setCell ?_ ?_ _ | refine Below.drew ?_ | refine below_drewN ?_ _ | (simp; done) | (simp; omega) | omega)) (hb.mono (by first | (simp; done) | (simp; omega) | omega))
  replace hbel := hbel.trans (hst.mono hsz)
  replace hsz := hbel.size
  replace HT := hid (HT.out.below hst hst.size)
  replace HL := hid (HL.out.below hst hst.size)
  replace HW := hid (HW.out.below hst hst.size)
  replace HA := hid (HA.out.below hst hst.size)
  replace HO := hid (HO.out.below hst hst.size)
  replace H16 := hid (H16.out.below hst hst.size)
  clear hb hst
  obtain ⟨W0, rfl⟩ : ∃ W0 : World, W0 = W1 := ⟨_, rfl⟩
  clear H16
  go_wp2_with (fail)
  obtain ⟨W1, hW1⟩ : ∃ W1, W0.alloc (.cells #[.int .i64 0, .int .i64 0, .int .i64 0, .int .i64 1, .int .i64 1, .int .i64 0, .int .i64 1, .int .i64 1] 3) = W1 := ⟨_, rfl⟩
  have hb : Below W0.heap.size W0 W1 := by rw [← hW1]; exact (by repeat' (first | with_reducible assumption | with_reducible exact Below.refl _ _ | refine Below.alloc ?_ ?_ _ | refine Below.setCell ?_ ?_ _ | refine Below.drew ?_ | refine below_drewN ?_ _ | (simp; done) | (simp; omega) | omega))
  have hk : InS W1 W1.heap.size (some ⟨W0.heap.size, 0, none⟩) 8 [0, 0, 0, 1, 1, 0, 1, 1] := by rw [← hW1]; exact ins_blk (l := [0, 0, 0, 1, 1, 0, 1, 1]) (Blk.new _ _ _) (by simp)
  obtain ⟨g17, hg⟩ : ∃ g, W0.heap.size = g := ⟨_, rfl⟩
  rw [hW1]; rw [hg]; rw [hg] at hk
  have H17 := hid hk
  clear hk hg hW1
  refine (of_any _ _ _ _).mono ?_
  rintro e W1 ⟨rfl, rfl⟩
  have hst : Below W0.heap.size W0 W1 := Below.trans (by repeat' (first | with_reducible assumption | with_reducible exact Below.refl _ _ | refine Below.alloc ?_ ?_ _ | refine Below.setCell ?_ ?_ _ | refine Below.drew ?_ | refine below_drewN ?_ _ | (simp; done) | (simp; omega) | omega)) (hb.mono (by first | (simp; done) | (simp; omega) | omega))
  replace hbel := hbel.trans (hst.mono hsz)
  replace hsz := hbel.size
  replace HT := hid (HT.out.below hst hst.size)
  replace HL := hid (HL.out.below hst hst.size)
  replace HW := hid (HW.out.below hst hst.size)
  replace HA := hid (HA.out.below hst hst.size)
  replace HO := hid (HO.out.below hst hst.size)
  clear hb hst
  obtain ⟨W0, rfl⟩ : ∃ W0 : World, W0 = W1 := ⟨_, rfl⟩
  go_wp2_with (fail)
  refine (checkRow_any 2 3 (some ⟨g17, 0, none⟩) 8 8 [0, 0, 0, 1, 1, 0, 1, 1] _ (H17.out.below (by repeat' (first | with_reducible assumption | with_reducible exact Below.refl _ _ | refine Below.alloc ?_ ?_ _ | refine Below.setCell ?_ ?_ _ | refine Below.drew ?_ | refine below_drewN ?_ _ | (simp; done) | (simp; omega) | omega)) (by first | (simp; done) | (simp; omega) | omega)) (by omega) (by omega)).mono ?_
  rw [kD.2.2.2.1]
  rintro e W1 ⟨rfl, hb⟩
  have hst : Below W0.heap.size W0 W1 := Below.trans (by repeat' (first | with_reducible assumption | with_reducible exact Below.refl _ _ | refine Below.alloc ?_ ?_ _ | refine Below.setCell ?_ ?_ _ | refine Below.drew ?_ | refine below_drewN ?_ _ | (simp; done) | (simp; omega) | omega)) (hb.mono (by first | (simp; done) | (simp; omega) | omega))
  replace hbel := hbel.trans (hst.mono hsz)
  replace hsz := hbel.size
  replace HT := hid (HT.out.below hst hst.size)
  replace HL := hid (HL.out.below hst hst.size)
  replace HW := hid (HW.out.below hst hst.size)
  replace HA := hid (HA.out.below hst hst.size)
  replace HO := hid (HO.out.below hst hst.size)
  replace H17 := hid (H17.out.below hst hst.size)
  clear hb hst
  obtain ⟨W0, rfl⟩ : ∃ W0 : World, W0 = W1 := ⟨_, rfl⟩
  clear H17
  go_wp2_with (fail)
  refine (r_any _).mono ?_
  rintro e W1 ⟨A18, rfl, hk, hb⟩
  have hst : Below W0.heap.size W0 W1 := Below.trans (by repeat' (first | with_reducible assumption | with_reducible exact Below.refl _ _ | refine Below.alloc ?_ ?_ _ | refine Below.setCell ?_ ?_ _ | refine Below.drew ?_ | refine below_drewN ?_ _ | (simp; done) | (simp; omega) | omega)) (hb.mono (by first | (simp; done) | (simp; omega) | omega))
  replace hbel := hbel.trans (hst.mono hsz)
  replace hsz := hbel.size
  replace HT := hid (HT.out.below hst hst.size)
  replace HL := hid (HL.out.below hst hst.size)
  replace HW := hid (HW.out.below hst hst.size)
  replace HA := hid (HA.out.below hst hst.size)
  replace HO := hid (HO.out.below hst hst.size)
  have H18 := hid hk
  clear hk
  clear hb hst
  obtain ⟨W0, rfl⟩ : ∃ W0 : World, W0 = W1 := ⟨_, rfl⟩
  go_wp2_with (fail)
  obtain ⟨W1, hW1⟩ : ∃ W1, W0.alloc (.cells #[.int .i64 0, .int .i64 0, .int .i64 1] 3) = W1 := ⟨_, rfl⟩
  have hb : Below W0.heap.size W0 W1 := by rw [← hW1]; exact (by repeat' (first | with_reducible assumption | with_reducible exact Below.refl _ _ | refine Below.alloc ?_ ?_ _ | refine Below.setCell ?_ ?_ _ | refine Below.drew ?_ | refine below_drewN ?_ _ | (simp; done) | (simp; omega) | omega))
  have hk : InS W1 W1.heap.size (some ⟨W0.heap.size, 0, none⟩) 3 [0, 0, 1] := by rw [← hW1]; exact ins_blk (l := [0, 0, 1]) (Blk.new _ _ _) (by simp)
  obtain ⟨g19, hg⟩ : ∃ g, W0.heap.size = g := ⟨_, rfl⟩
  rw [hW1]; rw [hg]; rw [hg] at hk
  have H19 := hid hk
  clear hk hg hW1
  refine (of_any _ _ _ _).mono ?_
  rintro e W1 ⟨rfl, rfl⟩
  have hst : Below W0.heap.size W0 W1 := Below.trans (by repeat' (first | with_reducible assumption | with_reducible exact Below.refl _ _ | refine Below.alloc ?_ ?_ _ | refine Below.setCell ?_ ?_ _ | refine Below.drew ?_ | refine below_drewN ?_ _ | (simp; done) | (simp; omega) | omega)) (hb.mono (by first | (simp; done) | (simp; omega) | omega))
  replace hbel := hbel.trans (hst.mono hsz)
  replace hsz := hbel.size
  replace HT := hid (HT.out.below hst hst.size)
  replace HL := hid (HL.out.below hst hst.size)
  replace HW := hid (HW.out.below hst hst.size)
  replace HA := hid (HA.out.below hst hst.size)
  replace HO := hid (HO.out.below hst hst.size)
  replace H18 := hid (H18.out.below hst hst.size)
  clear hb hst
  obtain ⟨W0, rfl⟩ : ∃ W0 : World, W0 = W1 := ⟨_, rfl⟩
  go_wp2_with (fail)
  refine (find_any 2 A18 (some ⟨g19, 0, none⟩) 5 5 3 3 [1, 0, 1, 0, 0] [0, 0, 1] _ (H18.out.below (by repeat' (first | with_reducible assumption | with_reducible exact Below.refl _ _ | refine Below.alloc ?_ ?_ _ | refine Below.setCell ?_ ?_ _ | refine Below.drew ?_ | refine below_drewN ?_ _ | (simp; done) | (simp; omega) | omega)) (by first | (simp; done) | (simp; omega) | omega)) (H19.out.below (by repeat' (first | with_reducible assumption | with_reducible exact Below.refl _ _ | refine Below.alloc ?_ ?_ _ | refine Below.setCell ?_ ?_ _ | refine Below.drew ?_ | refine below_drewN ?_ _ | (simp; done) | (simp; omega) | omega)) (by first | (simp; done) | (simp; omega) | omega)) (by omega) (by omega) (by omega)).mono ?_
  rw [kD.2.2.2.2.1, kD.2.2.2.2.2.1]
  rintro e W1 ⟨rfl, hb⟩
  have hst : Below W0.heap.size W0 W1 := Below.trans (by repeat' (first | with_reducible assumption | with_reducible exact Below.refl _ _ | refine Below.alloc ?_ ?_ _ | refine Below.setCell ?_ ?_ _ | refine Below.drew ?_ | refine below_drewN ?_ _ | (simp; done) | (simp; omega) | omega)) (hb.mono (by first | (simp; done) | (simp; omega) | omega))
  replace hbel := hbel.trans (hst.mono hsz)
  replace hsz := hbel.size
  replace HT := hid (HT.out.below hst hst.size)
  replace HL := hid (HL.out.below hst hst.size)
  replace HW := hid (HW.out.below hst hst.size)
  replace HA := hid (HA.out.below hst hst.size)
  replace HO := hid (HO.out.below hst hst.size)
  replace H18 := hid (H18.out.below hst hst.size)
  replace H19 := hid (H19.out.below hst hst.size)
  clear hb hst
  obtain ⟨W0, rfl⟩ : ∃ W0 : World, W0 = W1 := ⟨_, rfl⟩
  clear H18 H19
  go_wp2_with (fail)
  refine (r_any _).mono ?_
  rintro e W1 ⟨A20, rfl, hk, hb⟩
  have hst : Below W0.heap.size W0 W1 := Below.trans (by repeat' (first | with_reducible assumption | with_reducible exact Below.refl _ _ | refine Below.alloc ?_ ?_ _ | refine Below.setCell ?_ ?_ _ | refine Below.drew ?_ | refine below_drewN ?_ _ | (simp; done) | (simp; omega) | omega)) (hb.mono (by first | (simp; done) | (simp; omega) | omega))
  replace hbel := hbel.trans (hst.mono hsz)
  replace hsz := hbel.size
  replace HT := hid (HT.out.below hst hst.size)
  replace HL := hid (HL.out.below hst hst.size)
  replace HW := hid (HW.out.below hst hst.size)
  replace HA := hid (HA.out.below hst hst.size)
  replace HO := hid (HO.out.below hst hst.size)
  have H20 := hid hk
  clear hk
  clear hb hst
  obtain ⟨W0, rfl⟩ : ∃ W0 : World, W0 = W1 := ⟨_, rfl⟩
  go_wp2_with (fail)
  obtain ⟨W1, hW1⟩ : ∃ W1, W0.alloc (.cells #[.int .i64 1, .int .i64 1] 3) = W1 := ⟨_, rfl⟩
  have hb : Below W0.heap.size W0 W1 := by rw [← hW1]; exact (by repeat' (first | with_reducible assumption | with_reducible exact Below.refl _ _ | refine Below.alloc ?_ ?_ _ | refine Below.setCell ?_ ?_ _ | refine Below.drew ?_ | refine below_drewN ?_ _ | (simp; done) | (simp; omega) | omega))
  have hk : InS W1 W1.heap.size (some ⟨W0.heap.size, 0, none⟩) 2 [1, 1] := by rw [← hW1]; exact ins_blk (l := [1, 1]) (Blk.new _ _ _) (by simp)
  obtain ⟨g21, hg⟩ : ∃ g, W0.heap.size = g := ⟨_, rfl⟩
  rw [hW1]; rw [hg]; rw [hg] at hk
  have H21 := hid hk
  clear hk hg hW1
  refine (of_any _ _ _ _).mono ?_
  rintro e W1 ⟨rfl, rfl⟩
  have hst : Below W0.heap.size W0 W1 := Below.trans (by repeat' (first | with_reducible assumption | with_reducible exact Below.refl _ _ | refine Below.alloc ?_ ?_ _ | refine Below.setCell ?_ ?_ _ | refine Below.drew ?_ | refine below_drewN ?_ _ | (simp; done) | (simp; omega) | omega)) (hb.mono (by first | (simp; done) | (simp; omega) | omega))
  replace hbel := hbel.trans (hst.mono hsz)
  replace hsz := hbel.size
  replace HT := hid (HT.out.below hst hst.size)
  replace HL := hid (HL.out.below hst hst.size)
  replace HW := hid (HW.out.below hst hst.size)
  replace HA := hid (HA.out.below hst hst.size)
  replace HO := hid (HO.out.below hst hst.size)
  replace H20 := hid (H20.out.below hst hst.size)
  clear hb hst
  obtain ⟨W0, rfl⟩ : ∃ W0 : World, W0 = W1 := ⟨_, rfl⟩
  go_wp2_with (fail)
  refine (find_any 2 A20 (some ⟨g21, 0, none⟩) 5 5 2 2 [1, 0, 1, 0, 0] [1, 1] _ (H20.out.below (by repeat' (first | with_reducible assumption | with_reducible exact Below.refl _ _ | refine Below.alloc ?_ ?_ _ | refine Below.setCell ?_ ?_ _ | refine Below.drew ?_ | refine below_drewN ?_ _ | (simp; done) | (simp; omega) | omega)) (by first | (simp; done) | (simp; omega) | omega)) (H21.out.below (by repeat' (first | with_reducible assumption | with_reducible exact Below.refl _ _ | refine Below.alloc ?_ ?_ _ | refine Below.setCell ?_ ?_ _ | refine Below.drew ?_ | refine below_drewN ?_ _ | (simp; done) | (simp; omega) | omega)) (by first | (simp; done) | (simp; omega) | omega)) (by omega) (by omega) (by omega)).mono ?_
  rw [kD.2.2.2.2.2.2.2, kD.2.2.2.2.2.2.1]
  rintro e W1 ⟨rfl, hb⟩
  have hst : Below W0.heap.size W0 W1 := Below.trans (by repeat' (first | with_reducible assumption | with_reducible exact Below.refl _ _ | refine Below.alloc ?_ ?_ _ | refine Below.setCell ?_ ?_ _ | refine Below.drew ?_ | refine below_drewN ?_ _ | (simp; done) | (simp; omega) | omega)) (hb.mono (by first | (simp; done) | (simp; omega) | omega))
  replace hbel := hbel.trans (hst.mono hsz)
  replace hsz := hbel.size
  replace HT := hid (HT.out.below hst hst.size)
  replace HL := hid (HL.out.below hst hst.size)
  replace HW := hid (HW.out.below hst hst.size)
  replace HA := hid (HA.out.below hst hst.size)
  replace HO := hid (HO.out.below hst hst.size)
  replace H20 := hid (H20.out.below hst hst.size)
  replace H21 := hid (H21.out.below hst hst.size)
  clear hb hst
  obtain ⟨W0, rfl⟩ : ∃ W0 : World, W0 = W1 := ⟨_, rfl⟩
  clear H20 H21
  go_wp2_with (fail)
  obtain ⟨W1, hW1⟩ : ∃ W1, W0.alloc (.cells #[.int .i64 0, .int .i64 0, .int .i64 1, .int .i64 0, .int .i64 1] 3) = W1 := ⟨_, rfl⟩
  have hb : Below W0.heap.size W0 W1 := by rw [← hW1]; exact (by repeat' (first | with_reducible assumption | with_reducible exact Below.refl _ _ | refine Below.alloc ?_ ?_ _ | refine Below.setCell ?_ ?_ _ | refine Below.drew ?_ | refine below_drewN ?_ _ | (simp; done) | (simp; omega) | omega))
  have hk : InS W1 W1.heap.size (some ⟨W0.heap.size, 0, none⟩) 5 [0, 0, 1, 0, 1] := by rw [← hW1]; exact ins_blk (l := [0, 0, 1, 0, 1]) (Blk.new _ _ _) (by simp)
  obtain ⟨g22, hg⟩ : ∃ g, W0.heap.size = g := ⟨_, rfl⟩
  rw [hW1]; rw [hg]; rw [hg] at hk
  have H22 := hid hk
  clear hk hg hW1
  refine (of_any _ _ _ _).mono ?_
  rintro e W1 ⟨rfl, rfl⟩
  have hst : Below W0.heap.size W0 W1 := Below.trans (by repeat' (first | with_reducible assumption | with_reducible exact Below.refl _ _ | refine Below.alloc ?_ ?_ _ | refine Below.setCell ?_ ?_ _ | refine Below.drew ?_ | refine below_drewN ?_ _ | (simp; done) | (simp; omega) | omega)) (hb.mono (by first | (simp; done) | (simp; omega) | omega))
  replace hbel := hbel.trans (hst.mono hsz)
  replace hsz := hbel.size
  replace HT := hid (HT.out.below hst hst.size)
  replace HL := hid (HL.out.below hst hst.size)
  replace HW := hid (HW.out.below hst hst.size)
  replace HA := hid (HA.out.below hst hst.size)
  replace HO := hid (HO.out.below hst hst.size)
  clear hb hst
  obtain ⟨W0, rfl⟩ : ∃ W0 : World, W0 = W1 := ⟨_, rfl⟩
  go_wp2_with (fail)
  refine (ints_any _ At (some ⟨g22, 0, none⟩) 5 ct 5 5 [0, 0, 1, 0, 1] [0, 0, 1, 0, 1] (HT.out.below (by repeat' (first | with_reducible assumption | with_reducible exact Below.refl _ _ | refine Below.alloc ?_ ?_ _ | refine Below.setCell ?_ ?_ _ | refine Below.drew ?_ | refine below_drewN ?_ _ | (simp; done) | (simp; omega) | omega)) (by first | (simp; done) | (simp; omega) | omega)) (H22.out.below (by repeat' (first | with_reducible assumption | with_reducible exact Below.refl _ _ | refine Below.alloc ?_ ?_ _ | refine Below.setCell ?_ ?_ _ | refine Below.drew ?_ | refine below_drewN ?_ _ | (simp; done) | (simp; omega) | omega)) (by first | (simp; done) | (simp; omega) | omega)) (by omega)).mono ?_
  rw [kE.1]
  rintro e W1 ⟨rfl, hb⟩
  have hst : Below W0.heap.size W0 W1 := Below.trans (by repeat' (first | with_reducible assumption | with_reducible exact Below.refl _ _ | refine Below.alloc ?_ ?_ _ | refine Below.setCell ?_ ?_ _ | refine Below.drew ?_ | refine below_drewN ?_ _ | (simp; done) | (simp; omega) | omega)) (hb.mono (by first | (simp; done) | (simp; omega) | omega))
  replace hbel := hbel.trans (hst.mono hsz)
  replace hsz := hbel.size
  replace HT := hid (HT.out.below hst hst.size)
  replace HL := hid (HL.out.below hst hst.size)
  replace HW := hid (HW.out.below hst hst.size)
  replace HA := hid (HA.out.below hst hst.size)
  replace HO := hid (HO.out.below hst hst.size)
  replace H22 := hid (H22.out.below hst hst.size)
  clear hb hst
  obtain ⟨W0, rfl⟩ : ∃ W0 : World, W0 = W1 := ⟨_, rfl⟩
  clear H22
  go_wp2_with (fail)
  refine (ints_any _ Al At 5 cl 5 ct [0, 0, 1, 0, 1] [0, 0, 1, 0, 1] (HL.out.below (by repeat' (first | with_reducible assumption | with_reducible exact Below.refl _ _ | refine Below.alloc ?_ ?_ _ | refine Below.setCell ?_ ?_ _ | refine Below.drew ?_ | refine below_drewN ?_ _ | (simp; done) | (simp; omega) | omega)) (by first | (simp; done) | (simp; omega) | omega)) (HT.out.below (by repeat' (first | with_reducible assumption | with_reducible exact Below.refl _ _ | refine Below.alloc ?_ ?_ _ | refine Below.setCell ?_ ?_ _ | refine Below.drew ?_ | refine below_drewN ?_ _ | (simp; done) | (simp; omega) | omega)) (by first | (simp; done) | (simp; omega) | omega)) (by omega)).mono ?_
  rw [kE.1]
  rintro e W1 ⟨rfl, hb⟩
  have hst : Below W0.heap.size W0 W1 := Below.trans (by repeat' (first | with_reducible assumption | with_reducible exact Below.refl _ _ | refine Below.alloc ?_ ?_ _ | refine Below.setCell ?_ ?_ _ | refine Below.drew ?_ | refine below_drewN ?_ _ | (simp; done) | (simp; omega) | omega)) (hb.mono (by first | (simp; done) | (simp; omega) | omega))
  replace hbel := hbel.trans (hst.mono hsz)
  replace hsz := hbel.size
  replace HT := hid (HT.out.below hst hst.size)
  replace HL := hid (HL.out.below hst hst.size)
  replace HW := hid (HW.out.below hst hst.size)
  replace HA := hid (HA.out.below hst hst.size)
  replace HO := hid (HO.out.below hst hst.size)
  clear hb hst
  obtain ⟨W0, rfl⟩ : ∃ W0 : World, W0 = W1 := ⟨_, rfl⟩
  clear HL HT
  go_wp2_with (fail)
  obtain ⟨W1, hW1⟩ : ∃ W1, W0.alloc (.cells #[.int .i64 0, .int .i64 1, .int .i64 3, .int .i64 4] 3) = W1 := ⟨_, rfl⟩
  have hb : Below W0.heap.size W0 W1 := by rw [← hW1]; exact (by repeat' (first | with_reducible assumption | with_reducible exact Below.refl _ _ | refine Below.alloc ?_ ?_ _ | refine Below.setCell ?_ ?_ _ | refine Below.drew ?_ | refine below_drewN ?_ _ | (simp; done) | (simp; omega) | omega))
  have hk : InS W1 W1.heap.size (some ⟨W0.heap.size, 0, none⟩) 4 [0, 1, 3, 4] := by rw [← hW1]; exact ins_blk (l := [0, 1, 3, 4]) (Blk.new _ _ _) (by simp)
  obtain ⟨g23, hg⟩ : ∃ g, W0.heap.size = g := ⟨_, rfl⟩
  rw [hW1]; rw [hg]; rw [hg] at hk
  have H23 := hid hk
  clear hk hg hW1
  refine (of_any _ _ _ _).mono ?_
  rintro e W1 ⟨rfl, rfl⟩
  have hst : Below W0.heap.size W0 W1 := Below.trans (by repeat' (first | with_reducible assumption | with_reducible exact Below.refl _ _ | refine Below.alloc ?_ ?_ _ | refine Below.setCell ?_ ?_ _ | refine Below.drew ?_ | refine below_drewN ?_ _ | (simp; done) | (simp; omega) | omega)) (hb.mono (by first | (simp; done) | (simp; omega) | omega))
  replace hbel := hbel.trans (hst.mono hsz)
  replace hsz := hbel.size
  replace HW := hid (HW.out.below hst hst.size)
  replace HA := hid (HA.out.below hst hst.size)
  replace HO := hid (HO.out.below hst hst.size)
  clear hb hst
  obtain ⟨W0, rfl⟩ : ∃ W0 : World, W0 = W1 := ⟨_, rfl⟩
  go_wp2_with (fail)
  refine (ints_any _ Aw (some ⟨g23, 0, none⟩) 4 cw 4 4 [0, 1, 3, 4] [0, 1, 3, 4] (HW.out.below (by repeat' (first | with_reducible assumption | with_reducible exact Below.refl _ _ | refine Below.alloc ?_ ?_ _ | refine Below.setCell ?_ ?_ _ | refine Below.drew ?_ | refine below_drewN ?_ _ | (simp; done) | (simp; omega) | omega)) (by first | (simp; done) | (simp; omega) | omega)) (H23.out.below (by repeat' (first | with_reducible assumption | with_reducible exact Below.refl _ _ | refine Below.alloc ?_ ?_ _ | refine Below.setCell ?_ ?_ _ | refine Below.drew ?_ | refine below_drewN ?_ _ | (simp; done) | (simp; omega) | omega)) (by first | (simp; done) | (simp; omega) | omega)) (by omega)).mono ?_
  rw [kE.2.1]
  rintro e W1 ⟨rfl, hb⟩
  have hst : Below W0.heap.size W0 W1 := Below.trans (by repeat' (first | with_reducible assumption | with_reducible exact Below.refl _ _ | refine Below.alloc ?_ ?_ _ | refine Below.setCell ?_ ?_ _ | refine Below.drew ?_ | refine below_drewN ?_ _ | (simp; done) | (simp; omega) | omega)) (hb.mono (by first | (simp; done) | (simp; omega) | omega))
  replace hbel := hbel.trans (hst.mono hsz)
  replace hsz := hbel.size
  replace HW := hid (HW.out.below hst hst.size)
  replace HA := hid (HA.out.below hst hst.size)
  replace HO := hid (HO.out.below hst hst.size)
  replace H23 := hid (H23.out.below hst hst.size)
  clear hb hst
  obtain ⟨W0, rfl⟩ : ∃ W0 : World, W0 = W1 := ⟨_, rfl⟩
  clear H23 HW
  go_wp2_with (fail)
  obtain ⟨W1, hW1⟩ : ∃ W1, W0.alloc (.cells #[.int .i64 0, .int .i64 0, .int .i64 0] 3) = W1 := ⟨_, rfl⟩
  have hb : Below W0.heap.size W0 W1 := by rw [← hW1]; exact (by repeat' (first | with_reducible assumption | with_reducible exact Below.refl _ _ | refine Below.alloc ?_ ?_ _ | refine Below.setCell ?_ ?_ _ | refine Below.drew ?_ | refine below_drewN ?_ _ | (simp; done) | (simp; omega) | omega))
  have hk : InS W1 W1.heap.size (some ⟨W0.heap.size, 0, none⟩) 3 [0, 0, 0] := by rw [← hW1]; exact ins_blk (l := [0, 0, 0]) (Blk.new _ _ _) (by simp)
  obtain ⟨g24, hg⟩ : ∃ g, W0.heap.size = g := ⟨_, rfl⟩
  rw [hW1]; rw [hg]; rw [hg] at hk
  have H24 := hid hk
  clear hk hg hW1
  refine (of_any _ _ _ _).mono ?_
  rintro e W1 ⟨rfl, rfl⟩
  have hst : Below W0.heap.size W0 W1 := Below.trans (by repeat' (first | with_reducible assumption | with_reducible exact Below.refl _ _ | refine Below.alloc ?_ ?_ _ | refine Below.setCell ?_ ?_ _ | refine Below.drew ?_ | refine below_drewN ?_ _ | (simp; done) | (simp; omega) | omega)) (hb.mono (by first | (simp; done) | (simp; omega) | omega))
  replace hbel := hbel.trans (hst.mono hsz)
  replace hsz := hbel.size
  replace HA := hid (HA.out.below hst hst.size)
  replace HO := hid (HO.out.below hst hst.size)
  clear hb hst
  obtain ⟨W0, rfl⟩ : ∃ W0 : World, W0 = W1 := ⟨_, rfl⟩
  go_wp2_with (fail)
  obtain ⟨W1, hW1⟩ : ∃ W1, W0.alloc (.cells #[.int .i64 0, .int .i64 0, .int .i64 1] 3) = W1 := ⟨_, rfl⟩
  have hb : Below W0.heap.size W0 W1 := by rw [← hW1]; exact (by repeat' (first | with_reducible assumption | with_reducible exact Below.refl _ _ | refine Below.alloc ?_ ?_ _ | refine Below.setCell ?_ ?_ _ | refine Below.drew ?_ | refine below_drewN ?_ _ | (simp; done) | (simp; omega) | omega))
  have hk : InS W1 W1.heap.size (some ⟨W0.heap.size, 0, none⟩) 3 [0, 0, 1] := by rw [← hW1]; exact ins_blk (l := [0, 0, 1]) (Blk.new _ _ _) (by simp)
  obtain ⟨g25, hg⟩ : ∃ g, W0.heap.size = g := ⟨_, rfl⟩
  rw [hW1]; rw [hg]; rw [hg] at hk
  have H25 := hid hk
  clear hk hg hW1
  refine (of_any _ _ _ _).mono ?_
  rintro e W1 ⟨rfl, rfl⟩
  have hst : Below W0.heap.size W0 W1 := Below.trans (by repeat' (first | with_reducible assumption | with_reducible exact Below.refl _ _ | refine Below.alloc ?_ ?_ _ | refine Below.setCell ?_ ?_ _ | refine Below.drew ?_ | refine below_drewN ?_ _ | (simp; done) | (simp; omega) | omega)) (hb.mono (by first | (simp; done) | (simp; omega) | omega))
  replace hbel := hbel.trans (hst.mono hsz)
  replace hsz := hbel.size
  replace HA := hid (HA.out.below hst hst.size)
  replace HO := hid (HO.out.below hst hst.size)
  replace H24 := hid (H24.out.below hst hst.size)
  clear hb hst
  obtain ⟨W0, rfl⟩ : ∃ W0 : World, W0 = W1 := ⟨_, rfl⟩
  go_wp2_with (fail)
  obtain ⟨W1, hW1⟩ : ∃ W1, W0.alloc (.cells #[.int .i64 0, .int .i64 1, .int .i64 1] 3) = W1 := ⟨_, rfl⟩
  have hb : Below W0.heap.size W0 W1 := by rw [← hW1]; exact (by repeat' (first | with_reducible assumption | with_reducible exact Below.refl _ _ | refine Below.alloc ?_ ?_ _ | refine Below.setCell ?_ ?_ _ | refine Below.drew ?_ | refine below_drewN ?_ _ | (simp; done) | (simp; omega) | omega))
  have hk : InS W1 W1.heap.size (some ⟨W0.heap.size, 0, none⟩) 3 [0, 1, 1] := by rw [← hW1]; exact ins_blk (l := [0, 1, 1]) (Blk.new _ _ _) (by simp)
  obtain ⟨g26, hg⟩ : ∃ g, W0.heap.size = g := ⟨_, rfl⟩
  rw [hW1]; rw [hg]; rw [hg] at hk
  have H26 := hid hk
  clear hk hg hW1
  refine (of_any _ _ _ _).mono ?_
  rintro e W1 ⟨rfl, rfl⟩
  have hst : Below W0.heap.size W0 W1 := Below.trans (by repeat' (first | with_reducible assumption | with_reducible exact Below.refl _ _ | refine Below.alloc ?_ ?_ _ | refine Below.setCell ?_ ?_ _ | refine Below.drew ?_ | refine below_drewN ?_ _ | (simp; done) | (simp; omega) | omega)) (hb.mono (by first | (simp; done) | (simp; omega) | omega))
  replace hbel := hbel.trans (hst.mono hsz)
  replace hsz := hbel.size
  replace HA := hid (HA.out.below hst hst.size)
  replace HO := hid (HO.out.below hst hst.size)
  replace H24 := hid (H24.out.below hst hst.size)
  replace H25 := hid (H25.out.below hst hst.size)
  clear hb hst
  obtain ⟨W0, rfl⟩ : ∃ W0 : World, W0 = W1 := ⟨_, rfl⟩
  go_wp2_with (fail)
  obtain ⟨W1, hW1⟩ : ∃ W1, W0.alloc (.cells #[.int .i64 1, .int .i64 1, .int .i64 1] 3) = W1 := ⟨_, rfl⟩
  have hb : Below W0.heap.size W0 W1 := by rw [← hW1]; exact (by repeat' (first | with_reducible assumption | with_reducible exact Below.refl _ _ | refine Below.alloc ?_ ?_ _ | refine Below.setCell ?_ ?_ _ | refine Below.drew ?_ | refine below_drewN ?_ _ | (simp; done) | (simp; omega) | omega))
  have hk : InS W1 W1.heap.size (some ⟨W0.heap.size, 0, none⟩) 3 [1, 1, 1] := by rw [← hW1]; exact ins_blk (l := [1, 1, 1]) (Blk.new _ _ _) (by simp)
  obtain ⟨g27, hg⟩ : ∃ g, W0.heap.size = g := ⟨_, rfl⟩
  rw [hW1]; rw [hg]; rw [hg] at hk
  have H27 := hid hk
  clear hk hg hW1
  refine (of_any _ _ _ _).mono ?_
  rintro e W1 ⟨rfl, rfl⟩
  have hst : Below W0.heap.size W0 W1 := Below.trans (by repeat' (first | with_reducible assumption | with_reducible exact Below.refl _ _ | refine Below.alloc ?_ ?_ _ | refine Below.setCell ?_ ?_ _ | refine Below.drew ?_ | refine below_drewN ?_ _ | (simp; done) | (simp; omega) | omega)) (hb.mono (by first | (simp; done) | (simp; omega) | omega))
  replace hbel := hbel.trans (hst.mono hsz)
  replace hsz := hbel.size
  replace HA := hid (HA.out.below hst hst.size)
  replace HO := hid (HO.out.below hst hst.size)
  replace H24 := hid (H24.out.below hst hst.size)
  replace H25 := hid (H25.out.below hst hst.size)
  replace H26 := hid (H26.out.below hst hst.size)
  clear hb hst
  obtain ⟨W0, rfl⟩ : ∃ W0 : World, W0 = W1 := ⟨_, rfl⟩
  go_wp2_with (fail)
  refine (lists_any Aa _ 4 ca 4 4 [[0, 0, 0], [0, 0, 1], [0, 1, 1], [1, 1, 1]] [[0, 0, 0], [0, 0, 1], [0, 1, 1], [1, 1, 1]] _ (HA.out.below (by repeat' (first | with_reducible assumption | with_reducible exact Below.refl _ _ | refine Below.alloc ?_ ?_ _ | refine Below.setCell ?_ ?_ _ | refine Below.drew ?_ | refine below_drewN ?_ _ | (simp; done) | (simp; omega) | omega)) (by first | (simp; done) | (simp; omega) | omega)) (lis_four (Blk.new _ _ _) (by simp) (H24.out.below (by repeat' (first | with_reducible assumption | with_reducible exact Below.refl _ _ | refine Below.alloc ?_ ?_ _ | refine Below.setCell ?_ ?_ _ | refine Below.drew ?_ | refine below_drewN ?_ _ | (simp; done) | (simp; omega) | omega)) (by first | (simp; done) | (simp; omega) | omega)) (H25.out.below (by repeat' (first | with_reducible assumption | with_reducible exact Below.refl _ _ | refine Below.alloc ?_ ?_ _ | refine Below.setCell ?_ ?_ _ | refine Below.drew ?_ | refine below_drewN ?_ _ | (simp; done) | (simp; omega) | omega)) (by first | (simp; done) | (simp; omega) | omega)) (H26.out.below (by repeat' (first | with_reducible assumption | with_reducible exact Below.refl _ _ | refine Below.alloc ?_ ?_ _ | refine Below.setCell ?_ ?_ _ | refine Below.drew ?_ | refine below_drewN ?_ _ | (simp; done) | (simp; omega) | omega)) (by first | (simp; done) | (simp; omega) | omega)) (H27.out.below (by repeat' (first | with_reducible assumption | with_reducible exact Below.refl _ _ | refine Below.alloc ?_ ?_ _ | refine Below.setCell ?_ ?_ _ | refine Below.drew ?_ | refine below_drewN ?_ _ | (simp; done) | (simp; omega) | omega)) (by first | (simp; done) | (simp; omega) | omega))) (by omega) (by decide)).mono ?_
  rw [kE.2.2.2]
  rintro e W1 ⟨rfl, hb⟩
  have hst : Below W0.heap.size W0 W1 := Below.trans (by repeat' (first | with_reducible assumption | with_reducible exact Below.refl _ _ | refine Below.alloc ?_ ?_ _ | refine Below.setCell ?_ ?_ _ | refine Below.drew ?_ | refine below_drewN ?_ _ | (simp; done) | (simp; omega) | omega)) (hb.mono (by first | (simp; done) | (simp; omega) | omega))
  replace hbel := hbel.trans (hst.mono hsz)
  replace hsz := hbel.size
  replace HA := hid (HA.out.below hst hst.size)
  replace HO := hid (HO.out.below hst hst.size)
  replace H24 := hid (H24.out.below hst hst.size)
  replace H25 := hid (H25.out.below hst hst.size)
  replace H26 := hid (H26.out.below hst hst.size)
  replace H27 := hid (H27.out.below hst hst.size)
  clear hb hst
  obtain ⟨W0, rfl⟩ : ∃ W0 : World, W0 = W1 := ⟨_, rfl⟩
  clear HA H24 H25 H26 H27
  go_wp2_with (fail)
  obtain ⟨W1, hW1⟩ : ∃ W1, W0.alloc (.cells #[.int .i64 0, .int .i64 0, .int .i64 0, .int .i64 1, .int .i64 0, .int .i64 1, .int .i64 1, .int .i64 1] 3) = W1 := ⟨_, rfl⟩
  have hb : Below W0.heap.size W0 W1 := by rw [← hW1]; exact (by repeat' (first | with_reducible assumption | with_reducible exact Below.refl _ _ | refine Below.alloc ?_ ?_ _ | refine Below.setCell ?_ ?_ _ | refine Below.drew ?_ | refine below_drewN ?_ _ | (simp; done) | (simp; omega) | omega))
  have hk : InS W1 W1.heap.size (some ⟨W0.heap.size, 0, none⟩) 8 [0, 0, 0, 1, 0, 1, 1, 1] := by rw [← hW1]; exact ins_blk (l := [0, 0, 0, 1, 0, 1, 1, 1]) (Blk.new _ _ _) (by simp)
  obtain ⟨g28, hg⟩ : ∃ g, W0.heap.size = g := ⟨_, rfl⟩
  rw [hW1]; rw [hg]; rw [hg] at hk
  have H28 := hid hk
  clear hk hg hW1
  refine (of_any _ _ _ _).mono ?_
  rintro e W1 ⟨rfl, rfl⟩
  have hst : Below W0.heap.size W0 W1 := Below.trans (by repeat' (first | with_reducible assumption | with_reducible exact Below.refl _ _ | refine Below.alloc ?_ ?_ _ | refine Below.setCell ?_ ?_ _ | refine Below.drew ?_ | refine below_drewN ?_ _ | (simp; done) | (simp; omega) | omega)) (hb.mono (by first | (simp; done) | (simp; omega) | omega))
  replace hbel := hbel.trans (hst.mono hsz)
  replace hsz := hbel.size
  replace HO := hid (HO.out.below hst hst.size)
  clear hb hst
  obtain ⟨W0, rfl⟩ : ∃ W0 : World, W0 = W1 := ⟨_, rfl⟩
  go_wp2_with (fail)
  refine (ints_any _ Ao (some ⟨g28, 0, none⟩) 8 co 8 8 [0, 0, 0, 1, 0, 1, 1, 1] [0, 0, 0, 1, 0, 1, 1, 1] (HO.out.below (by repeat' (first | with_reducible assumption | with_reducible exact Below.refl _ _ | refine Below.alloc ?_ ?_ _ | refine Below.setCell ?_ ?_ _ | refine Below.drew ?_ | refine below_drewN ?_ _ | (simp; done) | (simp; omega) | omega)) (by first | (simp; done) | (simp; omega) | omega)) (H28.out.below (by repeat' (first | with_reducible assumption | with_reducible exact Below.refl _ _ | refine Below.alloc ?_ ?_ _ | refine Below.setCell ?_ ?_ _ | refine Below.drew ?_ | refine below_drewN ?_ _ | (simp; done) | (simp; omega) | omega)) (by first | (simp; done) | (simp; omega) | omega)) (by omega)).mono ?_
  rw [kE.2.2.1]
  rintro e W1 ⟨rfl, hb⟩
  have hst : Below W0.heap.size W0 W1 := Below.trans (by repeat' (first | with_reducible assumption | with_reducible exact Below.refl _ _ | refine Below.alloc ?_ ?_ _ | refine Below.setCell ?_ ?_ _ | refine Below.drew ?_ | refine below_drewN ?_ _ | (simp; done) | (simp; omega) | omega)) (hb.mono (by first | (simp; done) | (simp; omega) | omega))
  replace hbel := hbel.trans (hst.mono hsz)
  replace hsz := hbel.size
  replace HO := hid (HO.out.below hst hst.size)
  replace H28 := hid (H28.out.below hst hst.size)
  clear hb hst
  obtain ⟨W0, rfl⟩ : ∃ W0 : World, W0 = W1 := ⟨_, rfl⟩
  clear H28 HO
  go_wp2_with (fail)
  go_ret
  exact ⟨rfl, hbel⟩
end Go.Proofs.Ytiobmfggnacplaa
