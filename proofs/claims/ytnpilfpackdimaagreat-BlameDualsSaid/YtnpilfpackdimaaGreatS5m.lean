/- The statement BlameDuals holds: whatever the arguments, the law returns true and leaves its arguments as they were. -/
import Derived.Test.YtnpilfpackdimaaGreatMl
set_option linter.unusedSimpArgs false
set_option linter.unusedVariables false
namespace Go.Proofs.YtnpilfpackdimaaGreat
open Go.RowKit Go.Shelf
attribute [local go_sem] Oper.semAt_some
set_option maxRecDepth 100000 in
set_option maxHeartbeats 40000000 in
theorem blameDuals_walk (w : World) (I : Int) (A : Option Addr) (n c : Nat) (ls : List (List Int)) (hl : LiS w w.heap.size A n ls) :
    Calls Tryz.prog 5 #[.agg #[.int .i64 I, .slice A n c]] w fun e w' => e = .returned (.bool true) ∧ Below w.heap.size w w' := by
  have la := hid hl.1
  obtain ⟨W0, hWb⟩ : ∃ W0, (w).alloc (.cells #[.int .i64 I, .slice A n c] 24) = W0 := ⟨_, rfl⟩
  have hbel : Below w.heap.size w W0 := by rw [← hWb]; exact (by repeat' (first | with_reducible assumption | with_reducible exact Below.refl _ _ | refine Below.alloc ?_ ?_ _ | refine Below.setCell ?_ ?_ _ | refine Below.drew ?_ | refine below_drewN ?_ _ | (simp; done) | (simp; omega) | omega))
  have hsz := hbel.size
  have bB : Blk W0 (w.heap.size) 24 #[.int .i64 I, .slice A n c] := by rw [← hWb]; exact Blk.new' rfl
  have pB0 := bB.cell 0
  have pB1 := bB.cell 1
  have lB := bB.lt
  have HL := hid (hl.below hbel hsz)
  clear hl
  cases hg : greatL ls
  · obtain ⟨k1, k2⟩ := great_off hg
    have hn : n ≤ 14 := by rw [← la.out]; exact k1
    have Hg := hid hg
    have K2 : Hid (∀ l ∈ ls, l.length ≤ 1000000) := hid (fun l h => Nat.le_trans (k2 l h) (by omega))
    clear hg k1 k2
    obtain ⟨aV, haV⟩ : ∃ v, ralV I ls = v := ⟨_, rfl⟩
    have HaV := hid haV
    obtain ⟨cV, hcV⟩ : ∃ v, rcrV I ls = v := ⟨_, rfl⟩
    have HcV := hid hcV
    obtain ⟨cB, hcB⟩ : ∃ v, chkBook I ls = v := ⟨_, rfl⟩
    have HcB := hid hcB
    obtain ⟨J, hJ⟩ : ∃ v, coreI I ls = v := ⟨_, rfl⟩
    have HJ := hid hJ
    clear haV hcV hcB hJ
    have hza : Hid (aV.length ≤ 1000000 ∧ ∀ l ∈ aV, l.length ≤ 8) := hid (by rw [← HaV.out]; exact ralV_len I ls)
    have hzc : Hid (cV.length ≤ 1000000 ∧ ∀ l ∈ cV, l.length ≤ 8) := hid (by rw [← HcV.out]; exact rcrV_len I ls (by rw [la.out]; omega))
    skip
    go_enter Tryz.func5, Tryz.ntmps5
    go_wp2_with (fail)
    refine (great_any A n c ls I _ (HL.out.below (by repeat' (first | with_reducible assumption | with_reducible exact Below.refl _ _ | refine Below.alloc ?_ ?_ _ | refine Below.setCell ?_ ?_ _ | refine Below.drew ?_ | refine below_drewN ?_ _ | (simp; done) | (simp; omega) | omega)) (by first | (simp; done) | (simp; omega) | omega))).mono ?_
    rw [Hg.out]
    rintro e W1 ⟨rfl, hb⟩
    have hst : Below W0.heap.size W0 W1 := Below.trans (by repeat' (first | with_reducible assumption | with_reducible exact Below.refl _ _ | refine Below.alloc ?_ ?_ _ | refine Below.setCell ?_ ?_ _ | refine Below.drew ?_ | refine below_drewN ?_ _ | (simp; done) | (simp; omega) | omega)) (hb.mono (by first | (simp; done) | (simp; omega) | omega))
    replace hbel := hbel.trans (hst.mono hsz)
    replace hsz := hbel.size
    replace bB := bB.below hst bB.lt
    clear pB0 pB1 lB
    have pB0 := bB.cell 0
    have pB1 := bB.cell 1
    have lB := bB.lt
    replace HL := hid (HL.out.below hst hst.size)
    clear hb hst
    try clear hWb
    obtain ⟨W0, rfl⟩ : ∃ W0 : World, W0 = W1 := ⟨_, rfl⟩
    go_wp2_with (fail)
    refine (core_any A n c ls I _ (HL.out.below (by repeat' (first | with_reducible assumption | with_reducible exact Below.refl _ _ | refine Below.alloc ?_ ?_ _ | refine Below.setCell ?_ ?_ _ | refine Below.drew ?_ | refine below_drewN ?_ _ | (simp; done) | (simp; omega) | omega)) (by first | (simp; done) | (simp; omega) | omega)) (by omega) K2.out).mono ?_
    rw [coreV_eq, HcV.out, HJ.out, HcB.out]
    rintro e W1 ⟨A1, m1, c1, rfl, h, hb⟩
    have hst : Below W0.heap.size W0 W1 := Below.trans (by repeat' (first | with_reducible assumption | with_reducible exact Below.refl _ _ | refine Below.alloc ?_ ?_ _ | refine Below.setCell ?_ ?_ _ | refine Below.drew ?_ | refine below_drewN ?_ _ | (simp; done) | (simp; omega) | omega)) (hb.mono (by first | (simp; done) | (simp; omega) | omega))
    replace hbel := hbel.trans (hst.mono hsz)
    replace hsz := hbel.size
    replace bB := bB.below hst bB.lt
    clear pB0 pB1 lB
    have pB0 := bB.cell 0
    have pB1 := bB.cell 1
    have lB := bB.lt
    replace HL := hid (HL.out.below hst hst.size)
    have H1 := hid h.lis
    clear hb hst
    try clear hWb
    obtain ⟨W0, rfl⟩ : ∃ W0 : World, W0 = W1 := ⟨_, rfl⟩
    clear h
    obtain ⟨V, hV⟩ : ∃ V, W0.alloc (.cells #[.int .i64 J, .slice A1 m1 c1] 24) = V := ⟨_, rfl⟩
    have hst : Below W0.heap.size W0 V := by rw [← hV]; exact (by repeat' (first | with_reducible assumption | with_reducible exact Below.refl _ _ | refine Below.alloc ?_ ?_ _ | refine Below.setCell ?_ ?_ _ | refine Below.drew ?_ | refine below_drewN ?_ _ | (simp; done) | (simp; omega) | omega))
    obtain ⟨TP, hT⟩ : ∃ T, W0.heap.size = T := ⟨_, rfl⟩
    have bP : Blk V TP 24 #[.int .i64 J, .slice A1 m1 c1] := by rw [← hV, ← hT]; exact Blk.new' rfl
    replace bB := bB.below hst bB.lt
    clear pB0 pB1 lB
    have pB0 := bB.cell 0
    have pB1 := bB.cell 1
    have lB := bB.lt
    have pP0 := bP.cell 0
    have pP1 := bP.cell 1
    have lP := bP.lt
    go_wp2_with (fail)
    clear hV hT
    replace hbel := hbel.trans (hst.mono hsz)
    replace hsz := hbel.size
    replace HL := hid (HL.out.below hst hst.size)
    replace H1 := hid (H1.out.below hst hst.size)
    clear hst
    obtain ⟨W0, rfl⟩ : ∃ W0 : World, W0 = V := ⟨_, rfl⟩
    refine (rcore_any A n c ls I _ (HL.out.below (by repeat' (first | with_reducible assumption | with_reducible exact Below.refl _ _ | refine Below.alloc ?_ ?_ _ | refine Below.setCell ?_ ?_ _ | refine Below.drew ?_ | refine below_drewN ?_ _ | (simp; done) | (simp; omega) | omega)) (by first | (simp; done) | (simp; omega) | omega)) (by omega) K2.out).mono ?_
    rw [HcV.out, HJ.out, HcB.out]
    rintro e W1 ⟨v2, rfl, h, hb⟩
    obtain ⟨A2, c2, rfl, h2⟩ := lis_of_lw h
    have H2 := hid h2
    clear h2 h
    have hst : Below W0.heap.size W0 W1 := Below.trans (by repeat' (first | with_reducible assumption | with_reducible exact Below.refl _ _ | refine Below.alloc ?_ ?_ _ | refine Below.setCell ?_ ?_ _ | refine Below.drew ?_ | refine below_drewN ?_ _ | (simp; done) | (simp; omega) | omega)) (hb.mono (by first | (simp; done) | (simp; omega) | omega))
    replace hbel := hbel.trans (hst.mono hsz)
    replace hsz := hbel.size
    replace bB := bB.below hst bB.lt
    clear pB0 pB1 lB
    have pB0 := bB.cell 0
    have pB1 := bB.cell 1
    have lB := bB.lt
    replace bP := bP.below hst bP.lt
    clear pP0 pP1 lP
    have pP0 := bP.cell 0
    have pP1 := bP.cell 1
    have lP := bP.lt
    replace HL := hid (HL.out.below hst hst.size)
    replace H1 := hid (H1.out.below hst hst.size)
    clear hb hst
    try clear hWb
    obtain ⟨W0, rfl⟩ : ∃ W0 : World, W0 = W1 := ⟨_, rfl⟩
    obtain ⟨V, hV⟩ : ∃ V, W0.alloc (.cells #[.int .i64 J, .slice A2 cV.length c2] 24) = V := ⟨_, rfl⟩
    have hst : Below W0.heap.size W0 V := by rw [← hV]; exact (by repeat' (first | with_reducible assumption | with_reducible exact Below.refl _ _ | refine Below.alloc ?_ ?_ _ | refine Below.setCell ?_ ?_ _ | refine Below.drew ?_ | refine below_drewN ?_ _ | (simp; done) | (simp; omega) | omega))
    obtain ⟨TQ, hT⟩ : ∃ T, W0.heap.size = T := ⟨_, rfl⟩
    have bQ : Blk V TQ 24 #[.int .i64 J, .slice A2 cV.length c2] := by rw [← hV, ← hT]; exact Blk.new' rfl
    replace bB := bB.below hst bB.lt
    clear pB0 pB1 lB
    have pB0 := bB.cell 0
    have pB1 := bB.cell 1
    have lB := bB.lt
    replace bP := bP.below hst bP.lt
    clear pP0 pP1 lP
    have pP0 := bP.cell 0
    have pP1 := bP.cell 1
    have lP := bP.lt
    have pQ0 := bQ.cell 0
    have pQ1 := bQ.cell 1
    have lQ := bQ.lt
    go_wp2_with (fail)
    clear hV hT
    replace hbel := hbel.trans (hst.mono hsz)
    replace hsz := hbel.size
    replace HL := hid (HL.out.below hst hst.size)
    replace H1 := hid (H1.out.below hst hst.size)
    replace H2 := hid (H2.out.below hst hst.size)
    clear hst
    obtain ⟨W0, rfl⟩ : ∃ W0 : World, W0 = V := ⟨_, rfl⟩
    refine (dual_any A n c ls I _ (HL.out.below (by repeat' (first | with_reducible assumption | with_reducible exact Below.refl _ _ | refine Below.alloc ?_ ?_ _ | refine Below.setCell ?_ ?_ _ | refine Below.drew ?_ | refine below_drewN ?_ _ | (simp; done) | (simp; omega) | omega)) (by first | (simp; done) | (simp; omega) | omega)) (by omega) K2.out).mono ?_
    rw [dualV_eq, HaV.out, HJ.out, HcB.out]
    rintro e W1 ⟨A3, m3, c3, rfl, h, hb⟩
    have hst : Below W0.heap.size W0 W1 := Below.trans (by repeat' (first | with_reducible assumption | with_reducible exact Below.refl _ _ | refine Below.alloc ?_ ?_ _ | refine Below.setCell ?_ ?_ _ | refine Below.drew ?_ | refine below_drewN ?_ _ | (simp; done) | (simp; omega) | omega)) (hb.mono (by first | (simp; done) | (simp; omega) | omega))
    replace hbel := hbel.trans (hst.mono hsz)
    replace hsz := hbel.size
    replace bB := bB.below hst bB.lt
    clear pB0 pB1 lB
    have pB0 := bB.cell 0
    have pB1 := bB.cell 1
    have lB := bB.lt
    replace bP := bP.below hst bP.lt
    clear pP0 pP1 lP
    have pP0 := bP.cell 0
    have pP1 := bP.cell 1
    have lP := bP.lt
    replace bQ := bQ.below hst bQ.lt
    clear pQ0 pQ1 lQ
    have pQ0 := bQ.cell 0
    have pQ1 := bQ.cell 1
    have lQ := bQ.lt
    replace HL := hid (HL.out.below hst hst.size)
    replace H1 := hid (H1.out.below hst hst.size)
    replace H2 := hid (H2.out.below hst hst.size)
    have H3 := hid h.lis
    clear hb hst
    try clear hWb
    obtain ⟨W0, rfl⟩ : ∃ W0 : World, W0 = W1 := ⟨_, rfl⟩
    clear h
    obtain ⟨V, hV⟩ : ∃ V, W0.alloc (.cells #[.int .i64 J, .slice A3 m3 c3] 24) = V := ⟨_, rfl⟩
    have hst : Below W0.heap.size W0 V := by rw [← hV]; exact (by repeat' (first | with_reducible assumption | with_reducible exact Below.refl _ _ | refine Below.alloc ?_ ?_ _ | refine Below.setCell ?_ ?_ _ | refine Below.drew ?_ | refine below_drewN ?_ _ | (simp; done) | (simp; omega) | omega))
    obtain ⟨TR, hT⟩ : ∃ T, W0.heap.size = T := ⟨_, rfl⟩
    have bR : Blk V TR 24 #[.int .i64 J, .slice A3 m3 c3] := by rw [← hV, ← hT]; exact Blk.new' rfl
    replace bB := bB.below hst bB.lt
    clear pB0 pB1 lB
    have pB0 := bB.cell 0
    have pB1 := bB.cell 1
    have lB := bB.lt
    replace bP := bP.below hst bP.lt
    clear pP0 pP1 lP
    have pP0 := bP.cell 0
    have pP1 := bP.cell 1
    have lP := bP.lt
    replace bQ := bQ.below hst bQ.lt
    clear pQ0 pQ1 lQ
    have pQ0 := bQ.cell 0
    have pQ1 := bQ.cell 1
    have lQ := bQ.lt
    have pR0 := bR.cell 0
    have pR1 := bR.cell 1
    have lR := bR.lt
    go_wp2_with (fail)
    clear hV hT
    replace hbel := hbel.trans (hst.mono hsz)
    replace hsz := hbel.size
    replace HL := hid (HL.out.below hst hst.size)
    replace H1 := hid (H1.out.below hst hst.size)
    replace H2 := hid (H2.out.below hst hst.size)
    replace H3 := hid (H3.out.below hst hst.size)
    clear hst
    obtain ⟨W0, rfl⟩ : ∃ W0 : World, W0 = V := ⟨_, rfl⟩
    refine (rdual_any A n c ls I _ (HL.out.below (by repeat' (first | with_reducible assumption | with_reducible exact Below.refl _ _ | refine Below.alloc ?_ ?_ _ | refine Below.setCell ?_ ?_ _ | refine Below.drew ?_ | refine below_drewN ?_ _ | (simp; done) | (simp; omega) | omega)) (by first | (simp; done) | (simp; omega) | omega)) (by omega) K2.out).mono ?_
    rw [HaV.out, HJ.out, HcB.out]
    rintro e W1 ⟨v4, rfl, h, hb⟩
    obtain ⟨A4, c4, rfl, h2⟩ := lis_of_lw h
    have H4 := hid h2
    clear h2 h
    have hst : Below W0.heap.size W0 W1 := Below.trans (by repeat' (first | with_reducible assumption | with_reducible exact Below.refl _ _ | refine Below.alloc ?_ ?_ _ | refine Below.setCell ?_ ?_ _ | refine Below.drew ?_ | refine below_drewN ?_ _ | (simp; done) | (simp; omega) | omega)) (hb.mono (by first | (simp; done) | (simp; omega) | omega))
    replace hbel := hbel.trans (hst.mono hsz)
    replace hsz := hbel.size
    replace bB := bB.below hst bB.lt
    clear pB0 pB1 lB
    have pB0 := bB.cell 0
    have pB1 := bB.cell 1
    have lB := bB.lt
    replace bP := bP.below hst bP.lt
    clear pP0 pP1 lP
    have pP0 := bP.cell 0
    have pP1 := bP.cell 1
    have lP := bP.lt
    replace bQ := bQ.below hst bQ.lt
    clear pQ0 pQ1 lQ
    have pQ0 := bQ.cell 0
    have pQ1 := bQ.cell 1
    have lQ := bQ.lt
    replace bR := bR.below hst bR.lt
    clear pR0 pR1 lR
    have pR0 := bR.cell 0
    have pR1 := bR.cell 1
    have lR := bR.lt
    replace HL := hid (HL.out.below hst hst.size)
    replace H1 := hid (H1.out.below hst hst.size)
    replace H2 := hid (H2.out.below hst hst.size)
    replace H3 := hid (H3.out.below hst hst.size)
    clear hb hst
    try clear hWb
    obtain ⟨W0, rfl⟩ : ∃ W0 : World, W0 = W1 := ⟨_, rfl⟩
    obtain ⟨V, hV⟩ : ∃ V, W0.alloc (.cells #[.int .i64 J, .slice A4 aV.length c4] 24) = V := ⟨_, rfl⟩
    have hst : Below W0.heap.size W0 V := by rw [← hV]; exact (by repeat' (first | with_reducible assumption | with_reducible exact Below.refl _ _ | refine Below.alloc ?_ ?_ _ | refine Below.setCell ?_ ?_ _ | refine Below.drew ?_ | refine below_drewN ?_ _ | (simp; done) | (simp; omega) | omega))
    obtain ⟨TS, hT⟩ : ∃ T, W0.heap.size = T := ⟨_, rfl⟩
    have bS : Blk V TS 24 #[.int .i64 J, .slice A4 aV.length c4] := by rw [← hV, ← hT]; exact Blk.new' rfl
    replace bB := bB.below hst bB.lt
    clear pB0 pB1 lB
    have pB0 := bB.cell 0
    have pB1 := bB.cell 1
    have lB := bB.lt
    replace bP := bP.below hst bP.lt
    clear pP0 pP1 lP
    have pP0 := bP.cell 0
    have pP1 := bP.cell 1
    have lP := bP.lt
    replace bQ := bQ.below hst bQ.lt
    clear pQ0 pQ1 lQ
    have pQ0 := bQ.cell 0
    have pQ1 := bQ.cell 1
    have lQ := bQ.lt
    replace bR := bR.below hst bR.lt
    clear pR0 pR1 lR
    have pR0 := bR.cell 0
    have pR1 := bR.cell 1
    have lR := bR.lt
    have pS0 := bS.cell 0
    have pS1 := bS.cell 1
    have lS := bS.lt
    go_wp2_with (fail)
    clear hV hT
    replace hbel := hbel.trans (hst.mono hsz)
    replace hsz := hbel.size
    replace HL := hid (HL.out.below hst hst.size)
    replace H1 := hid (H1.out.below hst hst.size)
    replace H2 := hid (H2.out.below hst hst.size)
    replace H3 := hid (H3.out.below hst hst.size)
    replace H4 := hid (H4.out.below hst hst.size)
    clear hst
    obtain ⟨W0, rfl⟩ : ∃ W0 : World, W0 = V := ⟨_, rfl⟩
    have q1 : m1 ≤ 1000000 := by rw [← H1.out.1]; exact hzc.out.1
    have q3 : m3 ≤ 1000000 := by rw [← H3.out.1]; exact hza.out.1
    refine (sameB_any A1 A2 m1 c1 cV.length c2 cV cV J J _ (H1.out.below (by repeat' (first | with_reducible assumption | with_reducible exact Below.refl _ _ | refine Below.alloc ?_ ?_ _ | refine Below.setCell ?_ ?_ _ | refine Below.drew ?_ | refine below_drewN ?_ _ | (simp; done) | (simp; omega) | omega)) (by first | (simp; done) | (simp; omega) | omega)) (H2.out.below (by repeat' (first | with_reducible assumption | with_reducible exact Below.refl _ _ | refine Below.alloc ?_ ?_ _ | refine Below.setCell ?_ ?_ _ | refine Below.drew ?_ | refine below_drewN ?_ _ | (simp; done) | (simp; omega) | omega)) (by first | (simp; done) | (simp; omega) | omega)) (fun x hx => by have := hzc.out.2 x hx; omega) q1).mono ?_
    rw [eqLs_t.2 (rfl : cV = cV), decide_eq_true (rfl : J = J), Bool.and_self]
    rintro e W1 ⟨rfl, hb⟩
    have hst : Below W0.heap.size W0 W1 := Below.trans (by repeat' (first | with_reducible assumption | with_reducible exact Below.refl _ _ | refine Below.alloc ?_ ?_ _ | refine Below.setCell ?_ ?_ _ | refine Below.drew ?_ | refine below_drewN ?_ _ | (simp; done) | (simp; omega) | omega)) (hb.mono (by first | (simp; done) | (simp; omega) | omega))
    replace hbel := hbel.trans (hst.mono hsz)
    replace hsz := hbel.size
    replace bB := bB.below hst bB.lt
    clear pB0 pB1 lB
    have pB0 := bB.cell 0
    have pB1 := bB.cell 1
    have lB := bB.lt
    replace bP := bP.below hst bP.lt
    clear pP0 pP1 lP
    have pP0 := bP.cell 0
    have pP1 := bP.cell 1
    have lP := bP.lt
    replace bQ := bQ.below hst bQ.lt
    clear pQ0 pQ1 lQ
    have pQ0 := bQ.cell 0
    have pQ1 := bQ.cell 1
    have lQ := bQ.lt
    replace bR := bR.below hst bR.lt
    clear pR0 pR1 lR
    have pR0 := bR.cell 0
    have pR1 := bR.cell 1
    have lR := bR.lt
    replace bS := bS.below hst bS.lt
    clear pS0 pS1 lS
    have pS0 := bS.cell 0
    have pS1 := bS.cell 1
    have lS := bS.lt
    replace HL := hid (HL.out.below hst hst.size)
    replace H1 := hid (H1.out.below hst hst.size)
    replace H2 := hid (H2.out.below hst hst.size)
    replace H3 := hid (H3.out.below hst hst.size)
    replace H4 := hid (H4.out.below hst hst.size)
    clear hb hst
    try clear hWb
    obtain ⟨W0, rfl⟩ : ∃ W0 : World, W0 = W1 := ⟨_, rfl⟩
    go_wp2_with (fail)
    refine (sameB_any A3 A4 m3 c3 aV.length c4 aV aV J J _ (H3.out.below (by repeat' (first | with_reducible assumption | with_reducible exact Below.refl _ _ | refine Below.alloc ?_ ?_ _ | refine Below.setCell ?_ ?_ _ | refine Below.drew ?_ | refine below_drewN ?_ _ | (simp; done) | (simp; omega) | omega)) (by first | (simp; done) | (simp; omega) | omega)) (H4.out.below (by repeat' (first | with_reducible assumption | with_reducible exact Below.refl _ _ | refine Below.alloc ?_ ?_ _ | refine Below.setCell ?_ ?_ _ | refine Below.drew ?_ | refine below_drewN ?_ _ | (simp; done) | (simp; omega) | omega)) (by first | (simp; done) | (simp; omega) | omega)) (fun x hx => by have := hza.out.2 x hx; omega) q3).mono ?_
    rw [eqLs_t.2 (rfl : aV = aV), decide_eq_true (rfl : J = J), Bool.and_self]
    rintro e W1 ⟨rfl, hb⟩
    have hst : Below W0.heap.size W0 W1 := Below.trans (by repeat' (first | with_reducible assumption | with_reducible exact Below.refl _ _ | refine Below.alloc ?_ ?_ _ | refine Below.setCell ?_ ?_ _ | refine Below.drew ?_ | refine below_drewN ?_ _ | (simp; done) | (simp; omega) | omega)) (hb.mono (by first | (simp; done) | (simp; omega) | omega))
    replace hbel := hbel.trans (hst.mono hsz)
    replace hsz := hbel.size
    replace bB := bB.below hst bB.lt
    clear pB0 pB1 lB
    have pB0 := bB.cell 0
    have pB1 := bB.cell 1
    have lB := bB.lt
    replace bP := bP.below hst bP.lt
    clear pP0 pP1 lP
    have pP0 := bP.cell 0
    have pP1 := bP.cell 1
    have lP := bP.lt
    replace bQ := bQ.below hst bQ.lt
    clear pQ0 pQ1 lQ
    have pQ0 := bQ.cell 0
    have pQ1 := bQ.cell 1
    have lQ := bQ.lt
    replace bR := bR.below hst bR.lt
    clear pR0 pR1 lR
    have pR0 := bR.cell 0
    have pR1 := bR.cell 1
    have lR := bR.lt
    replace bS := bS.below hst bS.lt
    clear pS0 pS1 lS
    have pS0 := bS.cell 0
    have pS1 := bS.cell 1
    have lS := bS.lt
    replace HL := hid (HL.out.below hst hst.size)
    replace H1 := hid (H1.out.below hst hst.size)
    replace H2 := hid (H2.out.below hst hst.size)
    replace H3 := hid (H3.out.below hst hst.size)
    replace H4 := hid (H4.out.below hst hst.size)
    clear hb hst
    try clear hWb
    obtain ⟨W0, rfl⟩ : ∃ W0 : World, W0 = W1 := ⟨_, rfl⟩
    go_wp2_with (fail)
    refine (works_any _).mono ?_
    rintro e W1 ⟨rfl, hb⟩
    have hst : Below W0.heap.size W0 W1 := Below.trans (by repeat' (first | with_reducible assumption | with_reducible exact Below.refl _ _ | refine Below.alloc ?_ ?_ _ | refine Below.setCell ?_ ?_ _ | refine Below.drew ?_ | refine below_drewN ?_ _ | (simp; done) | (simp; omega) | omega)) (hb.mono (by first | (simp; done) | (simp; omega) | omega))
    replace hbel := hbel.trans (hst.mono hsz)
    replace hsz := hbel.size
    replace bB := bB.below hst bB.lt
    clear pB0 pB1 lB
    have pB0 := bB.cell 0
    have pB1 := bB.cell 1
    have lB := bB.lt
    replace bP := bP.below hst bP.lt
    clear pP0 pP1 lP
    have pP0 := bP.cell 0
    have pP1 := bP.cell 1
    have lP := bP.lt
    replace bQ := bQ.below hst bQ.lt
    clear pQ0 pQ1 lQ
    have pQ0 := bQ.cell 0
    have pQ1 := bQ.cell 1
    have lQ := bQ.lt
    replace bR := bR.below hst bR.lt
    clear pR0 pR1 lR
    have pR0 := bR.cell 0
    have pR1 := bR.cell 1
    have lR := bR.lt
    replace bS := bS.below hst bS.lt
    clear pS0 pS1 lS
    have pS0 := bS.cell 0
    have pS1 := bS.cell 1
    have lS := bS.lt
    replace HL := hid (HL.out.below hst hst.size)
    replace H1 := hid (H1.out.below hst hst.size)
    replace H2 := hid (H2.out.below hst hst.size)
    replace H3 := hid (H3.out.below hst hst.size)
    replace H4 := hid (H4.out.below hst hst.size)
    clear hb hst
    try clear hWb
    obtain ⟨W0, rfl⟩ : ∃ W0 : World, W0 = W1 := ⟨_, rfl⟩
    go_wp2
    go_ret
    exact ⟨rfl, hbel⟩
  · have Hg := hid hg
    clear hg
    go_enter Tryz.func5, Tryz.ntmps5
    go_wp2_with (fail)
    refine (great_any A n c ls I _ (HL.out.below (by repeat' (first | with_reducible assumption | with_reducible exact Below.refl _ _ | refine Below.alloc ?_ ?_ _ | refine Below.setCell ?_ ?_ _ | refine Below.drew ?_ | refine below_drewN ?_ _ | (simp; done) | (simp; omega) | omega)) (by first | (simp; done) | (simp; omega) | omega))).mono ?_
    rw [Hg.out]
    rintro e W1 ⟨rfl, hb⟩
    have hst : Below W0.heap.size W0 W1 := Below.trans (by repeat' (first | with_reducible assumption | with_reducible exact Below.refl _ _ | refine Below.alloc ?_ ?_ _ | refine Below.setCell ?_ ?_ _ | refine Below.drew ?_ | refine below_drewN ?_ _ | (simp; done) | (simp; omega) | omega)) (hb.mono (by first | (simp; done) | (simp; omega) | omega))
    replace hbel := hbel.trans (hst.mono hsz)
    replace hsz := hbel.size
    replace bB := bB.below hst bB.lt
    clear pB0 pB1 lB
    have pB0 := bB.cell 0
    have pB1 := bB.cell 1
    have lB := bB.lt
    replace HL := hid (HL.out.below hst hst.size)
    clear hb hst
    try clear hWb
    obtain ⟨W0, rfl⟩ : ∃ W0 : World, W0 = W1 := ⟨_, rfl⟩
    go_wp2_with (fail)
    refine (works_any _).mono ?_
    rintro e W1 ⟨rfl, hb⟩
    have hst : Below W0.heap.size W0 W1 := Below.trans (by repeat' (first | with_reducible assumption | with_reducible exact Below.refl _ _ | refine Below.alloc ?_ ?_ _ | refine Below.setCell ?_ ?_ _ | refine Below.drew ?_ | refine below_drewN ?_ _ | (simp; done) | (simp; omega) | omega)) (hb.mono (by first | (simp; done) | (simp; omega) | omega))
    replace hbel := hbel.trans (hst.mono hsz)
    replace hsz := hbel.size
    replace bB := bB.below hst bB.lt
    clear pB0 pB1 lB
    have pB0 := bB.cell 0
    have pB1 := bB.cell 1
    have lB := bB.lt
    replace HL := hid (HL.out.below hst hst.size)
    clear hb hst
    try clear hWb
    obtain ⟨W0, rfl⟩ : ∃ W0 : World, W0 = W1 := ⟨_, rfl⟩
    go_wp2
    go_ret
    exact ⟨rfl, hbel⟩

section
open Go.ChangeShapes Go.WideShapes Go.ChangeAt Go.RowKit
set_option maxRecDepth 100000 in
theorem blameDuals_lifted (os : Os) (started : os.Started) (H : Type) (enc : TypeId × Value → H) :
    ReturnsInHanded {} Tryz.checked os 5 .any (Rows.blameDualsSpec.pre6 enc Tryz.prog Tryz.f5 Rows.blameDualsRow.domain false) (Rows.blameDualsSpec.post enc Tryz.prog Tryz.f5 false true false false) := by
  refine returnsInHanded_of_change (C := Tryz.checked) ownKx started (by kernel_rfl) Tryz.func5
    (ChangeSpec.witness6 (enc := enc) (C := Tryz.checked) false ⟨#[], #[.agg #[.int .i64 0, .slice none 0 0]], []⟩ 8 (by kernel_rfl) (by kernel_rfl) (by kernel_rfl) (by kernel_rfl)) ?_
  intro W base args ds gs before hval0 hW hcnd _
  have hval : ∀ (j : Nat) t v, Tryz.f5.params[j]? = some t → args[j]? = some v → Value.okWide Tryz.prog W .any base t v := hval0
  have hW' := hW
  obtain ⟨p, q, hA0, hV, rfl, hfz, hnd⟩ := hW
  have hA : DataW.TrodAll enc Tryz.prog W 0 (fun _ => true) true Tryz.f5.params.toList args.toList ds p := hA0
  have hlt : ∀ x ∈ p, x.block < W.heap.size := fun x hx => hW'.lt x (List.mem_append_left _ hx)
  have hAll : ∀ W', Below W.heap.size W W' → DataW.TrodAll enc Tryz.prog W' 0 (fun b => decide (b < W.heap.size)) true Tryz.f5.params.toList args.toList ds p := fun W' hb => all_below laidOut hb (readable_of (by kernel_rfl)) hlt hA
  rw [Tryz.params5] at hA hval
  obtain ⟨v0, d0, rfl, rfl, h0⟩ := trodAll_one hA
  obtain ⟨rfl, rfl⟩ := trodVars_none hV
  clear hA0 hval0
  obtain ⟨I0, A0, n0, c0, rfl, wI0, hc0, l0, hl0, hr0⟩ := open_book (hval 0 24 v0 rfl rfl) h0
  refine (blameDuals_walk W I0 A0 n0 c0 l0 hr0).mono fun e W' ⟨he, hb⟩ => ?_
  subst he
  exact ⟨_, rfl, ⟨_, _, _, [], _, [], hW', trodAll_cons_mk (shut_bool Tryz.underlying4 _) trodAll_mk0, hAll W' hb, rfl, hb.frame _, fun h => by cases h⟩⟩
/-- The law: whatever the input, it returns true, and the input reads as it did. -/
theorem blameDuals_holds : Rows.BlameDualsSaid :=
  OpenClaim.holds_of_wide 5 Tryz.f5 rfl rfl rfl rfl rfl rfl rfl ⟨rfl, rfl, rfl, rfl, rfl⟩ rfl rfl rfl rfl rfl (by kernel_rfl) Tryz.func5 (by kernel_rfl)
    (of_decide_eq_true (by kernel_rfl)) (by unfold Func.isWrapper; first | (rw [if_pos (by decide +kernel)]; kernel_rfl) | (rw [if_neg (by decide +kernel)]; exact ⟨rfl, rfl⟩))
    (fun os started H enc _ => blameDuals_lifted os started H enc)
end
end Go.Proofs.YtnpilfpackdimaaGreat

