/- The statement BlameDual holds: whatever the arguments, the law returns true and leaves its arguments as they were. -/
import Derived.Test.YtnpilfpackdimaaGreatMl
set_option linter.unusedSimpArgs false
set_option linter.unusedVariables false
namespace Go.Proofs.YtnpilfpackdimaaGreat
open Go.RowKit Go.Shelf
attribute [local go_sem] Oper.semAt_some
set_option maxRecDepth 100000 in
set_option maxHeartbeats 40000000 in
theorem blameDual_walk (w : World) (I : Int) (A : Option Addr) (n c : Nat) (ls : List (List Int)) (b : Nat) (hl : LiS w w.heap.size A n ls) (hb : b < 256) :
    Calls Tryz.prog 9 #[.agg #[.int .i64 I, .slice A n c], .int .u8 (b : Int)] w fun e w' => e = .returned (.bool true) ∧ Below w.heap.size w w' := by
  have la := hid hl.1
  cases hf : fineB I ls
  · have Hf := hid hf
    clear hf
    obtain ⟨W0, hWb⟩ : ∃ W0, (w).alloc (.cells #[.int .i64 I, .slice A n c] 24) = W0 := ⟨_, rfl⟩
    have hbel : Below w.heap.size w W0 := by rw [← hWb]; exact (by repeat' (first | with_reducible assumption | with_reducible exact Below.refl _ _ | refine Below.alloc ?_ ?_ _ | refine Below.setCell ?_ ?_ _ | refine Below.drew ?_ | refine below_drewN ?_ _ | (simp; done) | (simp; omega) | omega))
    have hsz := hbel.size
    have bB : Blk W0 (w.heap.size) 24 #[.int .i64 I, .slice A n c] := by rw [← hWb]; exact Blk.new' rfl
    have pB0 := bB.cell 0
    have pB1 := bB.cell 1
    have lB := bB.lt
    have HL := hid (hl.below hbel hsz)
    clear hl
    go_enter Tryz.func9, Tryz.ntmps9
    go_wp2_with (fail)
    refine (fine_any A n c ls I _ (HL.out.below (by repeat' (first | with_reducible assumption | with_reducible exact Below.refl _ _ | refine Below.alloc ?_ ?_ _ | refine Below.setCell ?_ ?_ _ | refine Below.drew ?_ | refine below_drewN ?_ _ | (simp; done) | (simp; omega) | omega)) (by first | (simp; done) | (simp; omega) | omega))).mono ?_
    rw [Hf.out]
    rintro e W1 ⟨rfl, hb⟩
    have hst : Below W0.heap.size W0 W1 := Below.trans (by repeat' (first | with_reducible assumption | with_reducible exact Below.refl _ _ | refine Below.alloc ?_ ?_ _ | refine Below.setCell ?_ ?_ _ | refine Below.drew ?_ | refine below_drewN ?_ _ | (simp; done) | (simp; omega) | omega)) (hb.mono (by first | (simp; done) | (simp; omega) | omega))
    replace hbel := hbel.trans (hst.mono hsz)
    replace hsz := hbel.size
    replace bB := bB.below hst bB.lt
    clear pB0 pB1 lB
    have pB0 := bB.cell 0
    have pB1 := bB.cell 1
    have lB := bB.lt
    replace HL := hid (HL.out.below hst hst.size)
    clear hb hst
    try clear hWb
    obtain ⟨W0, rfl⟩ : ∃ W0 : World, W0 = W1 := ⟨_, rfl⟩
    go_wp2_with (fail)
    refine (works_any _).mono ?_
    rintro e W1 ⟨rfl, hb⟩
    have hst : Below W0.heap.size W0 W1 := Below.trans (by repeat' (first | with_reducible assumption | with_reducible exact Below.refl _ _ | refine Below.alloc ?_ ?_ _ | refine Below.setCell ?_ ?_ _ | refine Below.drew ?_ | refine below_drewN ?_ _ | (simp; done) | (simp; omega) | omega)) (hb.mono (by first | (simp; done) | (simp; omega) | omega))
    replace hbel := hbel.trans (hst.mono hsz)
    replace hsz := hbel.size
    replace bB := bB.below hst bB.lt
    clear pB0 pB1 lB
    have pB0 := bB.cell 0
    have pB1 := bB.cell 1
    have lB := bB.lt
    replace HL := hid (HL.out.below hst hst.size)
    clear hb hst
    try clear hWb
    obtain ⟨W0, rfl⟩ : ∃ W0 : World, W0 = W1 := ⟨_, rfl⟩
    go_wp2
    go_ret
    exact ⟨rfl, hbel⟩
  · obtain ⟨hg, hchk⟩ := fineB_t.1 hf
    obtain ⟨J, rfl, -, hJ1, hJ8, hln, hv, hv8⟩ := book_nat hchk
    have Hf := hid hf
    have Hc := hid hchk
    have hn : n ≤ 10 := by rw [← la.out]; exact hln
    have K2 : Hid (∀ l ∈ ls, l.length ≤ 1000000) := hid (fun l h => by have := isL_len8 (hv8 l h) (by omega); omega)
    have Hv := hid hv
    have Hv8 := hid hv8
    have Hla := hid hln
    obtain ⟨s, hs⟩ : ∃ s, listed b J = s := ⟨_, rfl⟩
    have hsl : isL (J : Int) 0 s = true := by rw [← hs]; exact isL_listed' _ _
    have hal := alL_eq hchk
    rw [Int.toNat_natCast] at hal
    have hak := hid (alK_true hchk)
    have hcz : ¬ (chkBook (J : Int) ls ≠ 0) := fun e => e hchk
    have hdv : dualV J ls = allR J ls := by rw [dualV_eq, ralV_book hchk, Int.toNat_natCast]
    have hcv : coreV J ls = leastL ls := by unfold coreV; rw [if_neg hcz]
    have hci : coreI J ls = J := by unfold coreI; rw [if_neg hcz]
    have hcf := core_facts hchk
    have hgc := hcf.great
    have hc10 := hcf.len
    have hc8 := hcf.v8
    have hM : ∀ l ∈ allR J ls, isL (J : Int) 0 l = true := fun l hl => ((mem_allR hJ8 hv).1 hl).1
    have hM8 := allR_isL8 hJ8 hv
    have hl70 := allR_len70 hJ8 hv
    have hdd := dual_dual hJ8 hv hv8
    have hhit := hit_dual hJ8 hv hv8 (bits8 (isL_weak (by omega) hsl : isL 8 0 s = true))
    rw [← hld_eq hv8] at hhit
    obtain ⟨L, hL⟩ : ∃ v, allR J ls = v := ⟨_, rfl⟩
    obtain ⟨C, hC⟩ : ∃ v, leastL ls = v := ⟨_, rfl⟩
    obtain ⟨hd, hhd⟩ : ∃ v, hldB ls s = v := ⟨_, rfl⟩
    rw [hL] at hal hdv hM hM8 hl70 hdd hhit
    rw [hC] at hcv hgc hc10 hc8 hdd
    rw [hhd] at hhit
    have hs8 : s.length ≤ 8 := by rw [← hs]; exact Nat.le_trans (listed_len _ _) hJ8
    have hs80 : Hid (isL 8 0 s = true) := hid (isL_weak (by omega) hsl)
    have Hsl := hid hsl
    have E1 : Hid (eqLs L L = true) := hid (eqLs_t.2 rfl)
    have E2 : Hid (eqLs C C = true) := hid (eqLs_t.2 rfl)
    have KL : Hid (∀ l ∈ L, l.length ≤ 1000000) := hid (fun l h => by have := isL_len8 (hM8 l h) (by omega); omega)
    have KC : Hid (∀ l ∈ C, l.length ≤ 1000000) := hid (fun l h => by have := isL_len8 (hc8 l h) (by omega); omega)
    have HM8 := hid hM8
    have HMJ := hid hM
    have Hgc := hid hgc
    have Hdv := hid hdv
    have Hcv := hid hcv
    have Hci := hid hci
    have Hal := hid hal
    have Hdd := hid hdd
    have Hhit := hid hhit
    have Hs := hid hs
    have Hhd := hid hhd
    have hJJ : ((J : Int) != (J : Int)) = false := by simp
    clear hal hdv hcv hci hM hM8 hdd hhit hs hhd hgc hc8 hcf hcz hsl hL hC
    clear hf hg hchk hv hv8 hln
    obtain ⟨W0, hWb⟩ : ∃ W0, (w).alloc (.cells #[.int .i64 (J : Int), .slice A n c] 24) = W0 := ⟨_, rfl⟩
    have hbel : Below w.heap.size w W0 := by rw [← hWb]; exact (by repeat' (first | with_reducible assumption | with_reducible exact Below.refl _ _ | refine Below.alloc ?_ ?_ _ | refine Below.setCell ?_ ?_ _ | refine Below.drew ?_ | refine below_drewN ?_ _ | (simp; done) | (simp; omega) | omega))
    have hsz := hbel.size
    have bB : Blk W0 (w.heap.size) 24 #[.int .i64 (J : Int), .slice A n c] := by rw [← hWb]; exact Blk.new' rfl
    have pB0 := bB.cell 0
    have pB1 := bB.cell 1
    have lB := bB.lt
    have HL := hid (hl.below hbel hsz)
    clear hl
    go_enter Tryz.func9, Tryz.ntmps9
    go_wp2_with (fail)
    refine (fine_any A n c ls J _ (HL.out.below (by repeat' (first | with_reducible assumption | with_reducible exact Below.refl _ _ | refine Below.alloc ?_ ?_ _ | refine Below.setCell ?_ ?_ _ | refine Below.drew ?_ | refine below_drewN ?_ _ | (simp; done) | (simp; omega) | omega)) (by first | (simp; done) | (simp; omega) | omega))).mono ?_
    rw [Hf.out]
    rintro e W1 ⟨rfl, hb⟩
    have hst : Below W0.heap.size W0 W1 := Below.trans (by repeat' (first | with_reducible assumption | with_reducible exact Below.refl _ _ | refine Below.alloc ?_ ?_ _ | refine Below.setCell ?_ ?_ _ | refine Below.drew ?_ | refine below_drewN ?_ _ | (simp; done) | (simp; omega) | omega)) (hb.mono (by first | (simp; done) | (simp; omega) | omega))
    replace hbel := hbel.trans (hst.mono hsz)
    replace hsz := hbel.size
    replace bB := bB.below hst bB.lt
    clear pB0 pB1 lB
    have pB0 := bB.cell 0
    have pB1 := bB.cell 1
    have lB := bB.lt
    replace HL := hid (HL.out.below hst hst.size)
    clear hb hst
    try clear hWb
    obtain ⟨W0, rfl⟩ : ∃ W0 : World, W0 = W1 := ⟨_, rfl⟩
    go_wp2_with (fail)
    refine (dual_any A n c ls J _ (HL.out.below (by repeat' (first | with_reducible assumption | with_reducible exact Below.refl _ _ | refine Below.alloc ?_ ?_ _ | refine Below.setCell ?_ ?_ _ | refine Below.drew ?_ | refine below_drewN ?_ _ | (simp; done) | (simp; omega) | omega)) (by first | (simp; done) | (simp; omega) | omega)) (by omega) K2.out).mono ?_
    rw [Hdv.out, Hci.out, Hc.out]
    rintro e W1 ⟨A1, m1, c1, rfl, h, hb⟩
    have hst : Below W0.heap.size W0 W1 := Below.trans (by repeat' (first | with_reducible assumption | with_reducible exact Below.refl _ _ | refine Below.alloc ?_ ?_ _ | refine Below.setCell ?_ ?_ _ | refine Below.drew ?_ | refine below_drewN ?_ _ | (simp; done) | (simp; omega) | omega)) (hb.mono (by first | (simp; done) | (simp; omega) | omega))
    replace hbel := hbel.trans (hst.mono hsz)
    replace hsz := hbel.size
    replace bB := bB.below hst bB.lt
    clear pB0 pB1 lB
    have pB0 := bB.cell 0
    have pB1 := bB.cell 1
    have lB := bB.lt
    replace HL := hid (HL.out.below hst hst.size)
    have H1 := hid h.lis
    clear hb hst
    try clear hWb
    obtain ⟨W0, rfl⟩ : ∃ W0 : World, W0 = W1 := ⟨_, rfl⟩
    clear h
    obtain rfl : L.length = m1 := H1.out.1
    obtain ⟨V, hV⟩ : ∃ V, W0.alloc (.cells #[.int .i64 (J : Int), .slice A1 L.length c1] 24) = V := ⟨_, rfl⟩
    have hst : Below W0.heap.size W0 V := by rw [← hV]; exact (by repeat' (first | with_reducible assumption | with_reducible exact Below.refl _ _ | refine Below.alloc ?_ ?_ _ | refine Below.setCell ?_ ?_ _ | refine Below.drew ?_ | refine below_drewN ?_ _ | (simp; done) | (simp; omega) | omega))
    obtain ⟨TP, hT⟩ : ∃ T, W0.heap.size = T := ⟨_, rfl⟩
    have bP : Blk V TP 24 #[.int .i64 (J : Int), .slice A1 L.length c1] := by rw [← hV, ← hT]; exact Blk.new' rfl
    replace bB := bB.below hst bB.lt
    clear pB0 pB1 lB
    have pB0 := bB.cell 0
    have pB1 := bB.cell 1
    have lB := bB.lt
    have pP0 := bP.cell 0
    have pP1 := bP.cell 1
    have lP := bP.lt
    go_wp2_with (fail)
    clear hV hT
    replace hbel := hbel.trans (hst.mono hsz)
    replace hsz := hbel.size
    replace HL := hid (HL.out.below hst hst.size)
    replace H1 := hid (H1.out.below hst hst.size)
    clear hst
    obtain ⟨W0, rfl⟩ : ∃ W0 : World, W0 = V := ⟨_, rfl⟩
    refine (core_any A n c ls J _ (HL.out.below (by repeat' (first | with_reducible assumption | with_reducible exact Below.refl _ _ | refine Below.alloc ?_ ?_ _ | refine Below.setCell ?_ ?_ _ | refine Below.drew ?_ | refine below_drewN ?_ _ | (simp; done) | (simp; omega) | omega)) (by first | (simp; done) | (simp; omega) | omega)) (by omega) K2.out).mono ?_
    rw [Hcv.out, Hci.out, Hc.out]
    rintro e W1 ⟨A2, m2, c2, rfl, h, hb⟩
    have hst : Below W0.heap.size W0 W1 := Below.trans (by repeat' (first | with_reducible assumption | with_reducible exact Below.refl _ _ | refine Below.alloc ?_ ?_ _ | refine Below.setCell ?_ ?_ _ | refine Below.drew ?_ | refine below_drewN ?_ _ | (simp; done) | (simp; omega) | omega)) (hb.mono (by first | (simp; done) | (simp; omega) | omega))
    replace hbel := hbel.trans (hst.mono hsz)
    replace hsz := hbel.size
    replace bB := bB.below hst bB.lt
    clear pB0 pB1 lB
    have pB0 := bB.cell 0
    have pB1 := bB.cell 1
    have lB := bB.lt
    replace bP := bP.below hst bP.lt
    clear pP0 pP1 lP
    have pP0 := bP.cell 0
    have pP1 := bP.cell 1
    have lP := bP.lt
    replace HL := hid (HL.out.below hst hst.size)
    replace H1 := hid (H1.out.below hst hst.size)
    have H2 := hid h.lis
    clear hb hst
    try clear hWb
    obtain ⟨W0, rfl⟩ : ∃ W0 : World, W0 = W1 := ⟨_, rfl⟩
    clear h
    obtain rfl : C.length = m2 := H2.out.1
    obtain ⟨V, hV⟩ : ∃ V, W0.alloc (.cells #[.int .i64 (J : Int), .slice A2 C.length c2] 24) = V := ⟨_, rfl⟩
    have hst : Below W0.heap.size W0 V := by rw [← hV]; exact (by repeat' (first | with_reducible assumption | with_reducible exact Below.refl _ _ | refine Below.alloc ?_ ?_ _ | refine Below.setCell ?_ ?_ _ | refine Below.drew ?_ | refine below_drewN ?_ _ | (simp; done) | (simp; omega) | omega))
    obtain ⟨TQ, hT⟩ : ∃ T, W0.heap.size = T := ⟨_, rfl⟩
    have bQ : Blk V TQ 24 #[.int .i64 (J : Int), .slice A2 C.length c2] := by rw [← hV, ← hT]; exact Blk.new' rfl
    replace bB := bB.below hst bB.lt
    clear pB0 pB1 lB
    have pB0 := bB.cell 0
    have pB1 := bB.cell 1
    have lB := bB.lt
    replace bP := bP.below hst bP.lt
    clear pP0 pP1 lP
    have pP0 := bP.cell 0
    have pP1 := bP.cell 1
    have lP := bP.lt
    have pQ0 := bQ.cell 0
    have pQ1 := bQ.cell 1
    have lQ := bQ.lt
    go_wp2_with (fail)
    clear hV hT
    replace hbel := hbel.trans (hst.mono hsz)
    replace hsz := hbel.size
    replace HL := hid (HL.out.below hst hst.size)
    replace H1 := hid (H1.out.below hst hst.size)
    replace H2 := hid (H2.out.below hst hst.size)
    clear hst
    obtain ⟨W0, rfl⟩ : ∃ W0 : World, W0 = V := ⟨_, rfl⟩
    refine (allL_any A n c ls J _ (HL.out.below (by repeat' (first | with_reducible assumption | with_reducible exact Below.refl _ _ | refine Below.alloc ?_ ?_ _ | refine Below.setCell ?_ ?_ _ | refine Below.drew ?_ | refine below_drewN ?_ _ | (simp; done) | (simp; omega) | omega)) (by first | (simp; done) | (simp; omega) | omega)) (by omega) K2.out).mono ?_
    rw [hak.out, Hal.out]
    rintro e W1 ⟨A3, m3, c3, rfl, h, hb⟩
    have hst : Below W0.heap.size W0 W1 := Below.trans (by repeat' (first | with_reducible assumption | with_reducible exact Below.refl _ _ | refine Below.alloc ?_ ?_ _ | refine Below.setCell ?_ ?_ _ | refine Below.drew ?_ | refine below_drewN ?_ _ | (simp; done) | (simp; omega) | omega)) (hb.mono (by first | (simp; done) | (simp; omega) | omega))
    replace hbel := hbel.trans (hst.mono hsz)
    replace hsz := hbel.size
    replace bB := bB.below hst bB.lt
    clear pB0 pB1 lB
    have pB0 := bB.cell 0
    have pB1 := bB.cell 1
    have lB := bB.lt
    replace bP := bP.below hst bP.lt
    clear pP0 pP1 lP
    have pP0 := bP.cell 0
    have pP1 := bP.cell 1
    have lP := bP.lt
    replace bQ := bQ.below hst bQ.lt
    clear pQ0 pQ1 lQ
    have pQ0 := bQ.cell 0
    have pQ1 := bQ.cell 1
    have lQ := bQ.lt
    replace HL := hid (HL.out.below hst hst.size)
    replace H1 := hid (H1.out.below hst hst.size)
    replace H2 := hid (H2.out.below hst hst.size)
    have H3 := hid h
    clear h
    clear hb hst
    try clear hWb
    obtain ⟨W0, rfl⟩ : ∃ W0 : World, W0 = W1 := ⟨_, rfl⟩
    go_wp2_with (fail)
    refine (lists_any A1 A3 L.length c1 m3 c3 L L _ (H1.out.below (by repeat' (first | with_reducible assumption | with_reducible exact Below.refl _ _ | refine Below.alloc ?_ ?_ _ | refine Below.setCell ?_ ?_ _ | refine Below.drew ?_ | refine below_drewN ?_ _ | (simp; done) | (simp; omega) | omega)) (by first | (simp; done) | (simp; omega) | omega)) (H3.out.below (by repeat' (first | with_reducible assumption | with_reducible exact Below.refl _ _ | refine Below.alloc ?_ ?_ _ | refine Below.setCell ?_ ?_ _ | refine Below.drew ?_ | refine below_drewN ?_ _ | (simp; done) | (simp; omega) | omega)) (by first | (simp; done) | (simp; omega) | omega)) KL.out (by omega)).mono ?_
    rw [E1.out]
    rintro e W1 ⟨rfl, hb⟩
    have hst : Below W0.heap.size W0 W1 := Below.trans (by repeat' (first | with_reducible assumption | with_reducible exact Below.refl _ _ | refine Below.alloc ?_ ?_ _ | refine Below.setCell ?_ ?_ _ | refine Below.drew ?_ | refine below_drewN ?_ _ | (simp; done) | (simp; omega) | omega)) (hb.mono (by first | (simp; done) | (simp; omega) | omega))
    replace hbel := hbel.trans (hst.mono hsz)
    replace hsz := hbel.size
    replace bB := bB.below hst bB.lt
    clear pB0 pB1 lB
    have pB0 := bB.cell 0
    have pB1 := bB.cell 1
    have lB := bB.lt
    replace bP := bP.below hst bP.lt
    clear pP0 pP1 lP
    have pP0 := bP.cell 0
    have pP1 := bP.cell 1
    have lP := bP.lt
    replace bQ := bQ.below hst bQ.lt
    clear pQ0 pQ1 lQ
    have pQ0 := bQ.cell 0
    have pQ1 := bQ.cell 1
    have lQ := bQ.lt
    replace HL := hid (HL.out.below hst hst.size)
    replace H1 := hid (H1.out.below hst hst.size)
    replace H2 := hid (H2.out.below hst hst.size)
    replace H3 := hid (H3.out.below hst hst.size)
    clear hb hst
    try clear hWb
    obtain ⟨W0, rfl⟩ : ∃ W0 : World, W0 = W1 := ⟨_, rfl⟩
    go_wp2_with (fail)
    refine (great_any A2 C.length c2 C J _ (H2.out.below (by repeat' (first | with_reducible assumption | with_reducible exact Below.refl _ _ | refine Below.alloc ?_ ?_ _ | refine Below.setCell ?_ ?_ _ | refine Below.drew ?_ | refine below_drewN ?_ _ | (simp; done) | (simp; omega) | omega)) (by first | (simp; done) | (simp; omega) | omega))).mono ?_
    rw [Hgc.out]
    rintro e W1 ⟨rfl, hb⟩
    have hst : Below W0.heap.size W0 W1 := Below.trans (by repeat' (first | with_reducible assumption | with_reducible exact Below.refl _ _ | refine Below.alloc ?_ ?_ _ | refine Below.setCell ?_ ?_ _ | refine Below.drew ?_ | refine below_drewN ?_ _ | (simp; done) | (simp; omega) | omega)) (hb.mono (by first | (simp; done) | (simp; omega) | omega))
    replace hbel := hbel.trans (hst.mono hsz)
    replace hsz := hbel.size
    replace bB := bB.below hst bB.lt
    clear pB0 pB1 lB
    have pB0 := bB.cell 0
    have pB1 := bB.cell 1
    have lB := bB.lt
    replace bP := bP.below hst bP.lt
    clear pP0 pP1 lP
    have pP0 := bP.cell 0
    have pP1 := bP.cell 1
    have lP := bP.lt
    replace bQ := bQ.below hst bQ.lt
    clear pQ0 pQ1 lQ
    have pQ0 := bQ.cell 0
    have pQ1 := bQ.cell 1
    have lQ := bQ.lt
    replace HL := hid (HL.out.below hst hst.size)
    replace H1 := hid (H1.out.below hst hst.size)
    replace H2 := hid (H2.out.below hst hst.size)
    replace H3 := hid (H3.out.below hst hst.size)
    clear hb hst
    try clear hWb
    obtain ⟨W0, rfl⟩ : ∃ W0 : World, W0 = W1 := ⟨_, rfl⟩
    by_cases hm : L.length ≤ 10
    · have hck : chkBook J L = 0 := chk_of hJ1 hJ8 hm HMJ.out
      have hfd := hid (fineB_t.2 ⟨great_small (by omega) HM8.out, hck⟩)
      have hcz : ¬ (chkBook (J : Int) L ≠ 0) := fun e => e hck
      have hdv2 := hid (show dualV J L = C by rw [dualV_eq, ralV_book hck, Int.toNat_natCast]; exact Hdd.out)
      have hci2 := hid (show coreI J L = J by unfold coreI; rw [if_neg hcz])
      have hbe : (blmE J L s == 0) = hd := by rw [blmE_of hck Hsl.out, Hhit.out]; cases hd <;> rfl
      obtain ⟨f, hf⟩ : ∃ v, blmE J L s = v := ⟨_, rfl⟩
      obtain ⟨fm, hfm⟩ : ∃ v, blmV J L s = v := ⟨_, rfl⟩
      rw [hf] at hbe
      have Hf2 := hid hf
      have Hfm := hid hfm
      have Hck := hid hck
      clear hf hfm hck hcz
      go_wp2_with (fail)
      refine (fine_any A1 L.length c1 L J _ (H1.out.below (by repeat' (first | with_reducible assumption | with_reducible exact Below.refl _ _ | refine Below.alloc ?_ ?_ _ | refine Below.setCell ?_ ?_ _ | refine Below.drew ?_ | refine below_drewN ?_ _ | (simp; done) | (simp; omega) | omega)) (by first | (simp; done) | (simp; omega) | omega))).mono ?_
      rw [hfd.out]
      rintro e W1 ⟨rfl, hb⟩
      have hst : Below W0.heap.size W0 W1 := Below.trans (by repeat' (first | with_reducible assumption | with_reducible exact Below.refl _ _ | refine Below.alloc ?_ ?_ _ | refine Below.setCell ?_ ?_ _ | refine Below.drew ?_ | refine below_drewN ?_ _ | (simp; done) | (simp; omega) | omega)) (hb.mono (by first | (simp; done) | (simp; omega) | omega))
      replace hbel := hbel.trans (hst.mono hsz)
      replace hsz := hbel.size
      replace bB := bB.below hst bB.lt
      clear pB0 pB1 lB
      have pB0 := bB.cell 0
      have pB1 := bB.cell 1
      have lB := bB.lt
      replace bP := bP.below hst bP.lt
      clear pP0 pP1 lP
      have pP0 := bP.cell 0
      have pP1 := bP.cell 1
      have lP := bP.lt
      replace bQ := bQ.below hst bQ.lt
      clear pQ0 pQ1 lQ
      have pQ0 := bQ.cell 0
      have pQ1 := bQ.cell 1
      have lQ := bQ.lt
      replace HL := hid (HL.out.below hst hst.size)
      replace H1 := hid (H1.out.below hst hst.size)
      replace H2 := hid (H2.out.below hst hst.size)
      replace H3 := hid (H3.out.below hst hst.size)
      clear hb hst
      try clear hWb
      obtain ⟨W0, rfl⟩ : ∃ W0 : World, W0 = W1 := ⟨_, rfl⟩
      go_wp2_with (fail)
      refine (dual_any A1 L.length c1 L J _ (H1.out.below (by repeat' (first | with_reducible assumption | with_reducible exact Below.refl _ _ | refine Below.alloc ?_ ?_ _ | refine Below.setCell ?_ ?_ _ | refine Below.drew ?_ | refine below_drewN ?_ _ | (simp; done) | (simp; omega) | omega)) (by first | (simp; done) | (simp; omega) | omega)) (by omega) KL.out).mono ?_
      rw [hdv2.out, hci2.out, Hck.out]
      rintro e W1 ⟨A4, m4, c4, rfl, h, hb⟩
      have hst : Below W0.heap.size W0 W1 := Below.trans (by repeat' (first | with_reducible assumption | with_reducible exact Below.refl _ _ | refine Below.alloc ?_ ?_ _ | refine Below.setCell ?_ ?_ _ | refine Below.drew ?_ | refine below_drewN ?_ _ | (simp; done) | (simp; omega) | omega)) (hb.mono (by first | (simp; done) | (simp; omega) | omega))
      replace hbel := hbel.trans (hst.mono hsz)
      replace hsz := hbel.size
      replace bB := bB.below hst bB.lt
      clear pB0 pB1 lB
      have pB0 := bB.cell 0
      have pB1 := bB.cell 1
      have lB := bB.lt
      replace bP := bP.below hst bP.lt
      clear pP0 pP1 lP
      have pP0 := bP.cell 0
      have pP1 := bP.cell 1
      have lP := bP.lt
      replace bQ := bQ.below hst bQ.lt
      clear pQ0 pQ1 lQ
      have pQ0 := bQ.cell 0
      have pQ1 := bQ.cell 1
      have lQ := bQ.lt
      replace HL := hid (HL.out.below hst hst.size)
      replace H1 := hid (H1.out.below hst hst.size)
      replace H2 := hid (H2.out.below hst hst.size)
      replace H3 := hid (H3.out.below hst hst.size)
      have H4 := hid h.lis
      clear hb hst
      try clear hWb
      obtain ⟨W0, rfl⟩ : ∃ W0 : World, W0 = W1 := ⟨_, rfl⟩
      clear h
      obtain rfl : C.length = m4 := H4.out.1
      obtain ⟨V, hV⟩ : ∃ V, W0.alloc (.cells #[.int .i64 (J : Int), .slice A4 C.length c4] 24) = V := ⟨_, rfl⟩
      have hst : Below W0.heap.size W0 V := by rw [← hV]; exact (by repeat' (first | with_reducible assumption | with_reducible exact Below.refl _ _ | refine Below.alloc ?_ ?_ _ | refine Below.setCell ?_ ?_ _ | refine Below.drew ?_ | refine below_drewN ?_ _ | (simp; done) | (simp; omega) | omega))
      obtain ⟨TR, hT⟩ : ∃ T, W0.heap.size = T := ⟨_, rfl⟩
      have bR : Blk V TR 24 #[.int .i64 (J : Int), .slice A4 C.length c4] := by rw [← hV, ← hT]; exact Blk.new' rfl
      replace bB := bB.below hst bB.lt
      clear pB0 pB1 lB
      have pB0 := bB.cell 0
      have pB1 := bB.cell 1
      have lB := bB.lt
      replace bP := bP.below hst bP.lt
      clear pP0 pP1 lP
      have pP0 := bP.cell 0
      have pP1 := bP.cell 1
      have lP := bP.lt
      replace bQ := bQ.below hst bQ.lt
      clear pQ0 pQ1 lQ
      have pQ0 := bQ.cell 0
      have pQ1 := bQ.cell 1
      have lQ := bQ.lt
      have pR0 := bR.cell 0
      have pR1 := bR.cell 1
      have lR := bR.lt
      go_wp2_with (fail)
      clear hV hT
      replace hbel := hbel.trans (hst.mono hsz)
      replace hsz := hbel.size
      replace HL := hid (HL.out.below hst hst.size)
      replace H1 := hid (H1.out.below hst hst.size)
      replace H2 := hid (H2.out.below hst hst.size)
      replace H3 := hid (H3.out.below hst hst.size)
      replace H4 := hid (H4.out.below hst hst.size)
      clear hst
      obtain ⟨W0, rfl⟩ : ∃ W0 : World, W0 = V := ⟨_, rfl⟩

      refine (set_any A n c J b _ (by omega) hb).mono ?_
      rw [Hs.out]
      rintro e W1 ⟨vS, rfl, ho, hb⟩
      obtain ⟨AS, cS, rfl, hs2, hcS, hs4⟩ := own_slb ho
      have hs3 : InS W1 W1.heap.size AS s.length s := hs2
      clear ho hs2 hs4
      have hst : Below W0.heap.size W0 W1 := Below.trans (by repeat' (first | with_reducible assumption | with_reducible exact Below.refl _ _ | refine Below.alloc ?_ ?_ _ | refine Below.setCell ?_ ?_ _ | refine Below.drew ?_ | refine below_drewN ?_ _ | (simp; done) | (simp; omega) | omega)) (hb.mono (by first | (simp; done) | (simp; omega) | omega))
      replace hbel := hbel.trans (hst.mono hsz)
      replace hsz := hbel.size
      replace bB := bB.below hst bB.lt
      clear pB0 pB1 lB
      have pB0 := bB.cell 0
      have pB1 := bB.cell 1
      have lB := bB.lt
      replace bP := bP.below hst bP.lt
      clear pP0 pP1 lP
      have pP0 := bP.cell 0
      have pP1 := bP.cell 1
      have lP := bP.lt
      replace bQ := bQ.below hst bQ.lt
      clear pQ0 pQ1 lQ
      have pQ0 := bQ.cell 0
      have pQ1 := bQ.cell 1
      have lQ := bQ.lt
      replace bR := bR.below hst bR.lt
      clear pR0 pR1 lR
      have pR0 := bR.cell 0
      have pR1 := bR.cell 1
      have lR := bR.lt
      replace HL := hid (HL.out.below hst hst.size)
      replace H1 := hid (H1.out.below hst hst.size)
      replace H2 := hid (H2.out.below hst hst.size)
      replace H3 := hid (H3.out.below hst hst.size)
      replace H4 := hid (H4.out.below hst hst.size)
      have HS := hid hs3
      clear hs3
      clear hb hst
      try clear hWb
      obtain ⟨W0, rfl⟩ : ∃ W0 : World, W0 = W1 := ⟨_, rfl⟩
      go_wp2_with (fail)
      refine (checkBlame_any A1 AS L.length c1 s.length cS L s J _ (H1.out.below (by repeat' (first | with_reducible assumption | with_reducible exact Below.refl _ _ | refine Below.alloc ?_ ?_ _ | refine Below.setCell ?_ ?_ _ | refine Below.drew ?_ | refine below_drewN ?_ _ | (simp; done) | (simp; omega) | omega)) (by first | (simp; done) | (simp; omega) | omega)) (HS.out.below (by repeat' (first | with_reducible assumption | with_reducible exact Below.refl _ _ | refine Below.alloc ?_ ?_ _ | refine Below.setCell ?_ ?_ _ | refine Below.drew ?_ | refine below_drewN ?_ _ | (simp; done) | (simp; omega) | omega)) (by first | (simp; done) | (simp; omega) | omega)) (by omega) KL.out (by omega)).mono ?_
      rw [Hf2.out, Hfm.out]
      rintro e W1 ⟨rfl, hb⟩
      have hst : Below W0.heap.size W0 W1 := Below.trans (by repeat' (first | with_reducible assumption | with_reducible exact Below.refl _ _ | refine Below.alloc ?_ ?_ _ | refine Below.setCell ?_ ?_ _ | refine Below.drew ?_ | refine below_drewN ?_ _ | (simp; done) | (simp; omega) | omega)) (hb.mono (by first | (simp; done) | (simp; omega) | omega))
      replace hbel := hbel.trans (hst.mono hsz)
      replace hsz := hbel.size
      replace bB := bB.below hst bB.lt
      clear pB0 pB1 lB
      have pB0 := bB.cell 0
      have pB1 := bB.cell 1
      have lB := bB.lt
      replace bP := bP.below hst bP.lt
      clear pP0 pP1 lP
      have pP0 := bP.cell 0
      have pP1 := bP.cell 1
      have lP := bP.lt
      replace bQ := bQ.below hst bQ.lt
      clear pQ0 pQ1 lQ
      have pQ0 := bQ.cell 0
      have pQ1 := bQ.cell 1
      have lQ := bQ.lt
      replace bR := bR.below hst bR.lt
      clear pR0 pR1 lR
      have pR0 := bR.cell 0
      have pR1 := bR.cell 1
      have lR := bR.lt
      replace HL := hid (HL.out.below hst hst.size)
      replace H1 := hid (H1.out.below hst hst.size)
      replace H2 := hid (H2.out.below hst hst.size)
      replace H3 := hid (H3.out.below hst hst.size)
      replace H4 := hid (H4.out.below hst hst.size)
      replace HS := hid (HS.out.below hst hst.size)
      clear hb hst
      try clear hWb
      obtain ⟨W0, rfl⟩ : ∃ W0 : World, W0 = W1 := ⟨_, rfl⟩
      go_wp2_with (fail)
      refine (sameB_any A4 A2 C.length c4 C.length c2 C C J J _ (H4.out.below (by repeat' (first | with_reducible assumption | with_reducible exact Below.refl _ _ | refine Below.alloc ?_ ?_ _ | refine Below.setCell ?_ ?_ _ | refine Below.drew ?_ | refine below_drewN ?_ _ | (simp; done) | (simp; omega) | omega)) (by first | (simp; done) | (simp; omega) | omega)) (H2.out.below (by repeat' (first | with_reducible assumption | with_reducible exact Below.refl _ _ | refine Below.alloc ?_ ?_ _ | refine Below.setCell ?_ ?_ _ | refine Below.drew ?_ | refine below_drewN ?_ _ | (simp; done) | (simp; omega) | omega)) (by first | (simp; done) | (simp; omega) | omega)) KC.out (by omega)).mono ?_
      rw [E2.out, decide_eq_true (rfl : (J : Int) = J), Bool.and_self]
      rintro e W1 ⟨rfl, hb⟩
      have hst : Below W0.heap.size W0 W1 := Below.trans (by repeat' (first | with_reducible assumption | with_reducible exact Below.refl _ _ | refine Below.alloc ?_ ?_ _ | refine Below.setCell ?_ ?_ _ | refine Below.drew ?_ | refine below_drewN ?_ _ | (simp; done) | (simp; omega) | omega)) (hb.mono (by first | (simp; done) | (simp; omega) | omega))
      replace hbel := hbel.trans (hst.mono hsz)
      replace hsz := hbel.size
      replace bB := bB.below hst bB.lt
      clear pB0 pB1 lB
      have pB0 := bB.cell 0
      have pB1 := bB.cell 1
      have lB := bB.lt
      replace bP := bP.below hst bP.lt
      clear pP0 pP1 lP
      have pP0 := bP.cell 0
      have pP1 := bP.cell 1
      have lP := bP.lt
      replace bQ := bQ.below hst bQ.lt
      clear pQ0 pQ1 lQ
      have pQ0 := bQ.cell 0
      have pQ1 := bQ.cell 1
      have lQ := bQ.lt
      replace bR := bR.below hst bR.lt
      clear pR0 pR1 lR
      have pR0 := bR.cell 0
      have pR1 := bR.cell 1
      have lR := bR.lt
      replace HL := hid (HL.out.below hst hst.size)
      replace H1 := hid (H1.out.below hst hst.size)
      replace H2 := hid (H2.out.below hst hst.size)
      replace H3 := hid (H3.out.below hst hst.size)
      replace H4 := hid (H4.out.below hst hst.size)
      replace HS := hid (HS.out.below hst hst.size)
      clear hb hst
      try clear hWb
      obtain ⟨W0, rfl⟩ : ∃ W0 : World, W0 = W1 := ⟨_, rfl⟩
      go_wp2_with (fail)
      refine (rholds_any A AS n c s.length cS ls s _ (HL.out.below (by repeat' (first | with_reducible assumption | with_reducible exact Below.refl _ _ | refine Below.alloc ?_ ?_ _ | refine Below.setCell ?_ ?_ _ | refine Below.drew ?_ | refine below_drewN ?_ _ | (simp; done) | (simp; omega) | omega)) (by first | (simp; done) | (simp; omega) | omega)) (HS.out.below (by repeat' (first | with_reducible assumption | with_reducible exact Below.refl _ _ | refine Below.alloc ?_ ?_ _ | refine Below.setCell ?_ ?_ _ | refine Below.drew ?_ | refine below_drewN ?_ _ | (simp; done) | (simp; omega) | omega)) (by first | (simp; done) | (simp; omega) | omega)) (by omega) Hv8.out hs80.out).mono ?_
      rw [Hhd.out]
      rintro e W1 ⟨rfl, hb⟩
      have hst : Below W0.heap.size W0 W1 := Below.trans (by repeat' (first | with_reducible assumption | with_reducible exact Below.refl _ _ | refine Below.alloc ?_ ?_ _ | refine Below.setCell ?_ ?_ _ | refine Below.drew ?_ | refine below_drewN ?_ _ | (simp; done) | (simp; omega) | omega)) (hb.mono (by first | (simp; done) | (simp; omega) | omega))
      replace hbel := hbel.trans (hst.mono hsz)
      replace hsz := hbel.size
      replace bB := bB.below hst bB.lt
      clear pB0 pB1 lB
      have pB0 := bB.cell 0
      have pB1 := bB.cell 1
      have lB := bB.lt
      replace bP := bP.below hst bP.lt
      clear pP0 pP1 lP
      have pP0 := bP.cell 0
      have pP1 := bP.cell 1
      have lP := bP.lt
      replace bQ := bQ.below hst bQ.lt
      clear pQ0 pQ1 lQ
      have pQ0 := bQ.cell 0
      have pQ1 := bQ.cell 1
      have lQ := bQ.lt
      replace bR := bR.below hst bR.lt
      clear pR0 pR1 lR
      have pR0 := bR.cell 0
      have pR1 := bR.cell 1
      have lR := bR.lt
      replace HL := hid (HL.out.below hst hst.size)
      replace H1 := hid (H1.out.below hst hst.size)
      replace H2 := hid (H2.out.below hst hst.size)
      replace H3 := hid (H3.out.below hst hst.size)
      replace H4 := hid (H4.out.below hst hst.size)
      replace HS := hid (HS.out.below hst hst.size)
      clear hb hst
      try clear hWb
      obtain ⟨W0, rfl⟩ : ∃ W0 : World, W0 = W1 := ⟨_, rfl⟩
      go_wp2_with (fail)
      refine (works_any _).mono ?_
      rintro e W1 ⟨rfl, hb⟩
      have hst : Below W0.heap.size W0 W1 := Below.trans (by repeat' (first | with_reducible assumption | with_reducible exact Below.refl _ _ | refine Below.alloc ?_ ?_ _ | refine Below.setCell ?_ ?_ _ | refine Below.drew ?_ | refine below_drewN ?_ _ | (simp; done) | (simp; omega) | omega)) (hb.mono (by first | (simp; done) | (simp; omega) | omega))
      replace hbel := hbel.trans (hst.mono hsz)
      replace hsz := hbel.size
      replace bB := bB.below hst bB.lt
      clear pB0 pB1 lB
      have pB0 := bB.cell 0
      have pB1 := bB.cell 1
      have lB := bB.lt
      replace bP := bP.below hst bP.lt
      clear pP0 pP1 lP
      have pP0 := bP.cell 0
      have pP1 := bP.cell 1
      have lP := bP.lt
      replace bQ := bQ.below hst bQ.lt
      clear pQ0 pQ1 lQ
      have pQ0 := bQ.cell 0
      have pQ1 := bQ.cell 1
      have lQ := bQ.lt
      replace bR := bR.below hst bR.lt
      clear pR0 pR1 lR
      have pR0 := bR.cell 0
      have pR1 := bR.cell 1
      have lR := bR.lt
      replace HL := hid (HL.out.below hst hst.size)
      replace H1 := hid (H1.out.below hst hst.size)
      replace H2 := hid (H2.out.below hst hst.size)
      replace H3 := hid (H3.out.below hst hst.size)
      replace H4 := hid (H4.out.below hst hst.size)
      replace HS := hid (HS.out.below hst hst.size)
      clear hb hst
      try clear hWb
      obtain ⟨W0, rfl⟩ : ∃ W0 : World, W0 = W1 := ⟨_, rfl⟩
      go_wp2
      go_ret
      exact ⟨rfl, hbel⟩
    · have hck : chkBook J L ≠ 0 := fun e => hm (by obtain ⟨-, -, -, -, -, h, -⟩ := book_nat e; exact h)
      have hfd : Hid (fineB J L = false) := hid (by rw [Bool.eq_false_iff]; intro e; exact hck (fineB_t.1 e).2)
      have hmi : (10 : Int) < (L.length : Int) := by omega
      clear hck hm
      go_wp2_with (fail)
      refine (fine_any A1 L.length c1 L J _ (H1.out.below (by repeat' (first | with_reducible assumption | with_reducible exact Below.refl _ _ | refine Below.alloc ?_ ?_ _ | refine Below.setCell ?_ ?_ _ | refine Below.drew ?_ | refine below_drewN ?_ _ | (simp; done) | (simp; omega) | omega)) (by first | (simp; done) | (simp; omega) | omega))).mono ?_
      rw [hfd.out]
      rintro e W1 ⟨rfl, hb⟩
      have hst : Below W0.heap.size W0 W1 := Below.trans (by repeat' (first | with_reducible assumption | with_reducible exact Below.refl _ _ | refine Below.alloc ?_ ?_ _ | refine Below.setCell ?_ ?_ _ | refine Below.drew ?_ | refine below_drewN ?_ _ | (simp; done) | (simp; omega) | omega)) (hb.mono (by first | (simp; done) | (simp; omega) | omega))
      replace hbel := hbel.trans (hst.mono hsz)
      replace hsz := hbel.size
      replace bB := bB.below hst bB.lt
      clear pB0 pB1 lB
      have pB0 := bB.cell 0
      have pB1 := bB.cell 1
      have lB := bB.lt
      replace bP := bP.below hst bP.lt
      clear pP0 pP1 lP
      have pP0 := bP.cell 0
      have pP1 := bP.cell 1
      have lP := bP.lt
      replace bQ := bQ.below hst bQ.lt
      clear pQ0 pQ1 lQ
      have pQ0 := bQ.cell 0
      have pQ1 := bQ.cell 1
      have lQ := bQ.lt
      replace HL := hid (HL.out.below hst hst.size)
      replace H1 := hid (H1.out.below hst hst.size)
      replace H2 := hid (H2.out.below hst hst.size)
      replace H3 := hid (H3.out.below hst hst.size)
      clear hb hst
      try clear hWb
      obtain ⟨W0, rfl⟩ : ∃ W0 : World, W0 = W1 := ⟨_, rfl⟩
      go_wp2_with (fail)
      refine (works_any _).mono ?_
      rintro e W1 ⟨rfl, hb⟩
      have hst : Below W0.heap.size W0 W1 := Below.trans (by repeat' (first | with_reducible assumption | with_reducible exact Below.refl _ _ | refine Below.alloc ?_ ?_ _ | refine Below.setCell ?_ ?_ _ | refine Below.drew ?_ | refine below_drewN ?_ _ | (simp; done) | (simp; omega) | omega)) (hb.mono (by first | (simp; done) | (simp; omega) | omega))
      replace hbel := hbel.trans (hst.mono hsz)
      replace hsz := hbel.size
      replace bB := bB.below hst bB.lt
      clear pB0 pB1 lB
      have pB0 := bB.cell 0
      have pB1 := bB.cell 1
      have lB := bB.lt
      replace bP := bP.below hst bP.lt
      clear pP0 pP1 lP
      have pP0 := bP.cell 0
      have pP1 := bP.cell 1
      have lP := bP.lt
      replace bQ := bQ.below hst bQ.lt
      clear pQ0 pQ1 lQ
      have pQ0 := bQ.cell 0
      have pQ1 := bQ.cell 1
      have lQ := bQ.lt
      replace HL := hid (HL.out.below hst hst.size)
      replace H1 := hid (H1.out.below hst hst.size)
      replace H2 := hid (H2.out.below hst hst.size)
      replace H3 := hid (H3.out.below hst hst.size)
      clear hb hst
      try clear hWb
      obtain ⟨W0, rfl⟩ : ∃ W0 : World, W0 = W1 := ⟨_, rfl⟩
      go_wp2
      go_ret
      exact ⟨rfl, hbel⟩

section
open Go.ChangeShapes Go.WideShapes Go.ChangeAt Go.RowKit
set_option maxRecDepth 100000 in
theorem blameDual_lifted (os : Os) (started : os.Started) (H : Type) (enc : TypeId × Value → H) :
    ReturnsInHanded {} Tryz.checked os 9 .any (Rows.blameDualSpec.pre6 enc Tryz.prog Tryz.f9 Rows.blameDualRow.domain false) (Rows.blameDualSpec.post enc Tryz.prog Tryz.f9 false true false false) := by
  refine returnsInHanded_of_change (C := Tryz.checked) ownKx started (by kernel_rfl) Tryz.func9
    (ChangeSpec.witness6 (enc := enc) (C := Tryz.checked) false ⟨#[], #[.agg #[.int .i64 0, .slice none 0 0], .int .u8 0], []⟩ 8 (by kernel_rfl) (by kernel_rfl) (by kernel_rfl) (by kernel_rfl)) ?_
  intro W base args ds gs before hval0 hW hcnd _
  have hval : ∀ (j : Nat) t v, Tryz.f9.params[j]? = some t → args[j]? = some v → Value.okWide Tryz.prog W .any base t v := hval0
  have hW' := hW
  obtain ⟨p, q, hA0, hV, rfl, hfz, hnd⟩ := hW
  have hA : DataW.TrodAll enc Tryz.prog W 0 (fun _ => true) true Tryz.f9.params.toList args.toList ds p := hA0
  have hlt : ∀ x ∈ p, x.block < W.heap.size := fun x hx => hW'.lt x (List.mem_append_left _ hx)
  have hAll : ∀ W', Below W.heap.size W W' → DataW.TrodAll enc Tryz.prog W' 0 (fun b => decide (b < W.heap.size)) true Tryz.f9.params.toList args.toList ds p := fun W' hb => all_below laidOut hb (readable_of (by kernel_rfl)) hlt hA
  rw [Tryz.params9] at hA hval
  obtain ⟨v0, v1, d0, d1, p0, p1, rfl, rfl, rfl, h0, h1⟩ := trodAll_two hA
  obtain ⟨rfl, rfl⟩ := trodVars_none hV
  clear hA0 hval0
  obtain ⟨I0, A0, n0, c0, rfl, wI0, hc0, hN0, l0, hl0, hr0⟩ := open_book (hval 0 24 v0 rfl rfl) h0
  obtain ⟨x1, rfl, rfl, rfl, wx1⟩ := open_int Tryz.underlying5 (hval 1 5 v1 rfl rfl) h1
  obtain ⟨y1, rfl⟩ : ∃ y : Nat, x1 = y := ⟨x1.toNat, (Int.toNat_of_nonneg (u8_bd wx1).1).symm⟩
  refine (blameDual_walk W I0 A0 n0 c0 l0 y1 hr0 (by have := u8_bd wx1; omega)).mono fun e W' ⟨he, hb⟩ => ?_
  subst he
  exact ⟨_, rfl, ⟨_, _, _, [], _, [], hW', trodAll_cons_mk (shut_bool Tryz.underlying4 _) trodAll_mk0, hAll W' hb, rfl, hb.frame _, fun h => by cases h⟩⟩
/-- The law: whatever the input, it returns true, and the input reads as it did. -/
theorem blameDual_holds : Rows.BlameDualSaid :=
  OpenClaim.holds_of_wide 9 Tryz.f9 rfl rfl rfl rfl rfl rfl rfl ⟨rfl, rfl, rfl, rfl, rfl⟩ rfl rfl rfl rfl rfl (by kernel_rfl) Tryz.func9 (by kernel_rfl)
    (of_decide_eq_true (by kernel_rfl)) (by unfold Func.isWrapper; first | (rw [if_pos (by decide +kernel)]; kernel_rfl) | (rw [if_neg (by decide +kernel)]; exact ⟨rfl, rfl⟩))
    (fun os started H enc _ => blameDual_lifted os started H enc)
end
end Go.Proofs.YtnpilfpackdimaaGreat

