/- The statement BlameCore holds: whatever the arguments, the law returns true and leaves its arguments as they were. -/
import Derived.Test.YtnpilfpackdimaaGreatMl
set_option linter.unusedSimpArgs false
set_option linter.unusedVariables false
namespace Go.Proofs.YtnpilfpackdimaaGreat
open Go.RowKit Go.Shelf
attribute [local go_sem] Oper.semAt_some
set_option maxRecDepth 100000 in
set_option maxHeartbeats 40000000 in
theorem blameCore_walk (w : World) (I : Int) (A : Option Addr) (n c : Nat) (ls : List (List Int)) (b : Nat) (hl : LiS w w.heap.size A n ls) (hb : b < 256) :
    Calls Tryz.prog 10 #[.agg #[.int .i64 I, .slice A n c], .int .u8 (b : Int)] w fun e w' => e = .returned (.bool true) ∧ Below w.heap.size w w' := by
  have la := hid hl.1
  cases hf : fineB I ls
  · have Hf := hid hf
    clear hf
    obtain ⟨W0, hWb⟩ : ∃ W0, (w).alloc (.cells #[.int .i64 I, .slice A n c] 24) = W0 := ⟨_, rfl⟩
    have hbel : Below w.heap.size w W0 := by rw [← hWb]; exact (by repeat' (first | with_reducible assumption | with_reducible exact Below.refl _ _ | refine Below.alloc ?_ ?_ _ | refine Below.setCell ?_ ?_ _ | refine Below.drew ?_ | refine below_drewN ?_ _ | (simp; done) | (simp; omega) | omega))
    have hsz := hbel.size
    have bB : Blk W0 (w.heap.size) 24 #[.int .i64 I, .slice A n c] := by rw [← hWb]; exact Blk.new' rfl
    have pB0 := bB.cell 0
    have pB1 := bB.cell 1
    have lB := bB.lt
    have HL := hid (hl.below hbel hsz)
    clear hl
    go_enter Tryz.func10, Tryz.ntmps10
    go_wp2_with (fail)
    refine (fine_any A n c ls I _ (HL.out.below (by repeat' (first | with_reducible assumption | with_reducible exact Below.refl _ _ | refine Below.alloc ?_ ?_ _ | refine Below.setCell ?_ ?_ _ | refine Below.drew ?_ | refine below_drewN ?_ _ | (simp; done) | (simp; omega) | omega)) (by first | (simp; done) | (simp; omega) | omega))).mono ?_
    rw [Hf.out]
    rintro e W1 ⟨rfl, hb⟩
    have hst : Below W0.heap.size W0 W1 := Below.trans (by repeat' (first | with_reducible assumption | with_reducible exact Below.refl _ _ | refine Below.alloc ?_ ?_ _ | refine Below.setCell ?_ ?_ _ | refine Below.drew ?_ | refine below_drewN ?_ _ | (simp; done) | (simp; omega) | omega)) (hb.mono (by first | (simp; done) | (simp; omega) | omega))
    replace hbel := hbel.trans (hst.mono hsz)
    replace hsz := hbel.size
    replace bB := bB.below hst bB.lt
    clear pB0 pB1 lB
    have pB0 := bB.cell 0
    have pB1 := bB.cell 1
    have lB := bB.lt
    replace HL := hid (HL.out.below hst hst.size)
    clear hb hst
    try clear hWb
    obtain ⟨W0, rfl⟩ : ∃ W0 : World, W0 = W1 := ⟨_, rfl⟩
    go_wp2_with (fail)
    refine (works_any _).mono ?_
    rintro e W1 ⟨rfl, hb⟩
    have hst : Below W0.heap.size W0 W1 := Below.trans (by repeat' (first | with_reducible assumption | with_reducible exact Below.refl _ _ | refine Below.alloc ?_ ?_ _ | refine Below.setCell ?_ ?_ _ | refine Below.drew ?_ | refine below_drewN ?_ _ | (simp; done) | (simp; omega) | omega)) (hb.mono (by first | (simp; done) | (simp; omega) | omega))
    replace hbel := hbel.trans (hst.mono hsz)
    replace hsz := hbel.size
    replace bB := bB.below hst bB.lt
    clear pB0 pB1 lB
    have pB0 := bB.cell 0
    have pB1 := bB.cell 1
    have lB := bB.lt
    replace HL := hid (HL.out.below hst hst.size)
    clear hb hst
    try clear hWb
    obtain ⟨W0, rfl⟩ : ∃ W0 : World, W0 = W1 := ⟨_, rfl⟩
    go_wp2
    go_ret
    exact ⟨rfl, hbel⟩
  · obtain ⟨hg, hchk⟩ := fineB_t.1 hf
    obtain ⟨J, rfl, -, hJ1, hJ8, hln, hv, hv8⟩ := book_nat hchk
    have Hf := hid hf
    have Hc := hid hchk
    have hn : n ≤ 10 := by rw [← la.out]; exact hln
    have K2 : Hid (∀ l ∈ ls, l.length ≤ 1000000) := hid (fun l h => by have := isL_len8 (hv8 l h) (by omega); omega)
    have Hv := hid hv
    have Hv8 := hid hv8
    have Hla := hid hln
    obtain ⟨s, hs⟩ : ∃ s, listed b J = s := ⟨_, rfl⟩
    have hsl : isL (J : Int) 0 s = true := by rw [← hs]; exact isL_listed' _ _
    have hal := alL_eq hchk
    rw [Int.toNat_natCast] at hal
    have hak := hid (alK_true hchk)
    have hcz : ¬ (chkBook (J : Int) ls ≠ 0) := fun e => e hchk
    have hcv : coreV J ls = leastL ls := by unfold coreV; rw [if_neg hcz]
    have hci : coreI J ls = J := by unfold coreI; rw [if_neg hcz]
    obtain ⟨cf1, cf2, cf3, cf4, cf5, cf6, cf7, cf8⟩ := core_facts hchk
    have cz : ¬ (chkBook (J : Int) (leastL ls) ≠ 0) := fun e => e cf1
    have hcv2 : coreV J (leastL ls) = leastL ls := by unfold coreV; rw [if_neg cz, cf4]
    have hci2 : coreI J (leastL ls) = J := by unfold coreI; rw [if_neg cz]
    have hal2 := alL_eq cf1
    rw [Int.toNat_natCast, cf3] at hal2
    have hak2 := hid (alK_true cf1)
    have hap : S0 ls 0 = false → (aprV J (leastL ls)).length = (aprV J ls).length := core_apart hchk
    have hfu := full_hit hv hJ8
    have hms : decide (missI ls (2 ^ J - 1) < 0) = !S0 ls 0 := by rw [miss_dec, hfu]
    have hl70 := allR_len70 hJ8 hv
    have hL8 := allR_isL8 hJ8 hv
    have cfb := cf8 s hsl
    have hfc := fineB_t.2 ⟨cf2, cf1⟩
    obtain ⟨C, hC⟩ : ∃ v, leastL ls = v := ⟨_, rfl⟩
    rw [hC] at hcv cf1 cf2 cf5 cf6 cf7 cfb hcv2 hci2 hal2 hak2 hap hfc
    obtain ⟨L, hL⟩ : ∃ v, allR J ls = v := ⟨_, rfl⟩
    rw [hL] at hal hal2 hl70 hL8
    obtain ⟨e3, he3⟩ : ∃ v, blmE J ls s = v := ⟨_, rfl⟩
    obtain ⟨m3, hm3⟩ : ∃ v, blmV J ls s = v := ⟨_, rfl⟩
    obtain ⟨m4, hm4⟩ : ∃ v, blmV J C s = v := ⟨_, rfl⟩
    rw [he3] at cfb
    obtain ⟨aV, haV⟩ : ∃ v, aprV J ls = v := ⟨_, rfl⟩
    obtain ⟨cV, hcV⟩ : ∃ v, aprV J C = v := ⟨_, rfl⟩
    rw [haV, hcV] at hap
    obtain ⟨mi, hmi⟩ : ∃ v, missI ls (2 ^ J - 1) = v := ⟨_, rfl⟩
    rw [hmi] at hms
    obtain ⟨z0, hz0⟩ : ∃ v, S0 ls 0 = v := ⟨_, rfl⟩
    rw [hz0] at hms hap
    have hs8 : s.length ≤ 8 := by rw [← hs]; exact Nat.le_trans (listed_len _ _) hJ8
    have E1 : Hid (eqLs L L = true) := hid (eqLs_t.2 rfl)
    have E2 : Hid (eqLs C C = true) := hid (eqLs_t.2 rfl)
    have KL : Hid (∀ l ∈ L, l.length ≤ 1000000) := hid (fun l h => by have := isL_len8 (hL8 l h) (by omega); omega)
    have KC : Hid (∀ l ∈ C, l.length ≤ 1000000) := hid (fun l h => by have := isL_len8 (cf7 l h) (by omega); omega)
    have hJJ : ((J : Int) != (J : Int)) = false := by simp
    have hpw := pow_wrap J (by omega)
    have hp1 : 1 ≤ 2 ^ J := Nat.one_le_two_pow
    have hp2 : 2 ^ J ≤ 256 := Nat.le_trans (Nat.pow_le_pow_right (by decide) hJ8) (by decide)
    have hJ64 : (J : Int) < 64 := by omega
    have hJ0 : (0 : Int) ≤ J := by omega
    have Hal := hid hal
    have Hcv := hid hcv
    have Hci := hid hci
    have Hcv2 := hid hcv2
    have Hci2 := hid hci2
    have Hal2 := hid hal2
    have Hs := hid hs
    have He3 := hid he3
    have Hm3 := hid hm3
    have Hm4 := hid hm4
    have HaV := hid haV
    have HcV := hid hcV
    have Hmi := hid hmi
    have Hap := hid hap
    have Hms := hid hms
    have Hfc := hid hfc
    have Hpw := hid hpw
    have C1 := hid cf1
    have C5 := hid cf5
    have C7 := hid cf7
    have Cb := hid cfb
    have C2 := hid cf2
    obtain ⟨P2, hP2⟩ : ∃ v, 2 ^ J = v := ⟨_, rfl⟩
    have HP2 := hid hP2
    rw [hP2] at hp1 hp2 Hmi Hpw
    obtain ⟨Q2, hQ2⟩ : ∃ q, P2 - 1 = q := ⟨_, rfl⟩
    rw [hQ2] at Hmi
    have HQ : Hid (P2 = Q2 + 1) := hid (by omega)
    clear hQ2
    clear hal hcv hci hcv2 hci2 hal2 hs he3 hm3 hm4 haV hcV hmi hap hms hfc hpw cf1 cf5 cf7 cfb cf2 cf3 cf4 cf8 hcz cz hfu hL8 hsl hC hL hz0 hP2
    clear hf hg hchk hv hv8 hln
    obtain ⟨W0, hWb⟩ : ∃ W0, (w).alloc (.cells #[.int .i64 (J : Int), .slice A n c] 24) = W0 := ⟨_, rfl⟩
    have hbel : Below w.heap.size w W0 := by rw [← hWb]; exact (by repeat' (first | with_reducible assumption | with_reducible exact Below.refl _ _ | refine Below.alloc ?_ ?_ _ | refine Below.setCell ?_ ?_ _ | refine Below.drew ?_ | refine below_drewN ?_ _ | (simp; done) | (simp; omega) | omega))
    have hsz := hbel.size
    have bB : Blk W0 (w.heap.size) 24 #[.int .i64 (J : Int), .slice A n c] := by rw [← hWb]; exact Blk.new' rfl
    have pB0 := bB.cell 0
    have pB1 := bB.cell 1
    have lB := bB.lt
    have HL := hid (hl.below hbel hsz)
    clear hl
    go_enter Tryz.func10, Tryz.ntmps10
    go_wp2_with (fail)
    refine (fine_any A n c ls J _ (HL.out.below (by repeat' (first | with_reducible assumption | with_reducible exact Below.refl _ _ | refine Below.alloc ?_ ?_ _ | refine Below.setCell ?_ ?_ _ | refine Below.drew ?_ | refine below_drewN ?_ _ | (simp; done) | (simp; omega) | omega)) (by first | (simp; done) | (simp; omega) | omega))).mono ?_
    rw [Hf.out]
    rintro e W1 ⟨rfl, hb⟩
    have hst : Below W0.heap.size W0 W1 := Below.trans (by repeat' (first | with_reducible assumption | with_reducible exact Below.refl _ _ | refine Below.alloc ?_ ?_ _ | refine Below.setCell ?_ ?_ _ | refine Below.drew ?_ | refine below_drewN ?_ _ | (simp; done) | (simp; omega) | omega)) (hb.mono (by first | (simp; done) | (simp; omega) | omega))
    replace hbel := hbel.trans (hst.mono hsz)
    replace hsz := hbel.size
    replace bB := bB.below hst bB.lt
    clear pB0 pB1 lB
    have pB0 := bB.cell 0
    have pB1 := bB.cell 1
    have lB := bB.lt
    replace HL := hid (HL.out.below hst hst.size)
    clear hb hst
    try clear hWb
    obtain ⟨W0, rfl⟩ : ∃ W0 : World, W0 = W1 := ⟨_, rfl⟩
    go_wp2_with (fail)
    refine (core_any A n c ls J _ (HL.out.below (by repeat' (first | with_reducible assumption | with_reducible exact Below.refl _ _ | refine Below.alloc ?_ ?_ _ | refine Below.setCell ?_ ?_ _ | refine Below.drew ?_ | refine below_drewN ?_ _ | (simp; done) | (simp; omega) | omega)) (by first | (simp; done) | (simp; omega) | omega)) (by omega) K2.out).mono ?_
    rw [Hcv.out, Hci.out, Hc.out]
    rintro e W1 ⟨A1, m1, c1, rfl, h, hb⟩
    have hst : Below W0.heap.size W0 W1 := Below.trans (by repeat' (first | with_reducible assumption | with_reducible exact Below.refl _ _ | refine Below.alloc ?_ ?_ _ | refine Below.setCell ?_ ?_ _ | refine Below.drew ?_ | refine below_drewN ?_ _ | (simp; done) | (simp; omega) | omega)) (hb.mono (by first | (simp; done) | (simp; omega) | omega))
    replace hbel := hbel.trans (hst.mono hsz)
    replace hsz := hbel.size
    replace bB := bB.below hst bB.lt
    clear pB0 pB1 lB
    have pB0 := bB.cell 0
    have pB1 := bB.cell 1
    have lB := bB.lt
    replace HL := hid (HL.out.below hst hst.size)
    have H1 := hid h.lis
    clear hb hst
    try clear hWb
    obtain ⟨W0, rfl⟩ : ∃ W0 : World, W0 = W1 := ⟨_, rfl⟩
    clear h
    obtain rfl : C.length = m1 := H1.out.1
    obtain ⟨V, hV⟩ : ∃ V, W0.alloc (.cells #[.int .i64 (J : Int), .slice A1 C.length c1] 24) = V := ⟨_, rfl⟩
    have hst : Below W0.heap.size W0 V := by rw [← hV]; exact (by repeat' (first | with_reducible assumption | with_reducible exact Below.refl _ _ | refine Below.alloc ?_ ?_ _ | refine Below.setCell ?_ ?_ _ | refine Below.drew ?_ | refine below_drewN ?_ _ | (simp; done) | (simp; omega) | omega))
    obtain ⟨TP, hT⟩ : ∃ T, W0.heap.size = T := ⟨_, rfl⟩
    have bP : Blk V TP 24 #[.int .i64 (J : Int), .slice A1 C.length c1] := by rw [← hV, ← hT]; exact Blk.new' rfl
    replace bB := bB.below hst bB.lt
    clear pB0 pB1 lB
    have pB0 := bB.cell 0
    have pB1 := bB.cell 1
    have lB := bB.lt
    have pP0 := bP.cell 0
    have pP1 := bP.cell 1
    have lP := bP.lt
    go_wp2_with (fail)
    clear hV hT
    replace hbel := hbel.trans (hst.mono hsz)
    replace hsz := hbel.size
    replace HL := hid (HL.out.below hst hst.size)
    replace H1 := hid (H1.out.below hst hst.size)
    clear hst
    obtain ⟨W0, rfl⟩ : ∃ W0 : World, W0 = V := ⟨_, rfl⟩
    refine (fine_any A1 C.length c1 C J _ (H1.out.below (by repeat' (first | with_reducible assumption | with_reducible exact Below.refl _ _ | refine Below.alloc ?_ ?_ _ | refine Below.setCell ?_ ?_ _ | refine Below.drew ?_ | refine below_drewN ?_ _ | (simp; done) | (simp; omega) | omega)) (by first | (simp; done) | (simp; omega) | omega))).mono ?_
    rw [Hfc.out]
    rintro e W1 ⟨rfl, hb⟩
    have hst : Below W0.heap.size W0 W1 := Below.trans (by repeat' (first | with_reducible assumption | with_reducible exact Below.refl _ _ | refine Below.alloc ?_ ?_ _ | refine Below.setCell ?_ ?_ _ | refine Below.drew ?_ | refine below_drewN ?_ _ | (simp; done) | (simp; omega) | omega)) (hb.mono (by first | (simp; done) | (simp; omega) | omega))
    replace hbel := hbel.trans (hst.mono hsz)
    replace hsz := hbel.size
    replace bB := bB.below hst bB.lt
    clear pB0 pB1 lB
    have pB0 := bB.cell 0
    have pB1 := bB.cell 1
    have lB := bB.lt
    replace bP := bP.below hst bP.lt
    clear pP0 pP1 lP
    have pP0 := bP.cell 0
    have pP1 := bP.cell 1
    have lP := bP.lt
    replace HL := hid (HL.out.below hst hst.size)
    replace H1 := hid (H1.out.below hst hst.size)
    clear hb hst
    try clear hWb
    obtain ⟨W0, rfl⟩ : ∃ W0 : World, W0 = W1 := ⟨_, rfl⟩
    go_wp2_with (fail)
    obtain ⟨X1, rfl⟩ : ∃ X : World, X = W0 := ⟨_, rfl⟩
    go_loopw [7] (fun i wr => ∃ a : Nat, a ≤ C.length ∧ i = .int .i64 a ∧ Below X1.heap.size X1 wr) (fun i _ => C.length - (intOf i).toNat)
    case atStart => exact ⟨0, by omega, rfl, Below.refl _ _⟩
    case round =>
      obtain ⟨a, ha, rfl, hl1⟩ := hrel
      replace hbel := hbel.trans (hl1.mono hsz)
      replace hsz := hbel.size
      replace bB := bB.below hl1 bB.lt
      clear pB0 pB1 lB
      have pB0 := bB.cell 0
      have pB1 := bB.cell 1
      have lB := bB.lt
      replace bP := bP.below hl1 bP.lt
      clear pP0 pP1 lP
      have pP0 := bP.cell 0
      have pP1 := bP.cell 1
      have lP := bP.lt
      replace HL := hid (HL.out.below hl1 hl1.size)
      replace H1 := hid (H1.out.below hl1 hl1.size)
      obtain ⟨W0, rfl⟩ : ∃ W0 : World, W0 = wr := ⟨_, rfl⟩
      by_cases hlt : a < C.length
      · have hlti : (a : Int) < C.length := by omega
        have hid9 := hid (C5.out a hlt)
        go_wp2_with (fail)
        refine (risIdle_any A1 C.length c1 C J a _ (H1.out.below (by repeat' (first | with_reducible assumption | with_reducible exact Below.refl _ _ | refine Below.alloc ?_ ?_ _ | refine Below.setCell ?_ ?_ _ | refine Below.drew ?_ | refine below_drewN ?_ _ | (simp; done) | (simp; omega) | omega)) (by first | (simp; done) | (simp; omega) | omega)) (by omega) C7.out hlt).mono ?_
        rw [hid9.out]
        rintro e W1 ⟨rfl, hb⟩
        have hst : Below W0.heap.size W0 W1 := Below.trans (by repeat' (first | with_reducible assumption | with_reducible exact Below.refl _ _ | refine Below.alloc ?_ ?_ _ | refine Below.setCell ?_ ?_ _ | refine Below.drew ?_ | refine below_drewN ?_ _ | (simp; done) | (simp; omega) | omega)) (hb.mono (by first | (simp; done) | (simp; omega) | omega))
        replace hbel := hbel.trans (hst.mono hsz)
        replace hsz := hbel.size
        replace hl1 := hl1.trans (hst.mono hl1.size)
        replace bB := bB.below hst bB.lt
        clear pB0 pB1 lB
        have pB0 := bB.cell 0
        have pB1 := bB.cell 1
        have lB := bB.lt
        replace bP := bP.below hst bP.lt
        clear pP0 pP1 lP
        have pP0 := bP.cell 0
        have pP1 := bP.cell 1
        have lP := bP.lt
        replace HL := hid (HL.out.below hst hst.size)
        replace H1 := hid (H1.out.below hst hst.size)
        clear hb hst
        try clear hWb
        obtain ⟨W0, rfl⟩ : ∃ W0 : World, W0 = W1 := ⟨_, rfl⟩
        go_wp2
        exact ⟨⟨a + 1, by omega, by go_num, hl1⟩, by simp [intOf]; omega⟩
      · have hlti : ¬ (a : Int) < C.length := by omega
        clear hlt ha
        go_wp2_with (fail)
        refine (core_any A1 C.length c1 C J _ (H1.out.below (by repeat' (first | with_reducible assumption | with_reducible exact Below.refl _ _ | refine Below.alloc ?_ ?_ _ | refine Below.setCell ?_ ?_ _ | refine Below.drew ?_ | refine below_drewN ?_ _ | (simp; done) | (simp; omega) | omega)) (by first | (simp; done) | (simp; omega) | omega)) (by omega) KC.out).mono ?_
        rw [Hcv2.out, Hci2.out, C1.out]
        rintro e W1 ⟨A2, m2, c2, rfl, h, hb⟩
        have hst : Below W0.heap.size W0 W1 := Below.trans (by repeat' (first | with_reducible assumption | with_reducible exact Below.refl _ _ | refine Below.alloc ?_ ?_ _ | refine Below.setCell ?_ ?_ _ | refine Below.drew ?_ | refine below_drewN ?_ _ | (simp; done) | (simp; omega) | omega)) (hb.mono (by first | (simp; done) | (simp; omega) | omega))
        replace hbel := hbel.trans (hst.mono hsz)
        replace hsz := hbel.size
        replace hl1 := hl1.trans (hst.mono hl1.size)
        replace bB := bB.below hst bB.lt
        clear pB0 pB1 lB
        have pB0 := bB.cell 0
        have pB1 := bB.cell 1
        have lB := bB.lt
        replace bP := bP.below hst bP.lt
        clear pP0 pP1 lP
        have pP0 := bP.cell 0
        have pP1 := bP.cell 1
        have lP := bP.lt
        replace HL := hid (HL.out.below hst hst.size)
        replace H1 := hid (H1.out.below hst hst.size)
        have H2 := hid h.lis
        clear hb hst
        try clear hWb
        obtain ⟨W0, rfl⟩ : ∃ W0 : World, W0 = W1 := ⟨_, rfl⟩
        clear h
        have hm2 : m2 ≤ 10 := by have := H2.out.1; omega
        obtain ⟨V, hV⟩ : ∃ V, W0.alloc (.cells #[.int .i64 (J : Int), .slice A2 m2 c2] 24) = V := ⟨_, rfl⟩
        have hst : Below W0.heap.size W0 V := by rw [← hV]; exact (by repeat' (first | with_reducible assumption | with_reducible exact Below.refl _ _ | refine Below.alloc ?_ ?_ _ | refine Below.setCell ?_ ?_ _ | refine Below.drew ?_ | refine below_drewN ?_ _ | (simp; done) | (simp; omega) | omega))
        obtain ⟨TQ, hT⟩ : ∃ T, W0.heap.size = T := ⟨_, rfl⟩
        have bQ : Blk V TQ 24 #[.int .i64 (J : Int), .slice A2 m2 c2] := by rw [← hV, ← hT]; exact Blk.new' rfl
        replace bB := bB.below hst bB.lt
        clear pB0 pB1 lB
        have pB0 := bB.cell 0
        have pB1 := bB.cell 1
        have lB := bB.lt
        replace bP := bP.below hst bP.lt
        clear pP0 pP1 lP
        have pP0 := bP.cell 0
        have pP1 := bP.cell 1
        have lP := bP.lt
        have pQ0 := bQ.cell 0
        have pQ1 := bQ.cell 1
        have lQ := bQ.lt
        go_wp2_with (fail)
        clear hV hT
        replace hbel := hbel.trans (hst.mono hsz)
        replace hsz := hbel.size
        replace hl1 := hl1.trans (hst.mono hl1.size)
        replace HL := hid (HL.out.below hst hst.size)
        replace H1 := hid (H1.out.below hst hst.size)
        replace H2 := hid (H2.out.below hst hst.size)
        clear hst
        obtain ⟨W0, rfl⟩ : ∃ W0 : World, W0 = V := ⟨_, rfl⟩
        refine (allL_any A n c ls J _ (HL.out.below (by repeat' (first | with_reducible assumption | with_reducible exact Below.refl _ _ | refine Below.alloc ?_ ?_ _ | refine Below.setCell ?_ ?_ _ | refine Below.drew ?_ | refine below_drewN ?_ _ | (simp; done) | (simp; omega) | omega)) (by first | (simp; done) | (simp; omega) | omega)) (by omega) K2.out).mono ?_
        rw [hak.out, Hal.out]
        rintro e W1 ⟨A3, m3l, c3, rfl, h, hb⟩
        have hst : Below W0.heap.size W0 W1 := Below.trans (by repeat' (first | with_reducible assumption | with_reducible exact Below.refl _ _ | refine Below.alloc ?_ ?_ _ | refine Below.setCell ?_ ?_ _ | refine Below.drew ?_ | refine below_drewN ?_ _ | (simp; done) | (simp; omega) | omega)) (hb.mono (by first | (simp; done) | (simp; omega) | omega))
        replace hbel := hbel.trans (hst.mono hsz)
        replace hsz := hbel.size
        replace hl1 := hl1.trans (hst.mono hl1.size)
        replace bB := bB.below hst bB.lt
        clear pB0 pB1 lB
        have pB0 := bB.cell 0
        have pB1 := bB.cell 1
        have lB := bB.lt
        replace bP := bP.below hst bP.lt
        clear pP0 pP1 lP
        have pP0 := bP.cell 0
        have pP1 := bP.cell 1
        have lP := bP.lt
        replace bQ := bQ.below hst bQ.lt
        clear pQ0 pQ1 lQ
        have pQ0 := bQ.cell 0
        have pQ1 := bQ.cell 1
        have lQ := bQ.lt
        replace HL := hid (HL.out.below hst hst.size)
        replace H1 := hid (H1.out.below hst hst.size)
        replace H2 := hid (H2.out.below hst hst.size)
        have H3 := hid h
        clear h
        clear hb hst
        try clear hWb
        obtain ⟨W0, rfl⟩ : ∃ W0 : World, W0 = W1 := ⟨_, rfl⟩
        go_wp2_with (fail)
        refine (allL_any A1 C.length c1 C J _ (H1.out.below (by repeat' (first | with_reducible assumption | with_reducible exact Below.refl _ _ | refine Below.alloc ?_ ?_ _ | refine Below.setCell ?_ ?_ _ | refine Below.drew ?_ | refine below_drewN ?_ _ | (simp; done) | (simp; omega) | omega)) (by first | (simp; done) | (simp; omega) | omega)) (by omega) KC.out).mono ?_
        rw [hak2.out, Hal2.out]
        rintro e W1 ⟨A4, m4l, c4, rfl, h, hb⟩
        have hst : Below W0.heap.size W0 W1 := Below.trans (by repeat' (first | with_reducible assumption | with_reducible exact Below.refl _ _ | refine Below.alloc ?_ ?_ _ | refine Below.setCell ?_ ?_ _ | refine Below.drew ?_ | refine below_drewN ?_ _ | (simp; done) | (simp; omega) | omega)) (hb.mono (by first | (simp; done) | (simp; omega) | omega))
        replace hbel := hbel.trans (hst.mono hsz)
        replace hsz := hbel.size
        replace hl1 := hl1.trans (hst.mono hl1.size)
        replace bB := bB.below hst bB.lt
        clear pB0 pB1 lB
        have pB0 := bB.cell 0
        have pB1 := bB.cell 1
        have lB := bB.lt
        replace bP := bP.below hst bP.lt
        clear pP0 pP1 lP
        have pP0 := bP.cell 0
        have pP1 := bP.cell 1
        have lP := bP.lt
        replace bQ := bQ.below hst bQ.lt
        clear pQ0 pQ1 lQ
        have pQ0 := bQ.cell 0
        have pQ1 := bQ.cell 1
        have lQ := bQ.lt
        replace HL := hid (HL.out.below hst hst.size)
        replace H1 := hid (H1.out.below hst hst.size)
        replace H2 := hid (H2.out.below hst hst.size)
        replace H3 := hid (H3.out.below hst hst.size)
        have H4 := hid h
        clear h
        clear hb hst
        try clear hWb
        obtain ⟨W0, rfl⟩ : ∃ W0 : World, W0 = W1 := ⟨_, rfl⟩
        have hm3 : m3l ≤ 100 := by have := H3.out.1; omega
        go_wp2_with (fail)
        refine (apartF_any A n c ls J _ (HL.out.below (by repeat' (first | with_reducible assumption | with_reducible exact Below.refl _ _ | refine Below.alloc ?_ ?_ _ | refine Below.setCell ?_ ?_ _ | refine Below.drew ?_ | refine below_drewN ?_ _ | (simp; done) | (simp; omega) | omega)) (by first | (simp; done) | (simp; omega) | omega)) (by omega) K2.out).mono ?_
        rw [HaV.out, Hc.out]
        rintro e W1 ⟨A5, m5, rfl, h, hb⟩
        have hst : Below W0.heap.size W0 W1 := Below.trans (by repeat' (first | with_reducible assumption | with_reducible exact Below.refl _ _ | refine Below.alloc ?_ ?_ _ | refine Below.setCell ?_ ?_ _ | refine Below.drew ?_ | refine below_drewN ?_ _ | (simp; done) | (simp; omega) | omega)) (hb.mono (by first | (simp; done) | (simp; omega) | omega))
        replace hbel := hbel.trans (hst.mono hsz)
        replace hsz := hbel.size
        replace hl1 := hl1.trans (hst.mono hl1.size)
        replace bB := bB.below hst bB.lt
        clear pB0 pB1 lB
        have pB0 := bB.cell 0
        have pB1 := bB.cell 1
        have lB := bB.lt
        replace bP := bP.below hst bP.lt
        clear pP0 pP1 lP
        have pP0 := bP.cell 0
        have pP1 := bP.cell 1
        have lP := bP.lt
        replace bQ := bQ.below hst bQ.lt
        clear pQ0 pQ1 lQ
        have pQ0 := bQ.cell 0
        have pQ1 := bQ.cell 1
        have lQ := bQ.lt
        replace HL := hid (HL.out.below hst hst.size)
        replace H1 := hid (H1.out.below hst hst.size)
        replace H2 := hid (H2.out.below hst hst.size)
        replace H3 := hid (H3.out.below hst hst.size)
        replace H4 := hid (H4.out.below hst hst.size)
        have H5 := hid h
        clear h
        clear hb hst
        try clear hWb
        obtain ⟨W0, rfl⟩ : ∃ W0 : World, W0 = W1 := ⟨_, rfl⟩
        obtain rfl : aV.length = m5 := H5.out.len
        go_wp2_with (fail)
        refine (apartF_any A1 C.length c1 C J _ (H1.out.below (by repeat' (first | with_reducible assumption | with_reducible exact Below.refl _ _ | refine Below.alloc ?_ ?_ _ | refine Below.setCell ?_ ?_ _ | refine Below.drew ?_ | refine below_drewN ?_ _ | (simp; done) | (simp; omega) | omega)) (by first | (simp; done) | (simp; omega) | omega)) (by omega) KC.out).mono ?_
        rw [HcV.out, C1.out]
        rintro e W1 ⟨A6, m6, rfl, h, hb⟩
        have hst : Below W0.heap.size W0 W1 := Below.trans (by repeat' (first | with_reducible assumption | with_reducible exact Below.refl _ _ | refine Below.alloc ?_ ?_ _ | refine Below.setCell ?_ ?_ _ | refine Below.drew ?_ | refine below_drewN ?_ _ | (simp; done) | (simp; omega) | omega)) (hb.mono (by first | (simp; done) | (simp; omega) | omega))
        replace hbel := hbel.trans (hst.mono hsz)
        replace hsz := hbel.size
        replace hl1 := hl1.trans (hst.mono hl1.size)
        replace bB := bB.below hst bB.lt
        clear pB0 pB1 lB
        have pB0 := bB.cell 0
        have pB1 := bB.cell 1
        have lB := bB.lt
        replace bP := bP.below hst bP.lt
        clear pP0 pP1 lP
        have pP0 := bP.cell 0
        have pP1 := bP.cell 1
        have lP := bP.lt
        replace bQ := bQ.below hst bQ.lt
        clear pQ0 pQ1 lQ
        have pQ0 := bQ.cell 0
        have pQ1 := bQ.cell 1
        have lQ := bQ.lt
        replace HL := hid (HL.out.below hst hst.size)
        replace H1 := hid (H1.out.below hst hst.size)
        replace H2 := hid (H2.out.below hst hst.size)
        replace H3 := hid (H3.out.below hst hst.size)
        replace H4 := hid (H4.out.below hst hst.size)
        replace H5 := hid (H5.out.below hst hst.size)
        have H6 := hid h
        clear h
        clear hb hst
        try clear hWb
        obtain ⟨W0, rfl⟩ : ∃ W0 : World, W0 = W1 := ⟨_, rfl⟩
        obtain rfl : cV.length = m6 := H6.out.len
        go_wp2_with (fail)
        refine (set_any A n c J b _ (by omega) hb).mono ?_
        rw [Hs.out]
        rintro e W1 ⟨vS, rfl, ho, hb⟩
        obtain ⟨AS, cS, rfl, hs2, hcS, hs4⟩ := own_slb ho
        have hs3 : InS W1 W1.heap.size AS s.length s := hs2
        clear ho hs2 hs4
        have hst : Below W0.heap.size W0 W1 := Below.trans (by repeat' (first | with_reducible assumption | with_reducible exact Below.refl _ _ | refine Below.alloc ?_ ?_ _ | refine Below.setCell ?_ ?_ _ | refine Below.drew ?_ | refine below_drewN ?_ _ | (simp; done) | (simp; omega) | omega)) (hb.mono (by first | (simp; done) | (simp; omega) | omega))
        replace hbel := hbel.trans (hst.mono hsz)
        replace hsz := hbel.size
        replace hl1 := hl1.trans (hst.mono hl1.size)
        replace bB := bB.below hst bB.lt
        clear pB0 pB1 lB
        have pB0 := bB.cell 0
        have pB1 := bB.cell 1
        have lB := bB.lt
        replace bP := bP.below hst bP.lt
        clear pP0 pP1 lP
        have pP0 := bP.cell 0
        have pP1 := bP.cell 1
        have lP := bP.lt
        replace bQ := bQ.below hst bQ.lt
        clear pQ0 pQ1 lQ
        have pQ0 := bQ.cell 0
        have pQ1 := bQ.cell 1
        have lQ := bQ.lt
        replace HL := hid (HL.out.below hst hst.size)
        replace H1 := hid (H1.out.below hst hst.size)
        replace H2 := hid (H2.out.below hst hst.size)
        replace H3 := hid (H3.out.below hst hst.size)
        replace H4 := hid (H4.out.below hst hst.size)
        replace H5 := hid (H5.out.below hst hst.size)
        replace H6 := hid (H6.out.below hst hst.size)
        have HS := hid hs3
        clear hs3
        clear hb hst
        try clear hWb
        obtain ⟨W0, rfl⟩ : ∃ W0 : World, W0 = W1 := ⟨_, rfl⟩
        go_wp2_with (fail)
        refine (checkBlame_any A AS n c s.length cS ls s J _ (HL.out.below (by repeat' (first | with_reducible assumption | with_reducible exact Below.refl _ _ | refine Below.alloc ?_ ?_ _ | refine Below.setCell ?_ ?_ _ | refine Below.drew ?_ | refine below_drewN ?_ _ | (simp; done) | (simp; omega) | omega)) (by first | (simp; done) | (simp; omega) | omega)) (HS.out.below (by repeat' (first | with_reducible assumption | with_reducible exact Below.refl _ _ | refine Below.alloc ?_ ?_ _ | refine Below.setCell ?_ ?_ _ | refine Below.drew ?_ | refine below_drewN ?_ _ | (simp; done) | (simp; omega) | omega)) (by first | (simp; done) | (simp; omega) | omega)) (by omega) K2.out (by omega)).mono ?_
        rw [He3.out, Hm3.out]
        rintro e W1 ⟨rfl, hb⟩
        have hst : Below W0.heap.size W0 W1 := Below.trans (by repeat' (first | with_reducible assumption | with_reducible exact Below.refl _ _ | refine Below.alloc ?_ ?_ _ | refine Below.setCell ?_ ?_ _ | refine Below.drew ?_ | refine below_drewN ?_ _ | (simp; done) | (simp; omega) | omega)) (hb.mono (by first | (simp; done) | (simp; omega) | omega))
        replace hbel := hbel.trans (hst.mono hsz)
        replace hsz := hbel.size
        replace hl1 := hl1.trans (hst.mono hl1.size)
        replace bB := bB.below hst bB.lt
        clear pB0 pB1 lB
        have pB0 := bB.cell 0
        have pB1 := bB.cell 1
        have lB := bB.lt
        replace bP := bP.below hst bP.lt
        clear pP0 pP1 lP
        have pP0 := bP.cell 0
        have pP1 := bP.cell 1
        have lP := bP.lt
        replace bQ := bQ.below hst bQ.lt
        clear pQ0 pQ1 lQ
        have pQ0 := bQ.cell 0
        have pQ1 := bQ.cell 1
        have lQ := bQ.lt
        replace HL := hid (HL.out.below hst hst.size)
        replace H1 := hid (H1.out.below hst hst.size)
        replace H2 := hid (H2.out.below hst hst.size)
        replace H3 := hid (H3.out.below hst hst.size)
        replace H4 := hid (H4.out.below hst hst.size)
        replace H5 := hid (H5.out.below hst hst.size)
        replace H6 := hid (H6.out.below hst hst.size)
        replace HS := hid (HS.out.below hst hst.size)
        clear hb hst
        try clear hWb
        obtain ⟨W0, rfl⟩ : ∃ W0 : World, W0 = W1 := ⟨_, rfl⟩
        go_wp2_with (fail)
        refine (checkBlame_any A1 AS C.length c1 s.length cS C s J _ (H1.out.below (by repeat' (first | with_reducible assumption | with_reducible exact Below.refl _ _ | refine Below.alloc ?_ ?_ _ | refine Below.setCell ?_ ?_ _ | refine Below.drew ?_ | refine below_drewN ?_ _ | (simp; done) | (simp; omega) | omega)) (by first | (simp; done) | (simp; omega) | omega)) (HS.out.below (by repeat' (first | with_reducible assumption | with_reducible exact Below.refl _ _ | refine Below.alloc ?_ ?_ _ | refine Below.setCell ?_ ?_ _ | refine Below.drew ?_ | refine below_drewN ?_ _ | (simp; done) | (simp; omega) | omega)) (by first | (simp; done) | (simp; omega) | omega)) (by omega) KC.out (by omega)).mono ?_
        rw [Cb.out, Hm4.out]
        rintro e W1 ⟨rfl, hb⟩
        have hst : Below W0.heap.size W0 W1 := Below.trans (by repeat' (first | with_reducible assumption | with_reducible exact Below.refl _ _ | refine Below.alloc ?_ ?_ _ | refine Below.setCell ?_ ?_ _ | refine Below.drew ?_ | refine below_drewN ?_ _ | (simp; done) | (simp; omega) | omega)) (hb.mono (by first | (simp; done) | (simp; omega) | omega))
        replace hbel := hbel.trans (hst.mono hsz)
        replace hsz := hbel.size
        replace hl1 := hl1.trans (hst.mono hl1.size)
        replace bB := bB.below hst bB.lt
        clear pB0 pB1 lB
        have pB0 := bB.cell 0
        have pB1 := bB.cell 1
        have lB := bB.lt
        replace bP := bP.below hst bP.lt
        clear pP0 pP1 lP
        have pP0 := bP.cell 0
        have pP1 := bP.cell 1
        have lP := bP.lt
        replace bQ := bQ.below hst bQ.lt
        clear pQ0 pQ1 lQ
        have pQ0 := bQ.cell 0
        have pQ1 := bQ.cell 1
        have lQ := bQ.lt
        replace HL := hid (HL.out.below hst hst.size)
        replace H1 := hid (H1.out.below hst hst.size)
        replace H2 := hid (H2.out.below hst hst.size)
        replace H3 := hid (H3.out.below hst hst.size)
        replace H4 := hid (H4.out.below hst hst.size)
        replace H5 := hid (H5.out.below hst hst.size)
        replace H6 := hid (H6.out.below hst hst.size)
        replace HS := hid (HS.out.below hst hst.size)
        clear hb hst
        try clear hWb
        obtain ⟨W0, rfl⟩ : ∃ W0 : World, W0 = W1 := ⟨_, rfl⟩
        have zp := Hpw.out
        have zq : ((P2 : Nat) : Int) - 1 = (Q2 : Int) := by have := HQ.out; omega
        have zr : IntKind.i64.wrap (Q2 : Int) = (Q2 : Int) := IntWalk.i64_in _ (by have := HQ.out; omega)
        go_wp2_with (fail)
        refine wp_region_hd_all (fun W => Below W0.heap.size W0 W) (by kernel_rfl) (by kernel_rfl) ((Below.refl _ _).drew) ?_
        (refine wpHd_val (v := ?_) (by rfl) (fun W hW => ?_) ?_; rotate_left; (· obtain ⟨hcW, hfW⟩ := bcell hW; go_simp; with_reducible rfl); simp only [Act.put, List.setIfInBounds_toArray, List.set_cons_zero, List.set_cons_succ])
        (refine wpHd_val (v := ?_) (by rfl) (fun W hW => ?_) ?_; rotate_left; (· obtain ⟨hcW, hfW⟩ := bcell hW; go_simp; with_reducible rfl); simp only [Act.put, List.setIfInBounds_toArray, List.set_cons_zero, List.set_cons_succ])
        (refine wpHd_val (v := ?_) (by rfl) (fun W hW => ?_) ?_; rotate_left; (· obtain ⟨hcW, hfW⟩ := bcell hW; go_simp; with_reducible rfl); simp only [Act.put, List.setIfInBounds_toArray, List.set_cons_zero, List.set_cons_succ])
        (refine wpHd_val (v := ?_) (by rfl) (fun W hW => ?_) ?_; rotate_left; (· obtain ⟨hcW, hfW⟩ := bcell hW; go_simp; with_reducible rfl); simp only [Act.put, List.setIfInBounds_toArray, List.set_cons_zero, List.set_cons_succ])
        (refine wpHd_val (v := ?_) (by rfl) (fun W hW => ?_) ?_; rotate_left; (· obtain ⟨hcW, hfW⟩ := bcell hW; go_simp; with_reducible rfl); simp only [Act.put, List.setIfInBounds_toArray, List.set_cons_zero, List.set_cons_succ])
        (refine wpHd_callB (v := ?_) (f := ?_) (args := ?_) (by rfl) (fun W hW => ?_) (fun W hW => ?_) ?_; rotate_left 3; (· have := rmissed_any A n c ls J Q2 W (HL.out.below hW hW.size) (by omega) Hv8.out (by have := HQ.out; omega); rw [Hmi.out] at this; exact this); (· obtain ⟨hcW, hfW⟩ := bcell hW; go_simp); simp only [Act.put, List.setIfInBounds_toArray, List.set_cons_zero, List.set_cons_succ])
        (refine wpHd_val (v := ?_) (by rfl) (fun W hW => ?_) ?_; rotate_left; (· obtain ⟨hcW, hfW⟩ := bcell hW; go_simp; with_reducible rfl); simp only [Act.put, List.setIfInBounds_toArray, List.set_cons_zero, List.set_cons_succ])
        (refine wpHd_val (v := ?_) (by rfl) (fun W hW => ?_) ?_; rotate_left; (· obtain ⟨hcW, hfW⟩ := bcell hW; go_simp; with_reducible rfl); simp only [Act.put, List.setIfInBounds_toArray, List.set_cons_zero, List.set_cons_succ])
        refine wpHd_nil ?_
        intro W1 hb
        replace hbel := hbel.trans (hb.mono hsz)
        replace hsz := hbel.size
        replace hl1 := hl1.trans (hb.mono hl1.size)
        replace bB := bB.below hb bB.lt
        clear pB0 pB1 lB
        have pB0 := bB.cell 0
        have pB1 := bB.cell 1
        have lB := bB.lt
        replace bP := bP.below hb bP.lt
        clear pP0 pP1 lP
        have pP0 := bP.cell 0
        have pP1 := bP.cell 1
        have lP := bP.lt
        replace bQ := bQ.below hb bQ.lt
        clear pQ0 pQ1 lQ
        have pQ0 := bQ.cell 0
        have pQ1 := bQ.cell 1
        have lQ := bQ.lt
        replace HL := hid (HL.out.below hb hb.size)
        replace H1 := hid (H1.out.below hb hb.size)
        replace H2 := hid (H2.out.below hb hb.size)
        replace H3 := hid (H3.out.below hb hb.size)
        replace H4 := hid (H4.out.below hb hb.size)
        replace H5 := hid (H5.out.below hb hb.size)
        replace H6 := hid (H6.out.below hb hb.size)
        replace HS := hid (HS.out.below hb hb.size)
        clear hb
        try clear hWb
        obtain ⟨W0, rfl⟩ : ∃ W0 : World, W0 = W1 := ⟨_, rfl⟩
        have hms := Hms.out
        cases z0
        · have hq := Hap.out rfl
          simp only [Bool.not_false, Bool.not_true] at hms
          have hqi : ((aV.length : Int) == (cV.length : Int)) = true := by rw [beq_iff_eq]; omega
          have hmsi : mi < 0 := of_decide_eq_true hms
          clear hq
          go_wp2_with (fail)
          refine (sameB_any A2 A1 m2 c2 C.length c1 C C J J _ (H2.out.below (by repeat' (first | with_reducible assumption | with_reducible exact Below.refl _ _ | refine Below.alloc ?_ ?_ _ | refine Below.setCell ?_ ?_ _ | refine Below.drew ?_ | refine below_drewN ?_ _ | (simp; done) | (simp; omega) | omega)) (by first | (simp; done) | (simp; omega) | omega)) (H1.out.below (by repeat' (first | with_reducible assumption | with_reducible exact Below.refl _ _ | refine Below.alloc ?_ ?_ _ | refine Below.setCell ?_ ?_ _ | refine Below.drew ?_ | refine below_drewN ?_ _ | (simp; done) | (simp; omega) | omega)) (by first | (simp; done) | (simp; omega) | omega)) KC.out (by omega)).mono ?_
          rw [E2.out, decide_eq_true (rfl : (J : Int) = J), Bool.and_self]
          rintro e W1 ⟨rfl, hb⟩
          have hst : Below W0.heap.size W0 W1 := Below.trans (by repeat' (first | with_reducible assumption | with_reducible exact Below.refl _ _ | refine Below.alloc ?_ ?_ _ | refine Below.setCell ?_ ?_ _ | refine Below.drew ?_ | refine below_drewN ?_ _ | (simp; done) | (simp; omega) | omega)) (hb.mono (by first | (simp; done) | (simp; omega) | omega))
          replace hbel := hbel.trans (hst.mono hsz)
          replace hsz := hbel.size
          replace hl1 := hl1.trans (hst.mono hl1.size)
          replace bB := bB.below hst bB.lt
          clear pB0 pB1 lB
          have pB0 := bB.cell 0
          have pB1 := bB.cell 1
          have lB := bB.lt
          replace bP := bP.below hst bP.lt
          clear pP0 pP1 lP
          have pP0 := bP.cell 0
          have pP1 := bP.cell 1
          have lP := bP.lt
          replace bQ := bQ.below hst bQ.lt
          clear pQ0 pQ1 lQ
          have pQ0 := bQ.cell 0
          have pQ1 := bQ.cell 1
          have lQ := bQ.lt
          replace HL := hid (HL.out.below hst hst.size)
          replace H1 := hid (H1.out.below hst hst.size)
          replace H2 := hid (H2.out.below hst hst.size)
          replace H3 := hid (H3.out.below hst hst.size)
          replace H4 := hid (H4.out.below hst hst.size)
          replace H5 := hid (H5.out.below hst hst.size)
          replace H6 := hid (H6.out.below hst hst.size)
          replace HS := hid (HS.out.below hst hst.size)
          clear hb hst
          try clear hWb
          obtain ⟨W0, rfl⟩ : ∃ W0 : World, W0 = W1 := ⟨_, rfl⟩
          go_wp2_with (fail)
          refine (lists_any A3 A4 m3l c3 m4l c4 L L _ (H3.out.below (by repeat' (first | with_reducible assumption | with_reducible exact Below.refl _ _ | refine Below.alloc ?_ ?_ _ | refine Below.setCell ?_ ?_ _ | refine Below.drew ?_ | refine below_drewN ?_ _ | (simp; done) | (simp; omega) | omega)) (by first | (simp; done) | (simp; omega) | omega)) (H4.out.below (by repeat' (first | with_reducible assumption | with_reducible exact Below.refl _ _ | refine Below.alloc ?_ ?_ _ | refine Below.setCell ?_ ?_ _ | refine Below.drew ?_ | refine below_drewN ?_ _ | (simp; done) | (simp; omega) | omega)) (by first | (simp; done) | (simp; omega) | omega)) KL.out (by omega)).mono ?_
          rw [E1.out]
          rintro e W1 ⟨rfl, hb⟩
          have hst : Below W0.heap.size W0 W1 := Below.trans (by repeat' (first | with_reducible assumption | with_reducible exact Below.refl _ _ | refine Below.alloc ?_ ?_ _ | refine Below.setCell ?_ ?_ _ | refine Below.drew ?_ | refine below_drewN ?_ _ | (simp; done) | (simp; omega) | omega)) (hb.mono (by first | (simp; done) | (simp; omega) | omega))
          replace hbel := hbel.trans (hst.mono hsz)
          replace hsz := hbel.size
          replace hl1 := hl1.trans (hst.mono hl1.size)
          replace bB := bB.below hst bB.lt
          clear pB0 pB1 lB
          have pB0 := bB.cell 0
          have pB1 := bB.cell 1
          have lB := bB.lt
          replace bP := bP.below hst bP.lt
          clear pP0 pP1 lP
          have pP0 := bP.cell 0
          have pP1 := bP.cell 1
          have lP := bP.lt
          replace bQ := bQ.below hst bQ.lt
          clear pQ0 pQ1 lQ
          have pQ0 := bQ.cell 0
          have pQ1 := bQ.cell 1
          have lQ := bQ.lt
          replace HL := hid (HL.out.below hst hst.size)
          replace H1 := hid (H1.out.below hst hst.size)
          replace H2 := hid (H2.out.below hst hst.size)
          replace H3 := hid (H3.out.below hst hst.size)
          replace H4 := hid (H4.out.below hst hst.size)
          replace H5 := hid (H5.out.below hst hst.size)
          replace H6 := hid (H6.out.below hst hst.size)
          replace HS := hid (HS.out.below hst hst.size)
          clear hb hst
          try clear hWb
          obtain ⟨W0, rfl⟩ : ∃ W0 : World, W0 = W1 := ⟨_, rfl⟩
          go_wp2_with (fail)
          refine (works_any _).mono ?_
          rintro e W1 ⟨rfl, hb⟩
          have hst : Below W0.heap.size W0 W1 := Below.trans (by repeat' (first | with_reducible assumption | with_reducible exact Below.refl _ _ | refine Below.alloc ?_ ?_ _ | refine Below.setCell ?_ ?_ _ | refine Below.drew ?_ | refine below_drewN ?_ _ | (simp; done) | (simp; omega) | omega)) (hb.mono (by first | (simp; done) | (simp; omega) | omega))
          replace hbel := hbel.trans (hst.mono hsz)
          replace hsz := hbel.size
          replace hl1 := hl1.trans (hst.mono hl1.size)
          replace bB := bB.below hst bB.lt
          clear pB0 pB1 lB
          have pB0 := bB.cell 0
          have pB1 := bB.cell 1
          have lB := bB.lt
          replace bP := bP.below hst bP.lt
          clear pP0 pP1 lP
          have pP0 := bP.cell 0
          have pP1 := bP.cell 1
          have lP := bP.lt
          replace bQ := bQ.below hst bQ.lt
          clear pQ0 pQ1 lQ
          have pQ0 := bQ.cell 0
          have pQ1 := bQ.cell 1
          have lQ := bQ.lt
          replace HL := hid (HL.out.below hst hst.size)
          replace H1 := hid (H1.out.below hst hst.size)
          replace H2 := hid (H2.out.below hst hst.size)
          replace H3 := hid (H3.out.below hst hst.size)
          replace H4 := hid (H4.out.below hst hst.size)
          replace H5 := hid (H5.out.below hst hst.size)
          replace H6 := hid (H6.out.below hst hst.size)
          replace HS := hid (HS.out.below hst hst.size)
          clear hb hst
          try clear hWb
          obtain ⟨W0, rfl⟩ : ∃ W0 : World, W0 = W1 := ⟨_, rfl⟩
          go_wp2
          go_ret
          exact ⟨rfl, hbel⟩
        · skip
          simp only [Bool.not_false, Bool.not_true] at hms
          have hmsi : ¬ mi < 0 := of_decide_eq_false hms
          go_wp2_with (fail)
          refine (sameB_any A2 A1 m2 c2 C.length c1 C C J J _ (H2.out.below (by repeat' (first | with_reducible assumption | with_reducible exact Below.refl _ _ | refine Below.alloc ?_ ?_ _ | refine Below.setCell ?_ ?_ _ | refine Below.drew ?_ | refine below_drewN ?_ _ | (simp; done) | (simp; omega) | omega)) (by first | (simp; done) | (simp; omega) | omega)) (H1.out.below (by repeat' (first | with_reducible assumption | with_reducible exact Below.refl _ _ | refine Below.alloc ?_ ?_ _ | refine Below.setCell ?_ ?_ _ | refine Below.drew ?_ | refine below_drewN ?_ _ | (simp; done) | (simp; omega) | omega)) (by first | (simp; done) | (simp; omega) | omega)) KC.out (by omega)).mono ?_
          rw [E2.out, decide_eq_true (rfl : (J : Int) = J), Bool.and_self]
          rintro e W1 ⟨rfl, hb⟩
          have hst : Below W0.heap.size W0 W1 := Below.trans (by repeat' (first | with_reducible assumption | with_reducible exact Below.refl _ _ | refine Below.alloc ?_ ?_ _ | refine Below.setCell ?_ ?_ _ | refine Below.drew ?_ | refine below_drewN ?_ _ | (simp; done) | (simp; omega) | omega)) (hb.mono (by first | (simp; done) | (simp; omega) | omega))
          replace hbel := hbel.trans (hst.mono hsz)
          replace hsz := hbel.size
          replace hl1 := hl1.trans (hst.mono hl1.size)
          replace bB := bB.below hst bB.lt
          clear pB0 pB1 lB
          have pB0 := bB.cell 0
          have pB1 := bB.cell 1
          have lB := bB.lt
          replace bP := bP.below hst bP.lt
          clear pP0 pP1 lP
          have pP0 := bP.cell 0
          have pP1 := bP.cell 1
          have lP := bP.lt
          replace bQ := bQ.below hst bQ.lt
          clear pQ0 pQ1 lQ
          have pQ0 := bQ.cell 0
          have pQ1 := bQ.cell 1
          have lQ := bQ.lt
          replace HL := hid (HL.out.below hst hst.size)
          replace H1 := hid (H1.out.below hst hst.size)
          replace H2 := hid (H2.out.below hst hst.size)
          replace H3 := hid (H3.out.below hst hst.size)
          replace H4 := hid (H4.out.below hst hst.size)
          replace H5 := hid (H5.out.below hst hst.size)
          replace H6 := hid (H6.out.below hst hst.size)
          replace HS := hid (HS.out.below hst hst.size)
          clear hb hst
          try clear hWb
          obtain ⟨W0, rfl⟩ : ∃ W0 : World, W0 = W1 := ⟨_, rfl⟩
          go_wp2_with (fail)
          refine (lists_any A3 A4 m3l c3 m4l c4 L L _ (H3.out.below (by repeat' (first | with_reducible assumption | with_reducible exact Below.refl _ _ | refine Below.alloc ?_ ?_ _ | refine Below.setCell ?_ ?_ _ | refine Below.drew ?_ | refine below_drewN ?_ _ | (simp; done) | (simp; omega) | omega)) (by first | (simp; done) | (simp; omega) | omega)) (H4.out.below (by repeat' (first | with_reducible assumption | with_reducible exact Below.refl _ _ | refine Below.alloc ?_ ?_ _ | refine Below.setCell ?_ ?_ _ | refine Below.drew ?_ | refine below_drewN ?_ _ | (simp; done) | (simp; omega) | omega)) (by first | (simp; done) | (simp; omega) | omega)) KL.out (by omega)).mono ?_
          rw [E1.out]
          rintro e W1 ⟨rfl, hb⟩
          have hst : Below W0.heap.size W0 W1 := Below.trans (by repeat' (first | with_reducible assumption | with_reducible exact Below.refl _ _ | refine Below.alloc ?_ ?_ _ | refine Below.setCell ?_ ?_ _ | refine Below.drew ?_ | refine below_drewN ?_ _ | (simp; done) | (simp; omega) | omega)) (hb.mono (by first | (simp; done) | (simp; omega) | omega))
          replace hbel := hbel.trans (hst.mono hsz)
          replace hsz := hbel.size
          replace hl1 := hl1.trans (hst.mono hl1.size)
          replace bB := bB.below hst bB.lt
          clear pB0 pB1 lB
          have pB0 := bB.cell 0
          have pB1 := bB.cell 1
          have lB := bB.lt
          replace bP := bP.below hst bP.lt
          clear pP0 pP1 lP
          have pP0 := bP.cell 0
          have pP1 := bP.cell 1
          have lP := bP.lt
          replace bQ := bQ.below hst bQ.lt
          clear pQ0 pQ1 lQ
          have pQ0 := bQ.cell 0
          have pQ1 := bQ.cell 1
          have lQ := bQ.lt
          replace HL := hid (HL.out.below hst hst.size)
          replace H1 := hid (H1.out.below hst hst.size)
          replace H2 := hid (H2.out.below hst hst.size)
          replace H3 := hid (H3.out.below hst hst.size)
          replace H4 := hid (H4.out.below hst hst.size)
          replace H5 := hid (H5.out.below hst hst.size)
          replace H6 := hid (H6.out.below hst hst.size)
          replace HS := hid (HS.out.below hst hst.size)
          clear hb hst
          try clear hWb
          obtain ⟨W0, rfl⟩ : ∃ W0 : World, W0 = W1 := ⟨_, rfl⟩
          go_wp2_with (fail)
          refine (works_any _).mono ?_
          rintro e W1 ⟨rfl, hb⟩
          have hst : Below W0.heap.size W0 W1 := Below.trans (by repeat' (first | with_reducible assumption | with_reducible exact Below.refl _ _ | refine Below.alloc ?_ ?_ _ | refine Below.setCell ?_ ?_ _ | refine Below.drew ?_ | refine below_drewN ?_ _ | (simp; done) | (simp; omega) | omega)) (hb.mono (by first | (simp; done) | (simp; omega) | omega))
          replace hbel := hbel.trans (hst.mono hsz)
          replace hsz := hbel.size
          replace hl1 := hl1.trans (hst.mono hl1.size)
          replace bB := bB.below hst bB.lt
          clear pB0 pB1 lB
          have pB0 := bB.cell 0
          have pB1 := bB.cell 1
          have lB := bB.lt
          replace bP := bP.below hst bP.lt
          clear pP0 pP1 lP
          have pP0 := bP.cell 0
          have pP1 := bP.cell 1
          have lP := bP.lt
          replace bQ := bQ.below hst bQ.lt
          clear pQ0 pQ1 lQ
          have pQ0 := bQ.cell 0
          have pQ1 := bQ.cell 1
          have lQ := bQ.lt
          replace HL := hid (HL.out.below hst hst.size)
          replace H1 := hid (H1.out.below hst hst.size)
          replace H2 := hid (H2.out.below hst hst.size)
          replace H3 := hid (H3.out.below hst hst.size)
          replace H4 := hid (H4.out.below hst hst.size)
          replace H5 := hid (H5.out.below hst hst.size)
          replace H6 := hid (H6.out.below hst hst.size)
          replace HS := hid (HS.out.below hst hst.size)
          clear hb hst
          try clear hWb
          obtain ⟨W0, rfl⟩ : ∃ W0 : World, W0 = W1 := ⟨_, rfl⟩
          go_wp2
          go_ret
          exact ⟨rfl, hbel⟩

section
open Go.ChangeShapes Go.WideShapes Go.ChangeAt Go.RowKit
set_option maxRecDepth 100000 in
theorem blameCore_lifted (os : Os) (started : os.Started) (H : Type) (enc : TypeId × Value → H) :
    ReturnsInHanded {} Tryz.checked os 10 .any (Rows.blameCoreSpec.pre6 enc Tryz.prog Tryz.f10 Rows.blameCoreRow.domain false) (Rows.blameCoreSpec.post enc Tryz.prog Tryz.f10 false true false false) := by
  refine returnsInHanded_of_change (C := Tryz.checked) ownKx started (by kernel_rfl) Tryz.func10
    (ChangeSpec.witness6 (enc := enc) (C := Tryz.checked) false ⟨#[], #[.agg #[.int .i64 0, .slice none 0 0], .int .u8 0], []⟩ 8 (by kernel_rfl) (by kernel_rfl) (by kernel_rfl) (by kernel_rfl)) ?_
  intro W base args ds gs before hval0 hW hcnd _
  have hval : ∀ (j : Nat) t v, Tryz.f10.params[j]? = some t → args[j]? = some v → Value.okWide Tryz.prog W .any base t v := hval0
  have hW' := hW
  obtain ⟨p, q, hA0, hV, rfl, hfz, hnd⟩ := hW
  have hA : DataW.TrodAll enc Tryz.prog W 0 (fun _ => true) true Tryz.f10.params.toList args.toList ds p := hA0
  have hlt : ∀ x ∈ p, x.block < W.heap.size := fun x hx => hW'.lt x (List.mem_append_left _ hx)
  have hAll : ∀ W', Below W.heap.size W W' → DataW.TrodAll enc Tryz.prog W' 0 (fun b => decide (b < W.heap.size)) true Tryz.f10.params.toList args.toList ds p := fun W' hb => all_below laidOut hb (readable_of (by kernel_rfl)) hlt hA
  rw [Tryz.params10] at hA hval
  obtain ⟨v0, v1, d0, d1, p0, p1, rfl, rfl, rfl, h0, h1⟩ := trodAll_two hA
  obtain ⟨rfl, rfl⟩ := trodVars_none hV
  clear hA0 hval0
  obtain ⟨I0, A0, n0, c0, rfl, wI0, hc0, hN0, l0, hl0, hr0⟩ := open_book (hval 0 24 v0 rfl rfl) h0
  obtain ⟨x1, rfl, rfl, rfl, wx1⟩ := open_int Tryz.underlying5 (hval 1 5 v1 rfl rfl) h1
  obtain ⟨y1, rfl⟩ : ∃ y : Nat, x1 = y := ⟨x1.toNat, (Int.toNat_of_nonneg (u8_bd wx1).1).symm⟩
  refine (blameCore_walk W I0 A0 n0 c0 l0 y1 hr0 (by have := u8_bd wx1; omega)).mono fun e W' ⟨he, hb⟩ => ?_
  subst he
  exact ⟨_, rfl, ⟨_, _, _, [], _, [], hW', trodAll_cons_mk (shut_bool Tryz.underlying4 _) trodAll_mk0, hAll W' hb, rfl, hb.frame _, fun h => by cases h⟩⟩
/-- The law: whatever the input, it returns true, and the input reads as it did. -/
theorem blameCore_holds : Rows.BlameCoreSaid :=
  OpenClaim.holds_of_wide 10 Tryz.f10 rfl rfl rfl rfl rfl rfl rfl ⟨rfl, rfl, rfl, rfl, rfl⟩ rfl rfl rfl rfl rfl (by kernel_rfl) Tryz.func10 (by kernel_rfl)
    (of_decide_eq_true (by kernel_rfl)) (by unfold Func.isWrapper; first | (rw [if_pos (by decide +kernel)]; kernel_rfl) | (rw [if_neg (by decide +kernel)]; exact ⟨rfl, rfl⟩))
    (fun os started H enc _ => blameCore_lifted os started H enc)
end
end Go.Proofs.YtnpilfpackdimaaGreat

