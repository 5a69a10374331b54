/- The statement BlameSure holds: whatever the arguments, the law returns true and leaves its arguments as they were. -/
import Derived.Test.YtnpilfpackdimaaGreatMm
import Derived.Test.YtnpilfpackdimaaGreatMl
set_option linter.unusedSimpArgs false
set_option linter.unusedVariables false
namespace Go.Proofs.YtnpilfpackdimaaGreat
open Go.RowKit Go.Shelf
attribute [local go_sem] Oper.semAt_some
set_option maxRecDepth 1000000 in
set_option maxHeartbeats 40000000 in
theorem blameSure_walk (w : World) (I : Int) (A : Option Addr) (n c : Nat) (ls : List (List Int)) (y : Nat) (hl : LiS w w.heap.size A n ls) (hy : y < 256) :
    Calls Tryz.prog 13 #[.agg #[.int .i64 I, .slice A n c], .int .u8 (y : Int)] w fun e w' => e = .returned (.bool true) ∧ Below w.heap.size w w' := by
  have la := hid hl.1
  cases hf : fineB I ls
  · have Hf := hid hf
    clear hf
    obtain ⟨W0, hWb⟩ : ∃ W0, (w).alloc (.cells #[.int .i64 I, .slice A n c] 24) = W0 := ⟨_, rfl⟩
    have hbel : Below w.heap.size w W0 := by rw [← hWb]; exact (by repeat' (first | with_reducible assumption | with_reducible exact Below.refl _ _ | refine Below.alloc ?_ ?_ _ | refine Below.setCell ?_ ?_ _ | refine Below.drew ?_ | refine below_drewN ?_ _ | (simp; done) | (simp; omega) | omega))
    have hsz := hbel.size
    have bB : Blk W0 (w.heap.size) 24 #[.int .i64 I, .slice A n c] := by rw [← hWb]; exact Blk.new' rfl
    have pB0 := bB.cell 0
    have pB1 := bB.cell 1
    have lB := bB.lt
    have HL := hid (hl.below hbel hsz)
    clear hl
    go_enter Tryz.func13, Tryz.ntmps13
    go_wp2_with (fail)
    refine (fine_any A n c ls I _ (HL.out.below (by repeat' (first | with_reducible assumption | with_reducible exact Below.refl _ _ | refine Below.alloc ?_ ?_ _ | refine Below.setCell ?_ ?_ _ | refine Below.drew ?_ | refine below_drewN ?_ _ | (simp; done) | (simp; omega) | omega)) (by first | (simp; done) | (simp; omega) | omega))).mono ?_
    rw [Hf.out]
    rintro e W1 ⟨rfl, hb⟩
    have hst : Below W0.heap.size W0 W1 := Below.trans (by repeat' (first | with_reducible assumption | with_reducible exact Below.refl _ _ | refine Below.alloc ?_ ?_ _ | refine Below.setCell ?_ ?_ _ | refine Below.drew ?_ | refine below_drewN ?_ _ | (simp; done) | (simp; omega) | omega)) (hb.mono (by first | (simp; done) | (simp; omega) | omega))
    replace hbel := hbel.trans (hst.mono hsz)
    replace hsz := hbel.size
    replace bB := bB.below hst bB.lt
    clear pB0 pB1 lB
    have pB0 := bB.cell 0
    have pB1 := bB.cell 1
    have lB := bB.lt
    replace HL := hid (HL.out.below hst hst.size)
    clear hb hst
    try clear hWb
    obtain ⟨W0, rfl⟩ : ∃ W0 : World, W0 = W1 := ⟨_, rfl⟩
    go_wp2_with (fail)
    refine (works_any _).mono ?_
    rintro e W1 ⟨rfl, hb⟩
    have hst : Below W0.heap.size W0 W1 := Below.trans (by repeat' (first | with_reducible assumption | with_reducible exact Below.refl _ _ | refine Below.alloc ?_ ?_ _ | refine Below.setCell ?_ ?_ _ | refine Below.drew ?_ | refine below_drewN ?_ _ | (simp; done) | (simp; omega) | omega)) (hb.mono (by first | (simp; done) | (simp; omega) | omega))
    replace hbel := hbel.trans (hst.mono hsz)
    replace hsz := hbel.size
    replace bB := bB.below hst bB.lt
    clear pB0 pB1 lB
    have pB0 := bB.cell 0
    have pB1 := bB.cell 1
    have lB := bB.lt
    replace HL := hid (HL.out.below hst hst.size)
    clear hb hst
    try clear hWb
    obtain ⟨W0, rfl⟩ : ∃ W0 : World, W0 = W1 := ⟨_, rfl⟩
    go_wp2
    go_ret
    exact ⟨rfl, hbel⟩
  · obtain ⟨hg, hchk⟩ := fineB_t.1 hf
    obtain ⟨J, rfl, -, hJ1, hJ8, hln, hv, hv8⟩ := book_nat hchk
    have Hf := hid hf
    have Hc := hid hchk
    have hn : n ≤ 10 := by rw [← la.out]; exact hln
    have K2 : Hid (∀ l ∈ ls, l.length ≤ 1000000) := hid (fun l h => by have := isL_len8 (hv8 l h) (by omega); omega)
    have Hv := hid hv
    have Hv8 := hid hv8
    have Hla := hid hln
    have hJz : ¬ (J : Int) = 0 := by omega
    have hJz0 : ¬ J = 0 := by omega
    obtain ⟨i, hi⟩ : ∃ i, y % J = i := ⟨_, rfl⟩
    have hmod : (y : Int) % (J : Int) = (i : Int) := by rw [← hi]; exact (Int.natCast_emod y J).symm
    have htmod : Int.tmod (y : Int) (J : Int) = (i : Int) := by rw [← hi]; exact (Int.ofNat_tmod y J).symm
    have hiJ : i < J := by rw [← hi]; exact Nat.mod_lt _ (by omega)
    have zi : IntKind.i64.wrap (i : Int) = (i : Int) := IntWalk.i64_in _ (by omega)
    have zy : IntKind.i64.wrap (y : Int) = (y : Int) := IntWalk.i64_in _ (by omega)
    have hcz : ¬ (chkBook (J : Int) ls ≠ 0) := fun e => e hchk
    have hcv : coreV J ls = leastL ls := by unfold coreV; rw [if_neg hcz]
    have hci : coreI J ls = J := by unfold coreI; rw [if_neg hcz]
    obtain ⟨cf1, cf2, -, -, -, cf6, cf7, -⟩ := core_facts hchk
    obtain ⟨f1, f2, f3, f4, f5, f6, f7, f8, f9⟩ := sure_facts hchk hiJ
    have hbl : Hid ((bestV J ls).length ≤ 1000000) := hid (by rw [bestV_eq]; have := rblV_len J ls; omega)
    have hbX : Hid ((bestV J (ls.map (noI i))).length ≤ 1000000) := hid (by rw [bestV_eq]; have := rblV_len J (ls.map (noI i)); omega)
    have KX : Hid (∀ l ∈ ls.map (noI i), l.length ≤ 1000000) := hid (fun l hl => by
      obtain ⟨p, hp, rfl⟩ := List.mem_map.1 hl
      have h1 := isL_len8 (hv8 p hp) (by omega)
      have h2 : (noI i p).length ≤ p.length := List.length_filter_le _ _
      omega)
    obtain ⟨C, hC⟩ : ∃ v, leastL ls = v := ⟨_, rfl⟩
    rw [hC] at hcv cf1 cf2 cf6 cf7 f5
    obtain ⟨N, hN⟩ : ∃ v, fwV J ls = v := ⟨_, rfl⟩
    obtain ⟨is, his⟩ : ∃ v, fwIs J ls = v := ⟨_, rfl⟩
    obtain ⟨kV, hkV⟩ : ∃ v, kinV J ls i = v := ⟨_, rfl⟩
    obtain ⟨kE, hkE⟩ : ∃ v, kinE J ls i = v := ⟨_, rfl⟩
    obtain ⟨al, hal⟩ : ∃ v, aloneB ls i = v := ⟨_, rfl⟩
    obtain ⟨inn, hinn⟩ : ∃ v, inB' C i = v := ⟨_, rfl⟩
    obtain ⟨also, hals⟩ : ∃ v, fwIs J (ls.map (noI i)) = v := ⟨_, rfl⟩
    obtain ⟨M, hM⟩ : ∃ v, fwV J (ls.map (noI i)) = v := ⟨_, rfl⟩
    rw [hkE, his] at f1
    rw [his, hkE] at f2
    rw [hkV] at f3
    rw [his, hkV, hal] at f4
    rw [his, hkV, hinn] at f5
    rw [his, hals, hal] at f8
    rw [his, hals, hN, hM] at f9
    have Hcv := hid hcv
    have Hci := hid hci
    have HN := hid hN
    have His := hid his
    have HkV := hid hkV
    have HkE := hid hkE
    have Hal := hid hal
    have Hinn := hid hinn
    have Hals := hid hals
    have HM := hid hM
    have F1 := hid f1
    have F2 := hid f2
    have F4 := hid f4
    have F5 := hid f5
    have F7 := hid f7
    have F8 := hid f8
    have F9 := hid f9
    have Cg := hid cf2
    have C7 := hid cf7
    clear hi hcz hcv hci cf1 cf2 cf7 f1 f2 f4 f5 f6 f7 f8 f9 hC hN his hkV hkE hal hinn hals hM
    clear hf hg hchk hv hv8 hln
    obtain ⟨W0, hWb⟩ : ∃ W0, (w).alloc (.cells #[.int .i64 (J : Int), .slice A n c] 24) = W0 := ⟨_, rfl⟩
    have hbel : Below w.heap.size w W0 := by rw [← hWb]; exact (by repeat' (first | with_reducible assumption | with_reducible exact Below.refl _ _ | refine Below.alloc ?_ ?_ _ | refine Below.setCell ?_ ?_ _ | refine Below.drew ?_ | refine below_drewN ?_ _ | (simp; done) | (simp; omega) | omega))
    have hsz := hbel.size
    have bB : Blk W0 (w.heap.size) 24 #[.int .i64 (J : Int), .slice A n c] := by rw [← hWb]; exact Blk.new' rfl
    have pB0 := bB.cell 0
    have pB1 := bB.cell 1
    have lB := bB.lt
    have HL := hid (hl.below hbel hsz)
    clear hl
    go_enter Tryz.func13, Tryz.ntmps13
    go_wp2_with (fail)
    refine (fine_any A n c ls J _ (HL.out.below (by repeat' (first | with_reducible assumption | with_reducible exact Below.refl _ _ | refine Below.alloc ?_ ?_ _ | refine Below.setCell ?_ ?_ _ | refine Below.drew ?_ | refine below_drewN ?_ _ | (simp; done) | (simp; omega) | omega)) (by first | (simp; done) | (simp; omega) | omega))).mono ?_
    rw [Hf.out]
    rintro e W1 ⟨rfl, hb⟩
    have hst : Below W0.heap.size W0 W1 := Below.trans (by repeat' (first | with_reducible assumption | with_reducible exact Below.refl _ _ | refine Below.alloc ?_ ?_ _ | refine Below.setCell ?_ ?_ _ | refine Below.drew ?_ | refine below_drewN ?_ _ | (simp; done) | (simp; omega) | omega)) (hb.mono (by first | (simp; done) | (simp; omega) | omega))
    replace hbel := hbel.trans (hst.mono hsz)
    replace hsz := hbel.size
    replace bB := bB.below hst bB.lt
    clear pB0 pB1 lB
    have pB0 := bB.cell 0
    have pB1 := bB.cell 1
    have lB := bB.lt
    replace HL := hid (HL.out.below hst hst.size)
    clear hb hst
    try clear hWb
    obtain ⟨W0, rfl⟩ : ∃ W0 : World, W0 = W1 := ⟨_, rfl⟩
    go_wp2_with (fail)
    refine (kind_any A n c ls J i _ (HL.out.below (by repeat' (first | with_reducible assumption | with_reducible exact Below.refl _ _ | refine Below.alloc ?_ ?_ _ | refine Below.setCell ?_ ?_ _ | refine Below.drew ?_ | refine below_drewN ?_ _ | (simp; done) | (simp; omega) | omega)) (by first | (simp; done) | (simp; omega) | omega)) (by omega) K2.out).mono ?_
    rw [HkV.out, HkE.out]
    rintro e W1 ⟨rfl, hb⟩
    have hst : Below W0.heap.size W0 W1 := Below.trans (by repeat' (first | with_reducible assumption | with_reducible exact Below.refl _ _ | refine Below.alloc ?_ ?_ _ | refine Below.setCell ?_ ?_ _ | refine Below.drew ?_ | refine below_drewN ?_ _ | (simp; done) | (simp; omega) | omega)) (hb.mono (by first | (simp; done) | (simp; omega) | omega))
    replace hbel := hbel.trans (hst.mono hsz)
    replace hsz := hbel.size
    replace bB := bB.below hst bB.lt
    clear pB0 pB1 lB
    have pB0 := bB.cell 0
    have pB1 := bB.cell 1
    have lB := bB.lt
    replace HL := hid (HL.out.below hst hst.size)
    clear hb hst
    try clear hWb
    obtain ⟨W0, rfl⟩ : ∃ W0 : World, W0 = W1 := ⟨_, rfl⟩
    go_wp2_with (fail)
    refine (core_any A n c ls J _ (HL.out.below (by repeat' (first | with_reducible assumption | with_reducible exact Below.refl _ _ | refine Below.alloc ?_ ?_ _ | refine Below.setCell ?_ ?_ _ | refine Below.drew ?_ | refine below_drewN ?_ _ | (simp; done) | (simp; omega) | omega)) (by first | (simp; done) | (simp; omega) | omega)) (by omega) K2.out).mono ?_
    rw [Hcv.out, Hci.out, Hc.out]
    rintro e W1 ⟨A1, m1, c1, rfl, h, hb⟩
    have hst : Below W0.heap.size W0 W1 := Below.trans (by repeat' (first | with_reducible assumption | with_reducible exact Below.refl _ _ | refine Below.alloc ?_ ?_ _ | refine Below.setCell ?_ ?_ _ | refine Below.drew ?_ | refine below_drewN ?_ _ | (simp; done) | (simp; omega) | omega)) (hb.mono (by first | (simp; done) | (simp; omega) | omega))
    replace hbel := hbel.trans (hst.mono hsz)
    replace hsz := hbel.size
    replace bB := bB.below hst bB.lt
    clear pB0 pB1 lB
    have pB0 := bB.cell 0
    have pB1 := bB.cell 1
    have lB := bB.lt
    replace HL := hid (HL.out.below hst hst.size)
    have H1 := hid h.lis
    clear hb hst
    try clear hWb
    obtain ⟨W0, rfl⟩ : ∃ W0 : World, W0 = W1 := ⟨_, rfl⟩
    clear h
    obtain rfl : C.length = m1 := H1.out.1
    obtain ⟨V, hV⟩ : ∃ V, W0.alloc (.cells #[.int .i64 (J : Int), .slice A1 C.length c1] 24) = V := ⟨_, rfl⟩
    have hst : Below W0.heap.size W0 V := by rw [← hV]; exact (by repeat' (first | with_reducible assumption | with_reducible exact Below.refl _ _ | refine Below.alloc ?_ ?_ _ | refine Below.setCell ?_ ?_ _ | refine Below.drew ?_ | refine below_drewN ?_ _ | (simp; done) | (simp; omega) | omega))
    obtain ⟨TP, hT⟩ : ∃ T, W0.heap.size = T := ⟨_, rfl⟩
    have bP : Blk V TP 24 #[.int .i64 (J : Int), .slice A1 C.length c1] := by rw [← hV, ← hT]; exact Blk.new' rfl
    replace bB := bB.below hst bB.lt
    clear pB0 pB1 lB
    have pB0 := bB.cell 0
    have pB1 := bB.cell 1
    have lB := bB.lt
    have pP0 := bP.cell 0
    have pP1 := bP.cell 1
    have lP := bP.lt
    go_wp2_with (fail)
    clear hV hT
    replace hbel := hbel.trans (hst.mono hsz)
    replace hsz := hbel.size
    replace HL := hid (HL.out.below hst hst.size)
    replace H1 := hid (H1.out.below hst hst.size)
    clear hst
    obtain ⟨W0, rfl⟩ : ∃ W0 : World, W0 = V := ⟨_, rfl⟩
    refine (few_any A n c ls J _ (HL.out.below (by repeat' (first | with_reducible assumption | with_reducible exact Below.refl _ _ | refine Below.alloc ?_ ?_ _ | refine Below.setCell ?_ ?_ _ | refine Below.drew ?_ | refine below_drewN ?_ _ | (simp; done) | (simp; omega) | omega)) (by first | (simp; done) | (simp; omega) | omega)) (by omega) K2.out hbl.out).mono ?_
    rw [HN.out, His.out, (fwOk_true Hc.out)]
    rintro e W1 ⟨rfl, hb⟩
    have hst : Below W0.heap.size W0 W1 := Below.trans (by repeat' (first | with_reducible assumption | with_reducible exact Below.refl _ _ | refine Below.alloc ?_ ?_ _ | refine Below.setCell ?_ ?_ _ | refine Below.drew ?_ | refine below_drewN ?_ _ | (simp; done) | (simp; omega) | omega)) (hb.mono (by first | (simp; done) | (simp; omega) | omega))
    replace hbel := hbel.trans (hst.mono hsz)
    replace hsz := hbel.size
    replace bB := bB.below hst bB.lt
    clear pB0 pB1 lB
    have pB0 := bB.cell 0
    have pB1 := bB.cell 1
    have lB := bB.lt
    replace bP := bP.below hst bP.lt
    clear pP0 pP1 lP
    have pP0 := bP.cell 0
    have pP1 := bP.cell 1
    have lP := bP.lt
    replace HL := hid (HL.out.below hst hst.size)
    replace H1 := hid (H1.out.below hst hst.size)
    clear hb hst
    try clear hWb
    obtain ⟨W0, rfl⟩ : ∃ W0 : World, W0 = W1 := ⟨_, rfl⟩
    have G1 := F1.out
    go_wp2_with (fail)
    refine (great_any A1 C.length c1 C J _ (H1.out.below (by repeat' (first | with_reducible assumption | with_reducible exact Below.refl _ _ | refine Below.alloc ?_ ?_ _ | refine Below.setCell ?_ ?_ _ | refine Below.drew ?_ | refine below_drewN ?_ _ | (simp; done) | (simp; omega) | omega)) (by first | (simp; done) | (simp; omega) | omega))).mono ?_
    rw [Cg.out]
    rintro e W1 ⟨rfl, hb⟩
    have hst : Below W0.heap.size W0 W1 := Below.trans (by repeat' (first | with_reducible assumption | with_reducible exact Below.refl _ _ | refine Below.alloc ?_ ?_ _ | refine Below.setCell ?_ ?_ _ | refine Below.drew ?_ | refine below_drewN ?_ _ | (simp; done) | (simp; omega) | omega)) (hb.mono (by first | (simp; done) | (simp; omega) | omega))
    replace hbel := hbel.trans (hst.mono hsz)
    replace hsz := hbel.size
    replace bB := bB.below hst bB.lt
    clear pB0 pB1 lB
    have pB0 := bB.cell 0
    have pB1 := bB.cell 1
    have lB := bB.lt
    replace bP := bP.below hst bP.lt
    clear pP0 pP1 lP
    have pP0 := bP.cell 0
    have pP1 := bP.cell 1
    have lP := bP.lt
    replace HL := hid (HL.out.below hst hst.size)
    replace H1 := hid (H1.out.below hst hst.size)
    clear hb hst
    try clear hWb
    obtain ⟨W0, rfl⟩ : ∃ W0 : World, W0 = W1 := ⟨_, rfl⟩
    cases is
    · have g2 := F2.out rfl
      subst g2
      clear G1
      go_wp2_with (fail)
      refine (works_any _).mono ?_
      rintro e W1 ⟨rfl, hb⟩
      have hst : Below W0.heap.size W0 W1 := Below.trans (by repeat' (first | with_reducible assumption | with_reducible exact Below.refl _ _ | refine Below.alloc ?_ ?_ _ | refine Below.setCell ?_ ?_ _ | refine Below.drew ?_ | refine below_drewN ?_ _ | (simp; done) | (simp; omega) | omega)) (hb.mono (by first | (simp; done) | (simp; omega) | omega))
      replace hbel := hbel.trans (hst.mono hsz)
      replace hsz := hbel.size
      replace bB := bB.below hst bB.lt
      clear pB0 pB1 lB
      have pB0 := bB.cell 0
      have pB1 := bB.cell 1
      have lB := bB.lt
      replace bP := bP.below hst bP.lt
      clear pP0 pP1 lP
      have pP0 := bP.cell 0
      have pP1 := bP.cell 1
      have lP := bP.lt
      replace HL := hid (HL.out.below hst hst.size)
      replace H1 := hid (H1.out.below hst hst.size)
      clear hb hst
      try clear hWb
      obtain ⟨W0, rfl⟩ : ∃ W0 : World, W0 = W1 := ⟨_, rfl⟩
      go_wp2
      go_ret
      exact ⟨rfl, hbel⟩
    · have G4 := F4.out rfl
      have G5 := F5.out rfl
      have G8 := F8.out rfl
      have G9 := F9.out rfl
      have g4 := hid G4
      have g5 := hid G5
      have g8 := hid G8
      have g9 := hid G9
      have tk : (kE == 0) = true := F1.out
      clear G1 G4 G5 G8 G9
      obtain ⟨i0, hi0, hi1, hi2, hi3⟩ := info_parts' infoI
      have I0 := hid hi0; have I1 := hid hi1; have I2 := hid hi2; have I3 := hid hi3
      clear hi0 hi1 hi2 hi3
      obtain ⟨XA, rfl⟩ : ∃ X : World, X = W0 := ⟨_, rfl⟩
      go_wp2_with (fail)
      go_loopw [13, 16, 17, 18] (fun a h r m wr => ∃ k : Nat, k ≤ n ∧ h = .int .i64 k ∧ a = .bool (aloneB (ls.take k) i) ∧ (∃ (A8 : Option Addr) (c8 : Nat), Hid (NewLw wr (XA.heap.size + 1) (fun b => XA.heap.size < b) (.slice A8 k c8) ((ls.take k).map (noI i))) ∧ Hid (Blk wr XA.heap.size 24 #[.int .i64 (J : Int), .slice A8 k c8])) ∧ Below XA.heap.size XA wr) (fun _ h _ _ _ => n - (intOf h).toNat)
      case atStart => exact ⟨0, by omega, rfl, rfl, ⟨none, 0, hid (NewLw.nil _ _ _), hid (Blk.new' rfl)⟩, (by repeat' (first | with_reducible assumption | with_reducible exact Below.refl _ _ | refine Below.alloc ?_ ?_ _ | refine Below.setCell ?_ ?_ _ | refine Below.drew ?_ | refine below_drewN ?_ _ | (simp; done) | (simp; omega) | omega))⟩
      case round =>
        obtain ⟨k, hk, rfl, rfl, ⟨A8, c8, hN, hT⟩, hlA⟩ := hrel
        replace hbel := hbel.trans (hlA.mono hsz)
        replace hsz := hbel.size
        replace bB := bB.below hlA bB.lt
        clear pB0 pB1 lB
        have pB0 := bB.cell 0
        have pB1 := bB.cell 1
        have lB := bB.lt
        replace bP := bP.below hlA bP.lt
        clear pP0 pP1 lP
        have pP0 := bP.cell 0
        have pP1 := bP.cell 1
        have lP := bP.lt
        replace HL := hid (HL.out.below hlA hlA.size)
        replace H1 := hid (H1.out.below hlA hlA.size)
        obtain ⟨W0, rfl⟩ : ∃ W0 : World, W0 = wr := ⟨_, rfl⟩
        have bT := hT.out
        clear hT
        have pT0 := bT.cell 0
        have pT1 := bT.cell 1
        have lT := bT.lt
        by_cases hlt : k < n
        · have hlti : (k : Int) < n := by omega
          obtain ⟨b1, o1, x, A3, m3, c3, rfl, hb1, hx, q0, hin3⟩ := HL.out.at_ hlt
          have hxv := Hv8.out x (List.mem_of_getElem? hx)
          have hm3 : m3 ≤ 8 := by have := isL_len8 hxv (by omega); have := hin3.len; omega
          have hk0 : (0 : Int) ≤ k := by omega
          have htk : Hid (ls.take (k + 1) = ls.take k ++ [x]) := hid (by rw [List.take_add_one, hx]; rfl)
          have hst : aloneB (ls.take (k + 1)) i = (aloneB (ls.take k) i || (x == [(i : Int)])) := by rw [htk.out]; unfold aloneB; rw [List.any_append]; simp
          have Hin3 := hid hin3
          have hxlen := hid hin3.len
          clear hx hxv hin3
          obtain ⟨ak, hak⟩ : ∃ v, aloneB (ls.take k) i = v := ⟨_, rfl⟩
          rw [hak] at hst ⊢
          clear hak
          have HN0 := hN
          cases ak
          · rw [Bool.false_or] at hst
            by_cases hm1 : m3 = 1
            · obtain ⟨b4, o4, z, hA4, hb4, hz, r0⟩ := Hin3.out.at_ (k := 0) (by omega)
              have hxz : x = [z] := by
                have h9 := hxlen.out
                rw [hm1] at h9
                match x, h9, hz with
                | [u], _, hz => simp at hz; rw [hz]
              have hst2 : aloneB (ls.take (k + 1)) i = (z == (i : Int)) := by rw [hst, hxz]; simp
              obtain ⟨bz, hbz⟩ : ∃ v, (z == (i : Int)) = v := ⟨_, rfl⟩
              rw [hbz] at hst2
              have Hst := hid hst2
              have tm : ((m3 : Int) == 1) = true := by simp [hm1]
              rw [Nat.add_zero] at r0
              have h01 : (0 : Int) < (m3 : Int) := by omega
              cases hA4
              clear hst hst2 hxz hz hm1
              go_wp2_with (fail)
              clear r0 tm
              go_wp2_with (fail)
              obtain ⟨X2, rfl⟩ : ∃ X : World, X = W0 := ⟨_, rfl⟩
              have hlT := bT.lt
              have q00 := q0
              clear q0
              go_loopw [17, 18] (fun r m wr => ∃ d : Nat, d ≤ m3 ∧ m = .int .i64 d ∧ Hid (wr.ownsRow X2.heap.size 3 1 r (noI i (x.take d)).length ((noI i (x.take d)).flatMap cI)) ∧ Below X2.heap.size X2 wr) (fun _ m _ => m3 - (intOf m).toNat)
              case atStart => exact ⟨0, by omega, rfl, hid (World.ownsRow_nil _ _ _ _), Below.refl _ _⟩
              case round =>
                obtain ⟨d, hd, rfl, hrow, hlB⟩ := hrel
                replace hbel := hbel.trans (hlB.mono hsz)
                replace hsz := hbel.size
                replace hlA := hlA.trans (hlB.mono hlA.size)
                replace bB := bB.below hlB bB.lt
                clear pB0 pB1 lB
                have pB0 := bB.cell 0
                have pB1 := bB.cell 1
                have lB := bB.lt
                replace bP := bP.below hlB bP.lt
                clear pP0 pP1 lP
                have pP0 := bP.cell 0
                have pP1 := bP.cell 1
                have lP := bP.lt
                replace bT := bT.below hlB bT.lt
                clear pT0 pT1 lT
                have pT0 := bT.cell 0
                have pT1 := bT.cell 1
                have lT := bT.lt
                replace HL := hid (HL.out.below hlB hlB.size)
                replace H1 := hid (H1.out.below hlB hlB.size)
                replace Hin3 := hid (Hin3.out.below hlB hlB.size)
                have q0 := (hlB.cell (p := ⟨b1, o1 + k, none⟩) hb1).trans q00
                have hb1w := Nat.lt_of_lt_of_le hb1 hlB.size
                obtain ⟨W0, rfl⟩ : ∃ W0 : World, W0 = wr := ⟨_, rfl⟩
                by_cases hd3 : d < m3
                · have hd3i : (d : Int) < m3 := by omega
                  have hd0 : (0 : Int) ≤ d := by omega
                  obtain ⟨b4, o4, z, hA4, hb4, hz, r0⟩ := Hin3.out.at_ hd3
                  cases hA4
                  have hnt : noI i (x.take (d + 1)) = noI i (x.take d) ++ (if z = (i : Int) then [] else [z]) := by
                    rw [List.take_add_one, hz]
                    unfold noI
                    rw [List.filter_append]
                    by_cases h9 : z = (i : Int)
                    · simp [h9]
                    · simp [h9]
                  have hnl : (noI i (x.take d)).length ≤ d := Nat.le_trans (List.length_filter_le _ _) (by simp; omega)
                  clear hz
                  by_cases hzi : z = (i : Int)
                  · have tz : (z != (i : Int)) = false := by simp [hzi]
                    rw [if_pos hzi, List.append_nil] at hnt
                    have Hnt := hid hnt
                    clear hnt hzi
                    go_wp2
                    exact ⟨⟨d + 1, by omega, by go_num, hid (by rw [Hnt.out]; exact hrow.out), hlB⟩, by simp [intOf]; omega⟩
                  · have tz : (z != (i : Int)) = true := by simpa using hzi
                    rw [if_neg hzi] at hnt
                    have Hl : Hid ((noI i (x.take (d + 1))).length = (noI i (x.take d)).length + 1) := hid (by rw [hnt]; simp)
                    have Hf9 : Hid ((noI i (x.take (d + 1))).flatMap cI = (noI i (x.take d)).flatMap cI ++ [.int .i64 z]) := hid (by rw [hnt, List.flatMap_append]; rfl)
                    clear hnt hzi
                    have hszB := hlB.size
                    go_wp2_with (at_builtin; refine wpList_append_own _ rfl _ _ 25 rfl X2.heap.size 3 i0 _ 1 8 underL I0.out I1.out I2.out I3.out rfl (by decide) _ (noI i (x.take d)).length _ rfl (hrow.out.alloc (.cells #[.int .i64 z] 3)) ⟨W0.heap.size, 0, none⟩ 1 1 [.int .i64 z] rfl rfl (fun j u hj => World.news_of_block (Blk.new' (by simp)) j u hj) (one1 _) (by unfold maxLen; omega) (by omega) (by simp; omega) ?_; intro v' w3 ho3 hg3 hv3)
                    have hb3 : Below X2.heap.size X2 w3 := (hlB.alloc hszB _).grown hg3 (by simp; omega) (fun r hr => (World.ownsRow.lt hrow.out r hr).1)
                    exact ⟨⟨d + 1, by omega, by go_num, hid (by rw [Hl.out, Hf9.out]; exact ho3), hb3⟩, by simp [intOf]; omega⟩
                · have hd3i : ¬ (d : Int) < m3 := by omega
                  have hrw : Hid (W0.ownsRow X2.heap.size 3 1 u17 (noI i x).length ((noI i x).flatMap cI)) := hid (by have h9 : x.take d = x := List.take_of_length_le (by have := hxlen.out; omega); have := hrow.out; rw [h9] at this; exact this)
                  clear hrow hd3 hd
                  have hN2 := hid (hN.out.below hlB)
                  obtain ⟨A5, c5, rfl, hr5, hc5, -⟩ := own_slb hrw.out
                  have hr5 : InS W0 W0.heap.size A5 (noI i x).length (noI i x) := hr5
                  have Hr5 := hid hr5
                  have hA5 : Hid (∀ b off, A5 = some ⟨b, off, none⟩ → X2.heap.size ≤ b) := hid (fun b off e => by subst e; exact (World.ownsRow.lt hrw.out b rfl).1)
                  obtain ⟨z5, hz5⟩ : ∃ v, (noI i x).length = v := ⟨_, rfl⟩
                  rw [hz5] at Hr5 ⊢
                  have Hz5 := hid hz5
                  clear hr5 hrw hN
                  have hownX : ∀ r, (Value.slice A8 k c8).ownBlock = some r → XA.heap.size + 1 ≤ r ∧ r < X2.heap.size := fun r hr => by
                    have h1 := newLw_own HN0.out r hr
                    exact ⟨h1.1, h1.2.1⟩
                  have HownX := hid hownX
                  clear hownX hz5
                  have hszA := hlA.size
                  have hszB := hlB.size
                  have hbA : Below W0.heap.size W0 (W0.alloc (.cells #[.slice A5 z5 c5] 25)) := (Below.refl _ _).alloc (Nat.le_refl _) _
                  have hN3 := hid (hN2.out.below hbA)
                  have hI3 : Hid (InS (W0.alloc (.cells #[.slice A5 z5 c5] 25)) (W0.alloc (.cells #[.slice A5 z5 c5] 25)).heap.size A5 z5 (noI i x)) := hid (Hr5.out.below hbA hbA.size)
                  have bT3 := hid (bT.alloc (.cells #[.slice A5 z5 c5] 25))
                  have hl4 := hlA.alloc hlA.size (.cells #[.slice A5 z5 c5] 25)
                  have hlk : ((ls.take k).map (noI i)).length ≤ 1000000 := by simp; omega
                  have hszC : XA.heap.size + 1 ≤ (W0.alloc (.cells #[.slice A5 z5 c5] 25)).heap.size := by have := bT.lt; simp; omega
                  clear hbA
                  have Hlen9 : Hid (((ls.take k).map (noI i) ++ [noI i x]).length = k + 1) := hid (by have := la.out; simp; omega)
                  go_wp2_with (at_builtin; refine newLw_append rfl (by rfl) _ _ rfl (XA.heap.size + 1) _ _ _ rfl hN3.out W0.heap.size A5 z5 c5 (noI i x) rfl (Blk.new' rfl) hI3.out (fun hm b9 off9 e9 => ⟨fun e10 => by have h1 := hA5.out b9 off9 e9; have h2 := HownX.out b9 e10; omega, by have h1 := hA5.out b9 off9 e9; omega⟩) hlk hszC ?_; intro v8 w4 hn4 hg4 _; have hb4 : Below XA.heap.size XA w4 := hl4.grown hg4 (by omega) (fun r hr => by have := HownX.out r hr; omega); have bT4 := bT3.out.grown hg4 (fun e => by have := HownX.out _ e.symm; omega); obtain ⟨A9, c9, e9, -⟩ := lis_of_lw hn4; rw [Hlen9.out] at e9; subst e9; have t40 := bT4.cell 0; have t41 := bT4.cell 1; have t42 := bT4.lt; have t43 := bT4.frozen 1)
                  clear t40 t41 t42 t43
                  refine ⟨⟨k + 1, by omega, by go_num, by rw [Hst.out], ⟨A9, c9, hid ?_, hid ?_⟩, hb4.setCell (Nat.le_refl _) _⟩, by simp [intOf]; omega⟩
                  · rw [htk.out, List.map_append]
                    exact newLw_put hn4 bT4
                  · exact bT4.set_ 1 _
            · have hst2 : aloneB (ls.take (k + 1)) i = false := by
                rw [hst, beq_eq_false_iff_ne]
                intro h9
                have := hxlen.out
                rw [h9] at this
                exact hm1 this.symm
              have Hst := hid hst2
              have tm : ((m3 : Int) == 1) = false := by rw [beq_eq_false_iff_ne]; omega
              clear hst hst2 hm1
              go_wp2_with (fail)
              obtain ⟨X2, rfl⟩ : ∃ X : World, X = W0 := ⟨_, rfl⟩
              have hlT := bT.lt
              have q00 := q0
              clear q0
              go_loopw [17, 18] (fun r m wr => ∃ d : Nat, d ≤ m3 ∧ m = .int .i64 d ∧ Hid (wr.ownsRow X2.heap.size 3 1 r (noI i (x.take d)).length ((noI i (x.take d)).flatMap cI)) ∧ Below X2.heap.size X2 wr) (fun _ m _ => m3 - (intOf m).toNat)
              case atStart => exact ⟨0, by omega, rfl, hid (World.ownsRow_nil _ _ _ _), Below.refl _ _⟩
              case round =>
                obtain ⟨d, hd, rfl, hrow, hlB⟩ := hrel
                replace hbel := hbel.trans (hlB.mono hsz)
                replace hsz := hbel.size
                replace hlA := hlA.trans (hlB.mono hlA.size)
                replace bB := bB.below hlB bB.lt
                clear pB0 pB1 lB
                have pB0 := bB.cell 0
                have pB1 := bB.cell 1
                have lB := bB.lt
                replace bP := bP.below hlB bP.lt
                clear pP0 pP1 lP
                have pP0 := bP.cell 0
                have pP1 := bP.cell 1
                have lP := bP.lt
                replace bT := bT.below hlB bT.lt
                clear pT0 pT1 lT
                have pT0 := bT.cell 0
                have pT1 := bT.cell 1
                have lT := bT.lt
                replace HL := hid (HL.out.below hlB hlB.size)
                replace H1 := hid (H1.out.below hlB hlB.size)
                replace Hin3 := hid (Hin3.out.below hlB hlB.size)
                have q0 := (hlB.cell (p := ⟨b1, o1 + k, none⟩) hb1).trans q00
                have hb1w := Nat.lt_of_lt_of_le hb1 hlB.size
                obtain ⟨W0, rfl⟩ : ∃ W0 : World, W0 = wr := ⟨_, rfl⟩
                by_cases hd3 : d < m3
                · have hd3i : (d : Int) < m3 := by omega
                  have hd0 : (0 : Int) ≤ d := by omega
                  obtain ⟨b4, o4, z, hA4, hb4, hz, r0⟩ := Hin3.out.at_ hd3
                  cases hA4
                  have hnt : noI i (x.take (d + 1)) = noI i (x.take d) ++ (if z = (i : Int) then [] else [z]) := by
                    rw [List.take_add_one, hz]
                    unfold noI
                    rw [List.filter_append]
                    by_cases h9 : z = (i : Int)
                    · simp [h9]
                    · simp [h9]
                  have hnl : (noI i (x.take d)).length ≤ d := Nat.le_trans (List.length_filter_le _ _) (by simp; omega)
                  clear hz
                  by_cases hzi : z = (i : Int)
                  · have tz : (z != (i : Int)) = false := by simp [hzi]
                    rw [if_pos hzi, List.append_nil] at hnt
                    have Hnt := hid hnt
                    clear hnt hzi
                    go_wp2
                    exact ⟨⟨d + 1, by omega, by go_num, hid (by rw [Hnt.out]; exact hrow.out), hlB⟩, by simp [intOf]; omega⟩
                  · have tz : (z != (i : Int)) = true := by simpa using hzi
                    rw [if_neg hzi] at hnt
                    have Hl : Hid ((noI i (x.take (d + 1))).length = (noI i (x.take d)).length + 1) := hid (by rw [hnt]; simp)
                    have Hf9 : Hid ((noI i (x.take (d + 1))).flatMap cI = (noI i (x.take d)).flatMap cI ++ [.int .i64 z]) := hid (by rw [hnt, List.flatMap_append]; rfl)
                    clear hnt hzi
                    have hszB := hlB.size
                    go_wp2_with (at_builtin; refine wpList_append_own _ rfl _ _ 25 rfl X2.heap.size 3 i0 _ 1 8 underL I0.out I1.out I2.out I3.out rfl (by decide) _ (noI i (x.take d)).length _ rfl (hrow.out.alloc (.cells #[.int .i64 z] 3)) ⟨W0.heap.size, 0, none⟩ 1 1 [.int .i64 z] rfl rfl (fun j u hj => World.news_of_block (Blk.new' (by simp)) j u hj) (one1 _) (by unfold maxLen; omega) (by omega) (by simp; omega) ?_; intro v' w3 ho3 hg3 hv3)
                    have hb3 : Below X2.heap.size X2 w3 := (hlB.alloc hszB _).grown hg3 (by simp; omega) (fun r hr => (World.ownsRow.lt hrow.out r hr).1)
                    exact ⟨⟨d + 1, by omega, by go_num, hid (by rw [Hl.out, Hf9.out]; exact ho3), hb3⟩, by simp [intOf]; omega⟩
                · have hd3i : ¬ (d : Int) < m3 := by omega
                  have hrw : Hid (W0.ownsRow X2.heap.size 3 1 u17 (noI i x).length ((noI i x).flatMap cI)) := hid (by have h9 : x.take d = x := List.take_of_length_le (by have := hxlen.out; omega); have := hrow.out; rw [h9] at this; exact this)
                  clear hrow hd3 hd
                  have hN2 := hid (hN.out.below hlB)
                  obtain ⟨A5, c5, rfl, hr5, hc5, -⟩ := own_slb hrw.out
                  have hr5 : InS W0 W0.heap.size A5 (noI i x).length (noI i x) := hr5
                  have Hr5 := hid hr5
                  have hA5 : Hid (∀ b off, A5 = some ⟨b, off, none⟩ → X2.heap.size ≤ b) := hid (fun b off e => by subst e; exact (World.ownsRow.lt hrw.out b rfl).1)
                  obtain ⟨z5, hz5⟩ : ∃ v, (noI i x).length = v := ⟨_, rfl⟩
                  rw [hz5] at Hr5 ⊢
                  have Hz5 := hid hz5
                  clear hr5 hrw hN
                  have hownX : ∀ r, (Value.slice A8 k c8).ownBlock = some r → XA.heap.size + 1 ≤ r ∧ r < X2.heap.size := fun r hr => by
                    have h1 := newLw_own HN0.out r hr
                    exact ⟨h1.1, h1.2.1⟩
                  have HownX := hid hownX
                  clear hownX hz5
                  have hszA := hlA.size
                  have hszB := hlB.size
                  have hbA : Below W0.heap.size W0 (W0.alloc (.cells #[.slice A5 z5 c5] 25)) := (Below.refl _ _).alloc (Nat.le_refl _) _
                  have hN3 := hid (hN2.out.below hbA)
                  have hI3 : Hid (InS (W0.alloc (.cells #[.slice A5 z5 c5] 25)) (W0.alloc (.cells #[.slice A5 z5 c5] 25)).heap.size A5 z5 (noI i x)) := hid (Hr5.out.below hbA hbA.size)
                  have bT3 := hid (bT.alloc (.cells #[.slice A5 z5 c5] 25))
                  have hl4 := hlA.alloc hlA.size (.cells #[.slice A5 z5 c5] 25)
                  have hlk : ((ls.take k).map (noI i)).length ≤ 1000000 := by simp; omega
                  have hszC : XA.heap.size + 1 ≤ (W0.alloc (.cells #[.slice A5 z5 c5] 25)).heap.size := by have := bT.lt; simp; omega
                  clear hbA
                  have Hlen9 : Hid (((ls.take k).map (noI i) ++ [noI i x]).length = k + 1) := hid (by have := la.out; simp; omega)
                  go_wp2_with (at_builtin; refine newLw_append rfl (by rfl) _ _ rfl (XA.heap.size + 1) _ _ _ rfl hN3.out W0.heap.size A5 z5 c5 (noI i x) rfl (Blk.new' rfl) hI3.out (fun hm b9 off9 e9 => ⟨fun e10 => by have h1 := hA5.out b9 off9 e9; have h2 := HownX.out b9 e10; omega, by have h1 := hA5.out b9 off9 e9; omega⟩) hlk hszC ?_; intro v8 w4 hn4 hg4 _; have hb4 : Below XA.heap.size XA w4 := hl4.grown hg4 (by omega) (fun r hr => by have := HownX.out r hr; omega); have bT4 := bT3.out.grown hg4 (fun e => by have := HownX.out _ e.symm; omega); obtain ⟨A9, c9, e9, -⟩ := lis_of_lw hn4; rw [Hlen9.out] at e9; subst e9; have t40 := bT4.cell 0; have t41 := bT4.cell 1; have t42 := bT4.lt; have t43 := bT4.frozen 1)
                  clear t40 t41 t42 t43
                  refine ⟨⟨k + 1, by omega, by go_num, by rw [Hst.out], ⟨A9, c9, hid ?_, hid ?_⟩, hb4.setCell (Nat.le_refl _) _⟩, by simp [intOf]; omega⟩
                  · rw [htk.out, List.map_append]
                    exact newLw_put hn4 bT4
                  · exact bT4.set_ 1 _
          · rw [Bool.true_or] at hst
            have Hst := hid hst
            clear hst
            go_wp2_with (fail)
            obtain ⟨X2, rfl⟩ : ∃ X : World, X = W0 := ⟨_, rfl⟩
            have hlT := bT.lt
            have q00 := q0
            clear q0
            go_loopw [17, 18] (fun r m wr => ∃ d : Nat, d ≤ m3 ∧ m = .int .i64 d ∧ Hid (wr.ownsRow X2.heap.size 3 1 r (noI i (x.take d)).length ((noI i (x.take d)).flatMap cI)) ∧ Below X2.heap.size X2 wr) (fun _ m _ => m3 - (intOf m).toNat)
            case atStart => exact ⟨0, by omega, rfl, hid (World.ownsRow_nil _ _ _ _), Below.refl _ _⟩
            case round =>
              obtain ⟨d, hd, rfl, hrow, hlB⟩ := hrel
              replace hbel := hbel.trans (hlB.mono hsz)
              replace hsz := hbel.size
              replace hlA := hlA.trans (hlB.mono hlA.size)
              replace bB := bB.below hlB bB.lt
              clear pB0 pB1 lB
              have pB0 := bB.cell 0
              have pB1 := bB.cell 1
              have lB := bB.lt
              replace bP := bP.below hlB bP.lt
              clear pP0 pP1 lP
              have pP0 := bP.cell 0
              have pP1 := bP.cell 1
              have lP := bP.lt
              replace bT := bT.below hlB bT.lt
              clear pT0 pT1 lT
              have pT0 := bT.cell 0
              have pT1 := bT.cell 1
              have lT := bT.lt
              replace HL := hid (HL.out.below hlB hlB.size)
              replace H1 := hid (H1.out.below hlB hlB.size)
              replace Hin3 := hid (Hin3.out.below hlB hlB.size)
              have q0 := (hlB.cell (p := ⟨b1, o1 + k, none⟩) hb1).trans q00
              have hb1w := Nat.lt_of_lt_of_le hb1 hlB.size
              obtain ⟨W0, rfl⟩ : ∃ W0 : World, W0 = wr := ⟨_, rfl⟩
              by_cases hd3 : d < m3
              · have hd3i : (d : Int) < m3 := by omega
                have hd0 : (0 : Int) ≤ d := by omega
                obtain ⟨b4, o4, z, hA4, hb4, hz, r0⟩ := Hin3.out.at_ hd3
                cases hA4
                have hnt : noI i (x.take (d + 1)) = noI i (x.take d) ++ (if z = (i : Int) then [] else [z]) := by
                  rw [List.take_add_one, hz]
                  unfold noI
                  rw [List.filter_append]
                  by_cases h9 : z = (i : Int)
                  · simp [h9]
                  · simp [h9]
                have hnl : (noI i (x.take d)).length ≤ d := Nat.le_trans (List.length_filter_le _ _) (by simp; omega)
                clear hz
                by_cases hzi : z = (i : Int)
                · have tz : (z != (i : Int)) = false := by simp [hzi]
                  rw [if_pos hzi, List.append_nil] at hnt
                  have Hnt := hid hnt
                  clear hnt hzi
                  go_wp2
                  exact ⟨⟨d + 1, by omega, by go_num, hid (by rw [Hnt.out]; exact hrow.out), hlB⟩, by simp [intOf]; omega⟩
                · have tz : (z != (i : Int)) = true := by simpa using hzi
                  rw [if_neg hzi] at hnt
                  have Hl : Hid ((noI i (x.take (d + 1))).length = (noI i (x.take d)).length + 1) := hid (by rw [hnt]; simp)
                  have Hf9 : Hid ((noI i (x.take (d + 1))).flatMap cI = (noI i (x.take d)).flatMap cI ++ [.int .i64 z]) := hid (by rw [hnt, List.flatMap_append]; rfl)
                  clear hnt hzi
                  have hszB := hlB.size
                  go_wp2_with (at_builtin; refine wpList_append_own _ rfl _ _ 25 rfl X2.heap.size 3 i0 _ 1 8 underL I0.out I1.out I2.out I3.out rfl (by decide) _ (noI i (x.take d)).length _ rfl (hrow.out.alloc (.cells #[.int .i64 z] 3)) ⟨W0.heap.size, 0, none⟩ 1 1 [.int .i64 z] rfl rfl (fun j u hj => World.news_of_block (Blk.new' (by simp)) j u hj) (one1 _) (by unfold maxLen; omega) (by omega) (by simp; omega) ?_; intro v' w3 ho3 hg3 hv3)
                  have hb3 : Below X2.heap.size X2 w3 := (hlB.alloc hszB _).grown hg3 (by simp; omega) (fun r hr => (World.ownsRow.lt hrow.out r hr).1)
                  exact ⟨⟨d + 1, by omega, by go_num, hid (by rw [Hl.out, Hf9.out]; exact ho3), hb3⟩, by simp [intOf]; omega⟩
              · have hd3i : ¬ (d : Int) < m3 := by omega
                have hrw : Hid (W0.ownsRow X2.heap.size 3 1 u17 (noI i x).length ((noI i x).flatMap cI)) := hid (by have h9 : x.take d = x := List.take_of_length_le (by have := hxlen.out; omega); have := hrow.out; rw [h9] at this; exact this)
                clear hrow hd3 hd
                have hN2 := hid (hN.out.below hlB)
                obtain ⟨A5, c5, rfl, hr5, hc5, -⟩ := own_slb hrw.out
                have hr5 : InS W0 W0.heap.size A5 (noI i x).length (noI i x) := hr5
                have Hr5 := hid hr5
                have hA5 : Hid (∀ b off, A5 = some ⟨b, off, none⟩ → X2.heap.size ≤ b) := hid (fun b off e => by subst e; exact (World.ownsRow.lt hrw.out b rfl).1)
                obtain ⟨z5, hz5⟩ : ∃ v, (noI i x).length = v := ⟨_, rfl⟩
                rw [hz5] at Hr5 ⊢
                have Hz5 := hid hz5
                clear hr5 hrw hN
                have hownX : ∀ r, (Value.slice A8 k c8).ownBlock = some r → XA.heap.size + 1 ≤ r ∧ r < X2.heap.size := fun r hr => by
                  have h1 := newLw_own HN0.out r hr
                  exact ⟨h1.1, h1.2.1⟩
                have HownX := hid hownX
                clear hownX hz5
                have hszA := hlA.size
                have hszB := hlB.size
                have hbA : Below W0.heap.size W0 (W0.alloc (.cells #[.slice A5 z5 c5] 25)) := (Below.refl _ _).alloc (Nat.le_refl _) _
                have hN3 := hid (hN2.out.below hbA)
                have hI3 : Hid (InS (W0.alloc (.cells #[.slice A5 z5 c5] 25)) (W0.alloc (.cells #[.slice A5 z5 c5] 25)).heap.size A5 z5 (noI i x)) := hid (Hr5.out.below hbA hbA.size)
                have bT3 := hid (bT.alloc (.cells #[.slice A5 z5 c5] 25))
                have hl4 := hlA.alloc hlA.size (.cells #[.slice A5 z5 c5] 25)
                have hlk : ((ls.take k).map (noI i)).length ≤ 1000000 := by simp; omega
                have hszC : XA.heap.size + 1 ≤ (W0.alloc (.cells #[.slice A5 z5 c5] 25)).heap.size := by have := bT.lt; simp; omega
                clear hbA
                have Hlen9 : Hid (((ls.take k).map (noI i) ++ [noI i x]).length = k + 1) := hid (by have := la.out; simp; omega)
                go_wp2_with (at_builtin; refine newLw_append rfl (by rfl) _ _ rfl (XA.heap.size + 1) _ _ _ rfl hN3.out W0.heap.size A5 z5 c5 (noI i x) rfl (Blk.new' rfl) hI3.out (fun hm b9 off9 e9 => ⟨fun e10 => by have h1 := hA5.out b9 off9 e9; have h2 := HownX.out b9 e10; omega, by have h1 := hA5.out b9 off9 e9; omega⟩) hlk hszC ?_; intro v8 w4 hn4 hg4 _; have hb4 : Below XA.heap.size XA w4 := hl4.grown hg4 (by omega) (fun r hr => by have := HownX.out r hr; omega); have bT4 := bT3.out.grown hg4 (fun e => by have := HownX.out _ e.symm; omega); obtain ⟨A9, c9, e9, -⟩ := lis_of_lw hn4; rw [Hlen9.out] at e9; subst e9; have t40 := bT4.cell 0; have t41 := bT4.cell 1; have t42 := bT4.lt; have t43 := bT4.frozen 1)
                clear t40 t41 t42 t43
                refine ⟨⟨k + 1, by omega, by go_num, by rw [Hst.out], ⟨A9, c9, hid ?_, hid ?_⟩, hb4.setCell (Nat.le_refl _) _⟩, by simp [intOf]; omega⟩
                · rw [htk.out, List.map_append]
                  exact newLw_put hn4 bT4
                · exact bT4.set_ 1 _
        · have hlti : ¬ (k : Int) < n := by omega
          have htk : ls.take k = ls := List.take_of_length_le (by rw [la.out]; omega)
          rw [htk, Hal.out]
          have hX2 := lis_of_lw hN.out
          rw [htk] at hX2
          obtain ⟨A9, c9, e9, hX9⟩ := hX2
          have hlm : (ls.map (noI i)).length = k := by rw [List.length_map, la.out]; omega
          rw [hlm] at e9 hX9
          cases e9
          obtain ⟨X, hX⟩ : ∃ v, ls.map (noI i) = v := ⟨_, rfl⟩
          have Hals := Hals.out
          have HM := HM.out
          have hbX := hbX.out
          have KX := KX.out
          have F7 := F7.out
          rw [hX] at hX9 Hals HM hbX KX F7
          have HX9 := hid hX9
          have Hals := hid Hals
          have HM := hid HM
          have hbX := hid hbX
          have KX := hid KX
          have F7 := hid F7
          have hk10 : k ≤ 10 := by omega
          clear hX9 hX hN htk hlm hk hlt
          go_wp2_with (fail)
          obtain ⟨X1, rfl⟩ : ∃ X : World, X = W0 := ⟨_, rfl⟩
          go_loopw [14, 19] (fun f m wr => ∃ d : Nat, d ≤ C.length ∧ m = .int .i64 d ∧ f = .bool (inB' (C.take d) i) ∧ Below X1.heap.size X1 wr) (fun f m _ => C.length - (intOf m).toNat)
          case atStart => exact ⟨0, by omega, rfl, rfl, Below.refl _ _⟩
          case round =>
            obtain ⟨d, hd, rfl, rfl, hl1⟩ := hrel
            replace hbel := hbel.trans (hl1.mono hsz)
            replace hsz := hbel.size
            replace hlA := hlA.trans (hl1.mono hlA.size)
            replace bB := bB.below hl1 bB.lt
            clear pB0 pB1 lB
            have pB0 := bB.cell 0
            have pB1 := bB.cell 1
            have lB := bB.lt
            replace bP := bP.below hl1 bP.lt
            clear pP0 pP1 lP
            have pP0 := bP.cell 0
            have pP1 := bP.cell 1
            have lP := bP.lt
            replace bT := bT.below hl1 bT.lt
            clear pT0 pT1 lT
            have pT0 := bT.cell 0
            have pT1 := bT.cell 1
            have lT := bT.lt
            replace HL := hid (HL.out.below hl1 hl1.size)
            replace H1 := hid (H1.out.below hl1 hl1.size)
            replace HX9 := hid (HX9.out.below hl1 hl1.size)
            obtain ⟨W0, rfl⟩ : ∃ W0 : World, W0 = wr := ⟨_, rfl⟩
            by_cases hlt2 : d < C.length
            · have hlti2 : (d : Int) < C.length := by omega
              have hd0 : (0 : Int) ≤ d := by omega
              obtain ⟨b2, o2, p, A4, m4, c4, rfl, hb2, hp, r0, hin4⟩ := H1.out.at_ hlt2
              have hp8 := isL_len8 (C7.out p (List.mem_of_getElem? hp)) (by omega)
              have hm4 := hin4.len
              have hst : inB' (C.take (d + 1)) i = (inB' (C.take d) i || has p i) := by rw [List.take_add_one, hp]; unfold inB'; rw [List.any_append]; simp
              obtain ⟨ik, hik⟩ : ∃ v, inB' (C.take d) i = v := ⟨_, rfl⟩
              obtain ⟨hp9, hhp⟩ : ∃ v, has p i = v := ⟨_, rfl⟩
              rw [hik, hhp] at hst
              rw [hik]
              have Hst := hid hst
              have HH := hid (fun W h => has_any A4 m4 c4 p i W h (by omega))
              rw [hhp] at HH
              have Hin4 := hid hin4
              clear hp hp8 hm4 hst hik hhp hin4
              cases ik
              · skip
                go_wp2_with (fail)
                clear r0
                refine (toB (HH.out _ (Hin4.out.below (by repeat' (first | with_reducible assumption | with_reducible exact Below.refl _ _ | refine Below.alloc ?_ ?_ _ | refine Below.setCell ?_ ?_ _ | refine Below.drew ?_ | refine below_drewN ?_ _ | (simp; done) | (simp; omega) | omega)) (by first | (simp; done) | (simp; omega) | omega)))).mono ?_
                rintro e W1 ⟨rfl, hb⟩
                have hst : Below W0.heap.size W0 W1 := Below.trans (by repeat' (first | with_reducible assumption | with_reducible exact Below.refl _ _ | refine Below.alloc ?_ ?_ _ | refine Below.setCell ?_ ?_ _ | refine Below.drew ?_ | refine below_drewN ?_ _ | (simp; done) | (simp; omega) | omega)) (hb.mono (by first | (simp; done) | (simp; omega) | omega))
                replace hbel := hbel.trans (hst.mono hsz)
                replace hsz := hbel.size
                replace hlA := hlA.trans (hst.mono hlA.size)
                replace hl1 := hl1.trans (hst.mono hl1.size)
                replace bB := bB.below hst bB.lt
                clear pB0 pB1 lB
                have pB0 := bB.cell 0
                have pB1 := bB.cell 1
                have lB := bB.lt
                replace bP := bP.below hst bP.lt
                clear pP0 pP1 lP
                have pP0 := bP.cell 0
                have pP1 := bP.cell 1
                have lP := bP.lt
                replace bT := bT.below hst bT.lt
                clear pT0 pT1 lT
                have pT0 := bT.cell 0
                have pT1 := bT.cell 1
                have lT := bT.lt
                replace HL := hid (HL.out.below hst hst.size)
                replace H1 := hid (H1.out.below hst hst.size)
                replace HX9 := hid (HX9.out.below hst hst.size)
                replace Hin4 := hid (Hin4.out.below hst hst.size)
                clear hb hst
                try clear hWb
                obtain ⟨W0, rfl⟩ : ∃ W0 : World, W0 = W1 := ⟨_, rfl⟩
                go_wp2
                exact ⟨⟨d + 1, by omega, by go_num, by rw [Hst.out]; simp, hl1⟩, by simp [intOf]; omega⟩
              · skip
                go_wp2
                exact ⟨⟨d + 1, by omega, by go_num, by rw [Hst.out]; simp, hl1⟩, by simp [intOf]; omega⟩
            · have hlti2 : ¬ (d : Int) < C.length := by omega
              have htd : C.take d = C := List.take_of_length_le (by omega)
              rw [htd, Hinn.out]
              clear htd hd hlt2
              have t4 := g4.out
              have t5 := g5.out
              obtain ⟨r1, r2⟩ := f3
              have r1i : ¬ kV < 0 := by omega
              have r2i : ¬ (2 : Int) < kV := by omega
              go_wp2_with (fail)
              refine (few_any A8 k c8 X J _ (HX9.out.below (by repeat' (first | with_reducible assumption | with_reducible exact Below.refl _ _ | refine Below.alloc ?_ ?_ _ | refine Below.setCell ?_ ?_ _ | refine Below.drew ?_ | refine below_drewN ?_ _ | (simp; done) | (simp; omega) | omega)) (by first | (simp; done) | (simp; omega) | omega)) (by omega) KX.out hbX.out).mono ?_
              rw [HM.out, Hals.out, F7.out]
              rintro e W1 ⟨rfl, hb⟩
              have hst : Below W0.heap.size W0 W1 := Below.trans (by repeat' (first | with_reducible assumption | with_reducible exact Below.refl _ _ | refine Below.alloc ?_ ?_ _ | refine Below.setCell ?_ ?_ _ | refine Below.drew ?_ | refine below_drewN ?_ _ | (simp; done) | (simp; omega) | omega)) (hb.mono (by first | (simp; done) | (simp; omega) | omega))
              replace hbel := hbel.trans (hst.mono hsz)
              replace hsz := hbel.size
              replace hlA := hlA.trans (hst.mono hlA.size)
              replace hl1 := hl1.trans (hst.mono hl1.size)
              replace bB := bB.below hst bB.lt
              clear pB0 pB1 lB
              have pB0 := bB.cell 0
              have pB1 := bB.cell 1
              have lB := bB.lt
              replace bP := bP.below hst bP.lt
              clear pP0 pP1 lP
              have pP0 := bP.cell 0
              have pP1 := bP.cell 1
              have lP := bP.lt
              replace bT := bT.below hst bT.lt
              clear pT0 pT1 lT
              have pT0 := bT.cell 0
              have pT1 := bT.cell 1
              have lT := bT.lt
              replace HL := hid (HL.out.below hst hst.size)
              replace H1 := hid (H1.out.below hst hst.size)
              replace HX9 := hid (HX9.out.below hst hst.size)
              clear hb hst
              try clear hWb
              obtain ⟨W0, rfl⟩ : ∃ W0 : World, W0 = W1 := ⟨_, rfl⟩
              clear t4 t5
              have g8 := g8.out
              have g9 := g9.out
              subst g8
              cases al
              · have g10 := g9 rfl
                clear g9
                go_wp2_with (fail)
                refine (works_any _).mono ?_
                rintro e W1 ⟨rfl, hb⟩
                have hst : Below W0.heap.size W0 W1 := Below.trans (by repeat' (first | with_reducible assumption | with_reducible exact Below.refl _ _ | refine Below.alloc ?_ ?_ _ | refine Below.setCell ?_ ?_ _ | refine Below.drew ?_ | refine below_drewN ?_ _ | (simp; done) | (simp; omega) | omega)) (hb.mono (by first | (simp; done) | (simp; omega) | omega))
                replace hbel := hbel.trans (hst.mono hsz)
                replace hsz := hbel.size
                replace hlA := hlA.trans (hst.mono hlA.size)
                replace hl1 := hl1.trans (hst.mono hl1.size)
                replace bB := bB.below hst bB.lt
                clear pB0 pB1 lB
                have pB0 := bB.cell 0
                have pB1 := bB.cell 1
                have lB := bB.lt
                replace bP := bP.below hst bP.lt
                clear pP0 pP1 lP
                have pP0 := bP.cell 0
                have pP1 := bP.cell 1
                have lP := bP.lt
                replace bT := bT.below hst bT.lt
                clear pT0 pT1 lT
                have pT0 := bT.cell 0
                have pT1 := bT.cell 1
                have lT := bT.lt
                replace HL := hid (HL.out.below hst hst.size)
                replace H1 := hid (H1.out.below hst hst.size)
                replace HX9 := hid (HX9.out.below hst hst.size)
                clear hb hst
                try clear hWb
                obtain ⟨W0, rfl⟩ : ∃ W0 : World, W0 = W1 := ⟨_, rfl⟩
                go_wp2
                go_ret
                exact ⟨rfl, hbel⟩
              · clear g9
                go_wp2_with (fail)
                refine (works_any _).mono ?_
                rintro e W1 ⟨rfl, hb⟩
                have hst : Below W0.heap.size W0 W1 := Below.trans (by repeat' (first | with_reducible assumption | with_reducible exact Below.refl _ _ | refine Below.alloc ?_ ?_ _ | refine Below.setCell ?_ ?_ _ | refine Below.drew ?_ | refine below_drewN ?_ _ | (simp; done) | (simp; omega) | omega)) (hb.mono (by first | (simp; done) | (simp; omega) | omega))
                replace hbel := hbel.trans (hst.mono hsz)
                replace hsz := hbel.size
                replace hlA := hlA.trans (hst.mono hlA.size)
                replace hl1 := hl1.trans (hst.mono hl1.size)
                replace bB := bB.below hst bB.lt
                clear pB0 pB1 lB
                have pB0 := bB.cell 0
                have pB1 := bB.cell 1
                have lB := bB.lt
                replace bP := bP.below hst bP.lt
                clear pP0 pP1 lP
                have pP0 := bP.cell 0
                have pP1 := bP.cell 1
                have lP := bP.lt
                replace bT := bT.below hst bT.lt
                clear pT0 pT1 lT
                have pT0 := bT.cell 0
                have pT1 := bT.cell 1
                have lT := bT.lt
                replace HL := hid (HL.out.below hst hst.size)
                replace H1 := hid (H1.out.below hst hst.size)
                replace HX9 := hid (HX9.out.below hst hst.size)
                clear hb hst
                try clear hWb
                obtain ⟨W0, rfl⟩ : ∃ W0 : World, W0 = W1 := ⟨_, rfl⟩
                go_wp2
                go_ret
                exact ⟨rfl, hbel⟩

section
open Go.ChangeShapes Go.WideShapes Go.ChangeAt Go.RowKit
set_option maxRecDepth 100000 in
theorem blameSure_lifted (os : Os) (started : os.Started) (H : Type) (enc : TypeId × Value → H) :
    ReturnsInHanded {} Tryz.checked os 13 .any (Rows.blameSureSpec.pre6 enc Tryz.prog Tryz.f13 Rows.blameSureRow.domain false) (Rows.blameSureSpec.post enc Tryz.prog Tryz.f13 false true false false) := by
  refine returnsInHanded_of_change (C := Tryz.checked) ownKx started (by kernel_rfl) Tryz.func13
    (ChangeSpec.witness6 (enc := enc) (C := Tryz.checked) false ⟨#[], #[.agg #[.int .i64 0, .slice none 0 0], .int .u8 0], []⟩ 8 (by kernel_rfl) (by kernel_rfl) (by kernel_rfl) (by kernel_rfl)) ?_
  intro W base args ds gs before hval0 hW hcnd _
  have hval : ∀ (j : Nat) t v, Tryz.f13.params[j]? = some t → args[j]? = some v → Value.okWide Tryz.prog W .any base t v := hval0
  have hW' := hW
  obtain ⟨p, q, hA0, hV, rfl, hfz, hnd⟩ := hW
  have hA : DataW.TrodAll enc Tryz.prog W 0 (fun _ => true) true Tryz.f13.params.toList args.toList ds p := hA0
  have hlt : ∀ x ∈ p, x.block < W.heap.size := fun x hx => hW'.lt x (List.mem_append_left _ hx)
  have hAll : ∀ W', Below W.heap.size W W' → DataW.TrodAll enc Tryz.prog W' 0 (fun b => decide (b < W.heap.size)) true Tryz.f13.params.toList args.toList ds p := fun W' hb => all_below laidOut hb (readable_of (by kernel_rfl)) hlt hA
  rw [Tryz.params13] at hA hval
  obtain ⟨v0, v1, d0, d1, p0, p1, rfl, rfl, rfl, h0, h1⟩ := trodAll_two hA
  obtain ⟨rfl, rfl⟩ := trodVars_none hV
  clear hA0 hval0
  obtain ⟨I0, A0, n0, c0, rfl, wI0, hc0, hN0, l0, hl0, hr0⟩ := open_book (hval 0 24 v0 rfl rfl) h0
  obtain ⟨x1, rfl, rfl, rfl, wx1⟩ := open_int Tryz.underlying5 (hval 1 5 v1 rfl rfl) h1
  obtain ⟨y1, rfl⟩ : ∃ y : Nat, x1 = y := ⟨x1.toNat, (Int.toNat_of_nonneg (u8_bd wx1).1).symm⟩
  refine (blameSure_walk W I0 A0 n0 c0 l0 y1 hr0 (by have := u8_bd wx1; omega)).mono fun e W' ⟨he, hb⟩ => ?_
  subst he
  exact ⟨_, rfl, ⟨_, _, _, [], _, [], hW', trodAll_cons_mk (shut_bool Tryz.underlying4 _) trodAll_mk0, hAll W' hb, rfl, hb.frame _, fun h => by cases h⟩⟩
/-- The law: whatever the input, it returns true, and the input reads as it did. -/
theorem blameSure_holds : Rows.BlameSureSaid :=
  OpenClaim.holds_of_wide 13 Tryz.f13 rfl rfl rfl rfl rfl rfl rfl ⟨rfl, rfl, rfl, rfl, rfl⟩ rfl rfl rfl rfl rfl (by kernel_rfl) Tryz.func13 (by kernel_rfl)
    (of_decide_eq_true (by kernel_rfl)) (by unfold Func.isWrapper; first | (rw [if_pos (by decide +kernel)]; kernel_rfl) | (rw [if_neg (by decide +kernel)]; exact ⟨rfl, rfl⟩))
    (fun os started H enc _ => blameSure_lifted os started H enc)
end
end Go.Proofs.YtnpilfpackdimaaGreat

