/- The statement BlameEither holds: whatever the arguments, the law returns true and leaves its arguments as they were. -/
import Derived.Test.YtnpilfpackdimaaGreatMl
import Derived.Test.YtnpilfpackdimaaGreatMm
set_option linter.unusedSimpArgs false
set_option linter.unusedVariables false
namespace Go.Proofs.YtnpilfpackdimaaGreat
open Go.RowKit Go.Shelf
attribute [local go_sem] Oper.semAt_some
set_option maxRecDepth 100000 in
set_option maxHeartbeats 40000000 in
theorem blameEither_walk (w : World) (I : Int) (A : Option Addr) (n c : Nat) (ls : List (List Int)) (g : Nat) (hl : LiS w w.heap.size A n ls) (hg64 : g < 18446744073709551616) :
    Calls Tryz.prog 7 #[.agg #[.int .i64 I, .slice A n c], .int .u64 (g : Int)] w fun e w' => e = .returned (.bool true) ∧ Below w.heap.size w w' := by
  have la := hid hl.1
  cases hf : fineB I ls
  · have Hf := hid hf
    clear hf
    obtain ⟨W0, hWb⟩ : ∃ W0, (w).alloc (.cells #[.int .i64 I, .slice A n c] 24) = W0 := ⟨_, rfl⟩
    have hbel : Below w.heap.size w W0 := by rw [← hWb]; exact (by repeat' (first | with_reducible assumption | with_reducible exact Below.refl _ _ | refine Below.alloc ?_ ?_ _ | refine Below.setCell ?_ ?_ _ | refine Below.drew ?_ | refine below_drewN ?_ _ | (simp; done) | (simp; omega) | omega))
    have hsz := hbel.size
    have bB : Blk W0 (w.heap.size) 24 #[.int .i64 I, .slice A n c] := by rw [← hWb]; exact Blk.new' rfl
    have pB0 := bB.cell 0
    have pB1 := bB.cell 1
    have lB := bB.lt
    have HL := hid (hl.below hbel hsz)
    clear hl
    go_enter Tryz.func7, Tryz.ntmps7
    go_wp2_with (fail)
    refine (fine_any A n c ls I _ (HL.out.below (by repeat' (first | with_reducible assumption | with_reducible exact Below.refl _ _ | refine Below.alloc ?_ ?_ _ | refine Below.setCell ?_ ?_ _ | refine Below.drew ?_ | refine below_drewN ?_ _ | (simp; done) | (simp; omega) | omega)) (by first | (simp; done) | (simp; omega) | omega))).mono ?_
    rw [Hf.out]
    rintro e W1 ⟨rfl, hb⟩
    have hst : Below W0.heap.size W0 W1 := Below.trans (by repeat' (first | with_reducible assumption | with_reducible exact Below.refl _ _ | refine Below.alloc ?_ ?_ _ | refine Below.setCell ?_ ?_ _ | refine Below.drew ?_ | refine below_drewN ?_ _ | (simp; done) | (simp; omega) | omega)) (hb.mono (by first | (simp; done) | (simp; omega) | omega))
    replace hbel := hbel.trans (hst.mono hsz)
    replace hsz := hbel.size
    replace bB := bB.below hst bB.lt
    clear pB0 pB1 lB
    have pB0 := bB.cell 0
    have pB1 := bB.cell 1
    have lB := bB.lt
    replace HL := hid (HL.out.below hst hst.size)
    clear hb hst
    try clear hWb
    obtain ⟨W0, rfl⟩ : ∃ W0 : World, W0 = W1 := ⟨_, rfl⟩
    go_wp2_with (fail)
    refine (works_any _).mono ?_
    rintro e W1 ⟨rfl, hb⟩
    have hst : Below W0.heap.size W0 W1 := Below.trans (by repeat' (first | with_reducible assumption | with_reducible exact Below.refl _ _ | refine Below.alloc ?_ ?_ _ | refine Below.setCell ?_ ?_ _ | refine Below.drew ?_ | refine below_drewN ?_ _ | (simp; done) | (simp; omega) | omega)) (hb.mono (by first | (simp; done) | (simp; omega) | omega))
    replace hbel := hbel.trans (hst.mono hsz)
    replace hsz := hbel.size
    replace bB := bB.below hst bB.lt
    clear pB0 pB1 lB
    have pB0 := bB.cell 0
    have pB1 := bB.cell 1
    have lB := bB.lt
    replace HL := hid (HL.out.below hst hst.size)
    clear hb hst
    try clear hWb
    obtain ⟨W0, rfl⟩ : ∃ W0 : World, W0 = W1 := ⟨_, rfl⟩
    go_wp2
    go_ret
    exact ⟨rfl, hbel⟩
  · obtain ⟨hg, hchk⟩ := fineB_t.1 hf
    obtain ⟨J, rfl, -, hJ1, hJ8, hln, hv, hv8⟩ := book_nat hchk
    have Hf := hid hf
    have Hc := hid hchk
    have hn : n ≤ 10 := by rw [← la.out]; exact hln
    have K2 : Hid (∀ l ∈ ls, l.length ≤ 1000000) := hid (fun l h => by have := isL_len8 (hv8 l h) (by omega); omega)
    have Hv := hid hv
    have Hv8 := hid hv8
    have Hla := hid hln
    have hal := alL_eq hchk
    rw [Int.toNat_natCast] at hal
    have hak := hid (alK_true hchk)
    have hl70 := allR_len70 hJ8 hv
    have hM8 := allR_isL8 hJ8 hv
    obtain ⟨f1, f2, f3⟩ := either_facts hchk g
    obtain ⟨M, hM⟩ : ∃ v, allR J ls = v := ⟨_, rfl⟩
    rw [hM] at hal hl70 hM8 f1 f2 f3
    have Hal := hid hal
    have F1 := hid f1
    have F2 := hid f2
    have F3 := hid f3
    have HM8 := hid hM8
    clear hal hM f1 f2 f3 hM8
    clear hf hg hchk hv hv8 hln
    obtain ⟨W0, hWb⟩ : ∃ W0, (w).alloc (.cells #[.int .i64 (J : Int), .slice A n c] 24) = W0 := ⟨_, rfl⟩
    have hbel : Below w.heap.size w W0 := by rw [← hWb]; exact (by repeat' (first | with_reducible assumption | with_reducible exact Below.refl _ _ | refine Below.alloc ?_ ?_ _ | refine Below.setCell ?_ ?_ _ | refine Below.drew ?_ | refine below_drewN ?_ _ | (simp; done) | (simp; omega) | omega))
    have hsz := hbel.size
    have bB : Blk W0 (w.heap.size) 24 #[.int .i64 (J : Int), .slice A n c] := by rw [← hWb]; exact Blk.new' rfl
    have pB0 := bB.cell 0
    have pB1 := bB.cell 1
    have lB := bB.lt
    have HL := hid (hl.below hbel hsz)
    clear hl
    go_enter Tryz.func7, Tryz.ntmps7
    go_wp2_with (fail)
    refine (fine_any A n c ls J _ (HL.out.below (by repeat' (first | with_reducible assumption | with_reducible exact Below.refl _ _ | refine Below.alloc ?_ ?_ _ | refine Below.setCell ?_ ?_ _ | refine Below.drew ?_ | refine below_drewN ?_ _ | (simp; done) | (simp; omega) | omega)) (by first | (simp; done) | (simp; omega) | omega))).mono ?_
    rw [Hf.out]
    rintro e W1 ⟨rfl, hb⟩
    have hst : Below W0.heap.size W0 W1 := Below.trans (by repeat' (first | with_reducible assumption | with_reducible exact Below.refl _ _ | refine Below.alloc ?_ ?_ _ | refine Below.setCell ?_ ?_ _ | refine Below.drew ?_ | refine below_drewN ?_ _ | (simp; done) | (simp; omega) | omega)) (hb.mono (by first | (simp; done) | (simp; omega) | omega))
    replace hbel := hbel.trans (hst.mono hsz)
    replace hsz := hbel.size
    replace bB := bB.below hst bB.lt
    clear pB0 pB1 lB
    have pB0 := bB.cell 0
    have pB1 := bB.cell 1
    have lB := bB.lt
    replace HL := hid (HL.out.below hst hst.size)
    clear hb hst
    try clear hWb
    obtain ⟨W0, rfl⟩ : ∃ W0 : World, W0 = W1 := ⟨_, rfl⟩
    go_wp2_with (fail)
    refine (allL_any A n c ls J _ (HL.out.below (by repeat' (first | with_reducible assumption | with_reducible exact Below.refl _ _ | refine Below.alloc ?_ ?_ _ | refine Below.setCell ?_ ?_ _ | refine Below.drew ?_ | refine below_drewN ?_ _ | (simp; done) | (simp; omega) | omega)) (by first | (simp; done) | (simp; omega) | omega)) (by omega) K2.out).mono ?_
    rw [hak.out, Hal.out]
    rintro e W1 ⟨A1, m1, c1, rfl, h, hb⟩
    have hst : Below W0.heap.size W0 W1 := Below.trans (by repeat' (first | with_reducible assumption | with_reducible exact Below.refl _ _ | refine Below.alloc ?_ ?_ _ | refine Below.setCell ?_ ?_ _ | refine Below.drew ?_ | refine below_drewN ?_ _ | (simp; done) | (simp; omega) | omega)) (hb.mono (by first | (simp; done) | (simp; omega) | omega))
    replace hbel := hbel.trans (hst.mono hsz)
    replace hsz := hbel.size
    replace bB := bB.below hst bB.lt
    clear pB0 pB1 lB
    have pB0 := bB.cell 0
    have pB1 := bB.cell 1
    have lB := bB.lt
    replace HL := hid (HL.out.below hst hst.size)
    have HM := hid h
    clear h
    clear hb hst
    try clear hWb
    obtain ⟨W0, rfl⟩ : ∃ W0 : World, W0 = W1 := ⟨_, rfl⟩
    have hml : Hid (M.length = m1) := hid HM.out.1
    have hm70 : m1 ≤ 70 := by rw [← hml.out]; exact hl70
    clear hl70
    go_wp2_with (fail)
    obtain ⟨XA, rfl⟩ : ∃ X : World, X = W0 := ⟨_, rfl⟩
    have HM0 := HM
    have hlx := bB.lt
    go_loopw [7, 8] (fun v i wr => ∃ k : Nat, k ≤ m1 ∧ i = .int .i64 k ∧ Hid (NewLw wr XA.heap.size (fun b => b < XA.heap.size) v (someL M g k)) ∧ Below XA.heap.size XA wr) (fun _ i _ => m1 - (intOf i).toNat)
    case atStart => exact ⟨0, by omega, rfl, hid (NewLw.nil _ _ _), Below.refl _ _⟩
    case round =>
      obtain ⟨k, hk, rfl, hN, hlA⟩ := hrel
      replace hbel := hbel.trans (hlA.mono hsz)
      replace hsz := hbel.size
      replace bB := bB.below hlA bB.lt
      clear pB0 pB1 lB
      have pB0 := bB.cell 0
      have pB1 := bB.cell 1
      have lB := bB.lt
      replace HL := hid (HL.out.below hlA hlA.size)
      replace HM := hid (HM.out.below hlA hlA.size)
      obtain ⟨W0, rfl⟩ : ∃ W0 : World, W0 = wr := ⟨_, rfl⟩
      skip
      by_cases hlt : k < m1
      · have hlti : (k : Int) < m1 := by omega
        obtain ⟨b1, off, x, A3, m3, c3, rfl, hb1, hx, q0, hin0⟩ := (HM0.out.below hlA (Nat.le_refl _)).at_ hlt
        have hin : InS W0 W0.heap.size A3 m3 x := hin0.cells_ hlA.size (fun _ _ _ _ _ _ => rfl)
        have hA3 : Hid (0 < m3 → ∀ b off, A3 = some ⟨b, off, none⟩ → b < XA.heap.size) := hid (fun hm b off e => ins_lt0 hin0 hm b off e)
        have Hin := hid hin
        have hgx : M.getD k [] = x := by rw [List.getD_eq_getElem?_getD, hx]; rfl
        have hst := someL_succ M g k
        rw [hgx] at hst
        have hsl := someL_len M g k
        obtain ⟨r, hr⟩ : ∃ r, k % 64 = r := ⟨_, rfl⟩
        have hr64 : r < 64 := by omega
        have hr64i : (r : Int) < 64 := by omega
        have hr0 : (0 : Int) ≤ r := by omega
        have hmod : (k : Int) % 64 = (r : Int) := by rw [← hr]; exact (Int.natCast_emod k 64).symm
        have htmod : Int.tmod (k : Int) 64 = (r : Int) := by rw [← hr]; exact (Int.ofNat_tmod k 64).symm
        have zr : IntKind.i64.wrap (r : Int) = (r : Int) := IntWalk.i64_in _ (by omega)
        have hk0 : (0 : Int) ≤ k := by omega
        have hbit := low_bit64 g r (by omega)
        rw [hr] at hst
        have hb1w : b1 < W0.heap.size := by have := hlA.size; omega
        clear hin0 hin hx hgx hr
        cases hgb : g.testBit r
        · rw [hgb] at hst hbit
          simp only [Bool.false_eq_true, if_false] at hst hbit
          have Hst := hid hst
          clear hst hgb
          have hbA : Below W0.heap.size W0 (W0.alloc (.cells #[.slice A3 m3 c3] 25)) := (Below.refl _ _).alloc (Nat.le_refl _) _
          have hN3 := hid (hN.out.below hbA)
          have hI3 : Hid (InS (W0.alloc (.cells #[.slice A3 m3 c3] 25)) (W0.alloc (.cells #[.slice A3 m3 c3] 25)).heap.size A3 m3 x) := hid (Hin.out.below hbA hbA.size)
          have hown : ∀ r, u7.ownBlock = some r → XA.heap.size ≤ r := fun r hr => by
            obtain ⟨vs, ho, -⟩ := hN.out
            exact (World.ownsRow.lt ho r hr).1
          have Hown := hid hown
          clear hN hown hbA
          have hl4 := hlA.alloc hlA.size (.cells #[.slice A3 m3 c3] 25)
          have hszA := hl4.size
          go_wp2_with (at_builtin; refine newLw_append rfl (by rfl) _ _ rfl XA.heap.size _ _ _ rfl hN3.out W0.heap.size A3 m3 c3 x rfl (Blk.new' rfl) hI3.out (fun hm b' off' e' => ⟨fun e3 => by have h1 := hA3.out hm b' off' e'; have h2 := Hown.out b' e3; omega, hA3.out hm b' off' e'⟩) (by omega) (by exact hszA) ?_; intro v8 w4 hn4 hg4 _)
          have hb4 : Below XA.heap.size XA w4 := hl4.grown hg4 (by exact hszA) (fun r hr => by have := Hown.out r hr; omega)
          exact ⟨⟨k + 1, by omega, by go_num, hid (by rw [Hst.out]; exact hn4), hb4⟩, by simp [intOf]; omega⟩
        · rw [hgb] at hst hbit
          simp only [if_true, List.append_nil] at hst hbit
          have Hst := hid hst
          clear hst hgb
          clear q0
          go_wp2
          exact ⟨⟨k + 1, by omega, by go_num, hid (by rw [Hst.out]; exact hN.out), hlA⟩, by simp [intOf]; omega⟩
      · have hlti : ¬ (k : Int) < m1 := by omega
        have hNf : Hid (NewLw W0 XA.heap.size (fun b => b < XA.heap.size) u7 (someL M g M.length)) := hid (by rw [hml.out, show m1 = k by omega]; exact hN.out)
        clear hN hlt hk
        obtain ⟨S, hS⟩ : ∃ S, someL M g M.length = S := ⟨_, rfl⟩
        rw [hS] at hNf
        have F1 := F1.out
        have F2 := F2.out
        have F3 := F3.out
        rw [hS] at F1 F2 F3
        have hS70 : S.length ≤ 70 := by rw [← hS]; have := someL_len M g M.length; have := hml.out; omega
        obtain ⟨A8, c8, rfl, h8⟩ := lis_of_lw hNf.out
        have H8 := hid h8
        clear h8 hNf hS
        have KS : Hid (∀ l ∈ S, l.length ≤ 8) := hid (fun l hl => by have := isL_len8 (HM8.out l (F1 l hl)) (by omega); omega)
        have hSi : ¬ (80 : Int) < (S.length : Int) := by omega
        obtain ⟨z, hz⟩ : ∃ z, callE J ls S = z := ⟨_, rfl⟩
        obtain ⟨fe, hfe⟩ : ∃ z, forE J ls S = z := ⟨_, rfl⟩
        obtain ⟨fv, hfv⟩ : ∃ z, forV J ls S = z := ⟨_, rfl⟩
        rw [hz, hfe, hfv] at F2 F3
        have Hz := hid hz
        have Hfe := hid hfe
        have Hfv := hid hfv
        have G2 := hid F2
        have G3 := hid F3
        clear F1 F2 F3 hz hfe hfv
        go_wp2_with (fail)
        refine (checkAll_any A A8 n c S.length c8 ls S J _ (HL.out.below (by repeat' (first | with_reducible assumption | with_reducible exact Below.refl _ _ | refine Below.alloc ?_ ?_ _ | refine Below.setCell ?_ ?_ _ | refine Below.drew ?_ | refine below_drewN ?_ _ | (simp; done) | (simp; omega) | omega)) (by first | (simp; done) | (simp; omega) | omega)) (H8.out.below (by repeat' (first | with_reducible assumption | with_reducible exact Below.refl _ _ | refine Below.alloc ?_ ?_ _ | refine Below.setCell ?_ ?_ _ | refine Below.drew ?_ | refine below_drewN ?_ _ | (simp; done) | (simp; omega) | omega)) (by first | (simp; done) | (simp; omega) | omega)) (by omega) K2.out (by omega) (fun l hl => by have := KS.out l hl; omega)).mono ?_
        rw [Hz.out]
        rintro e W1 ⟨rfl, hb⟩
        have hst : Below W0.heap.size W0 W1 := Below.trans (by repeat' (first | with_reducible assumption | with_reducible exact Below.refl _ _ | refine Below.alloc ?_ ?_ _ | refine Below.setCell ?_ ?_ _ | refine Below.drew ?_ | refine below_drewN ?_ _ | (simp; done) | (simp; omega) | omega)) (hb.mono (by first | (simp; done) | (simp; omega) | omega))
        replace hbel := hbel.trans (hst.mono hsz)
        replace hsz := hbel.size
        replace hlA := hlA.trans (hst.mono hlA.size)
        replace bB := bB.below hst bB.lt
        clear pB0 pB1 lB
        have pB0 := bB.cell 0
        have pB1 := bB.cell 1
        have lB := bB.lt
        replace HL := hid (HL.out.below hst hst.size)
        replace HM := hid (HM.out.below hst hst.size)
        replace H8 := hid (H8.out.below hst hst.size)
        clear hb hst
        try clear hWb
        obtain ⟨W0, rfl⟩ : ∃ W0 : World, W0 = W1 := ⟨_, rfl⟩
        go_wp2_with (fail)
        refine (forgotten_any A A8 n c S.length c8 ls S J _ (HL.out.below (by repeat' (first | with_reducible assumption | with_reducible exact Below.refl _ _ | refine Below.alloc ?_ ?_ _ | refine Below.setCell ?_ ?_ _ | refine Below.drew ?_ | refine below_drewN ?_ _ | (simp; done) | (simp; omega) | omega)) (by first | (simp; done) | (simp; omega) | omega)) (H8.out.below (by repeat' (first | with_reducible assumption | with_reducible exact Below.refl _ _ | refine Below.alloc ?_ ?_ _ | refine Below.setCell ?_ ?_ _ | refine Below.drew ?_ | refine below_drewN ?_ _ | (simp; done) | (simp; omega) | omega)) (by first | (simp; done) | (simp; omega) | omega)) (by omega) K2.out (by omega) (fun l hl => by have := KS.out l hl; omega)).mono ?_
        rw [Hfv.out, Hfe.out]
        rintro e W1 ⟨A9, m9, c9, rfl, h, hb⟩
        have hst : Below W0.heap.size W0 W1 := Below.trans (by repeat' (first | with_reducible assumption | with_reducible exact Below.refl _ _ | refine Below.alloc ?_ ?_ _ | refine Below.setCell ?_ ?_ _ | refine Below.drew ?_ | refine below_drewN ?_ _ | (simp; done) | (simp; omega) | omega)) (hb.mono (by first | (simp; done) | (simp; omega) | omega))
        replace hbel := hbel.trans (hst.mono hsz)
        replace hsz := hbel.size
        replace hlA := hlA.trans (hst.mono hlA.size)
        replace bB := bB.below hst bB.lt
        clear pB0 pB1 lB
        have pB0 := bB.cell 0
        have pB1 := bB.cell 1
        have lB := bB.lt
        replace HL := hid (HL.out.below hst hst.size)
        replace HM := hid (HM.out.below hst hst.size)
        replace H8 := hid (H8.out.below hst hst.size)
        have H9 := hid h
        clear h
        clear hb hst
        try clear hWb
        obtain ⟨W0, rfl⟩ : ∃ W0 : World, W0 = W1 := ⟨_, rfl⟩
        by_cases hq : S.length = M.length
        · have hqi : ((S.length : Int) == (m1 : Int)) = true := by rw [beq_iff_eq, ← hml.out]; omega
          obtain ⟨rfl, rfl, rfl⟩ := G2.out hq
          have hm9 := H9.out.len
          obtain rfl : m9 = 0 := by simpa using hm9.symm
          clear hq hm9
          go_wp2_with (fail)
          refine (works_any _).mono ?_
          rintro e W1 ⟨rfl, hb⟩
          have hst : Below W0.heap.size W0 W1 := Below.trans (by repeat' (first | with_reducible assumption | with_reducible exact Below.refl _ _ | refine Below.alloc ?_ ?_ _ | refine Below.setCell ?_ ?_ _ | refine Below.drew ?_ | refine below_drewN ?_ _ | (simp; done) | (simp; omega) | omega)) (hb.mono (by first | (simp; done) | (simp; omega) | omega))
          replace hbel := hbel.trans (hst.mono hsz)
          replace hsz := hbel.size
          replace hlA := hlA.trans (hst.mono hlA.size)
          replace bB := bB.below hst bB.lt
          clear pB0 pB1 lB
          have pB0 := bB.cell 0
          have pB1 := bB.cell 1
          have lB := bB.lt
          replace HL := hid (HL.out.below hst hst.size)
          replace HM := hid (HM.out.below hst hst.size)
          replace H8 := hid (H8.out.below hst hst.size)
          replace H9 := hid (H9.out.below hst hst.size)
          clear hb hst
          try clear hWb
          obtain ⟨W0, rfl⟩ : ∃ W0 : World, W0 = W1 := ⟨_, rfl⟩
          go_wp2
          go_ret
          exact ⟨rfl, hbel⟩
        · have hqi : ((S.length : Int) == (m1 : Int)) = false := by rw [beq_eq_false_iff_ne]; have := hml.out; omega
          obtain ⟨rfl, rfl, g3, g4, g5⟩ := G3.out hq
          have G4 := hid g4
          have G5 := hid g5
          have g38 := isL_len8 (HM8.out fv g3) (by omega)
          have hm9 : m9 ≤ 8 := by have := H9.out.len; omega
          obtain ⟨rv, hrv⟩ : ∃ v, rtgV J ls fv = v := ⟨_, rfl⟩
          have Hrv := hid hrv
          clear hq g3 g4 g5 g38 hrv
          go_wp2_with (fail)
          refine (rcheckTight_any A A9 n c m9 c9 ls fv J _ (HL.out.below (by repeat' (first | with_reducible assumption | with_reducible exact Below.refl _ _ | refine Below.alloc ?_ ?_ _ | refine Below.setCell ?_ ?_ _ | refine Below.drew ?_ | refine below_drewN ?_ _ | (simp; done) | (simp; omega) | omega)) (by first | (simp; done) | (simp; omega) | omega)) (H9.out.below (by repeat' (first | with_reducible assumption | with_reducible exact Below.refl _ _ | refine Below.alloc ?_ ?_ _ | refine Below.setCell ?_ ?_ _ | refine Below.drew ?_ | refine below_drewN ?_ _ | (simp; done) | (simp; omega) | omega)) (by first | (simp; done) | (simp; omega) | omega)) (by omega) K2.out (by omega)).mono ?_
          rw [G4.out, Hrv.out]
          rintro e W1 ⟨rfl, hb⟩
          have hst : Below W0.heap.size W0 W1 := Below.trans (by repeat' (first | with_reducible assumption | with_reducible exact Below.refl _ _ | refine Below.alloc ?_ ?_ _ | refine Below.setCell ?_ ?_ _ | refine Below.drew ?_ | refine below_drewN ?_ _ | (simp; done) | (simp; omega) | omega)) (hb.mono (by first | (simp; done) | (simp; omega) | omega))
          replace hbel := hbel.trans (hst.mono hsz)
          replace hsz := hbel.size
          replace hlA := hlA.trans (hst.mono hlA.size)
          replace bB := bB.below hst bB.lt
          clear pB0 pB1 lB
          have pB0 := bB.cell 0
          have pB1 := bB.cell 1
          have lB := bB.lt
          replace HL := hid (HL.out.below hst hst.size)
          replace HM := hid (HM.out.below hst hst.size)
          replace H8 := hid (H8.out.below hst hst.size)
          replace H9 := hid (H9.out.below hst hst.size)
          clear hb hst
          try clear hWb
          obtain ⟨W0, rfl⟩ : ∃ W0 : World, W0 = W1 := ⟨_, rfl⟩
          go_wp2_with (fail)
          obtain ⟨X1, rfl⟩ : ∃ X : World, X = W0 := ⟨_, rfl⟩
          go_loopw [14] (fun i wr => ∃ a : Nat, a ≤ S.length ∧ i = .int .i64 a ∧ Below X1.heap.size X1 wr) (fun i _ => S.length - (intOf i).toNat)
          case atStart => exact ⟨0, by omega, rfl, Below.refl _ _⟩
          case round =>
            obtain ⟨a, ha, rfl, hl1⟩ := hrel
            replace hbel := hbel.trans (hl1.mono hsz)
            replace hsz := hbel.size
            replace hlA := hlA.trans (hl1.mono hlA.size)
            replace bB := bB.below hl1 bB.lt
            clear pB0 pB1 lB
            have pB0 := bB.cell 0
            have pB1 := bB.cell 1
            have lB := bB.lt
            replace HL := hid (HL.out.below hl1 hl1.size)
            replace HM := hid (HM.out.below hl1 hl1.size)
            replace H8 := hid (H8.out.below hl1 hl1.size)
            replace H9 := hid (H9.out.below hl1 hl1.size)
            obtain ⟨W0, rfl⟩ : ∃ W0 : World, W0 = wr := ⟨_, rfl⟩
            by_cases hlt2 : a < S.length
            · have hlti2 : (a : Int) < S.length := by omega
              obtain ⟨b2, o2, y, A4, m4, c4, rfl, hb2, hy, r0, hin4⟩ := H8.out.at_ hlt2
              have hye := hid (G5.out y (List.mem_of_getElem? hy))
              have hy8 := KS.out y (List.mem_of_getElem? hy)
              have hm4 : m4 ≤ 8 := by have := hin4.len; omega
              have Hin4 := hid hin4
              have ha0 : (0 : Int) ≤ a := by omega
              clear hy hin4 hy8
              go_wp2_with (fail)
              clear r0
              refine (ints_any _ A4 A9 m4 c4 m9 c9 y fv (Hin4.out.below (by repeat' (first | with_reducible assumption | with_reducible exact Below.refl _ _ | refine Below.alloc ?_ ?_ _ | refine Below.setCell ?_ ?_ _ | refine Below.drew ?_ | refine below_drewN ?_ _ | (simp; done) | (simp; omega) | omega)) (by first | (simp; done) | (simp; omega) | omega)) (H9.out.below (by repeat' (first | with_reducible assumption | with_reducible exact Below.refl _ _ | refine Below.alloc ?_ ?_ _ | refine Below.setCell ?_ ?_ _ | refine Below.drew ?_ | refine below_drewN ?_ _ | (simp; done) | (simp; omega) | omega)) (by first | (simp; done) | (simp; omega) | omega)) (by omega)).mono ?_
              rw [hye.out]
              rintro e W1 ⟨rfl, hb⟩
              have hst : Below W0.heap.size W0 W1 := Below.trans (by repeat' (first | with_reducible assumption | with_reducible exact Below.refl _ _ | refine Below.alloc ?_ ?_ _ | refine Below.setCell ?_ ?_ _ | refine Below.drew ?_ | refine below_drewN ?_ _ | (simp; done) | (simp; omega) | omega)) (hb.mono (by first | (simp; done) | (simp; omega) | omega))
              replace hbel := hbel.trans (hst.mono hsz)
              replace hsz := hbel.size
              replace hlA := hlA.trans (hst.mono hlA.size)
              replace hl1 := hl1.trans (hst.mono hl1.size)
              replace bB := bB.below hst bB.lt
              clear pB0 pB1 lB
              have pB0 := bB.cell 0
              have pB1 := bB.cell 1
              have lB := bB.lt
              replace HL := hid (HL.out.below hst hst.size)
              replace HM := hid (HM.out.below hst hst.size)
              replace H8 := hid (H8.out.below hst hst.size)
              replace H9 := hid (H9.out.below hst hst.size)
              replace Hin4 := hid (Hin4.out.below hst hst.size)
              clear hb hst
              try clear hWb
              obtain ⟨W0, rfl⟩ : ∃ W0 : World, W0 = W1 := ⟨_, rfl⟩
              go_wp2
              exact ⟨⟨a + 1, by omega, by go_num, hl1⟩, by simp [intOf]; omega⟩
            · have hlti2 : ¬ (a : Int) < S.length := by omega
              clear hlt2 ha
              go_wp2_with (fail)
              refine (works_any _).mono ?_
              rintro e W1 ⟨rfl, hb⟩
              have hst : Below W0.heap.size W0 W1 := Below.trans (by repeat' (first | with_reducible assumption | with_reducible exact Below.refl _ _ | refine Below.alloc ?_ ?_ _ | refine Below.setCell ?_ ?_ _ | refine Below.drew ?_ | refine below_drewN ?_ _ | (simp; done) | (simp; omega) | omega)) (hb.mono (by first | (simp; done) | (simp; omega) | omega))
              replace hbel := hbel.trans (hst.mono hsz)
              replace hsz := hbel.size
              replace hlA := hlA.trans (hst.mono hlA.size)
              replace hl1 := hl1.trans (hst.mono hl1.size)
              replace bB := bB.below hst bB.lt
              clear pB0 pB1 lB
              have pB0 := bB.cell 0
              have pB1 := bB.cell 1
              have lB := bB.lt
              replace HL := hid (HL.out.below hst hst.size)
              replace HM := hid (HM.out.below hst hst.size)
              replace H8 := hid (H8.out.below hst hst.size)
              replace H9 := hid (H9.out.below hst hst.size)
              clear hb hst
              try clear hWb
              obtain ⟨W0, rfl⟩ : ∃ W0 : World, W0 = W1 := ⟨_, rfl⟩
              go_wp2
              go_ret
              exact ⟨rfl, hbel⟩

section
open Go.ChangeShapes Go.WideShapes Go.ChangeAt Go.RowKit
set_option maxRecDepth 100000 in
theorem blameEither_lifted (os : Os) (started : os.Started) (H : Type) (enc : TypeId × Value → H) :
    ReturnsInHanded {} Tryz.checked os 7 .any (Rows.blameEitherSpec.pre6 enc Tryz.prog Tryz.f7 Rows.blameEitherRow.domain false) (Rows.blameEitherSpec.post enc Tryz.prog Tryz.f7 false true false false) := by
  refine returnsInHanded_of_change (C := Tryz.checked) ownKx started (by kernel_rfl) Tryz.func7
    (ChangeSpec.witness6 (enc := enc) (C := Tryz.checked) false ⟨#[], #[.agg #[.int .i64 0, .slice none 0 0], .int .u64 0], []⟩ 8 (by kernel_rfl) (by kernel_rfl) (by kernel_rfl) (by kernel_rfl)) ?_
  intro W base args ds gs before hval0 hW hcnd _
  have hval : ∀ (j : Nat) t v, Tryz.f7.params[j]? = some t → args[j]? = some v → Value.okWide Tryz.prog W .any base t v := hval0
  have hW' := hW
  obtain ⟨p, q, hA0, hV, rfl, hfz, hnd⟩ := hW
  have hA : DataW.TrodAll enc Tryz.prog W 0 (fun _ => true) true Tryz.f7.params.toList args.toList ds p := hA0
  have hlt : ∀ x ∈ p, x.block < W.heap.size := fun x hx => hW'.lt x (List.mem_append_left _ hx)
  have hAll : ∀ W', Below W.heap.size W W' → DataW.TrodAll enc Tryz.prog W' 0 (fun b => decide (b < W.heap.size)) true Tryz.f7.params.toList args.toList ds p := fun W' hb => all_below laidOut hb (readable_of (by kernel_rfl)) hlt hA
  rw [Tryz.params7] at hA hval
  obtain ⟨v0, v1, d0, d1, p0, p1, rfl, rfl, rfl, h0, h1⟩ := trodAll_two hA
  obtain ⟨rfl, rfl⟩ := trodVars_none hV
  clear hA0 hval0
  obtain ⟨I0, A0, n0, c0, rfl, wI0, hc0, hN0, l0, hl0, hr0⟩ := open_book (hval 0 24 v0 rfl rfl) h0
  obtain ⟨x1, rfl, rfl, rfl, wx1⟩ := open_int Tryz.underlying54 (hval 1 54 v1 rfl rfl) h1
  obtain ⟨y1, rfl⟩ : ∃ y : Nat, x1 = y := ⟨x1.toNat, (Int.toNat_of_nonneg (u64_bd wx1).1).symm⟩
  refine (blameEither_walk W I0 A0 n0 c0 l0 y1 hr0 (by have := u64_bd wx1; omega)).mono fun e W' ⟨he, hb⟩ => ?_
  subst he
  exact ⟨_, rfl, ⟨_, _, _, [], _, [], hW', trodAll_cons_mk (shut_bool Tryz.underlying4 _) trodAll_mk0, hAll W' hb, rfl, hb.frame _, fun h => by cases h⟩⟩
/-- The law: whatever the input, it returns true, and the input reads as it did. -/
theorem blameEither_holds : Rows.BlameEitherSaid :=
  OpenClaim.holds_of_wide 7 Tryz.f7 rfl rfl rfl rfl rfl rfl rfl ⟨rfl, rfl, rfl, rfl, rfl⟩ rfl rfl rfl rfl rfl (by kernel_rfl) Tryz.func7 (by kernel_rfl)
    (of_decide_eq_true (by kernel_rfl)) (by unfold Func.isWrapper; first | (rw [if_pos (by decide +kernel)]; kernel_rfl) | (rw [if_neg (by decide +kernel)]; exact ⟨rfl, rfl⟩))
    (fun os started H enc _ => blameEither_lifted os started H enc)
end
end Go.Proofs.YtnpilfpackdimaaGreat

