/- The statement BlameProved holds: whatever the arguments, the law returns true and leaves its arguments as they were. -/
import Derived.Test.YtnpilfpackdimaaGreatMl
set_option linter.unusedSimpArgs false
set_option linter.unusedVariables false
namespace Go.Proofs.YtnpilfpackdimaaGreat
open Go.RowKit Go.Shelf
attribute [local go_sem] Oper.semAt_some
set_option maxRecDepth 100000 in
set_option maxHeartbeats 40000000 in
theorem blameProved_walk (w : World) (I : Int) (A : Option Addr) (n c : Nat) (ls : List (List Int)) (b g : Nat) (hl : LiS w w.heap.size A n ls) (hb : b < 256) (hg0 : g < 65536) :
    Calls Tryz.prog 6 #[.agg #[.int .i64 I, .slice A n c], .int .u8 (b : Int), .int .u16 (g : Int)] w fun e w' => e = .returned (.bool true) ∧ Below w.heap.size w w' := by
  have la := hid hl.1
  cases hf : fineB I ls
  · have Hf := hid hf
    clear hf
    obtain ⟨W0, hWb⟩ : ∃ W0, (w).alloc (.cells #[.int .i64 I, .slice A n c] 24) = W0 := ⟨_, rfl⟩
    have hbel : Below w.heap.size w W0 := by rw [← hWb]; exact (by repeat' (first | with_reducible assumption | with_reducible exact Below.refl _ _ | refine Below.alloc ?_ ?_ _ | refine Below.setCell ?_ ?_ _ | refine Below.drew ?_ | refine below_drewN ?_ _ | (simp; done) | (simp; omega) | omega))
    have hsz := hbel.size
    have bB : Blk W0 (w.heap.size) 24 #[.int .i64 I, .slice A n c] := by rw [← hWb]; exact Blk.new' rfl
    have pB0 := bB.cell 0
    have pB1 := bB.cell 1
    have lB := bB.lt
    have HL := hid (hl.below hbel hsz)
    clear hl
    go_enter Tryz.func6, Tryz.ntmps6
    go_wp2_with (fail)
    refine (fine_any A n c ls I _ (HL.out.below (by repeat' (first | with_reducible assumption | with_reducible exact Below.refl _ _ | refine Below.alloc ?_ ?_ _ | refine Below.setCell ?_ ?_ _ | refine Below.drew ?_ | refine below_drewN ?_ _ | (simp; done) | (simp; omega) | omega)) (by first | (simp; done) | (simp; omega) | omega))).mono ?_
    rw [Hf.out]
    rintro e W1 ⟨rfl, hb⟩
    have hst : Below W0.heap.size W0 W1 := Below.trans (by repeat' (first | with_reducible assumption | with_reducible exact Below.refl _ _ | refine Below.alloc ?_ ?_ _ | refine Below.setCell ?_ ?_ _ | refine Below.drew ?_ | refine below_drewN ?_ _ | (simp; done) | (simp; omega) | omega)) (hb.mono (by first | (simp; done) | (simp; omega) | omega))
    replace hbel := hbel.trans (hst.mono hsz)
    replace hsz := hbel.size
    replace bB := bB.below hst bB.lt
    clear pB0 pB1 lB
    have pB0 := bB.cell 0
    have pB1 := bB.cell 1
    have lB := bB.lt
    replace HL := hid (HL.out.below hst hst.size)
    clear hb hst
    try clear hWb
    obtain ⟨W0, rfl⟩ : ∃ W0 : World, W0 = W1 := ⟨_, rfl⟩
    go_wp2_with (fail)
    refine (works_any _).mono ?_
    rintro e W1 ⟨rfl, hb⟩
    have hst : Below W0.heap.size W0 W1 := Below.trans (by repeat' (first | with_reducible assumption | with_reducible exact Below.refl _ _ | refine Below.alloc ?_ ?_ _ | refine Below.setCell ?_ ?_ _ | refine Below.drew ?_ | refine below_drewN ?_ _ | (simp; done) | (simp; omega) | omega)) (hb.mono (by first | (simp; done) | (simp; omega) | omega))
    replace hbel := hbel.trans (hst.mono hsz)
    replace hsz := hbel.size
    replace bB := bB.below hst bB.lt
    clear pB0 pB1 lB
    have pB0 := bB.cell 0
    have pB1 := bB.cell 1
    have lB := bB.lt
    replace HL := hid (HL.out.below hst hst.size)
    clear hb hst
    try clear hWb
    obtain ⟨W0, rfl⟩ : ∃ W0 : World, W0 = W1 := ⟨_, rfl⟩
    go_wp2
    go_ret
    exact ⟨rfl, hbel⟩
  · obtain ⟨hg, hchk⟩ := fineB_t.1 hf
    obtain ⟨J, rfl, -, hJ1, hJ8, hln, hv, hv8⟩ := book_nat hchk
    have Hf := hid hf
    have Hc := hid hchk
    have hn : n ≤ 10 := by rw [← la.out]; exact hln
    have K2 : Hid (∀ l ∈ ls, l.length ≤ 1000000) := hid (fun l h => by have := isL_len8 (hv8 l h) (by omega); omega)
    have Hv := hid hv
    have Hv8 := hid hv8
    have Hla := hid hln
    obtain ⟨s, hs⟩ : ∃ s, listed b J = s := ⟨_, rfl⟩
    obtain ⟨q, hq⟩ : ∃ q, listed g n = q := ⟨_, rfl⟩
    have hsl : isL (J : Int) 0 s = true := by rw [← hs]; exact isL_listed' _ _
    have hF := proved_facts (own := q) hchk hsl
    obtain ⟨f1, f2, f3, f4, f5, f6⟩ := hF
    have hbl : Hid ((bestV J ls).length ≤ 1000000) := hid (by rw [bestV_eq]; have := rblV_len J ls; omega)
    have hs8 : Hid (s.length ≤ 8) := hid (by rw [← hs]; exact Nat.le_trans (listed_len _ _) hJ8)
    have hq10 : Hid (q.length ≤ 10) := hid (by rw [← hq]; exact Nat.le_trans (listed_len _ _) hn)
    have hfv := f1
    obtain ⟨N, hN⟩ : ∃ v, fwV J ls = v := ⟨_, rfl⟩
    obtain ⟨is, his⟩ : ∃ v, fwIs J ls = v := ⟨_, rfl⟩
    obtain ⟨aV, haV⟩ : ∃ v, aprV J ls = v := ⟨_, rfl⟩
    obtain ⟨e2, he2⟩ : ∃ v, capE J ls q = v := ⟨_, rfl⟩
    obtain ⟨m, hm⟩ : ∃ v, blmV J ls s = v := ⟨_, rfl⟩
    obtain ⟨e3, he3⟩ : ∃ v, blmE J ls s = v := ⟨_, rfl⟩
    have ha14 : aV.length ≤ 14 := by rw [← haV, aprV_eq]; have := rapV_len J ls; omega
    rw [haV] at f2 f3 f4 f6
    rw [he2] at f3 f6
    rw [his, hN] at f4 f6
    rw [he3] at f5 f6
    rw [hm] at f6
    have Hcr : Hid (rcpE J ls aV = 0) := hid (by rw [← capE_eq]; exact f2)
    have F1 := hid f1
    have F2 := hid f2
    have F3 := hid f3
    have F4 := hid f4
    have F5 := hid f5
    have F6 := hid f6
    have Hs := hid hs
    have Hq := hid hq
    have HN := hid hN
    have His := hid his
    have HaV := hid haV
    have He2 := hid he2
    have Hm := hid hm
    have He3 := hid he3
    clear f1 f2 f3 f4 f5 f6 hfv hsl hs hq hN his haV he2 hm he3
    have zb : IntKind.i64.wrap (g : Int) = (g : Int) := IntWalk.i64_in _ (by omega)
    clear hf hg hchk hv hv8 hln
    obtain ⟨W0, hWb⟩ : ∃ W0, (w).alloc (.cells #[.int .i64 (J : Int), .slice A n c] 24) = W0 := ⟨_, rfl⟩
    have hbel : Below w.heap.size w W0 := by rw [← hWb]; exact (by repeat' (first | with_reducible assumption | with_reducible exact Below.refl _ _ | refine Below.alloc ?_ ?_ _ | refine Below.setCell ?_ ?_ _ | refine Below.drew ?_ | refine below_drewN ?_ _ | (simp; done) | (simp; omega) | omega))
    have hsz := hbel.size
    have bB : Blk W0 (w.heap.size) 24 #[.int .i64 (J : Int), .slice A n c] := by rw [← hWb]; exact Blk.new' rfl
    have pB0 := bB.cell 0
    have pB1 := bB.cell 1
    have lB := bB.lt
    have HL := hid (hl.below hbel hsz)
    clear hl
    go_enter Tryz.func6, Tryz.ntmps6
    go_wp2_with (fail)
    refine (fine_any A n c ls J _ (HL.out.below (by repeat' (first | with_reducible assumption | with_reducible exact Below.refl _ _ | refine Below.alloc ?_ ?_ _ | refine Below.setCell ?_ ?_ _ | refine Below.drew ?_ | refine below_drewN ?_ _ | (simp; done) | (simp; omega) | omega)) (by first | (simp; done) | (simp; omega) | omega))).mono ?_
    rw [Hf.out]
    rintro e W1 ⟨rfl, hb⟩
    have hst : Below W0.heap.size W0 W1 := Below.trans (by repeat' (first | with_reducible assumption | with_reducible exact Below.refl _ _ | refine Below.alloc ?_ ?_ _ | refine Below.setCell ?_ ?_ _ | refine Below.drew ?_ | refine below_drewN ?_ _ | (simp; done) | (simp; omega) | omega)) (hb.mono (by first | (simp; done) | (simp; omega) | omega))
    replace hbel := hbel.trans (hst.mono hsz)
    replace hsz := hbel.size
    replace bB := bB.below hst bB.lt
    clear pB0 pB1 lB
    have pB0 := bB.cell 0
    have pB1 := bB.cell 1
    have lB := bB.lt
    replace HL := hid (HL.out.below hst hst.size)
    clear hb hst
    try clear hWb
    obtain ⟨W0, rfl⟩ : ∃ W0 : World, W0 = W1 := ⟨_, rfl⟩
    go_wp2_with (fail)
    refine (few_any A n c ls J _ (HL.out.below (by repeat' (first | with_reducible assumption | with_reducible exact Below.refl _ _ | refine Below.alloc ?_ ?_ _ | refine Below.setCell ?_ ?_ _ | refine Below.drew ?_ | refine below_drewN ?_ _ | (simp; done) | (simp; omega) | omega)) (by first | (simp; done) | (simp; omega) | omega)) (by omega) K2.out hbl.out).mono ?_
    rw [HN.out, His.out, F1.out]
    rintro e W1 ⟨rfl, hb⟩
    have hst : Below W0.heap.size W0 W1 := Below.trans (by repeat' (first | with_reducible assumption | with_reducible exact Below.refl _ _ | refine Below.alloc ?_ ?_ _ | refine Below.setCell ?_ ?_ _ | refine Below.drew ?_ | refine below_drewN ?_ _ | (simp; done) | (simp; omega) | omega)) (hb.mono (by first | (simp; done) | (simp; omega) | omega))
    replace hbel := hbel.trans (hst.mono hsz)
    replace hsz := hbel.size
    replace bB := bB.below hst bB.lt
    clear pB0 pB1 lB
    have pB0 := bB.cell 0
    have pB1 := bB.cell 1
    have lB := bB.lt
    replace HL := hid (HL.out.below hst hst.size)
    clear hb hst
    try clear hWb
    obtain ⟨W0, rfl⟩ : ∃ W0 : World, W0 = W1 := ⟨_, rfl⟩
    go_wp2_with (fail)
    refine (apartF_any A n c ls J _ (HL.out.below (by repeat' (first | with_reducible assumption | with_reducible exact Below.refl _ _ | refine Below.alloc ?_ ?_ _ | refine Below.setCell ?_ ?_ _ | refine Below.drew ?_ | refine below_drewN ?_ _ | (simp; done) | (simp; omega) | omega)) (by first | (simp; done) | (simp; omega) | omega)) (by omega) K2.out).mono ?_
    rw [HaV.out, Hc.out]
    rintro e W1 ⟨A1, m1, rfl, h, hb⟩
    have hst : Below W0.heap.size W0 W1 := Below.trans (by repeat' (first | with_reducible assumption | with_reducible exact Below.refl _ _ | refine Below.alloc ?_ ?_ _ | refine Below.setCell ?_ ?_ _ | refine Below.drew ?_ | refine below_drewN ?_ _ | (simp; done) | (simp; omega) | omega)) (hb.mono (by first | (simp; done) | (simp; omega) | omega))
    replace hbel := hbel.trans (hst.mono hsz)
    replace hsz := hbel.size
    replace bB := bB.below hst bB.lt
    clear pB0 pB1 lB
    have pB0 := bB.cell 0
    have pB1 := bB.cell 1
    have lB := bB.lt
    replace HL := hid (HL.out.below hst hst.size)
    have H1 := hid h
    clear h
    clear hb hst
    try clear hWb
    obtain ⟨W0, rfl⟩ : ∃ W0 : World, W0 = W1 := ⟨_, rfl⟩
    obtain rfl : aV.length = m1 := H1.out.len
    go_wp2_with (fail)
    refine (rlisted_any g n _ (by omega) (by omega)).mono ?_
    rw [Hq.out]
    rintro e W1 ⟨vq, rfl, ho, hb⟩
    obtain ⟨Aq, cq, rfl, hs2, hcq, hs4⟩ := own_slb ho
    have hs3 : InS W1 W1.heap.size Aq q.length q := hs2
    clear ho hs2
    have hst : Below W0.heap.size W0 W1 := Below.trans (by repeat' (first | with_reducible assumption | with_reducible exact Below.refl _ _ | refine Below.alloc ?_ ?_ _ | refine Below.setCell ?_ ?_ _ | refine Below.drew ?_ | refine below_drewN ?_ _ | (simp; done) | (simp; omega) | omega)) (hb.mono (by first | (simp; done) | (simp; omega) | omega))
    replace hbel := hbel.trans (hst.mono hsz)
    replace hsz := hbel.size
    replace bB := bB.below hst bB.lt
    clear pB0 pB1 lB
    have pB0 := bB.cell 0
    have pB1 := bB.cell 1
    have lB := bB.lt
    replace HL := hid (HL.out.below hst hst.size)
    replace H1 := hid (H1.out.below hst hst.size)
    have Hq := hid hs3
    clear hs3
    have HBq := hid hs4
    clear hs4
    clear hb hst
    try clear hWb
    obtain ⟨W0, rfl⟩ : ∃ W0 : World, W0 = W1 := ⟨_, rfl⟩
    go_wp2_with (fail)
    refine (checkApart_any A Aq n c q.length cq ls q J _ (HL.out.below (by repeat' (first | with_reducible assumption | with_reducible exact Below.refl _ _ | refine Below.alloc ?_ ?_ _ | refine Below.setCell ?_ ?_ _ | refine Below.drew ?_ | refine below_drewN ?_ _ | (simp; done) | (simp; omega) | omega)) (by first | (simp; done) | (simp; omega) | omega)) (Hq.out.below (by repeat' (first | with_reducible assumption | with_reducible exact Below.refl _ _ | refine Below.alloc ?_ ?_ _ | refine Below.setCell ?_ ?_ _ | refine Below.drew ?_ | refine below_drewN ?_ _ | (simp; done) | (simp; omega) | omega)) (by first | (simp; done) | (simp; omega) | omega)) (by omega) K2.out (by have := hq10.out; omega)).mono ?_
    rw [He2.out]
    rintro e W1 ⟨rfl, hb⟩
    have hst : Below W0.heap.size W0 W1 := Below.trans (by repeat' (first | with_reducible assumption | with_reducible exact Below.refl _ _ | refine Below.alloc ?_ ?_ _ | refine Below.setCell ?_ ?_ _ | refine Below.drew ?_ | refine below_drewN ?_ _ | (simp; done) | (simp; omega) | omega)) (hb.mono (by first | (simp; done) | (simp; omega) | omega))
    replace hbel := hbel.trans (hst.mono hsz)
    replace hsz := hbel.size
    replace bB := bB.below hst bB.lt
    clear pB0 pB1 lB
    have pB0 := bB.cell 0
    have pB1 := bB.cell 1
    have lB := bB.lt
    replace HL := hid (HL.out.below hst hst.size)
    replace H1 := hid (H1.out.below hst hst.size)
    replace Hq := hid (Hq.out.below hst hst.size)
    replace HBq := hid (HBq.out.below hst hst.size)
    clear hb hst
    try clear hWb
    obtain ⟨W0, rfl⟩ : ∃ W0 : World, W0 = W1 := ⟨_, rfl⟩
    go_wp2_with (fail)
    refine Sx.wp_region_free (fun W => Below W0.heap.size W0 W) (hSb W0) (SpA [.val (.agg #[.int .i64 (J : Int), .slice A n c]), .val (.agg #[.int .i64 (J : Int), .slice A n c]), .val (.int .u8 (b : Int)), .is s, .val (.tuple #[.int .i64 m, .int .i64 e3]), .val (.tuple #[.int .i64 m, .int .i64 e3]), .val (.int .i64 m), .val (.int .i64 e3), .val (.int .i64 m), .val (.int .i64 e3)]) (SpA.keep _) (fun k => ([[], [], [], [1, 2], [0, 3], [4], [5], [5], [6], [7]] : List (List Nat)).getD k []) [0, 1, 2, 3, 4, 5, 6, 7, 8, 9] rfl ?X1 ?hX1 (by kernel_rfl) (by kernel_rfl) ((Below.refl _ _).drew) ?hC1 ?hQ1
    case hX1 =>
      intro e
      simp only [Sx.putF, Sx.dstAt, List.getElem?_toArray, List.getElem?_cons_succ, List.getElem?_cons_zero, Option.bind_some, Act.put, List.setIfInBounds_toArray, List.set_cons_zero, List.set_cons_succ]
      exact rfl
    case hC1 =>
      intro k o ho e W hx hs hd
      match k, ho, hd with
      | 0, ho, hd =>
        have ho := Option.some.inj ho
        subst ho
        have f0 := (bB.below hs lB).cell 0
        have f1 := (bB.below hs lB).cell 1
        have f2 := (bB.below hs lB).lt
        go_simp
        simp only [Sx.LV]
        exact ⟨Below.refl _ _, rfl⟩
      | 1, ho, hd =>
        have ho := Option.some.inj ho
        subst ho
        have f0 := (bB.below hs lB).cell 0
        have f1 := (bB.below hs lB).cell 1
        have f2 := (bB.below hs lB).lt
        go_simp
        simp only [Sx.LV]
        exact ⟨Below.refl _ _, rfl⟩
      | 2, ho, hd =>
        have ho := Option.some.inj ho
        subst ho
        go_simp
        simp only [Sx.LV]
        exact ⟨Below.refl _ _, rfl⟩
      | 3, ho, hd =>
        have ho := Option.some.inj ho
        subst ho
        have e1 : e 1 = (.agg #[.int .i64 (J : Int), .slice A n c]) := hd 1 (by decide)
        have e2 : e 2 = (.int .u8 (b : Int)) := hd 2 (by decide)
        go_simp
        simp only [Sx.LV]
        refine (set_any A n c J b W (by omega) hb).mono ?_
        rw [Hs.out]
        rintro e1 W1 ⟨v, rfl, ho, hb1⟩
        obtain ⟨A9, c9, rfl, h9⟩ := sl_of_owns ho
        exact ⟨_, rfl, hb1, _, _, _, rfl, h9⟩
      | 4, ho, hd =>
        have ho := Option.some.inj ho
        subst ho
        have e0 : e 0 = (.agg #[.int .i64 (J : Int), .slice A n c]) := hd 0 (by decide)
        obtain ⟨A3, n3, c3, e3, h3⟩ : Sp.ok (.is s) (e 3) W := hd 3 (by decide)
        go_simp
        simp only [Sx.LV]
        have hz3 := h3.len
        have hz8 := hs8.out
        refine (checkBlame_any A A3 n c n3 c3 ls s J W (HL.out.below hx hx.size) h3 (by omega) K2.out (by omega)).mono ?_
        rw [Hm.out, He3.out]
        rintro e1 W1 ⟨rfl, hb1⟩
        exact ⟨_, rfl, hb1, rfl⟩
      | 5, ho, hd =>
        have ho := Option.some.inj ho
        subst ho
        have e4 : e 4 = (.tuple #[.int .i64 m, .int .i64 e3]) := hd 4 (by decide)
        go_simp
        simp only [Sx.LV]
        exact ⟨Below.refl _ _, rfl⟩
      | 6, ho, hd =>
        have ho := Option.some.inj ho
        subst ho
        have e5 : e 5 = (.tuple #[.int .i64 m, .int .i64 e3]) := hd 5 (by decide)
        go_simp
        simp only [Sx.LV]
        exact ⟨Below.refl _ _, rfl⟩
      | 7, ho, hd =>
        have ho := Option.some.inj ho
        subst ho
        have e5 : e 5 = (.tuple #[.int .i64 m, .int .i64 e3]) := hd 5 (by decide)
        go_simp
        simp only [Sx.LV]
        exact ⟨Below.refl _ _, rfl⟩
      | 8, ho, hd =>
        have ho := Option.some.inj ho
        subst ho
        have e6 : e 6 = (.int .i64 m) := hd 6 (by decide)
        go_simp
        simp only [Sx.LV]
        exact ⟨Below.refl _ _, rfl⟩
      | 9, ho, hd =>
        have ho := Option.some.inj ho
        subst ho
        have e7 : e 7 = (.int .i64 e3) := hd 7 (by decide)
        go_simp
        simp only [Sx.LV]
        exact ⟨Below.refl _ _, rfl⟩
      | k + 10, ho, _ => cases ho
    intro e W1 hv hb hp
    have e8 : e 8 = (.int .i64 m) := hp 8 (by decide)
    have e9 : e 9 = (.int .i64 e3) := hp 9 (by decide)
    simp only [e8, e9]
    clear hp hv
    replace hbel := hbel.trans (hb.mono hsz)
    replace hsz := hbel.size
    replace bB := bB.below hb bB.lt
    clear pB0 pB1 lB
    have pB0 := bB.cell 0
    have pB1 := bB.cell 1
    have lB := bB.lt
    replace HL := hid (HL.out.below hb hb.size)
    replace H1 := hid (H1.out.below hb hb.size)
    replace Hq := hid (Hq.out.below hb hb.size)
    replace HBq := hid (HBq.out.below hb hb.size)
    clear hb
    try clear hWb
    obtain ⟨W0, rfl⟩ : ∃ W0 : World, W0 = W1 := ⟨_, rfl⟩
    have ha14i : (aV.length : Int) ≤ 14 := by omega
    by_cases z2 : e2 = 0
    · have t2 : (e2 == 0) = true := by simp [z2]
      have t2n : (e2 != 0) = false := by simp [z2]
      have u2 := F3.out z2
      have u2i : ¬ (aV.length : Int) < q.length := by omega
      by_cases z3 : e3 = 0
      · have t3 : (e3 != 0) = false := by simp [z3]
        obtain ⟨g1, g2, g3, g4⟩ := F6.out z3
        have g4 := g4 z2
        subst g1
        have g5 := F4.out rfl
        have g6 : ¬ N < (aV.length : Int) := by omega
        try clear z2
        try clear z3
        go_wp2_with (fail)
        refine (checkApart_any A A1 n c aV.length aV.length ls aV J _ (HL.out.below (by repeat' (first | with_reducible assumption | with_reducible exact Below.refl _ _ | refine Below.alloc ?_ ?_ _ | refine Below.setCell ?_ ?_ _ | refine Below.drew ?_ | refine below_drewN ?_ _ | (simp; done) | (simp; omega) | omega)) (by first | (simp; done) | (simp; omega) | omega)) (H1.out.below (by repeat' (first | with_reducible assumption | with_reducible exact Below.refl _ _ | refine Below.alloc ?_ ?_ _ | refine Below.setCell ?_ ?_ _ | refine Below.drew ?_ | refine below_drewN ?_ _ | (simp; done) | (simp; omega) | omega)) (by first | (simp; done) | (simp; omega) | omega)) (by omega) K2.out (by omega)).mono ?_
        rw [F2.out]
        rintro e W1 ⟨rfl, hb⟩
        have hst : Below W0.heap.size W0 W1 := Below.trans (by repeat' (first | with_reducible assumption | with_reducible exact Below.refl _ _ | refine Below.alloc ?_ ?_ _ | refine Below.setCell ?_ ?_ _ | refine Below.drew ?_ | refine below_drewN ?_ _ | (simp; done) | (simp; omega) | omega)) (hb.mono (by first | (simp; done) | (simp; omega) | omega))
        replace hbel := hbel.trans (hst.mono hsz)
        replace hsz := hbel.size
        replace bB := bB.below hst bB.lt
        clear pB0 pB1 lB
        have pB0 := bB.cell 0
        have pB1 := bB.cell 1
        have lB := bB.lt
        replace HL := hid (HL.out.below hst hst.size)
        replace H1 := hid (H1.out.below hst hst.size)
        replace Hq := hid (Hq.out.below hst hst.size)
        replace HBq := hid (HBq.out.below hst hst.size)
        clear hb hst
        try clear hWb
        obtain ⟨W0, rfl⟩ : ∃ W0 : World, W0 = W1 := ⟨_, rfl⟩
        go_wp2_with (fail)
        refine (rcheckApart_any A A1 n c aV.length aV.length ls aV J _ (HL.out.below (by repeat' (first | with_reducible assumption | with_reducible exact Below.refl _ _ | refine Below.alloc ?_ ?_ _ | refine Below.setCell ?_ ?_ _ | refine Below.drew ?_ | refine below_drewN ?_ _ | (simp; done) | (simp; omega) | omega)) (by first | (simp; done) | (simp; omega) | omega)) (H1.out.below (by repeat' (first | with_reducible assumption | with_reducible exact Below.refl _ _ | refine Below.alloc ?_ ?_ _ | refine Below.setCell ?_ ?_ _ | refine Below.drew ?_ | refine below_drewN ?_ _ | (simp; done) | (simp; omega) | omega)) (by first | (simp; done) | (simp; omega) | omega)) (by omega) K2.out (by omega)).mono ?_
        rw [Hcr.out]
        rintro e W1 ⟨rfl, hb⟩
        have hst : Below W0.heap.size W0 W1 := Below.trans (by repeat' (first | with_reducible assumption | with_reducible exact Below.refl _ _ | refine Below.alloc ?_ ?_ _ | refine Below.setCell ?_ ?_ _ | refine Below.drew ?_ | refine below_drewN ?_ _ | (simp; done) | (simp; omega) | omega)) (hb.mono (by first | (simp; done) | (simp; omega) | omega))
        replace hbel := hbel.trans (hst.mono hsz)
        replace hsz := hbel.size
        replace bB := bB.below hst bB.lt
        clear pB0 pB1 lB
        have pB0 := bB.cell 0
        have pB1 := bB.cell 1
        have lB := bB.lt
        replace HL := hid (HL.out.below hst hst.size)
        replace H1 := hid (H1.out.below hst hst.size)
        replace Hq := hid (Hq.out.below hst hst.size)
        replace HBq := hid (HBq.out.below hst hst.size)
        clear hb hst
        try clear hWb
        obtain ⟨W0, rfl⟩ : ∃ W0 : World, W0 = W1 := ⟨_, rfl⟩
        go_wp2_with (fail)
        refine (works_any _).mono ?_
        rintro e W1 ⟨rfl, hb⟩
        have hst : Below W0.heap.size W0 W1 := Below.trans (by repeat' (first | with_reducible assumption | with_reducible exact Below.refl _ _ | refine Below.alloc ?_ ?_ _ | refine Below.setCell ?_ ?_ _ | refine Below.drew ?_ | refine below_drewN ?_ _ | (simp; done) | (simp; omega) | omega)) (hb.mono (by first | (simp; done) | (simp; omega) | omega))
        replace hbel := hbel.trans (hst.mono hsz)
        replace hsz := hbel.size
        replace bB := bB.below hst bB.lt
        clear pB0 pB1 lB
        have pB0 := bB.cell 0
        have pB1 := bB.cell 1
        have lB := bB.lt
        replace HL := hid (HL.out.below hst hst.size)
        replace H1 := hid (H1.out.below hst hst.size)
        replace Hq := hid (Hq.out.below hst hst.size)
        replace HBq := hid (HBq.out.below hst hst.size)
        clear hb hst
        try clear hWb
        obtain ⟨W0, rfl⟩ : ∃ W0 : World, W0 = W1 := ⟨_, rfl⟩
        go_wp2
        go_ret
        exact ⟨rfl, hbel⟩
      · have t3 : (e3 != 0) = true := by simp [z3]
        have t4 : (e3 == 21) = true := by rcases F5.out with h | h; exact absurd h z3; simp [h]
        cases is
        · skip
          try clear z2
          try clear z3
          go_wp2_with (fail)
          refine (checkApart_any A A1 n c aV.length aV.length ls aV J _ (HL.out.below (by repeat' (first | with_reducible assumption | with_reducible exact Below.refl _ _ | refine Below.alloc ?_ ?_ _ | refine Below.setCell ?_ ?_ _ | refine Below.drew ?_ | refine below_drewN ?_ _ | (simp; done) | (simp; omega) | omega)) (by first | (simp; done) | (simp; omega) | omega)) (H1.out.below (by repeat' (first | with_reducible assumption | with_reducible exact Below.refl _ _ | refine Below.alloc ?_ ?_ _ | refine Below.setCell ?_ ?_ _ | refine Below.drew ?_ | refine below_drewN ?_ _ | (simp; done) | (simp; omega) | omega)) (by first | (simp; done) | (simp; omega) | omega)) (by omega) K2.out (by omega)).mono ?_
          rw [F2.out]
          rintro e W1 ⟨rfl, hb⟩
          have hst : Below W0.heap.size W0 W1 := Below.trans (by repeat' (first | with_reducible assumption | with_reducible exact Below.refl _ _ | refine Below.alloc ?_ ?_ _ | refine Below.setCell ?_ ?_ _ | refine Below.drew ?_ | refine below_drewN ?_ _ | (simp; done) | (simp; omega) | omega)) (hb.mono (by first | (simp; done) | (simp; omega) | omega))
          replace hbel := hbel.trans (hst.mono hsz)
          replace hsz := hbel.size
          replace bB := bB.below hst bB.lt
          clear pB0 pB1 lB
          have pB0 := bB.cell 0
          have pB1 := bB.cell 1
          have lB := bB.lt
          replace HL := hid (HL.out.below hst hst.size)
          replace H1 := hid (H1.out.below hst hst.size)
          replace Hq := hid (Hq.out.below hst hst.size)
          replace HBq := hid (HBq.out.below hst hst.size)
          clear hb hst
          try clear hWb
          obtain ⟨W0, rfl⟩ : ∃ W0 : World, W0 = W1 := ⟨_, rfl⟩
          go_wp2_with (fail)
          refine (rcheckApart_any A A1 n c aV.length aV.length ls aV J _ (HL.out.below (by repeat' (first | with_reducible assumption | with_reducible exact Below.refl _ _ | refine Below.alloc ?_ ?_ _ | refine Below.setCell ?_ ?_ _ | refine Below.drew ?_ | refine below_drewN ?_ _ | (simp; done) | (simp; omega) | omega)) (by first | (simp; done) | (simp; omega) | omega)) (H1.out.below (by repeat' (first | with_reducible assumption | with_reducible exact Below.refl _ _ | refine Below.alloc ?_ ?_ _ | refine Below.setCell ?_ ?_ _ | refine Below.drew ?_ | refine below_drewN ?_ _ | (simp; done) | (simp; omega) | omega)) (by first | (simp; done) | (simp; omega) | omega)) (by omega) K2.out (by omega)).mono ?_
          rw [Hcr.out]
          rintro e W1 ⟨rfl, hb⟩
          have hst : Below W0.heap.size W0 W1 := Below.trans (by repeat' (first | with_reducible assumption | with_reducible exact Below.refl _ _ | refine Below.alloc ?_ ?_ _ | refine Below.setCell ?_ ?_ _ | refine Below.drew ?_ | refine below_drewN ?_ _ | (simp; done) | (simp; omega) | omega)) (hb.mono (by first | (simp; done) | (simp; omega) | omega))
          replace hbel := hbel.trans (hst.mono hsz)
          replace hsz := hbel.size
          replace bB := bB.below hst bB.lt
          clear pB0 pB1 lB
          have pB0 := bB.cell 0
          have pB1 := bB.cell 1
          have lB := bB.lt
          replace HL := hid (HL.out.below hst hst.size)
          replace H1 := hid (H1.out.below hst hst.size)
          replace Hq := hid (Hq.out.below hst hst.size)
          replace HBq := hid (HBq.out.below hst hst.size)
          clear hb hst
          try clear hWb
          obtain ⟨W0, rfl⟩ : ∃ W0 : World, W0 = W1 := ⟨_, rfl⟩
          go_wp2_with (fail)
          refine (works_any _).mono ?_
          rintro e W1 ⟨rfl, hb⟩
          have hst : Below W0.heap.size W0 W1 := Below.trans (by repeat' (first | with_reducible assumption | with_reducible exact Below.refl _ _ | refine Below.alloc ?_ ?_ _ | refine Below.setCell ?_ ?_ _ | refine Below.drew ?_ | refine below_drewN ?_ _ | (simp; done) | (simp; omega) | omega)) (hb.mono (by first | (simp; done) | (simp; omega) | omega))
          replace hbel := hbel.trans (hst.mono hsz)
          replace hsz := hbel.size
          replace bB := bB.below hst bB.lt
          clear pB0 pB1 lB
          have pB0 := bB.cell 0
          have pB1 := bB.cell 1
          have lB := bB.lt
          replace HL := hid (HL.out.below hst hst.size)
          replace H1 := hid (H1.out.below hst hst.size)
          replace Hq := hid (Hq.out.below hst hst.size)
          replace HBq := hid (HBq.out.below hst hst.size)
          clear hb hst
          try clear hWb
          obtain ⟨W0, rfl⟩ : ∃ W0 : World, W0 = W1 := ⟨_, rfl⟩
          go_wp2
          go_ret
          exact ⟨rfl, hbel⟩
        · have g5 := F4.out rfl
          have g6 : ¬ N < (aV.length : Int) := by omega
          try clear z2
          try clear z3
          go_wp2_with (fail)
          refine (checkApart_any A A1 n c aV.length aV.length ls aV J _ (HL.out.below (by repeat' (first | with_reducible assumption | with_reducible exact Below.refl _ _ | refine Below.alloc ?_ ?_ _ | refine Below.setCell ?_ ?_ _ | refine Below.drew ?_ | refine below_drewN ?_ _ | (simp; done) | (simp; omega) | omega)) (by first | (simp; done) | (simp; omega) | omega)) (H1.out.below (by repeat' (first | with_reducible assumption | with_reducible exact Below.refl _ _ | refine Below.alloc ?_ ?_ _ | refine Below.setCell ?_ ?_ _ | refine Below.drew ?_ | refine below_drewN ?_ _ | (simp; done) | (simp; omega) | omega)) (by first | (simp; done) | (simp; omega) | omega)) (by omega) K2.out (by omega)).mono ?_
          rw [F2.out]
          rintro e W1 ⟨rfl, hb⟩
          have hst : Below W0.heap.size W0 W1 := Below.trans (by repeat' (first | with_reducible assumption | with_reducible exact Below.refl _ _ | refine Below.alloc ?_ ?_ _ | refine Below.setCell ?_ ?_ _ | refine Below.drew ?_ | refine below_drewN ?_ _ | (simp; done) | (simp; omega) | omega)) (hb.mono (by first | (simp; done) | (simp; omega) | omega))
          replace hbel := hbel.trans (hst.mono hsz)
          replace hsz := hbel.size
          replace bB := bB.below hst bB.lt
          clear pB0 pB1 lB
          have pB0 := bB.cell 0
          have pB1 := bB.cell 1
          have lB := bB.lt
          replace HL := hid (HL.out.below hst hst.size)
          replace H1 := hid (H1.out.below hst hst.size)
          replace Hq := hid (Hq.out.below hst hst.size)
          replace HBq := hid (HBq.out.below hst hst.size)
          clear hb hst
          try clear hWb
          obtain ⟨W0, rfl⟩ : ∃ W0 : World, W0 = W1 := ⟨_, rfl⟩
          go_wp2_with (fail)
          refine (rcheckApart_any A A1 n c aV.length aV.length ls aV J _ (HL.out.below (by repeat' (first | with_reducible assumption | with_reducible exact Below.refl _ _ | refine Below.alloc ?_ ?_ _ | refine Below.setCell ?_ ?_ _ | refine Below.drew ?_ | refine below_drewN ?_ _ | (simp; done) | (simp; omega) | omega)) (by first | (simp; done) | (simp; omega) | omega)) (H1.out.below (by repeat' (first | with_reducible assumption | with_reducible exact Below.refl _ _ | refine Below.alloc ?_ ?_ _ | refine Below.setCell ?_ ?_ _ | refine Below.drew ?_ | refine below_drewN ?_ _ | (simp; done) | (simp; omega) | omega)) (by first | (simp; done) | (simp; omega) | omega)) (by omega) K2.out (by omega)).mono ?_
          rw [Hcr.out]
          rintro e W1 ⟨rfl, hb⟩
          have hst : Below W0.heap.size W0 W1 := Below.trans (by repeat' (first | with_reducible assumption | with_reducible exact Below.refl _ _ | refine Below.alloc ?_ ?_ _ | refine Below.setCell ?_ ?_ _ | refine Below.drew ?_ | refine below_drewN ?_ _ | (simp; done) | (simp; omega) | omega)) (hb.mono (by first | (simp; done) | (simp; omega) | omega))
          replace hbel := hbel.trans (hst.mono hsz)
          replace hsz := hbel.size
          replace bB := bB.below hst bB.lt
          clear pB0 pB1 lB
          have pB0 := bB.cell 0
          have pB1 := bB.cell 1
          have lB := bB.lt
          replace HL := hid (HL.out.below hst hst.size)
          replace H1 := hid (H1.out.below hst hst.size)
          replace Hq := hid (Hq.out.below hst hst.size)
          replace HBq := hid (HBq.out.below hst hst.size)
          clear hb hst
          try clear hWb
          obtain ⟨W0, rfl⟩ : ∃ W0 : World, W0 = W1 := ⟨_, rfl⟩
          go_wp2_with (fail)
          refine (works_any _).mono ?_
          rintro e W1 ⟨rfl, hb⟩
          have hst : Below W0.heap.size W0 W1 := Below.trans (by repeat' (first | with_reducible assumption | with_reducible exact Below.refl _ _ | refine Below.alloc ?_ ?_ _ | refine Below.setCell ?_ ?_ _ | refine Below.drew ?_ | refine below_drewN ?_ _ | (simp; done) | (simp; omega) | omega)) (hb.mono (by first | (simp; done) | (simp; omega) | omega))
          replace hbel := hbel.trans (hst.mono hsz)
          replace hsz := hbel.size
          replace bB := bB.below hst bB.lt
          clear pB0 pB1 lB
          have pB0 := bB.cell 0
          have pB1 := bB.cell 1
          have lB := bB.lt
          replace HL := hid (HL.out.below hst hst.size)
          replace H1 := hid (H1.out.below hst hst.size)
          replace Hq := hid (Hq.out.below hst hst.size)
          replace HBq := hid (HBq.out.below hst hst.size)
          clear hb hst
          try clear hWb
          obtain ⟨W0, rfl⟩ : ∃ W0 : World, W0 = W1 := ⟨_, rfl⟩
          go_wp2
          go_ret
          exact ⟨rfl, hbel⟩
    · have t2 : (e2 == 0) = false := by simp [z2]
      have t2n : (e2 != 0) = true := by simp [z2]
      by_cases z3 : e3 = 0
      · have t3 : (e3 != 0) = false := by simp [z3]
        obtain ⟨g1, g2, g3, -⟩ := F6.out z3
        subst g1
        have g5 := F4.out rfl
        have g6 : ¬ N < (aV.length : Int) := by omega
        try clear z2
        try clear z3
        go_wp2_with (fail)
        refine (checkApart_any A A1 n c aV.length aV.length ls aV J _ (HL.out.below (by repeat' (first | with_reducible assumption | with_reducible exact Below.refl _ _ | refine Below.alloc ?_ ?_ _ | refine Below.setCell ?_ ?_ _ | refine Below.drew ?_ | refine below_drewN ?_ _ | (simp; done) | (simp; omega) | omega)) (by first | (simp; done) | (simp; omega) | omega)) (H1.out.below (by repeat' (first | with_reducible assumption | with_reducible exact Below.refl _ _ | refine Below.alloc ?_ ?_ _ | refine Below.setCell ?_ ?_ _ | refine Below.drew ?_ | refine below_drewN ?_ _ | (simp; done) | (simp; omega) | omega)) (by first | (simp; done) | (simp; omega) | omega)) (by omega) K2.out (by omega)).mono ?_
        rw [F2.out]
        rintro e W1 ⟨rfl, hb⟩
        have hst : Below W0.heap.size W0 W1 := Below.trans (by repeat' (first | with_reducible assumption | with_reducible exact Below.refl _ _ | refine Below.alloc ?_ ?_ _ | refine Below.setCell ?_ ?_ _ | refine Below.drew ?_ | refine below_drewN ?_ _ | (simp; done) | (simp; omega) | omega)) (hb.mono (by first | (simp; done) | (simp; omega) | omega))
        replace hbel := hbel.trans (hst.mono hsz)
        replace hsz := hbel.size
        replace bB := bB.below hst bB.lt
        clear pB0 pB1 lB
        have pB0 := bB.cell 0
        have pB1 := bB.cell 1
        have lB := bB.lt
        replace HL := hid (HL.out.below hst hst.size)
        replace H1 := hid (H1.out.below hst hst.size)
        replace Hq := hid (Hq.out.below hst hst.size)
        replace HBq := hid (HBq.out.below hst hst.size)
        clear hb hst
        try clear hWb
        obtain ⟨W0, rfl⟩ : ∃ W0 : World, W0 = W1 := ⟨_, rfl⟩
        go_wp2_with (fail)
        refine (rcheckApart_any A A1 n c aV.length aV.length ls aV J _ (HL.out.below (by repeat' (first | with_reducible assumption | with_reducible exact Below.refl _ _ | refine Below.alloc ?_ ?_ _ | refine Below.setCell ?_ ?_ _ | refine Below.drew ?_ | refine below_drewN ?_ _ | (simp; done) | (simp; omega) | omega)) (by first | (simp; done) | (simp; omega) | omega)) (H1.out.below (by repeat' (first | with_reducible assumption | with_reducible exact Below.refl _ _ | refine Below.alloc ?_ ?_ _ | refine Below.setCell ?_ ?_ _ | refine Below.drew ?_ | refine below_drewN ?_ _ | (simp; done) | (simp; omega) | omega)) (by first | (simp; done) | (simp; omega) | omega)) (by omega) K2.out (by omega)).mono ?_
        rw [Hcr.out]
        rintro e W1 ⟨rfl, hb⟩
        have hst : Below W0.heap.size W0 W1 := Below.trans (by repeat' (first | with_reducible assumption | with_reducible exact Below.refl _ _ | refine Below.alloc ?_ ?_ _ | refine Below.setCell ?_ ?_ _ | refine Below.drew ?_ | refine below_drewN ?_ _ | (simp; done) | (simp; omega) | omega)) (hb.mono (by first | (simp; done) | (simp; omega) | omega))
        replace hbel := hbel.trans (hst.mono hsz)
        replace hsz := hbel.size
        replace bB := bB.below hst bB.lt
        clear pB0 pB1 lB
        have pB0 := bB.cell 0
        have pB1 := bB.cell 1
        have lB := bB.lt
        replace HL := hid (HL.out.below hst hst.size)
        replace H1 := hid (H1.out.below hst hst.size)
        replace Hq := hid (Hq.out.below hst hst.size)
        replace HBq := hid (HBq.out.below hst hst.size)
        clear hb hst
        try clear hWb
        obtain ⟨W0, rfl⟩ : ∃ W0 : World, W0 = W1 := ⟨_, rfl⟩
        go_wp2_with (fail)
        refine (works_any _).mono ?_
        rintro e W1 ⟨rfl, hb⟩
        have hst : Below W0.heap.size W0 W1 := Below.trans (by repeat' (first | with_reducible assumption | with_reducible exact Below.refl _ _ | refine Below.alloc ?_ ?_ _ | refine Below.setCell ?_ ?_ _ | refine Below.drew ?_ | refine below_drewN ?_ _ | (simp; done) | (simp; omega) | omega)) (hb.mono (by first | (simp; done) | (simp; omega) | omega))
        replace hbel := hbel.trans (hst.mono hsz)
        replace hsz := hbel.size
        replace bB := bB.below hst bB.lt
        clear pB0 pB1 lB
        have pB0 := bB.cell 0
        have pB1 := bB.cell 1
        have lB := bB.lt
        replace HL := hid (HL.out.below hst hst.size)
        replace H1 := hid (H1.out.below hst hst.size)
        replace Hq := hid (Hq.out.below hst hst.size)
        replace HBq := hid (HBq.out.below hst hst.size)
        clear hb hst
        try clear hWb
        obtain ⟨W0, rfl⟩ : ∃ W0 : World, W0 = W1 := ⟨_, rfl⟩
        go_wp2
        go_ret
        exact ⟨rfl, hbel⟩
      · have t3 : (e3 != 0) = true := by simp [z3]
        have t4 : (e3 == 21) = true := by rcases F5.out with h | h; exact absurd h z3; simp [h]
        cases is
        · skip
          try clear z2
          try clear z3
          go_wp2_with (fail)
          refine (checkApart_any A A1 n c aV.length aV.length ls aV J _ (HL.out.below (by repeat' (first | with_reducible assumption | with_reducible exact Below.refl _ _ | refine Below.alloc ?_ ?_ _ | refine Below.setCell ?_ ?_ _ | refine Below.drew ?_ | refine below_drewN ?_ _ | (simp; done) | (simp; omega) | omega)) (by first | (simp; done) | (simp; omega) | omega)) (H1.out.below (by repeat' (first | with_reducible assumption | with_reducible exact Below.refl _ _ | refine Below.alloc ?_ ?_ _ | refine Below.setCell ?_ ?_ _ | refine Below.drew ?_ | refine below_drewN ?_ _ | (simp; done) | (simp; omega) | omega)) (by first | (simp; done) | (simp; omega) | omega)) (by omega) K2.out (by omega)).mono ?_
          rw [F2.out]
          rintro e W1 ⟨rfl, hb⟩
          have hst : Below W0.heap.size W0 W1 := Below.trans (by repeat' (first | with_reducible assumption | with_reducible exact Below.refl _ _ | refine Below.alloc ?_ ?_ _ | refine Below.setCell ?_ ?_ _ | refine Below.drew ?_ | refine below_drewN ?_ _ | (simp; done) | (simp; omega) | omega)) (hb.mono (by first | (simp; done) | (simp; omega) | omega))
          replace hbel := hbel.trans (hst.mono hsz)
          replace hsz := hbel.size
          replace bB := bB.below hst bB.lt
          clear pB0 pB1 lB
          have pB0 := bB.cell 0
          have pB1 := bB.cell 1
          have lB := bB.lt
          replace HL := hid (HL.out.below hst hst.size)
          replace H1 := hid (H1.out.below hst hst.size)
          replace Hq := hid (Hq.out.below hst hst.size)
          replace HBq := hid (HBq.out.below hst hst.size)
          clear hb hst
          try clear hWb
          obtain ⟨W0, rfl⟩ : ∃ W0 : World, W0 = W1 := ⟨_, rfl⟩
          go_wp2_with (fail)
          refine (rcheckApart_any A A1 n c aV.length aV.length ls aV J _ (HL.out.below (by repeat' (first | with_reducible assumption | with_reducible exact Below.refl _ _ | refine Below.alloc ?_ ?_ _ | refine Below.setCell ?_ ?_ _ | refine Below.drew ?_ | refine below_drewN ?_ _ | (simp; done) | (simp; omega) | omega)) (by first | (simp; done) | (simp; omega) | omega)) (H1.out.below (by repeat' (first | with_reducible assumption | with_reducible exact Below.refl _ _ | refine Below.alloc ?_ ?_ _ | refine Below.setCell ?_ ?_ _ | refine Below.drew ?_ | refine below_drewN ?_ _ | (simp; done) | (simp; omega) | omega)) (by first | (simp; done) | (simp; omega) | omega)) (by omega) K2.out (by omega)).mono ?_
          rw [Hcr.out]
          rintro e W1 ⟨rfl, hb⟩
          have hst : Below W0.heap.size W0 W1 := Below.trans (by repeat' (first | with_reducible assumption | with_reducible exact Below.refl _ _ | refine Below.alloc ?_ ?_ _ | refine Below.setCell ?_ ?_ _ | refine Below.drew ?_ | refine below_drewN ?_ _ | (simp; done) | (simp; omega) | omega)) (hb.mono (by first | (simp; done) | (simp; omega) | omega))
          replace hbel := hbel.trans (hst.mono hsz)
          replace hsz := hbel.size
          replace bB := bB.below hst bB.lt
          clear pB0 pB1 lB
          have pB0 := bB.cell 0
          have pB1 := bB.cell 1
          have lB := bB.lt
          replace HL := hid (HL.out.below hst hst.size)
          replace H1 := hid (H1.out.below hst hst.size)
          replace Hq := hid (Hq.out.below hst hst.size)
          replace HBq := hid (HBq.out.below hst hst.size)
          clear hb hst
          try clear hWb
          obtain ⟨W0, rfl⟩ : ∃ W0 : World, W0 = W1 := ⟨_, rfl⟩
          go_wp2_with (fail)
          refine (works_any _).mono ?_
          rintro e W1 ⟨rfl, hb⟩
          have hst : Below W0.heap.size W0 W1 := Below.trans (by repeat' (first | with_reducible assumption | with_reducible exact Below.refl _ _ | refine Below.alloc ?_ ?_ _ | refine Below.setCell ?_ ?_ _ | refine Below.drew ?_ | refine below_drewN ?_ _ | (simp; done) | (simp; omega) | omega)) (hb.mono (by first | (simp; done) | (simp; omega) | omega))
          replace hbel := hbel.trans (hst.mono hsz)
          replace hsz := hbel.size
          replace bB := bB.below hst bB.lt
          clear pB0 pB1 lB
          have pB0 := bB.cell 0
          have pB1 := bB.cell 1
          have lB := bB.lt
          replace HL := hid (HL.out.below hst hst.size)
          replace H1 := hid (H1.out.below hst hst.size)
          replace Hq := hid (Hq.out.below hst hst.size)
          replace HBq := hid (HBq.out.below hst hst.size)
          clear hb hst
          try clear hWb
          obtain ⟨W0, rfl⟩ : ∃ W0 : World, W0 = W1 := ⟨_, rfl⟩
          go_wp2
          go_ret
          exact ⟨rfl, hbel⟩
        · have g5 := F4.out rfl
          have g6 : ¬ N < (aV.length : Int) := by omega
          try clear z2
          try clear z3
          go_wp2_with (fail)
          refine (checkApart_any A A1 n c aV.length aV.length ls aV J _ (HL.out.below (by repeat' (first | with_reducible assumption | with_reducible exact Below.refl _ _ | refine Below.alloc ?_ ?_ _ | refine Below.setCell ?_ ?_ _ | refine Below.drew ?_ | refine below_drewN ?_ _ | (simp; done) | (simp; omega) | omega)) (by first | (simp; done) | (simp; omega) | omega)) (H1.out.below (by repeat' (first | with_reducible assumption | with_reducible exact Below.refl _ _ | refine Below.alloc ?_ ?_ _ | refine Below.setCell ?_ ?_ _ | refine Below.drew ?_ | refine below_drewN ?_ _ | (simp; done) | (simp; omega) | omega)) (by first | (simp; done) | (simp; omega) | omega)) (by omega) K2.out (by omega)).mono ?_
          rw [F2.out]
          rintro e W1 ⟨rfl, hb⟩
          have hst : Below W0.heap.size W0 W1 := Below.trans (by repeat' (first | with_reducible assumption | with_reducible exact Below.refl _ _ | refine Below.alloc ?_ ?_ _ | refine Below.setCell ?_ ?_ _ | refine Below.drew ?_ | refine below_drewN ?_ _ | (simp; done) | (simp; omega) | omega)) (hb.mono (by first | (simp; done) | (simp; omega) | omega))
          replace hbel := hbel.trans (hst.mono hsz)
          replace hsz := hbel.size
          replace bB := bB.below hst bB.lt
          clear pB0 pB1 lB
          have pB0 := bB.cell 0
          have pB1 := bB.cell 1
          have lB := bB.lt
          replace HL := hid (HL.out.below hst hst.size)
          replace H1 := hid (H1.out.below hst hst.size)
          replace Hq := hid (Hq.out.below hst hst.size)
          replace HBq := hid (HBq.out.below hst hst.size)
          clear hb hst
          try clear hWb
          obtain ⟨W0, rfl⟩ : ∃ W0 : World, W0 = W1 := ⟨_, rfl⟩
          go_wp2_with (fail)
          refine (rcheckApart_any A A1 n c aV.length aV.length ls aV J _ (HL.out.below (by repeat' (first | with_reducible assumption | with_reducible exact Below.refl _ _ | refine Below.alloc ?_ ?_ _ | refine Below.setCell ?_ ?_ _ | refine Below.drew ?_ | refine below_drewN ?_ _ | (simp; done) | (simp; omega) | omega)) (by first | (simp; done) | (simp; omega) | omega)) (H1.out.below (by repeat' (first | with_reducible assumption | with_reducible exact Below.refl _ _ | refine Below.alloc ?_ ?_ _ | refine Below.setCell ?_ ?_ _ | refine Below.drew ?_ | refine below_drewN ?_ _ | (simp; done) | (simp; omega) | omega)) (by first | (simp; done) | (simp; omega) | omega)) (by omega) K2.out (by omega)).mono ?_
          rw [Hcr.out]
          rintro e W1 ⟨rfl, hb⟩
          have hst : Below W0.heap.size W0 W1 := Below.trans (by repeat' (first | with_reducible assumption | with_reducible exact Below.refl _ _ | refine Below.alloc ?_ ?_ _ | refine Below.setCell ?_ ?_ _ | refine Below.drew ?_ | refine below_drewN ?_ _ | (simp; done) | (simp; omega) | omega)) (hb.mono (by first | (simp; done) | (simp; omega) | omega))
          replace hbel := hbel.trans (hst.mono hsz)
          replace hsz := hbel.size
          replace bB := bB.below hst bB.lt
          clear pB0 pB1 lB
          have pB0 := bB.cell 0
          have pB1 := bB.cell 1
          have lB := bB.lt
          replace HL := hid (HL.out.below hst hst.size)
          replace H1 := hid (H1.out.below hst hst.size)
          replace Hq := hid (Hq.out.below hst hst.size)
          replace HBq := hid (HBq.out.below hst hst.size)
          clear hb hst
          try clear hWb
          obtain ⟨W0, rfl⟩ : ∃ W0 : World, W0 = W1 := ⟨_, rfl⟩
          go_wp2_with (fail)
          refine (works_any _).mono ?_
          rintro e W1 ⟨rfl, hb⟩
          have hst : Below W0.heap.size W0 W1 := Below.trans (by repeat' (first | with_reducible assumption | with_reducible exact Below.refl _ _ | refine Below.alloc ?_ ?_ _ | refine Below.setCell ?_ ?_ _ | refine Below.drew ?_ | refine below_drewN ?_ _ | (simp; done) | (simp; omega) | omega)) (hb.mono (by first | (simp; done) | (simp; omega) | omega))
          replace hbel := hbel.trans (hst.mono hsz)
          replace hsz := hbel.size
          replace bB := bB.below hst bB.lt
          clear pB0 pB1 lB
          have pB0 := bB.cell 0
          have pB1 := bB.cell 1
          have lB := bB.lt
          replace HL := hid (HL.out.below hst hst.size)
          replace H1 := hid (H1.out.below hst hst.size)
          replace Hq := hid (Hq.out.below hst hst.size)
          replace HBq := hid (HBq.out.below hst hst.size)
          clear hb hst
          try clear hWb
          obtain ⟨W0, rfl⟩ : ∃ W0 : World, W0 = W1 := ⟨_, rfl⟩
          go_wp2
          go_ret
          exact ⟨rfl, hbel⟩

section
open Go.ChangeShapes Go.WideShapes Go.ChangeAt Go.RowKit
set_option maxRecDepth 100000 in
theorem blameProved_lifted (os : Os) (started : os.Started) (H : Type) (enc : TypeId × Value → H) :
    ReturnsInHanded {} Tryz.checked os 6 .any (Rows.blameProvedSpec.pre6 enc Tryz.prog Tryz.f6 Rows.blameProvedRow.domain false) (Rows.blameProvedSpec.post enc Tryz.prog Tryz.f6 false true false false) := by
  refine returnsInHanded_of_change (C := Tryz.checked) ownKx started (by kernel_rfl) Tryz.func6
    (ChangeSpec.witness6 (enc := enc) (C := Tryz.checked) false ⟨#[], #[.agg #[.int .i64 0, .slice none 0 0], .int .u8 0, .int .u16 0], []⟩ 8 (by kernel_rfl) (by kernel_rfl) (by kernel_rfl) (by kernel_rfl)) ?_
  intro W base args ds gs before hval0 hW hcnd _
  have hval : ∀ (j : Nat) t v, Tryz.f6.params[j]? = some t → args[j]? = some v → Value.okWide Tryz.prog W .any base t v := hval0
  have hW' := hW
  obtain ⟨p, q, hA0, hV, rfl, hfz, hnd⟩ := hW
  have hA : DataW.TrodAll enc Tryz.prog W 0 (fun _ => true) true Tryz.f6.params.toList args.toList ds p := hA0
  have hlt : ∀ x ∈ p, x.block < W.heap.size := fun x hx => hW'.lt x (List.mem_append_left _ hx)
  have hAll : ∀ W', Below W.heap.size W W' → DataW.TrodAll enc Tryz.prog W' 0 (fun b => decide (b < W.heap.size)) true Tryz.f6.params.toList args.toList ds p := fun W' hb => all_below laidOut hb (readable_of (by kernel_rfl)) hlt hA
  rw [Tryz.params6] at hA hval
  obtain ⟨v0, v1, v2, d0, d1, d2, p0, p1, p2, rfl, rfl, rfl, h0, h1, h2⟩ := trodAll_three hA
  obtain ⟨rfl, rfl⟩ := trodVars_none hV
  clear hA0 hval0
  obtain ⟨I0, A0, n0, c0, rfl, wI0, hc0, hN0, l0, hl0, hr0⟩ := open_book (hval 0 24 v0 rfl rfl) h0
  obtain ⟨x1, rfl, rfl, rfl, wx1⟩ := open_int Tryz.underlying5 (hval 1 5 v1 rfl rfl) h1
  obtain ⟨x2, rfl, rfl, rfl, wx2⟩ := open_int Tryz.underlying47 (hval 2 47 v2 rfl rfl) h2
  obtain ⟨y1, rfl⟩ : ∃ y : Nat, x1 = y := ⟨x1.toNat, (Int.toNat_of_nonneg (u8_bd wx1).1).symm⟩
  obtain ⟨y2, rfl⟩ : ∃ y : Nat, x2 = y := ⟨x2.toNat, (Int.toNat_of_nonneg (u16_bd wx2).1).symm⟩
  refine (blameProved_walk W I0 A0 n0 c0 l0 y1 y2 hr0 (by have := u8_bd wx1; omega) (by have := u16_bd wx2; omega)).mono fun e W' ⟨he, hb⟩ => ?_
  subst he
  exact ⟨_, rfl, ⟨_, _, _, [], _, [], hW', trodAll_cons_mk (shut_bool Tryz.underlying4 _) trodAll_mk0, hAll W' hb, rfl, hb.frame _, fun h => by cases h⟩⟩
/-- The law: whatever the input, it returns true, and the input reads as it did. -/
theorem blameProved_holds : Rows.BlameProvedSaid :=
  OpenClaim.holds_of_wide 6 Tryz.f6 rfl rfl rfl rfl rfl rfl rfl ⟨rfl, rfl, rfl, rfl, rfl⟩ rfl rfl rfl rfl rfl (by kernel_rfl) Tryz.func6 (by kernel_rfl)
    (of_decide_eq_true (by kernel_rfl)) (by unfold Func.isWrapper; first | (rw [if_pos (by decide +kernel)]; kernel_rfl) | (rw [if_neg (by decide +kernel)]; exact ⟨rfl, rfl⟩))
    (fun os started H enc _ => blameProved_lifted os started H enc)
end
end Go.Proofs.YtnpilfpackdimaaGreat

