/- The statement BlameMore holds: whatever the arguments, the law returns true and leaves its arguments as they were. -/
import Derived.Test.YtnpilfpackdimaaGreatMm
import Derived.Test.YtnpilfpackdimaaGreatMl
set_option linter.unusedSimpArgs false
set_option linter.unusedVariables false
namespace Go.Proofs.YtnpilfpackdimaaGreat
open Go.RowKit Go.Shelf
attribute [local go_sem] Oper.semAt_some
set_option maxRecDepth 1000000 in
set_option maxHeartbeats 40000000 in
theorem blameMore_walk (w : World) (I : Int) (A : Option Addr) (n c : Nat) (ls : List (List Int)) (g b : Nat) (hl : LiS w w.heap.size A n ls) (hg256 : g < 256) (hb : b < 256) (hA : A = none → n = 0 ∧ c = 0) :
    Calls Tryz.prog 11 #[.agg #[.int .i64 I, .slice A n c], .int .u8 (g : Int), .int .u8 (b : Int)] w fun e w' => e = .returned (.bool true) ∧ Below w.heap.size w w' := by
  have la := hid hl.1
  cases hf : fineB I ls
  · have Hf := hid hf
    clear hf
    obtain ⟨W0, hWb⟩ : ∃ W0, (w).alloc (.cells #[.int .i64 I, .slice A n c] 24) = W0 := ⟨_, rfl⟩
    have hbel : Below w.heap.size w W0 := by rw [← hWb]; exact (by repeat' (first | with_reducible assumption | with_reducible exact Below.refl _ _ | refine Below.alloc ?_ ?_ _ | refine Below.setCell ?_ ?_ _ | refine Below.drew ?_ | refine below_drewN ?_ _ | (simp; done) | (simp; omega) | omega))
    have hsz := hbel.size
    have bB : Blk W0 (w.heap.size) 24 #[.int .i64 I, .slice A n c] := by rw [← hWb]; exact Blk.new' rfl
    have pB0 := bB.cell 0
    have pB1 := bB.cell 1
    have lB := bB.lt
    have HL := hid (hl.below hbel hsz)
    clear hl
    go_enter Tryz.func11, Tryz.ntmps11
    go_wp2_with (fail)
    refine (fine_any A n c ls I _ (HL.out.below (by repeat' (first | with_reducible assumption | with_reducible exact Below.refl _ _ | refine Below.alloc ?_ ?_ _ | refine Below.setCell ?_ ?_ _ | refine Below.drew ?_ | refine below_drewN ?_ _ | (simp; done) | (simp; omega) | omega)) (by first | (simp; done) | (simp; omega) | omega))).mono ?_
    rw [Hf.out]
    rintro e W1 ⟨rfl, hb⟩
    have hst : Below W0.heap.size W0 W1 := Below.trans (by repeat' (first | with_reducible assumption | with_reducible exact Below.refl _ _ | refine Below.alloc ?_ ?_ _ | refine Below.setCell ?_ ?_ _ | refine Below.drew ?_ | refine below_drewN ?_ _ | (simp; done) | (simp; omega) | omega)) (hb.mono (by first | (simp; done) | (simp; omega) | omega))
    replace hbel := hbel.trans (hst.mono hsz)
    replace hsz := hbel.size
    replace bB := bB.below hst bB.lt
    clear pB0 pB1 lB
    have pB0 := bB.cell 0
    have pB1 := bB.cell 1
    have lB := bB.lt
    replace HL := hid (HL.out.below hst hst.size)
    clear hb hst
    try clear hWb
    obtain ⟨W0, rfl⟩ : ∃ W0 : World, W0 = W1 := ⟨_, rfl⟩
    go_wp2_with (fail)
    refine (works_any _).mono ?_
    rintro e W1 ⟨rfl, hb⟩
    have hst : Below W0.heap.size W0 W1 := Below.trans (by repeat' (first | with_reducible assumption | with_reducible exact Below.refl _ _ | refine Below.alloc ?_ ?_ _ | refine Below.setCell ?_ ?_ _ | refine Below.drew ?_ | refine below_drewN ?_ _ | (simp; done) | (simp; omega) | omega)) (hb.mono (by first | (simp; done) | (simp; omega) | omega))
    replace hbel := hbel.trans (hst.mono hsz)
    replace hsz := hbel.size
    replace bB := bB.below hst bB.lt
    clear pB0 pB1 lB
    have pB0 := bB.cell 0
    have pB1 := bB.cell 1
    have lB := bB.lt
    replace HL := hid (HL.out.below hst hst.size)
    clear hb hst
    try clear hWb
    obtain ⟨W0, rfl⟩ : ∃ W0 : World, W0 = W1 := ⟨_, rfl⟩
    go_wp2
    go_ret
    exact ⟨rfl, hbel⟩
  · obtain ⟨hg, hchk⟩ := fineB_t.1 hf
    obtain ⟨J, rfl, -, hJ1, hJ8, hln, hv, hv8⟩ := book_nat hchk
    have Hf := hid hf
    have Hc := hid hchk
    have hn : n ≤ 10 := by rw [← la.out]; exact hln
    have K2 : Hid (∀ l ∈ ls, l.length ≤ 1000000) := hid (fun l h => by have := isL_len8 (hv8 l h) (by omega); omega)
    have Hv := hid hv
    have Hv8 := hid hv8
    have Hla := hid hln
    have HA := hid hA
    clear hA
    by_cases h10 : 10 ≤ n
    · have h10i : (10 : Int) ≤ n := by omega
      clear hf hg hchk hv hv8 hln
      obtain ⟨W0, hWb⟩ : ∃ W0, (w).alloc (.cells #[.int .i64 (J : Int), .slice A n c] 24) = W0 := ⟨_, rfl⟩
      have hbel : Below w.heap.size w W0 := by rw [← hWb]; exact (by repeat' (first | with_reducible assumption | with_reducible exact Below.refl _ _ | refine Below.alloc ?_ ?_ _ | refine Below.setCell ?_ ?_ _ | refine Below.drew ?_ | refine below_drewN ?_ _ | (simp; done) | (simp; omega) | omega))
      have hsz := hbel.size
      have bB : Blk W0 (w.heap.size) 24 #[.int .i64 (J : Int), .slice A n c] := by rw [← hWb]; exact Blk.new' rfl
      have pB0 := bB.cell 0
      have pB1 := bB.cell 1
      have lB := bB.lt
      have HL := hid (hl.below hbel hsz)
      clear hl
      go_enter Tryz.func11, Tryz.ntmps11
      go_wp2_with (fail)
      refine (fine_any A n c ls J _ (HL.out.below (by repeat' (first | with_reducible assumption | with_reducible exact Below.refl _ _ | refine Below.alloc ?_ ?_ _ | refine Below.setCell ?_ ?_ _ | refine Below.drew ?_ | refine below_drewN ?_ _ | (simp; done) | (simp; omega) | omega)) (by first | (simp; done) | (simp; omega) | omega))).mono ?_
      rw [Hf.out]
      rintro e W1 ⟨rfl, hb⟩
      have hst : Below W0.heap.size W0 W1 := Below.trans (by repeat' (first | with_reducible assumption | with_reducible exact Below.refl _ _ | refine Below.alloc ?_ ?_ _ | refine Below.setCell ?_ ?_ _ | refine Below.drew ?_ | refine below_drewN ?_ _ | (simp; done) | (simp; omega) | omega)) (hb.mono (by first | (simp; done) | (simp; omega) | omega))
      replace hbel := hbel.trans (hst.mono hsz)
      replace hsz := hbel.size
      replace bB := bB.below hst bB.lt
      clear pB0 pB1 lB
      have pB0 := bB.cell 0
      have pB1 := bB.cell 1
      have lB := bB.lt
      replace HL := hid (HL.out.below hst hst.size)
      clear hb hst
      try clear hWb
      obtain ⟨W0, rfl⟩ : ∃ W0 : World, W0 = W1 := ⟨_, rfl⟩
      go_wp2_with (fail)
      refine (works_any _).mono ?_
      rintro e W1 ⟨rfl, hb⟩
      have hst : Below W0.heap.size W0 W1 := Below.trans (by repeat' (first | with_reducible assumption | with_reducible exact Below.refl _ _ | refine Below.alloc ?_ ?_ _ | refine Below.setCell ?_ ?_ _ | refine Below.drew ?_ | refine below_drewN ?_ _ | (simp; done) | (simp; omega) | omega)) (hb.mono (by first | (simp; done) | (simp; omega) | omega))
      replace hbel := hbel.trans (hst.mono hsz)
      replace hsz := hbel.size
      replace bB := bB.below hst bB.lt
      clear pB0 pB1 lB
      have pB0 := bB.cell 0
      have pB1 := bB.cell 1
      have lB := bB.lt
      replace HL := hid (HL.out.below hst hst.size)
      clear hb hst
      try clear hWb
      obtain ⟨W0, rfl⟩ : ∃ W0 : World, W0 = W1 := ⟨_, rfl⟩
      go_wp2
      go_ret
      exact ⟨rfl, hbel⟩
    · have h10i : ¬ (10 : Int) ≤ n := by omega
      have hJ0 : (0 : Int) ≤ J := by omega
      obtain ⟨s, hs⟩ : ∃ s, listed b J = s := ⟨_, rfl⟩
      obtain ⟨q, hq⟩ : ∃ q, listed g J = q := ⟨_, rfl⟩
      have hsl : isL (J : Int) 0 s = true := by rw [← hs]; exact isL_listed' _ _
      have hql : isL (J : Int) 0 q = true := by rw [← hq]; exact isL_listed' _ _
      have hs8 : s.length ≤ 8 := by rw [← hs]; exact Nat.le_trans (listed_len _ _) hJ8
      have hq8 : q.length ≤ 8 := by rw [← hq]; exact Nat.le_trans (listed_len _ _) hJ8
      have Hs := hid hs
      have Hq := hid hq
      have hs80 : isL 8 0 s = true := isL_weak (by omega) hsl
      have Hs80 := hid hs80
      have hnl : ls.length < 10 := by rw [la.out]; omega
      obtain ⟨more, hmo⟩ : ∃ m : List Int, (if q = [] then [0] else q) = m := ⟨_, rfl⟩
      have hmne : more ≠ [] := by
        rw [← hmo]
        split
        · simp
        · assumption
      have hml : isL (J : Int) 0 more = true := by
        rw [← hmo]; split
        · simp [isL]; omega
        · exact hql
      have hm8 : more.length ≤ 8 := by have := isL_len8 hml (by omega); omega
      have hm80 : isL 8 0 more = true := isL_weak (by omega) hml
      have Hm80 := hid hm80
      obtain ⟨f1, f2, f3, f4, f5, f6, f7⟩ := more_facts (s := s) hchk hnl hml hmne hsl
      obtain ⟨X, hX⟩ : ∃ X, ls ++ [more] = X := ⟨_, rfl⟩
      have hX8 : ∀ l ∈ X, l.length ≤ 1000000 := fun l hl => by
        rw [← hX] at hl
        rcases List.mem_append.1 hl with h | h
        · exact K2.out l h
        · rw [List.mem_singleton.1 h]; omega
      have hXl : X.length ≤ 10 := by rw [← hX]; simp; omega
      rw [hX] at f1 f3 f4 f5 f6 f7
      have HX := hid hX
      have KX := hid hX8
      have HXl := hid hXl
      have hbl : Hid ((bestV J ls).length ≤ 1000000) := hid (by rw [bestV_eq]; have := rblV_len J ls; omega)
      have hbX : Hid ((bestV J X).length ≤ 1000000) := hid (by rw [bestV_eq]; have := rblV_len J X; omega)
      obtain ⟨N, hN⟩ : ∃ v, fwV J ls = v := ⟨_, rfl⟩
      obtain ⟨M, hM⟩ : ∃ v, fwV J X = v := ⟨_, rfl⟩
      obtain ⟨is, his⟩ : ∃ v, fwIs J ls = v := ⟨_, rfl⟩
      obtain ⟨e1, he1⟩ : ∃ v, blmE J ls s = v := ⟨_, rfl⟩
      obtain ⟨e2, he2⟩ : ∃ v, blmE J X s = v := ⟨_, rfl⟩
      obtain ⟨v1, hv1⟩ : ∃ v, blmV J ls s = v := ⟨_, rfl⟩
      obtain ⟨v2, hv2⟩ : ∃ v, blmV J X s = v := ⟨_, rfl⟩
      rw [his] at f4 f5
      rw [hN, hM] at f5
      rw [he1, he2] at f6 f7
      replace f4 := f4.symm
      have hNb : -1 ≤ N ∧ N ≤ 1000000 := by rw [← hN]; unfold fwV; have := hbl.out; split <;> omega
      obtain ⟨bs, hbs⟩ : ∃ v, bitsL s = v := ⟨_, rfl⟩
      obtain ⟨bm, hbm⟩ : ∃ v, bitsL more = v := ⟨_, rfl⟩
      have bs8 := bits8 hs80
      have bm8 := bits8 hm80
      rw [hbs] at bs8
      rw [hbm] at bm8
      rw [hbs, hbm] at f7
      have hand := bits_and_i64_nat bs bm (by omega) (by omega)
      obtain ⟨z, hz⟩ : ∃ v, bs &&& bm = v := ⟨_, rfl⟩
      rw [hz] at hand f7
      have HN := hid hN
      have HM := hid hM
      have His := hid his
      have He1 := hid he1
      have He2 := hid he2
      have Hv1 := hid hv1
      have Hv2 := hid hv2
      have Hbs := hid hbs
      have Hbm := hid hbm
      have Hmo := hid hmo
      have F2 := hid f2
      have F3 := hid f3
      have F4 := hid f4
      have F5 := hid f5
      have F6 := hid f6
      have F7 := hid f7
      clear f1 f2 f3 f4 f5 f6 f7 hs hq hsl hql hs80 hnl hmo hmne hml hm80 hX hX8 hXl hN hM his he1 he2 hv1 hv2 hbs hbm hz
      clear hf hg hchk hv hv8 hln
      obtain ⟨W0, hWb⟩ : ∃ W0, (w).alloc (.cells #[.int .i64 (J : Int), .slice A n c] 24) = W0 := ⟨_, rfl⟩
      have hbel : Below w.heap.size w W0 := by rw [← hWb]; exact (by repeat' (first | with_reducible assumption | with_reducible exact Below.refl _ _ | refine Below.alloc ?_ ?_ _ | refine Below.setCell ?_ ?_ _ | refine Below.drew ?_ | refine below_drewN ?_ _ | (simp; done) | (simp; omega) | omega))
      have hsz := hbel.size
      have bB : Blk W0 (w.heap.size) 24 #[.int .i64 (J : Int), .slice A n c] := by rw [← hWb]; exact Blk.new' rfl
      have pB0 := bB.cell 0
      have pB1 := bB.cell 1
      have lB := bB.lt
      have HL := hid (hl.below hbel hsz)
      clear hl
      go_enter Tryz.func11, Tryz.ntmps11
      go_wp2_with (fail)
      refine (fine_any A n c ls J _ (HL.out.below (by repeat' (first | with_reducible assumption | with_reducible exact Below.refl _ _ | refine Below.alloc ?_ ?_ _ | refine Below.setCell ?_ ?_ _ | refine Below.drew ?_ | refine below_drewN ?_ _ | (simp; done) | (simp; omega) | omega)) (by first | (simp; done) | (simp; omega) | omega))).mono ?_
      rw [Hf.out]
      rintro e W1 ⟨rfl, hb⟩
      have hst : Below W0.heap.size W0 W1 := Below.trans (by repeat' (first | with_reducible assumption | with_reducible exact Below.refl _ _ | refine Below.alloc ?_ ?_ _ | refine Below.setCell ?_ ?_ _ | refine Below.drew ?_ | refine below_drewN ?_ _ | (simp; done) | (simp; omega) | omega)) (hb.mono (by first | (simp; done) | (simp; omega) | omega))
      replace hbel := hbel.trans (hst.mono hsz)
      replace hsz := hbel.size
      replace bB := bB.below hst bB.lt
      clear pB0 pB1 lB
      have pB0 := bB.cell 0
      have pB1 := bB.cell 1
      have lB := bB.lt
      replace HL := hid (HL.out.below hst hst.size)
      clear hb hst
      try clear hWb
      obtain ⟨W0, rfl⟩ : ∃ W0 : World, W0 = W1 := ⟨_, rfl⟩
      go_wp2_with (fail)
      refine (set_any A n c J g _ (by omega) hg256).mono ?_
      rw [Hq.out]
      rintro e W1 ⟨vQ, rfl, ho, hb⟩
      obtain ⟨AQ, cQ, rfl, hs2, hcQ, hs4⟩ := own_slb ho
      have hs3 : InS W1 W1.heap.size AQ q.length q := hs2
      clear ho hs2 hs4
      have hst : Below W0.heap.size W0 W1 := Below.trans (by repeat' (first | with_reducible assumption | with_reducible exact Below.refl _ _ | refine Below.alloc ?_ ?_ _ | refine Below.setCell ?_ ?_ _ | refine Below.drew ?_ | refine below_drewN ?_ _ | (simp; done) | (simp; omega) | omega)) (hb.mono (by first | (simp; done) | (simp; omega) | omega))
      replace hbel := hbel.trans (hst.mono hsz)
      replace hsz := hbel.size
      replace bB := bB.below hst bB.lt
      clear pB0 pB1 lB
      have pB0 := bB.cell 0
      have pB1 := bB.cell 1
      have lB := bB.lt
      replace HL := hid (HL.out.below hst hst.size)
      have HQ := hid hs3
      clear hs3
      clear hb hst
      try clear hWb
      obtain ⟨W0, rfl⟩ : ∃ W0 : World, W0 = W1 := ⟨_, rfl⟩
      by_cases hqe : q = []
      · have hql0 : q.length = 0 := by rw [hqe]; rfl
        have hmoe : more = [0] := by rw [← Hmo.out, if_pos hqe]
        have tq : ((q.length : Int) == 0) = true := by simp [hql0]
        have Hmoe := hid hmoe
        clear hql0 hqe hmoe
        go_wp2_with (fail)
        refine (of_new W0 [0]).mono ?_
        rintro e W1 ⟨Ao, no, co, rfl, ho, hb⟩
        rw [← Hmoe.out] at ho
        replace hbel := hbel.trans (hb.mono hsz)
        replace hsz := hbel.size
        replace bB := bB.below hb bB.lt
        clear pB0 pB1 lB
        have pB0 := bB.cell 0
        have pB1 := bB.cell 1
        have lB := bB.lt
        replace HL := hid (HL.out.below hb hb.size)
        replace HQ := hid (HQ.out.below hb hb.size)
        have HO := hid ho
        clear ho
        clear hb
        try clear hWb
        obtain ⟨W0, rfl⟩ : ∃ W0 : World, W0 = W1 := ⟨_, rfl⟩
        go_wp2_with (fail)
        refine Sx.wp_region_freeD (fun W => Below W0.heap.size W0 W) (hSb W0) (BkF W0.heap.size A n c ls J Ao no co more (.pointer (some ⟨w.heap.size, 0, none⟩)) (.pointer (some ⟨w.heap.size, 1, none⟩))) (BkF.ext) (fun k => ([[], [0], [], [], [3], [2, 4], [], [6], [5, 7], [1, 8], [], [8, 9, 10]] : List (List Nat)).getD k []) supK (fun k => ([[], [], [], [], [], [2], [], [], [2, 5, 7], [], [], [2, 5, 7, 10]] : List (List Nat)).getD k []) (fun k => ([[], [], [], [], [], [2, 4], [], [], [5, 7], [8], [], [10, 9, 8, 5, 7, 2]] : List (List Nat)).getD k []) BkF.loc [0, 1, 2, 3, 4, 5, 6, 7, 8, 9, 10, 11] rfl ?X1 ?hX1 (by kernel_rfl) (by kernel_rfl) ((Below.refl _ _).drew) ?hC1 ?hQ1
        case hX1 =>
          intro e
          simp only [Sx.putF, Sx.dstAt, List.getElem?_toArray, List.getElem?_cons_succ, List.getElem?_cons_zero, Option.bind_some, Act.put, List.setIfInBounds_toArray, List.set_cons_zero, List.set_cons_succ]
          exact rfl
        case hC1 =>
          intro k o ho e W hs hd
          match k, ho, hd with
          | 0, ho, hd =>
            have ho := Option.some.inj ho
            subst ho
            refine ⟨rfl, ?_⟩
            refine Sx.lv_of fun K hK => ?_
            go_simp
            simp only [Sx.LV]
            exact hK _ _ ⟨hs, rfl, fun j _ _ _ e' h => BkF.ext j e' _ _ h (Below.refl _ _)⟩
          | 1, ho, hd =>
            have ho := Option.some.inj ho
            subst ho
            refine ⟨rfl, ?_⟩
            have e0 : e 0 = .pointer (some ⟨w.heap.size, 0, none⟩) := hd 0 (by decide)
            have f0 := (bB.below hs lB).cell 0
            have f1 := (bB.below hs lB).cell 1
            have f2 := (bB.below hs lB).lt
            refine Sx.lv_of fun K hK => ?_
            go_simp
            simp only [Sx.LV]
            exact hK _ _ ⟨hs, rfl, fun j _ _ _ e' h => BkF.ext j e' _ _ h (Below.refl _ _)⟩
          | 2, ho, hd =>
            have ho := Option.some.inj ho
            subst ho
            refine ⟨rfl, ?_⟩
            have hxa : Below W.heap.size W (W.alloc (.cells #[] 25)) := (Below.refl _ _).alloc (Nat.le_refl _) _
            refine Sx.lv_of fun K hK => ?_
            go_simp
            simp only [Sx.LV]
            exact hK _ _ ⟨hs.trans (hxa.mono hs.size), ⟨W.heap.size, rfl, Blk.new _ _ _, hs.size⟩, fun j _ _ _ e' h => BkF.ext j e' _ _ h hxa⟩
          | 3, ho, hd =>
            have ho := Option.some.inj ho
            subst ho
            refine ⟨rfl, ?_⟩
            refine Sx.lv_of fun K hK => ?_
            go_simp
            simp only [Sx.LV]
            exact hK _ _ ⟨hs, rfl, fun j _ _ _ e' h => BkF.ext j e' _ _ h (Below.refl _ _)⟩
          | 4, ho, hd =>
            have ho := Option.some.inj ho
            subst ho
            refine ⟨rfl, ?_⟩
            have e3 : e 3 = .pointer (some ⟨w.heap.size, 1, none⟩) := hd 3 (by decide)
            have f0 := (bB.below hs lB).cell 0
            have f1 := (bB.below hs lB).cell 1
            have f2 := (bB.below hs lB).lt
            refine Sx.lv_of fun K hK => ?_
            go_simp
            simp only [Sx.LV]
            exact hK _ _ ⟨hs, rfl, fun j _ _ _ e' h => BkF.ext j e' _ _ h (Below.refl _ _)⟩
          | 5, ho, hd =>
            have ho := Option.some.inj ho
            subst ho
            refine ⟨rfl, ?_⟩
            obtain ⟨h, e2, hh, hB⟩ : ∃ h, e 2 = .slice (some ⟨h, 0, none⟩) 0 0 ∧ Blk W h 25 #[] ∧ W0.heap.size ≤ h := hd 2 (by decide)
            have e4 : e 4 = .slice A n c := hd 4 (by decide)
            obtain ⟨i0, hi0, hi1, hi2, hi3⟩ := info_parts' infoL
            obtain ⟨vs, hvs, hcs⟩ := lis_cells HL.out
            refine lv_append_src W _ _ 22 rfl W0.heap.size 25 i0 _ 1 24 underLL hi0 hi1 hi2 hi3 rfl (by decide) _ 0 [] e2 ⟨rfl, .inr ⟨h, 0, #[], rfl, hB, hh, by omega, by unfold maxLen; omega, rfl, rfl⟩⟩ A n c vs e4 W.heap.size (hvs.below' hs hs.size) HA.out hcs.2.1 (by unfold maxLen; omega) (by omega) hs.size ?_
            intro v' W' ho hg hat
            have hs2 : Below W0.heap.size W0 W' := hs.grown hg hs.size (fun r hr => by cases hr; exact hB)
            refine ⟨hs2, ?_, BkF.app0 hh hg⟩
            show NewLw W' W0.heap.size (fun b => b < W0.heap.size) (Sx.upd e 5 v' 5) ls
            simp only [Sx.upd, if_true]
            rw [Nat.zero_add, List.nil_append] at ho
            exact newLw_of ho hcs.1 hcs.2.2 hs2
          | 6, ho, hd =>
            have ho := Option.some.inj ho
            subst ho
            refine ⟨rfl, ?_⟩
            refine Sx.lv_of fun K hK => ?_
            go_simp
            simp only [Sx.LV]
            exact hK _ _ ⟨hs, rfl, fun j _ _ _ e' h => BkF.ext j e' _ _ h (Below.refl _ _)⟩
          | 7, ho, hd =>
            have ho := Option.some.inj ho
            subst ho
            refine ⟨rfl, ?_⟩
            have e6 : e 6 = .slice Ao no co := hd 6 (by decide)
            have hxa : Below W.heap.size W (W.alloc (.cells #[.slice Ao no co] 25)) := (Below.refl _ _).alloc (Nat.le_refl _) _
            refine Sx.lv_of fun K hK => ?_
            go_simp
            simp only [Sx.LV]
            exact hK _ _ ⟨hs.trans (hxa.mono hs.size), ⟨W.heap.size, rfl, Blk.new _ _ _⟩, fun j _ _ _ e' h => BkF.ext j e' _ _ h hxa⟩
          | 8, ho, hd =>
            have ho := Option.some.inj ho
            subst ho
            refine ⟨rfl, ?_⟩
            have h5 : NewLw W W0.heap.size (fun b => b < W0.heap.size) (e 5) ls := hd 5 (by decide)
            obtain ⟨g7, e7, hg7⟩ : ∃ g, e 7 = .slice (some ⟨g, 0, none⟩) 1 1 ∧ Blk W g 25 #[.slice Ao no co] := hd 7 (by decide)
            refine lv_newLw _ _ rfl W0.heap.size _ (e 5) ls rfl h5 g7 Ao no co more e7 hg7 (HO.out.below hs hs.size) (fun hm b off e9 => ⟨fun e10 => by have h1 := (newLw_own h5 b e10).1; have h2 := ins_lt0 HO.out hm b off e9; omega, ins_lt0 HO.out hm b off e9⟩) (by have := la.out; omega) hs.size ?_
            intro v' W' hn hg
            exact ⟨hs.grown hg hs.size (fun r hr => (newLw_own h5 r hr).1), hn, BkF.app1 h5 hg⟩
          | 9, ho, hd =>
            have ho := Option.some.inj ho
            subst ho
            refine ⟨rfl, ?_⟩
            have e1 : e 1 = .int .i64 (J : Int) := hd 1 (by decide)
            have h8 : NewLw W W0.heap.size (fun b => b < W0.heap.size) (e 8) (ls ++ [more]) := hd 8 (by decide)
            obtain ⟨A8, c8, e8, -⟩ := lis_of_lw h8
            obtain ⟨m8, hm8⟩ : ∃ m, (ls ++ [more]).length = m := ⟨_, rfl⟩
            rw [hm8] at e8
            clear hm8
            refine Sx.lv_of fun K hK => ?_
            go_simp
            simp only [Sx.LV]
            exact hK _ _ ⟨hs, (by show _ = Value.agg #[_, e 8]; rw [e8]; rfl), fun j _ _ _ e' h => BkF.ext j e' _ _ h (Below.refl _ _)⟩
          | 10, ho, hd =>
            have ho := Option.some.inj ho
            subst ho
            refine ⟨rfl, ?_⟩
            have hxa : Below W.heap.size W (W.alloc (.cells #[.int .i64 0, .slice none 0 0] 24)) := (Below.refl _ _).alloc (Nat.le_refl _) _
            refine Sx.lv_of fun K hK => ?_
            go_simp
            simp only [Sx.LV]
            exact hK _ _ ⟨hs.trans (hxa.mono hs.size), ⟨W.heap.size, rfl, hs.size, Blk.new _ _ _⟩, fun j _ _ _ e' h => BkF.ext j e' _ _ h hxa⟩
          | 11, ho, hd =>
            have ho := Option.some.inj ho
            subst ho
            refine ⟨rfl, ?_⟩
            have e9 : e 9 = .agg #[.int .i64 (J : Int), e 8] := hd 9 (by decide)
            obtain ⟨T, e10, hBT, hT⟩ : ∃ T, e 10 = .pointer (some ⟨T, 0, none⟩) ∧ W0.heap.size ≤ T ∧ Blk W T 24 #[.int .i64 0, .slice none 0 0] := hd 10 (by decide)
            have h8 : NewLw W W0.heap.size (fun b => b < W0.heap.size) (e 8) (ls ++ [more]) := hd 8 (by decide)
            obtain ⟨A8, c8, e8, -⟩ := lis_of_lw h8
            obtain ⟨m8, hm8⟩ : ∃ m, (ls ++ [more]).length = m := ⟨_, rfl⟩
            rw [hm8] at e8
            clear hm8
            have f0 := hT.cell 0
            have f1 := hT.cell 1
            have f2 := hT.lt
            have f3 := hT.frozen 0
            have f4 := hT.frozen 1
            rw [e8] at e9
            refine Sx.lv_of fun K hK => ?_
            go_simp
            simp only [Sx.LV]
            refine hK _ _ ⟨(hs.setCell hBT _).setCell hBT _, ⟨T, e10, hBT, ?_⟩, BkF.put hT hBT⟩
            rw [show Sx.upd e 11 undef 8 = .slice A8 m8 c8 from e8]
            exact hT.set2
          | k + 12, ho, _ => cases ho
        intro e W1 hb hp
        have h8 : NewLw W1 W0.heap.size (fun b => b < W0.heap.size) (e 8) (ls ++ [more]) := hp 8 (by decide) (by decide)
        obtain ⟨T, e10, hBT, hT⟩ : ∃ T, e 10 = .pointer (some ⟨T, 0, none⟩) ∧ W0.heap.size ≤ T ∧ Blk W1 T 24 #[.int .i64 (J : Int), e 8] := hp 11 (by decide) (by decide)
        obtain ⟨A8, c8, e8, hX8⟩ := lis_of_lw h8
        rw [e8] at hT
        rw [HX.out] at hT hX8
        simp only [e10]
        clear hp h8 e8
        replace hbel := hbel.trans (hb.mono hsz)
        replace hsz := hbel.size
        replace bB := bB.below hb bB.lt
        clear pB0 pB1 lB
        have pB0 := bB.cell 0
        have pB1 := bB.cell 1
        have lB := bB.lt
        replace HL := hid (HL.out.below hb hb.size)
        replace HQ := hid (HQ.out.below hb hb.size)
        replace HO := hid (HO.out.below hb hb.size)
        have HX8 := hid hX8
        clear hX8
        clear hb
        try clear hWb
        obtain ⟨W0, rfl⟩ : ∃ W0 : World, W0 = W1 := ⟨_, rfl⟩
        have bX := hT
        have pX0 := bX.cell 0
        have pX1 := bX.cell 1
        have lX := bX.lt
        clear hT
        go_wp2_with (fail)
        refine (few_any A n c ls J _ (HL.out.below (by repeat' (first | with_reducible assumption | with_reducible exact Below.refl _ _ | refine Below.alloc ?_ ?_ _ | refine Below.setCell ?_ ?_ _ | refine Below.drew ?_ | refine below_drewN ?_ _ | (simp; done) | (simp; omega) | omega)) (by first | (simp; done) | (simp; omega) | omega)) (by omega) K2.out hbl.out).mono ?_
        rw [HN.out, His.out, F2.out]
        rintro e W1 ⟨rfl, hb⟩
        have hst : Below W0.heap.size W0 W1 := Below.trans (by repeat' (first | with_reducible assumption | with_reducible exact Below.refl _ _ | refine Below.alloc ?_ ?_ _ | refine Below.setCell ?_ ?_ _ | refine Below.drew ?_ | refine below_drewN ?_ _ | (simp; done) | (simp; omega) | omega)) (hb.mono (by first | (simp; done) | (simp; omega) | omega))
        replace hbel := hbel.trans (hst.mono hsz)
        replace hsz := hbel.size
        replace bB := bB.below hst bB.lt
        clear pB0 pB1 lB
        have pB0 := bB.cell 0
        have pB1 := bB.cell 1
        have lB := bB.lt
        replace bX := bX.below hst bX.lt
        clear pX0 pX1 lX
        have pX0 := bX.cell 0
        have pX1 := bX.cell 1
        have lX := bX.lt
        replace HL := hid (HL.out.below hst hst.size)
        replace HQ := hid (HQ.out.below hst hst.size)
        replace HO := hid (HO.out.below hst hst.size)
        replace HX8 := hid (HX8.out.below hst hst.size)
        clear hb hst
        try clear hWb
        obtain ⟨W0, rfl⟩ : ∃ W0 : World, W0 = W1 := ⟨_, rfl⟩
        go_wp2_with (fail)
        refine (few_any A8 X.length c8 X J _ (HX8.out.below (by repeat' (first | with_reducible assumption | with_reducible exact Below.refl _ _ | refine Below.alloc ?_ ?_ _ | refine Below.setCell ?_ ?_ _ | refine Below.drew ?_ | refine below_drewN ?_ _ | (simp; done) | (simp; omega) | omega)) (by first | (simp; done) | (simp; omega) | omega)) (by have := HXl.out; omega) KX.out hbX.out).mono ?_
        rw [HM.out, F4.out, F3.out]
        rintro e W1 ⟨rfl, hb⟩
        have hst : Below W0.heap.size W0 W1 := Below.trans (by repeat' (first | with_reducible assumption | with_reducible exact Below.refl _ _ | refine Below.alloc ?_ ?_ _ | refine Below.setCell ?_ ?_ _ | refine Below.drew ?_ | refine below_drewN ?_ _ | (simp; done) | (simp; omega) | omega)) (hb.mono (by first | (simp; done) | (simp; omega) | omega))
        replace hbel := hbel.trans (hst.mono hsz)
        replace hsz := hbel.size
        replace bB := bB.below hst bB.lt
        clear pB0 pB1 lB
        have pB0 := bB.cell 0
        have pB1 := bB.cell 1
        have lB := bB.lt
        replace bX := bX.below hst bX.lt
        clear pX0 pX1 lX
        have pX0 := bX.cell 0
        have pX1 := bX.cell 1
        have lX := bX.lt
        replace HL := hid (HL.out.below hst hst.size)
        replace HQ := hid (HQ.out.below hst hst.size)
        replace HO := hid (HO.out.below hst hst.size)
        replace HX8 := hid (HX8.out.below hst hst.size)
        clear hb hst
        try clear hWb
        obtain ⟨W0, rfl⟩ : ∃ W0 : World, W0 = W1 := ⟨_, rfl⟩
        go_wp2_with (fail)
        refine (set_any A n c J b _ (by omega) hb).mono ?_
        rw [Hs.out]
        rintro e W1 ⟨vS, rfl, ho, hb⟩
        obtain ⟨AS, cS, rfl, hs2, hcS, hs4⟩ := own_slb ho
        have hs3 : InS W1 W1.heap.size AS s.length s := hs2
        clear ho hs2 hs4
        have hst : Below W0.heap.size W0 W1 := Below.trans (by repeat' (first | with_reducible assumption | with_reducible exact Below.refl _ _ | refine Below.alloc ?_ ?_ _ | refine Below.setCell ?_ ?_ _ | refine Below.drew ?_ | refine below_drewN ?_ _ | (simp; done) | (simp; omega) | omega)) (hb.mono (by first | (simp; done) | (simp; omega) | omega))
        replace hbel := hbel.trans (hst.mono hsz)
        replace hsz := hbel.size
        replace bB := bB.below hst bB.lt
        clear pB0 pB1 lB
        have pB0 := bB.cell 0
        have pB1 := bB.cell 1
        have lB := bB.lt
        replace bX := bX.below hst bX.lt
        clear pX0 pX1 lX
        have pX0 := bX.cell 0
        have pX1 := bX.cell 1
        have lX := bX.lt
        replace HL := hid (HL.out.below hst hst.size)
        replace HQ := hid (HQ.out.below hst hst.size)
        replace HO := hid (HO.out.below hst hst.size)
        replace HX8 := hid (HX8.out.below hst hst.size)
        have HS := hid hs3
        clear hs3
        clear hb hst
        try clear hWb
        obtain ⟨W0, rfl⟩ : ∃ W0 : World, W0 = W1 := ⟨_, rfl⟩
        go_wp2_with (fail)
        refine (checkBlame_any A AS n c s.length cS ls s J _ (HL.out.below (by repeat' (first | with_reducible assumption | with_reducible exact Below.refl _ _ | refine Below.alloc ?_ ?_ _ | refine Below.setCell ?_ ?_ _ | refine Below.drew ?_ | refine below_drewN ?_ _ | (simp; done) | (simp; omega) | omega)) (by first | (simp; done) | (simp; omega) | omega)) (HS.out.below (by repeat' (first | with_reducible assumption | with_reducible exact Below.refl _ _ | refine Below.alloc ?_ ?_ _ | refine Below.setCell ?_ ?_ _ | refine Below.drew ?_ | refine below_drewN ?_ _ | (simp; done) | (simp; omega) | omega)) (by first | (simp; done) | (simp; omega) | omega)) (by omega) K2.out (by omega)).mono ?_
        rw [He1.out, Hv1.out]
        rintro e W1 ⟨rfl, hb⟩
        have hst : Below W0.heap.size W0 W1 := Below.trans (by repeat' (first | with_reducible assumption | with_reducible exact Below.refl _ _ | refine Below.alloc ?_ ?_ _ | refine Below.setCell ?_ ?_ _ | refine Below.drew ?_ | refine below_drewN ?_ _ | (simp; done) | (simp; omega) | omega)) (hb.mono (by first | (simp; done) | (simp; omega) | omega))
        replace hbel := hbel.trans (hst.mono hsz)
        replace hsz := hbel.size
        replace bB := bB.below hst bB.lt
        clear pB0 pB1 lB
        have pB0 := bB.cell 0
        have pB1 := bB.cell 1
        have lB := bB.lt
        replace bX := bX.below hst bX.lt
        clear pX0 pX1 lX
        have pX0 := bX.cell 0
        have pX1 := bX.cell 1
        have lX := bX.lt
        replace HL := hid (HL.out.below hst hst.size)
        replace HQ := hid (HQ.out.below hst hst.size)
        replace HO := hid (HO.out.below hst hst.size)
        replace HX8 := hid (HX8.out.below hst hst.size)
        replace HS := hid (HS.out.below hst hst.size)
        clear hb hst
        try clear hWb
        obtain ⟨W0, rfl⟩ : ∃ W0 : World, W0 = W1 := ⟨_, rfl⟩
        go_wp2_with (fail)
        refine (checkBlame_any A8 AS X.length c8 s.length cS X s J _ (HX8.out.below (by repeat' (first | with_reducible assumption | with_reducible exact Below.refl _ _ | refine Below.alloc ?_ ?_ _ | refine Below.setCell ?_ ?_ _ | refine Below.drew ?_ | refine below_drewN ?_ _ | (simp; done) | (simp; omega) | omega)) (by first | (simp; done) | (simp; omega) | omega)) (HS.out.below (by repeat' (first | with_reducible assumption | with_reducible exact Below.refl _ _ | refine Below.alloc ?_ ?_ _ | refine Below.setCell ?_ ?_ _ | refine Below.drew ?_ | refine below_drewN ?_ _ | (simp; done) | (simp; omega) | omega)) (by first | (simp; done) | (simp; omega) | omega)) (by have := HXl.out; omega) KX.out (by omega)).mono ?_
        rw [He2.out, Hv2.out]
        rintro e W1 ⟨rfl, hb⟩
        have hst : Below W0.heap.size W0 W1 := Below.trans (by repeat' (first | with_reducible assumption | with_reducible exact Below.refl _ _ | refine Below.alloc ?_ ?_ _ | refine Below.setCell ?_ ?_ _ | refine Below.drew ?_ | refine below_drewN ?_ _ | (simp; done) | (simp; omega) | omega)) (hb.mono (by first | (simp; done) | (simp; omega) | omega))
        replace hbel := hbel.trans (hst.mono hsz)
        replace hsz := hbel.size
        replace bB := bB.below hst bB.lt
        clear pB0 pB1 lB
        have pB0 := bB.cell 0
        have pB1 := bB.cell 1
        have lB := bB.lt
        replace bX := bX.below hst bX.lt
        clear pX0 pX1 lX
        have pX0 := bX.cell 0
        have pX1 := bX.cell 1
        have lX := bX.lt
        replace HL := hid (HL.out.below hst hst.size)
        replace HQ := hid (HQ.out.below hst hst.size)
        replace HO := hid (HO.out.below hst hst.size)
        replace HX8 := hid (HX8.out.below hst hst.size)
        replace HS := hid (HS.out.below hst hst.size)
        clear hb hst
        try clear hWb
        obtain ⟨W0, rfl⟩ : ∃ W0 : World, W0 = W1 := ⟨_, rfl⟩
        replace F5 := F5.out
        replace F6 := F6.out
        replace F7 := F7.out
        have HBS := hid (fun W h => rbits_any AS s.length cS s W h (by omega) (fun z hz => by have := isL_bd Hs80.out z hz; omega))
        have HBM := hid (fun W h => rbits_any Ao no co more W h (by have := h.len; omega) (fun z hz => by have := isL_bd Hm80.out z hz; omega))
        rw [Hbs.out] at HBS
        rw [Hbm.out] at HBM
        cases is
        · clear F5
          by_cases z1 : e1 = 0
          · have t1 : (e1 == 0) = true := by simp [z1]
            rw [t1] at F7
            by_cases z2 : e2 = 0
            · have t2 : (e2 == 0) = true := by simp [z2]
              have t2n : (e2 != 0) = false := by simp [z2]
              clear F6 F7 z1 z2
              go_wp2_with (fail)
              refine (works_any _).mono ?_
              rintro e W1 ⟨rfl, hb⟩
              have hst : Below W0.heap.size W0 W1 := Below.trans (by repeat' (first | with_reducible assumption | with_reducible exact Below.refl _ _ | refine Below.alloc ?_ ?_ _ | refine Below.setCell ?_ ?_ _ | refine Below.drew ?_ | refine below_drewN ?_ _ | (simp; done) | (simp; omega) | omega)) (hb.mono (by first | (simp; done) | (simp; omega) | omega))
              replace hbel := hbel.trans (hst.mono hsz)
              replace hsz := hbel.size
              replace bB := bB.below hst bB.lt
              clear pB0 pB1 lB
              have pB0 := bB.cell 0
              have pB1 := bB.cell 1
              have lB := bB.lt
              replace bX := bX.below hst bX.lt
              clear pX0 pX1 lX
              have pX0 := bX.cell 0
              have pX1 := bX.cell 1
              have lX := bX.lt
              replace HL := hid (HL.out.below hst hst.size)
              replace HQ := hid (HQ.out.below hst hst.size)
              replace HO := hid (HO.out.below hst hst.size)
              replace HX8 := hid (HX8.out.below hst hst.size)
              replace HS := hid (HS.out.below hst hst.size)
              clear hb hst
              try clear hWb
              obtain ⟨W0, rfl⟩ : ∃ W0 : World, W0 = W1 := ⟨_, rfl⟩
              go_wp2
              go_ret
              exact ⟨rfl, hbel⟩
            · have t2 : (e2 == 0) = false := by simp [z2]
              have t2n : (e2 != 0) = true := by simp [z2]
              rw [t2] at F7
              have tz : ((z : Int) == 0) = true := by
                have h : (z == 0) = true := by simpa using F7.symm
                rw [beq_iff_eq] at h ⊢; omega
              clear F6 F7 z1 z2
              go_wp2_with (fail)
              refine (toB (HBS.out _ (HS.out.below (by repeat' (first | with_reducible assumption | with_reducible exact Below.refl _ _ | refine Below.alloc ?_ ?_ _ | refine Below.setCell ?_ ?_ _ | refine Below.drew ?_ | refine below_drewN ?_ _ | (simp; done) | (simp; omega) | omega)) (by first | (simp; done) | (simp; omega) | omega)))).mono ?_
              rintro e W1 ⟨rfl, hb⟩
              have hst : Below W0.heap.size W0 W1 := Below.trans (by repeat' (first | with_reducible assumption | with_reducible exact Below.refl _ _ | refine Below.alloc ?_ ?_ _ | refine Below.setCell ?_ ?_ _ | refine Below.drew ?_ | refine below_drewN ?_ _ | (simp; done) | (simp; omega) | omega)) (hb.mono (by first | (simp; done) | (simp; omega) | omega))
              replace hbel := hbel.trans (hst.mono hsz)
              replace hsz := hbel.size
              replace bB := bB.below hst bB.lt
              clear pB0 pB1 lB
              have pB0 := bB.cell 0
              have pB1 := bB.cell 1
              have lB := bB.lt
              replace bX := bX.below hst bX.lt
              clear pX0 pX1 lX
              have pX0 := bX.cell 0
              have pX1 := bX.cell 1
              have lX := bX.lt
              replace HL := hid (HL.out.below hst hst.size)
              replace HQ := hid (HQ.out.below hst hst.size)
              replace HO := hid (HO.out.below hst hst.size)
              replace HX8 := hid (HX8.out.below hst hst.size)
              replace HS := hid (HS.out.below hst hst.size)
              clear hb hst
              try clear hWb
              obtain ⟨W0, rfl⟩ : ∃ W0 : World, W0 = W1 := ⟨_, rfl⟩
              go_wp2_with (fail)
              refine (toB (HBM.out _ (HO.out.below (by repeat' (first | with_reducible assumption | with_reducible exact Below.refl _ _ | refine Below.alloc ?_ ?_ _ | refine Below.setCell ?_ ?_ _ | refine Below.drew ?_ | refine below_drewN ?_ _ | (simp; done) | (simp; omega) | omega)) (by first | (simp; done) | (simp; omega) | omega)))).mono ?_
              rintro e W1 ⟨rfl, hb⟩
              have hst : Below W0.heap.size W0 W1 := Below.trans (by repeat' (first | with_reducible assumption | with_reducible exact Below.refl _ _ | refine Below.alloc ?_ ?_ _ | refine Below.setCell ?_ ?_ _ | refine Below.drew ?_ | refine below_drewN ?_ _ | (simp; done) | (simp; omega) | omega)) (hb.mono (by first | (simp; done) | (simp; omega) | omega))
              replace hbel := hbel.trans (hst.mono hsz)
              replace hsz := hbel.size
              replace bB := bB.below hst bB.lt
              clear pB0 pB1 lB
              have pB0 := bB.cell 0
              have pB1 := bB.cell 1
              have lB := bB.lt
              replace bX := bX.below hst bX.lt
              clear pX0 pX1 lX
              have pX0 := bX.cell 0
              have pX1 := bX.cell 1
              have lX := bX.lt
              replace HL := hid (HL.out.below hst hst.size)
              replace HQ := hid (HQ.out.below hst hst.size)
              replace HO := hid (HO.out.below hst hst.size)
              replace HX8 := hid (HX8.out.below hst hst.size)
              replace HS := hid (HS.out.below hst hst.size)
              clear hb hst
              try clear hWb
              obtain ⟨W0, rfl⟩ : ∃ W0 : World, W0 = W1 := ⟨_, rfl⟩
              go_wp2_with (fail)
              refine (works_any _).mono ?_
              rintro e W1 ⟨rfl, hb⟩
              have hst : Below W0.heap.size W0 W1 := Below.trans (by repeat' (first | with_reducible assumption | with_reducible exact Below.refl _ _ | refine Below.alloc ?_ ?_ _ | refine Below.setCell ?_ ?_ _ | refine Below.drew ?_ | refine below_drewN ?_ _ | (simp; done) | (simp; omega) | omega)) (hb.mono (by first | (simp; done) | (simp; omega) | omega))
              replace hbel := hbel.trans (hst.mono hsz)
              replace hsz := hbel.size
              replace bB := bB.below hst bB.lt
              clear pB0 pB1 lB
              have pB0 := bB.cell 0
              have pB1 := bB.cell 1
              have lB := bB.lt
              replace bX := bX.below hst bX.lt
              clear pX0 pX1 lX
              have pX0 := bX.cell 0
              have pX1 := bX.cell 1
              have lX := bX.lt
              replace HL := hid (HL.out.below hst hst.size)
              replace HQ := hid (HQ.out.below hst hst.size)
              replace HO := hid (HO.out.below hst hst.size)
              replace HX8 := hid (HX8.out.below hst hst.size)
              replace HS := hid (HS.out.below hst hst.size)
              clear hb hst
              try clear hWb
              obtain ⟨W0, rfl⟩ : ∃ W0 : World, W0 = W1 := ⟨_, rfl⟩
              go_wp2
              go_ret
              exact ⟨rfl, hbel⟩
          · have t1 : (e1 == 0) = false := by simp [z1]
            have t2 : (e2 == 0) = false := by simp only [beq_eq_false_iff_ne]; exact fun h => z1 (F6 h)
            have t2n : (e2 != 0) = true := by simp only [bne_iff_ne]; exact fun h => z1 (F6 h)
            clear F6 F7 z1
            go_wp2_with (fail)
            refine (works_any _).mono ?_
            rintro e W1 ⟨rfl, hb⟩
            have hst : Below W0.heap.size W0 W1 := Below.trans (by repeat' (first | with_reducible assumption | with_reducible exact Below.refl _ _ | refine Below.alloc ?_ ?_ _ | refine Below.setCell ?_ ?_ _ | refine Below.drew ?_ | refine below_drewN ?_ _ | (simp; done) | (simp; omega) | omega)) (hb.mono (by first | (simp; done) | (simp; omega) | omega))
            replace hbel := hbel.trans (hst.mono hsz)
            replace hsz := hbel.size
            replace bB := bB.below hst bB.lt
            clear pB0 pB1 lB
            have pB0 := bB.cell 0
            have pB1 := bB.cell 1
            have lB := bB.lt
            replace bX := bX.below hst bX.lt
            clear pX0 pX1 lX
            have pX0 := bX.cell 0
            have pX1 := bX.cell 1
            have lX := bX.lt
            replace HL := hid (HL.out.below hst hst.size)
            replace HQ := hid (HQ.out.below hst hst.size)
            replace HO := hid (HO.out.below hst hst.size)
            replace HX8 := hid (HX8.out.below hst hst.size)
            replace HS := hid (HS.out.below hst hst.size)
            clear hb hst
            try clear hWb
            obtain ⟨W0, rfl⟩ : ∃ W0 : World, W0 = W1 := ⟨_, rfl⟩
            go_wp2
            go_ret
            exact ⟨rfl, hbel⟩
        · obtain ⟨g1, g2⟩ := F5 rfl
          have zN : IntKind.i64.wrap (N + 1) = N + 1 := IntWalk.i64_in _ (by omega)
          clear F5
          by_cases z1 : e1 = 0
          · have t1 : (e1 == 0) = true := by simp [z1]
            rw [t1] at F7
            by_cases z2 : e2 = 0
            · have t2 : (e2 == 0) = true := by simp [z2]
              have t2n : (e2 != 0) = false := by simp [z2]
              clear F6 F7 z1 z2
              go_wp2_with (fail)
              refine (works_any _).mono ?_
              rintro e W1 ⟨rfl, hb⟩
              have hst : Below W0.heap.size W0 W1 := Below.trans (by repeat' (first | with_reducible assumption | with_reducible exact Below.refl _ _ | refine Below.alloc ?_ ?_ _ | refine Below.setCell ?_ ?_ _ | refine Below.drew ?_ | refine below_drewN ?_ _ | (simp; done) | (simp; omega) | omega)) (hb.mono (by first | (simp; done) | (simp; omega) | omega))
              replace hbel := hbel.trans (hst.mono hsz)
              replace hsz := hbel.size
              replace bB := bB.below hst bB.lt
              clear pB0 pB1 lB
              have pB0 := bB.cell 0
              have pB1 := bB.cell 1
              have lB := bB.lt
              replace bX := bX.below hst bX.lt
              clear pX0 pX1 lX
              have pX0 := bX.cell 0
              have pX1 := bX.cell 1
              have lX := bX.lt
              replace HL := hid (HL.out.below hst hst.size)
              replace HQ := hid (HQ.out.below hst hst.size)
              replace HO := hid (HO.out.below hst hst.size)
              replace HX8 := hid (HX8.out.below hst hst.size)
              replace HS := hid (HS.out.below hst hst.size)
              clear hb hst
              try clear hWb
              obtain ⟨W0, rfl⟩ : ∃ W0 : World, W0 = W1 := ⟨_, rfl⟩
              go_wp2
              go_ret
              exact ⟨rfl, hbel⟩
            · have t2 : (e2 == 0) = false := by simp [z2]
              have t2n : (e2 != 0) = true := by simp [z2]
              rw [t2] at F7
              have tz : ((z : Int) == 0) = true := by
                have h : (z == 0) = true := by simpa using F7.symm
                rw [beq_iff_eq] at h ⊢; omega
              clear F6 F7 z1 z2
              go_wp2_with (fail)
              refine (toB (HBS.out _ (HS.out.below (by repeat' (first | with_reducible assumption | with_reducible exact Below.refl _ _ | refine Below.alloc ?_ ?_ _ | refine Below.setCell ?_ ?_ _ | refine Below.drew ?_ | refine below_drewN ?_ _ | (simp; done) | (simp; omega) | omega)) (by first | (simp; done) | (simp; omega) | omega)))).mono ?_
              rintro e W1 ⟨rfl, hb⟩
              have hst : Below W0.heap.size W0 W1 := Below.trans (by repeat' (first | with_reducible assumption | with_reducible exact Below.refl _ _ | refine Below.alloc ?_ ?_ _ | refine Below.setCell ?_ ?_ _ | refine Below.drew ?_ | refine below_drewN ?_ _ | (simp; done) | (simp; omega) | omega)) (hb.mono (by first | (simp; done) | (simp; omega) | omega))
              replace hbel := hbel.trans (hst.mono hsz)
              replace hsz := hbel.size
              replace bB := bB.below hst bB.lt
              clear pB0 pB1 lB
              have pB0 := bB.cell 0
              have pB1 := bB.cell 1
              have lB := bB.lt
              replace bX := bX.below hst bX.lt
              clear pX0 pX1 lX
              have pX0 := bX.cell 0
              have pX1 := bX.cell 1
              have lX := bX.lt
              replace HL := hid (HL.out.below hst hst.size)
              replace HQ := hid (HQ.out.below hst hst.size)
              replace HO := hid (HO.out.below hst hst.size)
              replace HX8 := hid (HX8.out.below hst hst.size)
              replace HS := hid (HS.out.below hst hst.size)
              clear hb hst
              try clear hWb
              obtain ⟨W0, rfl⟩ : ∃ W0 : World, W0 = W1 := ⟨_, rfl⟩
              go_wp2_with (fail)
              refine (toB (HBM.out _ (HO.out.below (by repeat' (first | with_reducible assumption | with_reducible exact Below.refl _ _ | refine Below.alloc ?_ ?_ _ | refine Below.setCell ?_ ?_ _ | refine Below.drew ?_ | refine below_drewN ?_ _ | (simp; done) | (simp; omega) | omega)) (by first | (simp; done) | (simp; omega) | omega)))).mono ?_
              rintro e W1 ⟨rfl, hb⟩
              have hst : Below W0.heap.size W0 W1 := Below.trans (by repeat' (first | with_reducible assumption | with_reducible exact Below.refl _ _ | refine Below.alloc ?_ ?_ _ | refine Below.setCell ?_ ?_ _ | refine Below.drew ?_ | refine below_drewN ?_ _ | (simp; done) | (simp; omega) | omega)) (hb.mono (by first | (simp; done) | (simp; omega) | omega))
              replace hbel := hbel.trans (hst.mono hsz)
              replace hsz := hbel.size
              replace bB := bB.below hst bB.lt
              clear pB0 pB1 lB
              have pB0 := bB.cell 0
              have pB1 := bB.cell 1
              have lB := bB.lt
              replace bX := bX.below hst bX.lt
              clear pX0 pX1 lX
              have pX0 := bX.cell 0
              have pX1 := bX.cell 1
              have lX := bX.lt
              replace HL := hid (HL.out.below hst hst.size)
              replace HQ := hid (HQ.out.below hst hst.size)
              replace HO := hid (HO.out.below hst hst.size)
              replace HX8 := hid (HX8.out.below hst hst.size)
              replace HS := hid (HS.out.below hst hst.size)
              clear hb hst
              try clear hWb
              obtain ⟨W0, rfl⟩ : ∃ W0 : World, W0 = W1 := ⟨_, rfl⟩
              go_wp2_with (fail)
              refine (works_any _).mono ?_
              rintro e W1 ⟨rfl, hb⟩
              have hst : Below W0.heap.size W0 W1 := Below.trans (by repeat' (first | with_reducible assumption | with_reducible exact Below.refl _ _ | refine Below.alloc ?_ ?_ _ | refine Below.setCell ?_ ?_ _ | refine Below.drew ?_ | refine below_drewN ?_ _ | (simp; done) | (simp; omega) | omega)) (hb.mono (by first | (simp; done) | (simp; omega) | omega))
              replace hbel := hbel.trans (hst.mono hsz)
              replace hsz := hbel.size
              replace bB := bB.below hst bB.lt
              clear pB0 pB1 lB
              have pB0 := bB.cell 0
              have pB1 := bB.cell 1
              have lB := bB.lt
              replace bX := bX.below hst bX.lt
              clear pX0 pX1 lX
              have pX0 := bX.cell 0
              have pX1 := bX.cell 1
              have lX := bX.lt
              replace HL := hid (HL.out.below hst hst.size)
              replace HQ := hid (HQ.out.below hst hst.size)
              replace HO := hid (HO.out.below hst hst.size)
              replace HX8 := hid (HX8.out.below hst hst.size)
              replace HS := hid (HS.out.below hst hst.size)
              clear hb hst
              try clear hWb
              obtain ⟨W0, rfl⟩ : ∃ W0 : World, W0 = W1 := ⟨_, rfl⟩
              go_wp2
              go_ret
              exact ⟨rfl, hbel⟩
          · have t1 : (e1 == 0) = false := by simp [z1]
            have t2 : (e2 == 0) = false := by simp only [beq_eq_false_iff_ne]; exact fun h => z1 (F6 h)
            have t2n : (e2 != 0) = true := by simp only [bne_iff_ne]; exact fun h => z1 (F6 h)
            clear F6 F7 z1
            go_wp2_with (fail)
            refine (works_any _).mono ?_
            rintro e W1 ⟨rfl, hb⟩
            have hst : Below W0.heap.size W0 W1 := Below.trans (by repeat' (first | with_reducible assumption | with_reducible exact Below.refl _ _ | refine Below.alloc ?_ ?_ _ | refine Below.setCell ?_ ?_ _ | refine Below.drew ?_ | refine below_drewN ?_ _ | (simp; done) | (simp; omega) | omega)) (hb.mono (by first | (simp; done) | (simp; omega) | omega))
            replace hbel := hbel.trans (hst.mono hsz)
            replace hsz := hbel.size
            replace bB := bB.below hst bB.lt
            clear pB0 pB1 lB
            have pB0 := bB.cell 0
            have pB1 := bB.cell 1
            have lB := bB.lt
            replace bX := bX.below hst bX.lt
            clear pX0 pX1 lX
            have pX0 := bX.cell 0
            have pX1 := bX.cell 1
            have lX := bX.lt
            replace HL := hid (HL.out.below hst hst.size)
            replace HQ := hid (HQ.out.below hst hst.size)
            replace HO := hid (HO.out.below hst hst.size)
            replace HX8 := hid (HX8.out.below hst hst.size)
            replace HS := hid (HS.out.below hst hst.size)
            clear hb hst
            try clear hWb
            obtain ⟨W0, rfl⟩ : ∃ W0 : World, W0 = W1 := ⟨_, rfl⟩
            go_wp2
            go_ret
            exact ⟨rfl, hbel⟩
      · have hmoe : q = more := by rw [← Hmo.out, if_neg hqe]
        have tq : ((q.length : Int) == 0) = false := by rw [beq_eq_false_iff_ne]; have := List.length_pos_iff.2 hqe; omega
        subst hmoe
        clear hqe
        go_wp2_with (fail)
        refine Sx.wp_region_freeD (fun W => Below W0.heap.size W0 W) (hSb W0) (BkF W0.heap.size A n c ls J AQ q.length cQ q (.pointer (some ⟨w.heap.size, 0, none⟩)) (.pointer (some ⟨w.heap.size, 1, none⟩))) (BkF.ext) (fun k => ([[], [0], [], [], [3], [2, 4], [], [6], [5, 7], [1, 8], [], [8, 9, 10]] : List (List Nat)).getD k []) supK (fun k => ([[], [], [], [], [], [2], [], [], [2, 5, 7], [], [], [2, 5, 7, 10]] : List (List Nat)).getD k []) (fun k => ([[], [], [], [], [], [2, 4], [], [], [5, 7], [8], [], [10, 9, 8, 5, 7, 2]] : List (List Nat)).getD k []) BkF.loc [0, 1, 2, 3, 4, 5, 6, 7, 8, 9, 10, 11] rfl ?X2 ?hX2 (by kernel_rfl) (by kernel_rfl) ((Below.refl _ _).drew) ?hC2 ?hQ2
        case hX2 =>
          intro e
          simp only [Sx.putF, Sx.dstAt, List.getElem?_toArray, List.getElem?_cons_succ, List.getElem?_cons_zero, Option.bind_some, Act.put, List.setIfInBounds_toArray, List.set_cons_zero, List.set_cons_succ]
          exact rfl
        case hC2 =>
          intro k o ho e W hs hd
          match k, ho, hd with
          | 0, ho, hd =>
            have ho := Option.some.inj ho
            subst ho
            refine ⟨rfl, ?_⟩
            refine Sx.lv_of fun K hK => ?_
            go_simp
            simp only [Sx.LV]
            exact hK _ _ ⟨hs, rfl, fun j _ _ _ e' h => BkF.ext j e' _ _ h (Below.refl _ _)⟩
          | 1, ho, hd =>
            have ho := Option.some.inj ho
            subst ho
            refine ⟨rfl, ?_⟩
            have e0 : e 0 = .pointer (some ⟨w.heap.size, 0, none⟩) := hd 0 (by decide)
            have f0 := (bB.below hs lB).cell 0
            have f1 := (bB.below hs lB).cell 1
            have f2 := (bB.below hs lB).lt
            refine Sx.lv_of fun K hK => ?_
            go_simp
            simp only [Sx.LV]
            exact hK _ _ ⟨hs, rfl, fun j _ _ _ e' h => BkF.ext j e' _ _ h (Below.refl _ _)⟩
          | 2, ho, hd =>
            have ho := Option.some.inj ho
            subst ho
            refine ⟨rfl, ?_⟩
            have hxa : Below W.heap.size W (W.alloc (.cells #[] 25)) := (Below.refl _ _).alloc (Nat.le_refl _) _
            refine Sx.lv_of fun K hK => ?_
            go_simp
            simp only [Sx.LV]
            exact hK _ _ ⟨hs.trans (hxa.mono hs.size), ⟨W.heap.size, rfl, Blk.new _ _ _, hs.size⟩, fun j _ _ _ e' h => BkF.ext j e' _ _ h hxa⟩
          | 3, ho, hd =>
            have ho := Option.some.inj ho
            subst ho
            refine ⟨rfl, ?_⟩
            refine Sx.lv_of fun K hK => ?_
            go_simp
            simp only [Sx.LV]
            exact hK _ _ ⟨hs, rfl, fun j _ _ _ e' h => BkF.ext j e' _ _ h (Below.refl _ _)⟩
          | 4, ho, hd =>
            have ho := Option.some.inj ho
            subst ho
            refine ⟨rfl, ?_⟩
            have e3 : e 3 = .pointer (some ⟨w.heap.size, 1, none⟩) := hd 3 (by decide)
            have f0 := (bB.below hs lB).cell 0
            have f1 := (bB.below hs lB).cell 1
            have f2 := (bB.below hs lB).lt
            refine Sx.lv_of fun K hK => ?_
            go_simp
            simp only [Sx.LV]
            exact hK _ _ ⟨hs, rfl, fun j _ _ _ e' h => BkF.ext j e' _ _ h (Below.refl _ _)⟩
          | 5, ho, hd =>
            have ho := Option.some.inj ho
            subst ho
            refine ⟨rfl, ?_⟩
            obtain ⟨h, e2, hh, hB⟩ : ∃ h, e 2 = .slice (some ⟨h, 0, none⟩) 0 0 ∧ Blk W h 25 #[] ∧ W0.heap.size ≤ h := hd 2 (by decide)
            have e4 : e 4 = .slice A n c := hd 4 (by decide)
            obtain ⟨i0, hi0, hi1, hi2, hi3⟩ := info_parts' infoL
            obtain ⟨vs, hvs, hcs⟩ := lis_cells HL.out
            refine lv_append_src W _ _ 22 rfl W0.heap.size 25 i0 _ 1 24 underLL hi0 hi1 hi2 hi3 rfl (by decide) _ 0 [] e2 ⟨rfl, .inr ⟨h, 0, #[], rfl, hB, hh, by omega, by unfold maxLen; omega, rfl, rfl⟩⟩ A n c vs e4 W.heap.size (hvs.below' hs hs.size) HA.out hcs.2.1 (by unfold maxLen; omega) (by omega) hs.size ?_
            intro v' W' ho hg hat
            have hs2 : Below W0.heap.size W0 W' := hs.grown hg hs.size (fun r hr => by cases hr; exact hB)
            refine ⟨hs2, ?_, BkF.app0 hh hg⟩
            show NewLw W' W0.heap.size (fun b => b < W0.heap.size) (Sx.upd e 5 v' 5) ls
            simp only [Sx.upd, if_true]
            rw [Nat.zero_add, List.nil_append] at ho
            exact newLw_of ho hcs.1 hcs.2.2 hs2
          | 6, ho, hd =>
            have ho := Option.some.inj ho
            subst ho
            refine ⟨rfl, ?_⟩
            refine Sx.lv_of fun K hK => ?_
            go_simp
            simp only [Sx.LV]
            exact hK _ _ ⟨hs, rfl, fun j _ _ _ e' h => BkF.ext j e' _ _ h (Below.refl _ _)⟩
          | 7, ho, hd =>
            have ho := Option.some.inj ho
            subst ho
            refine ⟨rfl, ?_⟩
            have e6 : e 6 = .slice AQ q.length cQ := hd 6 (by decide)
            have hxa : Below W.heap.size W (W.alloc (.cells #[.slice AQ q.length cQ] 25)) := (Below.refl _ _).alloc (Nat.le_refl _) _
            refine Sx.lv_of fun K hK => ?_
            go_simp
            simp only [Sx.LV]
            exact hK _ _ ⟨hs.trans (hxa.mono hs.size), ⟨W.heap.size, rfl, Blk.new _ _ _⟩, fun j _ _ _ e' h => BkF.ext j e' _ _ h hxa⟩
          | 8, ho, hd =>
            have ho := Option.some.inj ho
            subst ho
            refine ⟨rfl, ?_⟩
            have h5 : NewLw W W0.heap.size (fun b => b < W0.heap.size) (e 5) ls := hd 5 (by decide)
            obtain ⟨g7, e7, hg7⟩ : ∃ g, e 7 = .slice (some ⟨g, 0, none⟩) 1 1 ∧ Blk W g 25 #[.slice AQ q.length cQ] := hd 7 (by decide)
            refine lv_newLw _ _ rfl W0.heap.size _ (e 5) ls rfl h5 g7 AQ q.length cQ q e7 hg7 (HQ.out.below hs hs.size) (fun hm b off e9 => ⟨fun e10 => by have h1 := (newLw_own h5 b e10).1; have h2 := ins_lt0 HQ.out hm b off e9; omega, ins_lt0 HQ.out hm b off e9⟩) (by have := la.out; omega) hs.size ?_
            intro v' W' hn hg
            exact ⟨hs.grown hg hs.size (fun r hr => (newLw_own h5 r hr).1), hn, BkF.app1 h5 hg⟩
          | 9, ho, hd =>
            have ho := Option.some.inj ho
            subst ho
            refine ⟨rfl, ?_⟩
            have e1 : e 1 = .int .i64 (J : Int) := hd 1 (by decide)
            have h8 : NewLw W W0.heap.size (fun b => b < W0.heap.size) (e 8) (ls ++ [q]) := hd 8 (by decide)
            obtain ⟨A8, c8, e8, -⟩ := lis_of_lw h8
            obtain ⟨m8, hm8⟩ : ∃ m, (ls ++ [q]).length = m := ⟨_, rfl⟩
            rw [hm8] at e8
            clear hm8
            refine Sx.lv_of fun K hK => ?_
            go_simp
            simp only [Sx.LV]
            exact hK _ _ ⟨hs, (by show _ = Value.agg #[_, e 8]; rw [e8]; rfl), fun j _ _ _ e' h => BkF.ext j e' _ _ h (Below.refl _ _)⟩
          | 10, ho, hd =>
            have ho := Option.some.inj ho
            subst ho
            refine ⟨rfl, ?_⟩
            have hxa : Below W.heap.size W (W.alloc (.cells #[.int .i64 0, .slice none 0 0] 24)) := (Below.refl _ _).alloc (Nat.le_refl _) _
            refine Sx.lv_of fun K hK => ?_
            go_simp
            simp only [Sx.LV]
            exact hK _ _ ⟨hs.trans (hxa.mono hs.size), ⟨W.heap.size, rfl, hs.size, Blk.new _ _ _⟩, fun j _ _ _ e' h => BkF.ext j e' _ _ h hxa⟩
          | 11, ho, hd =>
            have ho := Option.some.inj ho
            subst ho
            refine ⟨rfl, ?_⟩
            have e9 : e 9 = .agg #[.int .i64 (J : Int), e 8] := hd 9 (by decide)
            obtain ⟨T, e10, hBT, hT⟩ : ∃ T, e 10 = .pointer (some ⟨T, 0, none⟩) ∧ W0.heap.size ≤ T ∧ Blk W T 24 #[.int .i64 0, .slice none 0 0] := hd 10 (by decide)
            have h8 : NewLw W W0.heap.size (fun b => b < W0.heap.size) (e 8) (ls ++ [q]) := hd 8 (by decide)
            obtain ⟨A8, c8, e8, -⟩ := lis_of_lw h8
            obtain ⟨m8, hm8⟩ : ∃ m, (ls ++ [q]).length = m := ⟨_, rfl⟩
            rw [hm8] at e8
            clear hm8
            have f0 := hT.cell 0
            have f1 := hT.cell 1
            have f2 := hT.lt
            have f3 := hT.frozen 0
            have f4 := hT.frozen 1
            rw [e8] at e9
            refine Sx.lv_of fun K hK => ?_
            go_simp
            simp only [Sx.LV]
            refine hK _ _ ⟨(hs.setCell hBT _).setCell hBT _, ⟨T, e10, hBT, ?_⟩, BkF.put hT hBT⟩
            rw [show Sx.upd e 11 undef 8 = .slice A8 m8 c8 from e8]
            exact hT.set2
          | k + 12, ho, _ => cases ho
        intro e W1 hb hp
        have h8 : NewLw W1 W0.heap.size (fun b => b < W0.heap.size) (e 8) (ls ++ [q]) := hp 8 (by decide) (by decide)
        obtain ⟨T, e10, hBT, hT⟩ : ∃ T, e 10 = .pointer (some ⟨T, 0, none⟩) ∧ W0.heap.size ≤ T ∧ Blk W1 T 24 #[.int .i64 (J : Int), e 8] := hp 11 (by decide) (by decide)
        obtain ⟨A8, c8, e8, hX8⟩ := lis_of_lw h8
        rw [e8] at hT
        rw [HX.out] at hT hX8
        simp only [e10]
        clear hp h8 e8
        replace hbel := hbel.trans (hb.mono hsz)
        replace hsz := hbel.size
        replace bB := bB.below hb bB.lt
        clear pB0 pB1 lB
        have pB0 := bB.cell 0
        have pB1 := bB.cell 1
        have lB := bB.lt
        replace HL := hid (HL.out.below hb hb.size)
        replace HQ := hid (HQ.out.below hb hb.size)
        have HX8 := hid hX8
        clear hX8
        clear hb
        try clear hWb
        obtain ⟨W0, rfl⟩ : ∃ W0 : World, W0 = W1 := ⟨_, rfl⟩
        have bX := hT
        have pX0 := bX.cell 0
        have pX1 := bX.cell 1
        have lX := bX.lt
        clear hT
        go_wp2_with (fail)
        refine (few_any A n c ls J _ (HL.out.below (by repeat' (first | with_reducible assumption | with_reducible exact Below.refl _ _ | refine Below.alloc ?_ ?_ _ | refine Below.setCell ?_ ?_ _ | refine Below.drew ?_ | refine below_drewN ?_ _ | (simp; done) | (simp; omega) | omega)) (by first | (simp; done) | (simp; omega) | omega)) (by omega) K2.out hbl.out).mono ?_
        rw [HN.out, His.out, F2.out]
        rintro e W1 ⟨rfl, hb⟩
        have hst : Below W0.heap.size W0 W1 := Below.trans (by repeat' (first | with_reducible assumption | with_reducible exact Below.refl _ _ | refine Below.alloc ?_ ?_ _ | refine Below.setCell ?_ ?_ _ | refine Below.drew ?_ | refine below_drewN ?_ _ | (simp; done) | (simp; omega) | omega)) (hb.mono (by first | (simp; done) | (simp; omega) | omega))
        replace hbel := hbel.trans (hst.mono hsz)
        replace hsz := hbel.size
        replace bB := bB.below hst bB.lt
        clear pB0 pB1 lB
        have pB0 := bB.cell 0
        have pB1 := bB.cell 1
        have lB := bB.lt
        replace bX := bX.below hst bX.lt
        clear pX0 pX1 lX
        have pX0 := bX.cell 0
        have pX1 := bX.cell 1
        have lX := bX.lt
        replace HL := hid (HL.out.below hst hst.size)
        replace HQ := hid (HQ.out.below hst hst.size)
        replace HX8 := hid (HX8.out.below hst hst.size)
        clear hb hst
        try clear hWb
        obtain ⟨W0, rfl⟩ : ∃ W0 : World, W0 = W1 := ⟨_, rfl⟩
        go_wp2_with (fail)
        refine (few_any A8 X.length c8 X J _ (HX8.out.below (by repeat' (first | with_reducible assumption | with_reducible exact Below.refl _ _ | refine Below.alloc ?_ ?_ _ | refine Below.setCell ?_ ?_ _ | refine Below.drew ?_ | refine below_drewN ?_ _ | (simp; done) | (simp; omega) | omega)) (by first | (simp; done) | (simp; omega) | omega)) (by have := HXl.out; omega) KX.out hbX.out).mono ?_
        rw [HM.out, F4.out, F3.out]
        rintro e W1 ⟨rfl, hb⟩
        have hst : Below W0.heap.size W0 W1 := Below.trans (by repeat' (first | with_reducible assumption | with_reducible exact Below.refl _ _ | refine Below.alloc ?_ ?_ _ | refine Below.setCell ?_ ?_ _ | refine Below.drew ?_ | refine below_drewN ?_ _ | (simp; done) | (simp; omega) | omega)) (hb.mono (by first | (simp; done) | (simp; omega) | omega))
        replace hbel := hbel.trans (hst.mono hsz)
        replace hsz := hbel.size
        replace bB := bB.below hst bB.lt
        clear pB0 pB1 lB
        have pB0 := bB.cell 0
        have pB1 := bB.cell 1
        have lB := bB.lt
        replace bX := bX.below hst bX.lt
        clear pX0 pX1 lX
        have pX0 := bX.cell 0
        have pX1 := bX.cell 1
        have lX := bX.lt
        replace HL := hid (HL.out.below hst hst.size)
        replace HQ := hid (HQ.out.below hst hst.size)
        replace HX8 := hid (HX8.out.below hst hst.size)
        clear hb hst
        try clear hWb
        obtain ⟨W0, rfl⟩ : ∃ W0 : World, W0 = W1 := ⟨_, rfl⟩
        go_wp2_with (fail)
        refine (set_any A n c J b _ (by omega) hb).mono ?_
        rw [Hs.out]
        rintro e W1 ⟨vS, rfl, ho, hb⟩
        obtain ⟨AS, cS, rfl, hs2, hcS, hs4⟩ := own_slb ho
        have hs3 : InS W1 W1.heap.size AS s.length s := hs2
        clear ho hs2 hs4
        have hst : Below W0.heap.size W0 W1 := Below.trans (by repeat' (first | with_reducible assumption | with_reducible exact Below.refl _ _ | refine Below.alloc ?_ ?_ _ | refine Below.setCell ?_ ?_ _ | refine Below.drew ?_ | refine below_drewN ?_ _ | (simp; done) | (simp; omega) | omega)) (hb.mono (by first | (simp; done) | (simp; omega) | omega))
        replace hbel := hbel.trans (hst.mono hsz)
        replace hsz := hbel.size
        replace bB := bB.below hst bB.lt
        clear pB0 pB1 lB
        have pB0 := bB.cell 0
        have pB1 := bB.cell 1
        have lB := bB.lt
        replace bX := bX.below hst bX.lt
        clear pX0 pX1 lX
        have pX0 := bX.cell 0
        have pX1 := bX.cell 1
        have lX := bX.lt
        replace HL := hid (HL.out.below hst hst.size)
        replace HQ := hid (HQ.out.below hst hst.size)
        replace HX8 := hid (HX8.out.below hst hst.size)
        have HS := hid hs3
        clear hs3
        clear hb hst
        try clear hWb
        obtain ⟨W0, rfl⟩ : ∃ W0 : World, W0 = W1 := ⟨_, rfl⟩
        go_wp2_with (fail)
        refine (checkBlame_any A AS n c s.length cS ls s J _ (HL.out.below (by repeat' (first | with_reducible assumption | with_reducible exact Below.refl _ _ | refine Below.alloc ?_ ?_ _ | refine Below.setCell ?_ ?_ _ | refine Below.drew ?_ | refine below_drewN ?_ _ | (simp; done) | (simp; omega) | omega)) (by first | (simp; done) | (simp; omega) | omega)) (HS.out.below (by repeat' (first | with_reducible assumption | with_reducible exact Below.refl _ _ | refine Below.alloc ?_ ?_ _ | refine Below.setCell ?_ ?_ _ | refine Below.drew ?_ | refine below_drewN ?_ _ | (simp; done) | (simp; omega) | omega)) (by first | (simp; done) | (simp; omega) | omega)) (by omega) K2.out (by omega)).mono ?_
        rw [He1.out, Hv1.out]
        rintro e W1 ⟨rfl, hb⟩
        have hst : Below W0.heap.size W0 W1 := Below.trans (by repeat' (first | with_reducible assumption | with_reducible exact Below.refl _ _ | refine Below.alloc ?_ ?_ _ | refine Below.setCell ?_ ?_ _ | refine Below.drew ?_ | refine below_drewN ?_ _ | (simp; done) | (simp; omega) | omega)) (hb.mono (by first | (simp; done) | (simp; omega) | omega))
        replace hbel := hbel.trans (hst.mono hsz)
        replace hsz := hbel.size
        replace bB := bB.below hst bB.lt
        clear pB0 pB1 lB
        have pB0 := bB.cell 0
        have pB1 := bB.cell 1
        have lB := bB.lt
        replace bX := bX.below hst bX.lt
        clear pX0 pX1 lX
        have pX0 := bX.cell 0
        have pX1 := bX.cell 1
        have lX := bX.lt
        replace HL := hid (HL.out.below hst hst.size)
        replace HQ := hid (HQ.out.below hst hst.size)
        replace HX8 := hid (HX8.out.below hst hst.size)
        replace HS := hid (HS.out.below hst hst.size)
        clear hb hst
        try clear hWb
        obtain ⟨W0, rfl⟩ : ∃ W0 : World, W0 = W1 := ⟨_, rfl⟩
        go_wp2_with (fail)
        refine (checkBlame_any A8 AS X.length c8 s.length cS X s J _ (HX8.out.below (by repeat' (first | with_reducible assumption | with_reducible exact Below.refl _ _ | refine Below.alloc ?_ ?_ _ | refine Below.setCell ?_ ?_ _ | refine Below.drew ?_ | refine below_drewN ?_ _ | (simp; done) | (simp; omega) | omega)) (by first | (simp; done) | (simp; omega) | omega)) (HS.out.below (by repeat' (first | with_reducible assumption | with_reducible exact Below.refl _ _ | refine Below.alloc ?_ ?_ _ | refine Below.setCell ?_ ?_ _ | refine Below.drew ?_ | refine below_drewN ?_ _ | (simp; done) | (simp; omega) | omega)) (by first | (simp; done) | (simp; omega) | omega)) (by have := HXl.out; omega) KX.out (by omega)).mono ?_
        rw [He2.out, Hv2.out]
        rintro e W1 ⟨rfl, hb⟩
        have hst : Below W0.heap.size W0 W1 := Below.trans (by repeat' (first | with_reducible assumption | with_reducible exact Below.refl _ _ | refine Below.alloc ?_ ?_ _ | refine Below.setCell ?_ ?_ _ | refine Below.drew ?_ | refine below_drewN ?_ _ | (simp; done) | (simp; omega) | omega)) (hb.mono (by first | (simp; done) | (simp; omega) | omega))
        replace hbel := hbel.trans (hst.mono hsz)
        replace hsz := hbel.size
        replace bB := bB.below hst bB.lt
        clear pB0 pB1 lB
        have pB0 := bB.cell 0
        have pB1 := bB.cell 1
        have lB := bB.lt
        replace bX := bX.below hst bX.lt
        clear pX0 pX1 lX
        have pX0 := bX.cell 0
        have pX1 := bX.cell 1
        have lX := bX.lt
        replace HL := hid (HL.out.below hst hst.size)
        replace HQ := hid (HQ.out.below hst hst.size)
        replace HX8 := hid (HX8.out.below hst hst.size)
        replace HS := hid (HS.out.below hst hst.size)
        clear hb hst
        try clear hWb
        obtain ⟨W0, rfl⟩ : ∃ W0 : World, W0 = W1 := ⟨_, rfl⟩
        replace F5 := F5.out
        replace F6 := F6.out
        replace F7 := F7.out
        have HBS := hid (fun W h => rbits_any AS s.length cS s W h (by omega) (fun z hz => by have := isL_bd Hs80.out z hz; omega))
        have HBM := hid (fun W h => rbits_any AQ q.length cQ q W h (by omega) (fun z hz => by have := isL_bd Hm80.out z hz; omega))
        rw [Hbs.out] at HBS
        rw [Hbm.out] at HBM
        cases is
        · clear F5
          by_cases z1 : e1 = 0
          · have t1 : (e1 == 0) = true := by simp [z1]
            rw [t1] at F7
            by_cases z2 : e2 = 0
            · have t2 : (e2 == 0) = true := by simp [z2]
              have t2n : (e2 != 0) = false := by simp [z2]
              clear F6 F7 z1 z2
              go_wp2_with (fail)
              refine (works_any _).mono ?_
              rintro e W1 ⟨rfl, hb⟩
              have hst : Below W0.heap.size W0 W1 := Below.trans (by repeat' (first | with_reducible assumption | with_reducible exact Below.refl _ _ | refine Below.alloc ?_ ?_ _ | refine Below.setCell ?_ ?_ _ | refine Below.drew ?_ | refine below_drewN ?_ _ | (simp; done) | (simp; omega) | omega)) (hb.mono (by first | (simp; done) | (simp; omega) | omega))
              replace hbel := hbel.trans (hst.mono hsz)
              replace hsz := hbel.size
              replace bB := bB.below hst bB.lt
              clear pB0 pB1 lB
              have pB0 := bB.cell 0
              have pB1 := bB.cell 1
              have lB := bB.lt
              replace bX := bX.below hst bX.lt
              clear pX0 pX1 lX
              have pX0 := bX.cell 0
              have pX1 := bX.cell 1
              have lX := bX.lt
              replace HL := hid (HL.out.below hst hst.size)
              replace HQ := hid (HQ.out.below hst hst.size)
              replace HX8 := hid (HX8.out.below hst hst.size)
              replace HS := hid (HS.out.below hst hst.size)
              clear hb hst
              try clear hWb
              obtain ⟨W0, rfl⟩ : ∃ W0 : World, W0 = W1 := ⟨_, rfl⟩
              go_wp2
              go_ret
              exact ⟨rfl, hbel⟩
            · have t2 : (e2 == 0) = false := by simp [z2]
              have t2n : (e2 != 0) = true := by simp [z2]
              rw [t2] at F7
              have tz : ((z : Int) == 0) = true := by
                have h : (z == 0) = true := by simpa using F7.symm
                rw [beq_iff_eq] at h ⊢; omega
              clear F6 F7 z1 z2
              go_wp2_with (fail)
              refine (toB (HBS.out _ (HS.out.below (by repeat' (first | with_reducible assumption | with_reducible exact Below.refl _ _ | refine Below.alloc ?_ ?_ _ | refine Below.setCell ?_ ?_ _ | refine Below.drew ?_ | refine below_drewN ?_ _ | (simp; done) | (simp; omega) | omega)) (by first | (simp; done) | (simp; omega) | omega)))).mono ?_
              rintro e W1 ⟨rfl, hb⟩
              have hst : Below W0.heap.size W0 W1 := Below.trans (by repeat' (first | with_reducible assumption | with_reducible exact Below.refl _ _ | refine Below.alloc ?_ ?_ _ | refine Below.setCell ?_ ?_ _ | refine Below.drew ?_ | refine below_drewN ?_ _ | (simp; done) | (simp; omega) | omega)) (hb.mono (by first | (simp; done) | (simp; omega) | omega))
              replace hbel := hbel.trans (hst.mono hsz)
              replace hsz := hbel.size
              replace bB := bB.below hst bB.lt
              clear pB0 pB1 lB
              have pB0 := bB.cell 0
              have pB1 := bB.cell 1
              have lB := bB.lt
              replace bX := bX.below hst bX.lt
              clear pX0 pX1 lX
              have pX0 := bX.cell 0
              have pX1 := bX.cell 1
              have lX := bX.lt
              replace HL := hid (HL.out.below hst hst.size)
              replace HQ := hid (HQ.out.below hst hst.size)
              replace HX8 := hid (HX8.out.below hst hst.size)
              replace HS := hid (HS.out.below hst hst.size)
              clear hb hst
              try clear hWb
              obtain ⟨W0, rfl⟩ : ∃ W0 : World, W0 = W1 := ⟨_, rfl⟩
              go_wp2_with (fail)
              refine (toB (HBM.out _ (HQ.out.below (by repeat' (first | with_reducible assumption | with_reducible exact Below.refl _ _ | refine Below.alloc ?_ ?_ _ | refine Below.setCell ?_ ?_ _ | refine Below.drew ?_ | refine below_drewN ?_ _ | (simp; done) | (simp; omega) | omega)) (by first | (simp; done) | (simp; omega) | omega)))).mono ?_
              rintro e W1 ⟨rfl, hb⟩
              have hst : Below W0.heap.size W0 W1 := Below.trans (by repeat' (first | with_reducible assumption | with_reducible exact Below.refl _ _ | refine Below.alloc ?_ ?_ _ | refine Below.setCell ?_ ?_ _ | refine Below.drew ?_ | refine below_drewN ?_ _ | (simp; done) | (simp; omega) | omega)) (hb.mono (by first | (simp; done) | (simp; omega) | omega))
              replace hbel := hbel.trans (hst.mono hsz)
              replace hsz := hbel.size
              replace bB := bB.below hst bB.lt
              clear pB0 pB1 lB
              have pB0 := bB.cell 0
              have pB1 := bB.cell 1
              have lB := bB.lt
              replace bX := bX.below hst bX.lt
              clear pX0 pX1 lX
              have pX0 := bX.cell 0
              have pX1 := bX.cell 1
              have lX := bX.lt
              replace HL := hid (HL.out.below hst hst.size)
              replace HQ := hid (HQ.out.below hst hst.size)
              replace HX8 := hid (HX8.out.below hst hst.size)
              replace HS := hid (HS.out.below hst hst.size)
              clear hb hst
              try clear hWb
              obtain ⟨W0, rfl⟩ : ∃ W0 : World, W0 = W1 := ⟨_, rfl⟩
              go_wp2_with (fail)
              refine (works_any _).mono ?_
              rintro e W1 ⟨rfl, hb⟩
              have hst : Below W0.heap.size W0 W1 := Below.trans (by repeat' (first | with_reducible assumption | with_reducible exact Below.refl _ _ | refine Below.alloc ?_ ?_ _ | refine Below.setCell ?_ ?_ _ | refine Below.drew ?_ | refine below_drewN ?_ _ | (simp; done) | (simp; omega) | omega)) (hb.mono (by first | (simp; done) | (simp; omega) | omega))
              replace hbel := hbel.trans (hst.mono hsz)
              replace hsz := hbel.size
              replace bB := bB.below hst bB.lt
              clear pB0 pB1 lB
              have pB0 := bB.cell 0
              have pB1 := bB.cell 1
              have lB := bB.lt
              replace bX := bX.below hst bX.lt
              clear pX0 pX1 lX
              have pX0 := bX.cell 0
              have pX1 := bX.cell 1
              have lX := bX.lt
              replace HL := hid (HL.out.below hst hst.size)
              replace HQ := hid (HQ.out.below hst hst.size)
              replace HX8 := hid (HX8.out.below hst hst.size)
              replace HS := hid (HS.out.below hst hst.size)
              clear hb hst
              try clear hWb
              obtain ⟨W0, rfl⟩ : ∃ W0 : World, W0 = W1 := ⟨_, rfl⟩
              go_wp2
              go_ret
              exact ⟨rfl, hbel⟩
          · have t1 : (e1 == 0) = false := by simp [z1]
            have t2 : (e2 == 0) = false := by simp only [beq_eq_false_iff_ne]; exact fun h => z1 (F6 h)
            have t2n : (e2 != 0) = true := by simp only [bne_iff_ne]; exact fun h => z1 (F6 h)
            clear F6 F7 z1
            go_wp2_with (fail)
            refine (works_any _).mono ?_
            rintro e W1 ⟨rfl, hb⟩
            have hst : Below W0.heap.size W0 W1 := Below.trans (by repeat' (first | with_reducible assumption | with_reducible exact Below.refl _ _ | refine Below.alloc ?_ ?_ _ | refine Below.setCell ?_ ?_ _ | refine Below.drew ?_ | refine below_drewN ?_ _ | (simp; done) | (simp; omega) | omega)) (hb.mono (by first | (simp; done) | (simp; omega) | omega))
            replace hbel := hbel.trans (hst.mono hsz)
            replace hsz := hbel.size
            replace bB := bB.below hst bB.lt
            clear pB0 pB1 lB
            have pB0 := bB.cell 0
            have pB1 := bB.cell 1
            have lB := bB.lt
            replace bX := bX.below hst bX.lt
            clear pX0 pX1 lX
            have pX0 := bX.cell 0
            have pX1 := bX.cell 1
            have lX := bX.lt
            replace HL := hid (HL.out.below hst hst.size)
            replace HQ := hid (HQ.out.below hst hst.size)
            replace HX8 := hid (HX8.out.below hst hst.size)
            replace HS := hid (HS.out.below hst hst.size)
            clear hb hst
            try clear hWb
            obtain ⟨W0, rfl⟩ : ∃ W0 : World, W0 = W1 := ⟨_, rfl⟩
            go_wp2
            go_ret
            exact ⟨rfl, hbel⟩
        · obtain ⟨g1, g2⟩ := F5 rfl
          have zN : IntKind.i64.wrap (N + 1) = N + 1 := IntWalk.i64_in _ (by omega)
          clear F5
          by_cases z1 : e1 = 0
          · have t1 : (e1 == 0) = true := by simp [z1]
            rw [t1] at F7
            by_cases z2 : e2 = 0
            · have t2 : (e2 == 0) = true := by simp [z2]
              have t2n : (e2 != 0) = false := by simp [z2]
              clear F6 F7 z1 z2
              go_wp2_with (fail)
              refine (works_any _).mono ?_
              rintro e W1 ⟨rfl, hb⟩
              have hst : Below W0.heap.size W0 W1 := Below.trans (by repeat' (first | with_reducible assumption | with_reducible exact Below.refl _ _ | refine Below.alloc ?_ ?_ _ | refine Below.setCell ?_ ?_ _ | refine Below.drew ?_ | refine below_drewN ?_ _ | (simp; done) | (simp; omega) | omega)) (hb.mono (by first | (simp; done) | (simp; omega) | omega))
              replace hbel := hbel.trans (hst.mono hsz)
              replace hsz := hbel.size
              replace bB := bB.below hst bB.lt
              clear pB0 pB1 lB
              have pB0 := bB.cell 0
              have pB1 := bB.cell 1
              have lB := bB.lt
              replace bX := bX.below hst bX.lt
              clear pX0 pX1 lX
              have pX0 := bX.cell 0
              have pX1 := bX.cell 1
              have lX := bX.lt
              replace HL := hid (HL.out.below hst hst.size)
              replace HQ := hid (HQ.out.below hst hst.size)
              replace HX8 := hid (HX8.out.below hst hst.size)
              replace HS := hid (HS.out.below hst hst.size)
              clear hb hst
              try clear hWb
              obtain ⟨W0, rfl⟩ : ∃ W0 : World, W0 = W1 := ⟨_, rfl⟩
              go_wp2
              go_ret
              exact ⟨rfl, hbel⟩
            · have t2 : (e2 == 0) = false := by simp [z2]
              have t2n : (e2 != 0) = true := by simp [z2]
              rw [t2] at F7
              have tz : ((z : Int) == 0) = true := by
                have h : (z == 0) = true := by simpa using F7.symm
                rw [beq_iff_eq] at h ⊢; omega
              clear F6 F7 z1 z2
              go_wp2_with (fail)
              refine (toB (HBS.out _ (HS.out.below (by repeat' (first | with_reducible assumption | with_reducible exact Below.refl _ _ | refine Below.alloc ?_ ?_ _ | refine Below.setCell ?_ ?_ _ | refine Below.drew ?_ | refine below_drewN ?_ _ | (simp; done) | (simp; omega) | omega)) (by first | (simp; done) | (simp; omega) | omega)))).mono ?_
              rintro e W1 ⟨rfl, hb⟩
              have hst : Below W0.heap.size W0 W1 := Below.trans (by repeat' (first | with_reducible assumption | with_reducible exact Below.refl _ _ | refine Below.alloc ?_ ?_ _ | refine Below.setCell ?_ ?_ _ | refine Below.drew ?_ | refine below_drewN ?_ _ | (simp; done) | (simp; omega) | omega)) (hb.mono (by first | (simp; done) | (simp; omega) | omega))
              replace hbel := hbel.trans (hst.mono hsz)
              replace hsz := hbel.size
              replace bB := bB.below hst bB.lt
              clear pB0 pB1 lB
              have pB0 := bB.cell 0
              have pB1 := bB.cell 1
              have lB := bB.lt
              replace bX := bX.below hst bX.lt
              clear pX0 pX1 lX
              have pX0 := bX.cell 0
              have pX1 := bX.cell 1
              have lX := bX.lt
              replace HL := hid (HL.out.below hst hst.size)
              replace HQ := hid (HQ.out.below hst hst.size)
              replace HX8 := hid (HX8.out.below hst hst.size)
              replace HS := hid (HS.out.below hst hst.size)
              clear hb hst
              try clear hWb
              obtain ⟨W0, rfl⟩ : ∃ W0 : World, W0 = W1 := ⟨_, rfl⟩
              go_wp2_with (fail)
              refine (toB (HBM.out _ (HQ.out.below (by repeat' (first | with_reducible assumption | with_reducible exact Below.refl _ _ | refine Below.alloc ?_ ?_ _ | refine Below.setCell ?_ ?_ _ | refine Below.drew ?_ | refine below_drewN ?_ _ | (simp; done) | (simp; omega) | omega)) (by first | (simp; done) | (simp; omega) | omega)))).mono ?_
              rintro e W1 ⟨rfl, hb⟩
              have hst : Below W0.heap.size W0 W1 := Below.trans (by repeat' (first | with_reducible assumption | with_reducible exact Below.refl _ _ | refine Below.alloc ?_ ?_ _ | refine Below.setCell ?_ ?_ _ | refine Below.drew ?_ | refine below_drewN ?_ _ | (simp; done) | (simp; omega) | omega)) (hb.mono (by first | (simp; done) | (simp; omega) | omega))
              replace hbel := hbel.trans (hst.mono hsz)
              replace hsz := hbel.size
              replace bB := bB.below hst bB.lt
              clear pB0 pB1 lB
              have pB0 := bB.cell 0
              have pB1 := bB.cell 1
              have lB := bB.lt
              replace bX := bX.below hst bX.lt
              clear pX0 pX1 lX
              have pX0 := bX.cell 0
              have pX1 := bX.cell 1
              have lX := bX.lt
              replace HL := hid (HL.out.below hst hst.size)
              replace HQ := hid (HQ.out.below hst hst.size)
              replace HX8 := hid (HX8.out.below hst hst.size)
              replace HS := hid (HS.out.below hst hst.size)
              clear hb hst
              try clear hWb
              obtain ⟨W0, rfl⟩ : ∃ W0 : World, W0 = W1 := ⟨_, rfl⟩
              go_wp2_with (fail)
              refine (works_any _).mono ?_
              rintro e W1 ⟨rfl, hb⟩
              have hst : Below W0.heap.size W0 W1 := Below.trans (by repeat' (first | with_reducible assumption | with_reducible exact Below.refl _ _ | refine Below.alloc ?_ ?_ _ | refine Below.setCell ?_ ?_ _ | refine Below.drew ?_ | refine below_drewN ?_ _ | (simp; done) | (simp; omega) | omega)) (hb.mono (by first | (simp; done) | (simp; omega) | omega))
              replace hbel := hbel.trans (hst.mono hsz)
              replace hsz := hbel.size
              replace bB := bB.below hst bB.lt
              clear pB0 pB1 lB
              have pB0 := bB.cell 0
              have pB1 := bB.cell 1
              have lB := bB.lt
              replace bX := bX.below hst bX.lt
              clear pX0 pX1 lX
              have pX0 := bX.cell 0
              have pX1 := bX.cell 1
              have lX := bX.lt
              replace HL := hid (HL.out.below hst hst.size)
              replace HQ := hid (HQ.out.below hst hst.size)
              replace HX8 := hid (HX8.out.below hst hst.size)
              replace HS := hid (HS.out.below hst hst.size)
              clear hb hst
              try clear hWb
              obtain ⟨W0, rfl⟩ : ∃ W0 : World, W0 = W1 := ⟨_, rfl⟩
              go_wp2
              go_ret
              exact ⟨rfl, hbel⟩
          · have t1 : (e1 == 0) = false := by simp [z1]
            have t2 : (e2 == 0) = false := by simp only [beq_eq_false_iff_ne]; exact fun h => z1 (F6 h)
            have t2n : (e2 != 0) = true := by simp only [bne_iff_ne]; exact fun h => z1 (F6 h)
            clear F6 F7 z1
            go_wp2_with (fail)
            refine (works_any _).mono ?_
            rintro e W1 ⟨rfl, hb⟩
            have hst : Below W0.heap.size W0 W1 := Below.trans (by repeat' (first | with_reducible assumption | with_reducible exact Below.refl _ _ | refine Below.alloc ?_ ?_ _ | refine Below.setCell ?_ ?_ _ | refine Below.drew ?_ | refine below_drewN ?_ _ | (simp; done) | (simp; omega) | omega)) (hb.mono (by first | (simp; done) | (simp; omega) | omega))
            replace hbel := hbel.trans (hst.mono hsz)
            replace hsz := hbel.size
            replace bB := bB.below hst bB.lt
            clear pB0 pB1 lB
            have pB0 := bB.cell 0
            have pB1 := bB.cell 1
            have lB := bB.lt
            replace bX := bX.below hst bX.lt
            clear pX0 pX1 lX
            have pX0 := bX.cell 0
            have pX1 := bX.cell 1
            have lX := bX.lt
            replace HL := hid (HL.out.below hst hst.size)
            replace HQ := hid (HQ.out.below hst hst.size)
            replace HX8 := hid (HX8.out.below hst hst.size)
            replace HS := hid (HS.out.below hst hst.size)
            clear hb hst
            try clear hWb
            obtain ⟨W0, rfl⟩ : ∃ W0 : World, W0 = W1 := ⟨_, rfl⟩
            go_wp2
            go_ret
            exact ⟨rfl, hbel⟩

section
open Go.ChangeShapes Go.WideShapes Go.ChangeAt Go.RowKit
set_option maxRecDepth 100000 in
theorem blameMore_lifted (os : Os) (started : os.Started) (H : Type) (enc : TypeId × Value → H) :
    ReturnsInHanded {} Tryz.checked os 11 .any (Rows.blameMoreSpec.pre6 enc Tryz.prog Tryz.f11 Rows.blameMoreRow.domain false) (Rows.blameMoreSpec.post enc Tryz.prog Tryz.f11 false true false false) := by
  refine returnsInHanded_of_change (C := Tryz.checked) ownKx started (by kernel_rfl) Tryz.func11
    (ChangeSpec.witness6 (enc := enc) (C := Tryz.checked) false ⟨#[], #[.agg #[.int .i64 0, .slice none 0 0], .int .u8 0, .int .u8 0], []⟩ 8 (by kernel_rfl) (by kernel_rfl) (by kernel_rfl) (by kernel_rfl)) ?_
  intro W base args ds gs before hval0 hW hcnd _
  have hval : ∀ (j : Nat) t v, Tryz.f11.params[j]? = some t → args[j]? = some v → Value.okWide Tryz.prog W .any base t v := hval0
  have hW' := hW
  obtain ⟨p, q, hA0, hV, rfl, hfz, hnd⟩ := hW
  have hA : DataW.TrodAll enc Tryz.prog W 0 (fun _ => true) true Tryz.f11.params.toList args.toList ds p := hA0
  have hlt : ∀ x ∈ p, x.block < W.heap.size := fun x hx => hW'.lt x (List.mem_append_left _ hx)
  have hAll : ∀ W', Below W.heap.size W W' → DataW.TrodAll enc Tryz.prog W' 0 (fun b => decide (b < W.heap.size)) true Tryz.f11.params.toList args.toList ds p := fun W' hb => all_below laidOut hb (readable_of (by kernel_rfl)) hlt hA
  rw [Tryz.params11] at hA hval
  obtain ⟨v0, v1, v2, d0, d1, d2, p0, p1, p2, rfl, rfl, rfl, h0, h1, h2⟩ := trodAll_three hA
  obtain ⟨rfl, rfl⟩ := trodVars_none hV
  clear hA0 hval0
  obtain ⟨I0, A0, n0, c0, rfl, wI0, hc0, hN0, l0, hl0, hr0⟩ := open_book (hval 0 24 v0 rfl rfl) h0
  obtain ⟨x1, rfl, rfl, rfl, wx1⟩ := open_int Tryz.underlying5 (hval 1 5 v1 rfl rfl) h1
  obtain ⟨x2, rfl, rfl, rfl, wx2⟩ := open_int Tryz.underlying5 (hval 2 5 v2 rfl rfl) h2
  obtain ⟨y1, rfl⟩ : ∃ y : Nat, x1 = y := ⟨x1.toNat, (Int.toNat_of_nonneg (u8_bd wx1).1).symm⟩
  obtain ⟨y2, rfl⟩ : ∃ y : Nat, x2 = y := ⟨x2.toNat, (Int.toNat_of_nonneg (u8_bd wx2).1).symm⟩
  refine (blameMore_walk W I0 A0 n0 c0 l0 y1 y2 hr0 (by have := u8_bd wx1; omega) (by have := u8_bd wx2; omega) hN0).mono fun e W' ⟨he, hb⟩ => ?_
  subst he
  exact ⟨_, rfl, ⟨_, _, _, [], _, [], hW', trodAll_cons_mk (shut_bool Tryz.underlying4 _) trodAll_mk0, hAll W' hb, rfl, hb.frame _, fun h => by cases h⟩⟩
/-- The law: whatever the input, it returns true, and the input reads as it did. -/
theorem blameMore_holds : Rows.BlameMoreSaid :=
  OpenClaim.holds_of_wide 11 Tryz.f11 rfl rfl rfl rfl rfl rfl rfl ⟨rfl, rfl, rfl, rfl, rfl⟩ rfl rfl rfl rfl rfl (by kernel_rfl) Tryz.func11 (by kernel_rfl)
    (of_decide_eq_true (by kernel_rfl)) (by unfold Func.isWrapper; first | (rw [if_pos (by decide +kernel)]; kernel_rfl) | (rw [if_neg (by decide +kernel)]; exact ⟨rfl, rfl⟩))
    (fun os started H enc _ => blameMore_lifted os started H enc)
end
end Go.Proofs.YtnpilfpackdimaaGreat

