/- The statement BlameTight holds: whatever the arguments, the law returns true and leaves its arguments as they were. -/
import Derived.Test.YtnpilfpackdimaaGreatMl
set_option linter.unusedSimpArgs false
set_option linter.unusedVariables false
namespace Go.Proofs.YtnpilfpackdimaaGreat
open Go.RowKit Go.Shelf
attribute [local go_sem] Oper.semAt_some
set_option maxRecDepth 100000 in
set_option maxHeartbeats 40000000 in
theorem blameTight_walk (w : World) (I : Int) (A : Option Addr) (n c : Nat) (ls : List (List Int)) (b : Nat) (hl : LiS w w.heap.size A n ls) (hb : b < 256) :
    Calls Tryz.prog 8 #[.agg #[.int .i64 I, .slice A n c], .int .u8 (b : Int)] w fun e w' => e = .returned (.bool true) ∧ Below w.heap.size w w' := by
  have la := hid hl.1
  cases hf : fineB I ls
  · have Hf := hid hf
    clear hf
    obtain ⟨W0, hWb⟩ : ∃ W0, (w).alloc (.cells #[.int .i64 I, .slice A n c] 24) = W0 := ⟨_, rfl⟩
    have hbel : Below w.heap.size w W0 := by rw [← hWb]; exact (by repeat' (first | with_reducible assumption | with_reducible exact Below.refl _ _ | refine Below.alloc ?_ ?_ _ | refine Below.setCell ?_ ?_ _ | refine Below.drew ?_ | refine below_drewN ?_ _ | (simp; done) | (simp; omega) | omega))
    have hsz := hbel.size
    have bB : Blk W0 (w.heap.size) 24 #[.int .i64 I, .slice A n c] := by rw [← hWb]; exact Blk.new' rfl
    have pB0 := bB.cell 0
    have pB1 := bB.cell 1
    have lB := bB.lt
    have HL := hid (hl.below hbel hsz)
    clear hl
    go_enter Tryz.func8, Tryz.ntmps8
    go_wp2_with (fail)
    refine (fine_any A n c ls I _ (HL.out.below (by repeat' (first | with_reducible assumption | with_reducible exact Below.refl _ _ | refine Below.alloc ?_ ?_ _ | refine Below.setCell ?_ ?_ _ | refine Below.drew ?_ | refine below_drewN ?_ _ | (simp; done) | (simp; omega) | omega)) (by first | (simp; done) | (simp; omega) | omega))).mono ?_
    rw [Hf.out]
    rintro e W1 ⟨rfl, hb⟩
    have hst : Below W0.heap.size W0 W1 := Below.trans (by repeat' (first | with_reducible assumption | with_reducible exact Below.refl _ _ | refine Below.alloc ?_ ?_ _ | refine Below.setCell ?_ ?_ _ | refine Below.drew ?_ | refine below_drewN ?_ _ | (simp; done) | (simp; omega) | omega)) (hb.mono (by first | (simp; done) | (simp; omega) | omega))
    replace hbel := hbel.trans (hst.mono hsz)
    replace hsz := hbel.size
    replace bB := bB.below hst bB.lt
    clear pB0 pB1 lB
    have pB0 := bB.cell 0
    have pB1 := bB.cell 1
    have lB := bB.lt
    replace HL := hid (HL.out.below hst hst.size)
    clear hb hst
    try clear hWb
    obtain ⟨W0, rfl⟩ : ∃ W0 : World, W0 = W1 := ⟨_, rfl⟩
    go_wp2_with (fail)
    refine (works_any _).mono ?_
    rintro e W1 ⟨rfl, hb⟩
    have hst : Below W0.heap.size W0 W1 := Below.trans (by repeat' (first | with_reducible assumption | with_reducible exact Below.refl _ _ | refine Below.alloc ?_ ?_ _ | refine Below.setCell ?_ ?_ _ | refine Below.drew ?_ | refine below_drewN ?_ _ | (simp; done) | (simp; omega) | omega)) (hb.mono (by first | (simp; done) | (simp; omega) | omega))
    replace hbel := hbel.trans (hst.mono hsz)
    replace hsz := hbel.size
    replace bB := bB.below hst bB.lt
    clear pB0 pB1 lB
    have pB0 := bB.cell 0
    have pB1 := bB.cell 1
    have lB := bB.lt
    replace HL := hid (HL.out.below hst hst.size)
    clear hb hst
    try clear hWb
    obtain ⟨W0, rfl⟩ : ∃ W0 : World, W0 = W1 := ⟨_, rfl⟩
    go_wp2
    go_ret
    exact ⟨rfl, hbel⟩
  · obtain ⟨hg, hchk⟩ := fineB_t.1 hf
    obtain ⟨J, rfl, -, hJ1, hJ8, hln, hv, hv8⟩ := book_nat hchk
    have Hf := hid hf
    have Hc := hid hchk
    have hn : n ≤ 10 := by rw [← la.out]; exact hln
    have K2 : Hid (∀ l ∈ ls, l.length ≤ 1000000) := hid (fun l h => by have := isL_len8 (hv8 l h) (by omega); omega)
    have Hv := hid hv
    have Hv8 := hid hv8
    have Hla := hid hln
    obtain ⟨s, hs⟩ : ∃ s, listed b J = s := ⟨_, rfl⟩
    have hsl : isL (J : Int) 0 s = true := by rw [← hs]; exact isL_listed' _ _
    obtain ⟨f1, f2⟩ := tight_facts hchk hsl
    have hal := alL_eq hchk
    rw [Int.toNat_natCast] at hal
    have hak := hid (alK_true hchk)
    have hap := fun (i k : Nat) (x y : List Int) h1 h2 => anti_pair (i := i) (k := k) (a := x) (b := y) hJ8 hv h1 h2
    have hls := allR_isL8 hJ8 hv
    have hl70 := allR_len70 hJ8 hv
    obtain ⟨L, hL⟩ : ∃ v, allR J ls = v := ⟨_, rfl⟩
    rw [hL] at f1 f2 hal hap hls hl70
    have Hal := hid hal
    have Hap := hid hap
    have Hls := hid hls
    obtain ⟨e, he⟩ : ∃ v, blmE J ls s = v := ⟨_, rfl⟩
    obtain ⟨m, hm⟩ : ∃ v, blmV J ls s = v := ⟨_, rfl⟩
    obtain ⟨e3, he3⟩ : ∃ v, tgtE J ls s = v := ⟨_, rfl⟩
    obtain ⟨m3, hm3⟩ : ∃ v, tgtV J ls s = v := ⟨_, rfl⟩
    obtain ⟨t, ht⟩ : ∃ v, tigV J ls s = v := ⟨_, rfl⟩
    obtain ⟨hd, hhd⟩ : ∃ v, hldB L s = v := ⟨_, rfl⟩
    rw [he, he3, hhd] at f1
    rw [he, he3, hhd, ht] at f2
    have Hs := hid hs
    have He := hid he
    have Hm := hid hm
    have He3 := hid he3
    have Hm3 := hid hm3
    have Ht := hid ht
    have Hhd := hid hhd
    have Hsl := hid hsl
    have F1 := hid f1
    have F2 := hid f2
    have hs8 : s.length ≤ 8 := by rw [← hs]; exact Nat.le_trans (listed_len _ _) hJ8
    have hs80 : Hid (isL 8 0 s = true) := hid (isL_weak (by omega) hsl)
    clear hs he hm he3 hm3 ht hhd f1 f2 hal hap hls hL hsl
    clear hf hg hchk hv hv8 hln
    obtain ⟨W0, hWb⟩ : ∃ W0, (w).alloc (.cells #[.int .i64 (J : Int), .slice A n c] 24) = W0 := ⟨_, rfl⟩
    have hbel : Below w.heap.size w W0 := by rw [← hWb]; exact (by repeat' (first | with_reducible assumption | with_reducible exact Below.refl _ _ | refine Below.alloc ?_ ?_ _ | refine Below.setCell ?_ ?_ _ | refine Below.drew ?_ | refine below_drewN ?_ _ | (simp; done) | (simp; omega) | omega))
    have hsz := hbel.size
    have bB : Blk W0 (w.heap.size) 24 #[.int .i64 (J : Int), .slice A n c] := by rw [← hWb]; exact Blk.new' rfl
    have pB0 := bB.cell 0
    have pB1 := bB.cell 1
    have lB := bB.lt
    have HL := hid (hl.below hbel hsz)
    clear hl
    go_enter Tryz.func8, Tryz.ntmps8
    go_wp2_with (fail)
    refine (fine_any A n c ls J _ (HL.out.below (by repeat' (first | with_reducible assumption | with_reducible exact Below.refl _ _ | refine Below.alloc ?_ ?_ _ | refine Below.setCell ?_ ?_ _ | refine Below.drew ?_ | refine below_drewN ?_ _ | (simp; done) | (simp; omega) | omega)) (by first | (simp; done) | (simp; omega) | omega))).mono ?_
    rw [Hf.out]
    rintro e W1 ⟨rfl, hb⟩
    have hst : Below W0.heap.size W0 W1 := Below.trans (by repeat' (first | with_reducible assumption | with_reducible exact Below.refl _ _ | refine Below.alloc ?_ ?_ _ | refine Below.setCell ?_ ?_ _ | refine Below.drew ?_ | refine below_drewN ?_ _ | (simp; done) | (simp; omega) | omega)) (hb.mono (by first | (simp; done) | (simp; omega) | omega))
    replace hbel := hbel.trans (hst.mono hsz)
    replace hsz := hbel.size
    replace bB := bB.below hst bB.lt
    clear pB0 pB1 lB
    have pB0 := bB.cell 0
    have pB1 := bB.cell 1
    have lB := bB.lt
    replace HL := hid (HL.out.below hst hst.size)
    clear hb hst
    try clear hWb
    obtain ⟨W0, rfl⟩ : ∃ W0 : World, W0 = W1 := ⟨_, rfl⟩
    go_wp2_with (fail)
    refine (allL_any A n c ls J _ (HL.out.below (by repeat' (first | with_reducible assumption | with_reducible exact Below.refl _ _ | refine Below.alloc ?_ ?_ _ | refine Below.setCell ?_ ?_ _ | refine Below.drew ?_ | refine below_drewN ?_ _ | (simp; done) | (simp; omega) | omega)) (by first | (simp; done) | (simp; omega) | omega)) (by omega) K2.out).mono ?_
    rw [hak.out, Hal.out]
    rintro e W1 ⟨A1, m1, c1, rfl, h, hb⟩
    have hst : Below W0.heap.size W0 W1 := Below.trans (by repeat' (first | with_reducible assumption | with_reducible exact Below.refl _ _ | refine Below.alloc ?_ ?_ _ | refine Below.setCell ?_ ?_ _ | refine Below.drew ?_ | refine below_drewN ?_ _ | (simp; done) | (simp; omega) | omega)) (hb.mono (by first | (simp; done) | (simp; omega) | omega))
    replace hbel := hbel.trans (hst.mono hsz)
    replace hsz := hbel.size
    replace bB := bB.below hst bB.lt
    clear pB0 pB1 lB
    have pB0 := bB.cell 0
    have pB1 := bB.cell 1
    have lB := bB.lt
    replace HL := hid (HL.out.below hst hst.size)
    have HM := hid h
    clear h
    clear hb hst
    try clear hWb
    obtain ⟨W0, rfl⟩ : ∃ W0 : World, W0 = W1 := ⟨_, rfl⟩
    have hml : Hid (L.length = m1) := hid HM.out.1
    have hm70 : m1 ≤ 70 := by rw [← hml.out]; exact hl70
    clear hl70
    go_wp2_with (fail)
    refine (set_any A n c J b _ (by omega) hb).mono ?_
    rw [Hs.out]
    rintro e' W1 ⟨vS, rfl, ho, hb⟩
    obtain ⟨AS, cS, rfl, hs2, hcS, hs4⟩ := own_slb ho
    have hs3 : InS W1 W1.heap.size AS s.length s := hs2
    clear ho hs2
    have hst : Below W0.heap.size W0 W1 := Below.trans (by repeat' (first | with_reducible assumption | with_reducible exact Below.refl _ _ | refine Below.alloc ?_ ?_ _ | refine Below.setCell ?_ ?_ _ | refine Below.drew ?_ | refine below_drewN ?_ _ | (simp; done) | (simp; omega) | omega)) (hb.mono (by first | (simp; done) | (simp; omega) | omega))
    replace hbel := hbel.trans (hst.mono hsz)
    replace hsz := hbel.size
    replace bB := bB.below hst bB.lt
    clear pB0 pB1 lB
    have pB0 := bB.cell 0
    have pB1 := bB.cell 1
    have lB := bB.lt
    replace HL := hid (HL.out.below hst hst.size)
    replace HM := hid (HM.out.below hst hst.size)
    have HS := hid hs3
    clear hs3
    have HBS := hid hs4
    clear hs4
    clear hb hst
    try clear hWb
    obtain ⟨W0, rfl⟩ : ∃ W0 : World, W0 = W1 := ⟨_, rfl⟩
    go_wp2_with (fail)
    obtain ⟨X1, rfl⟩ : ∃ X : World, X = W0 := ⟨_, rfl⟩
    go_loopw [8, 9] (fun i j wr => ∃ a : Nat, a ≤ m1 ∧ i = .int .i64 a ∧ Below X1.heap.size X1 wr) (fun i j _ => m1 - (intOf i).toNat)
    case atStart => exact ⟨0, by omega, rfl, Below.refl _ _⟩
    case round =>
      obtain ⟨a, ha, rfl, hl1⟩ := hrel
      replace hbel := hbel.trans (hl1.mono hsz)
      replace hsz := hbel.size
      replace bB := bB.below hl1 bB.lt
      clear pB0 pB1 lB
      have pB0 := bB.cell 0
      have pB1 := bB.cell 1
      have lB := bB.lt
      replace HL := hid (HL.out.below hl1 hl1.size)
      replace HM := hid (HM.out.below hl1 hl1.size)
      replace HS := hid (HS.out.below hl1 hl1.size)
      replace HBS := hid (HBS.out.below hl1 hl1.size)
      obtain ⟨W0, rfl⟩ : ∃ W0 : World, W0 = wr := ⟨_, rfl⟩
      by_cases hlt : a < m1
      · have hlti : (a : Int) < m1 := by omega
        go_wp2_with (fail)
        obtain ⟨X2, rfl⟩ : ∃ X : World, X = W0 := ⟨_, rfl⟩
        go_loopw [9] (fun j wr => ∃ d : Nat, d ≤ m1 ∧ j = .int .i64 d ∧ Below X2.heap.size X2 wr) (fun j _ => m1 - (intOf j).toNat)
        case atStart => exact ⟨0, by omega, rfl, Below.refl _ _⟩
        case round =>
          obtain ⟨d, hd9, rfl, hl2⟩ := hrel
          replace hbel := hbel.trans (hl2.mono hsz)
          replace hsz := hbel.size
          replace hl1 := hl1.trans (hl2.mono hl1.size)
          replace bB := bB.below hl2 bB.lt
          clear pB0 pB1 lB
          have pB0 := bB.cell 0
          have pB1 := bB.cell 1
          have lB := bB.lt
          replace HL := hid (HL.out.below hl2 hl2.size)
          replace HM := hid (HM.out.below hl2 hl2.size)
          replace HS := hid (HS.out.below hl2 hl2.size)
          replace HBS := hid (HBS.out.below hl2 hl2.size)
          obtain ⟨W0, rfl⟩ : ∃ W0 : World, W0 = wr := ⟨_, rfl⟩
          by_cases hlt2 : d < m1
          · have hlti2 : (d : Int) < m1 := by omega
            by_cases hne : a = d
            · have t9 : ((a : Int) != (d : Int)) = false := by simp [hne]
              clear hne
              go_wp2_with (fail)
              refine wp_region_hd_all (fun W => Below W0.heap.size W0 W) (by kernel_rfl) (by kernel_rfl) ((Below.refl _ _).drew) ?_
              (refine wpHd_val (v := ?_) (by rfl) (fun W hW => ?_) ?_; rotate_left; (· obtain ⟨hcW, hfW⟩ := bcell hW; go_simp; with_reducible rfl); simp only [Act.put, List.setIfInBounds_toArray, List.set_cons_zero, List.set_cons_succ])
              (refine wpHd_val (v := ?_) (by rfl) (fun W hW => ?_) ?_; rotate_left; (· obtain ⟨hcW, hfW⟩ := bcell hW; go_simp; with_reducible rfl); simp only [Act.put, List.setIfInBounds_toArray, List.set_cons_zero, List.set_cons_succ])
              (refine wpHd_val (v := ?_) (by rfl) (fun W hW => ?_) ?_; rotate_left; (· obtain ⟨hcW, hfW⟩ := bcell hW; go_simp; with_reducible rfl); simp only [Act.put, List.setIfInBounds_toArray, List.set_cons_zero, List.set_cons_succ])
              (refine wpHd_val (v := ?_) (by rfl) (fun W hW => ?_) ?_; rotate_left; (· obtain ⟨hcW, hfW⟩ := bcell hW; go_simp; with_reducible rfl); simp only [Act.put, List.setIfInBounds_toArray, List.set_cons_zero, List.set_cons_succ])
              (refine wpHd_not (by rfl) ?_; simp only [Act.put, List.setIfInBounds_toArray, List.set_cons_zero, List.set_cons_succ])
              (refine wpHd_not (by rfl) ?_; simp only [Act.put, List.setIfInBounds_toArray, List.set_cons_zero, List.set_cons_succ])
              (refine wpHd_not (by rfl) ?_; simp only [Act.put, List.setIfInBounds_toArray, List.set_cons_zero, List.set_cons_succ])
              (refine wpHd_not (by rfl) ?_; simp only [Act.put, List.setIfInBounds_toArray, List.set_cons_zero, List.set_cons_succ])
              (refine wpHd_not (by rfl) ?_; simp only [Act.put, List.setIfInBounds_toArray, List.set_cons_zero, List.set_cons_succ])
              (refine wpHd_not (by rfl) ?_; simp only [Act.put, List.setIfInBounds_toArray, List.set_cons_zero, List.set_cons_succ])
              (refine wpHd_not (by rfl) ?_; simp only [Act.put, List.setIfInBounds_toArray, List.set_cons_zero, List.set_cons_succ])
              (refine wpHd_not (by rfl) ?_; simp only [Act.put, List.setIfInBounds_toArray, List.set_cons_zero, List.set_cons_succ])
              (refine wpHd_not (by rfl) ?_; simp only [Act.put, List.setIfInBounds_toArray, List.set_cons_zero, List.set_cons_succ])
              (refine wpHd_not (by rfl) ?_; simp only [Act.put, List.setIfInBounds_toArray, List.set_cons_zero, List.set_cons_succ])
              (refine wpHd_not (by rfl) ?_; simp only [Act.put, List.setIfInBounds_toArray, List.set_cons_zero, List.set_cons_succ])
              (refine wpHd_not (by rfl) ?_; simp only [Act.put, List.setIfInBounds_toArray, List.set_cons_zero, List.set_cons_succ])
              (refine wpHd_not (by rfl) ?_; simp only [Act.put, List.setIfInBounds_toArray, List.set_cons_zero, List.set_cons_succ])
              (refine wpHd_not (by rfl) ?_; simp only [Act.put, List.setIfInBounds_toArray, List.set_cons_zero, List.set_cons_succ])
              (refine wpHd_not (by rfl) ?_; simp only [Act.put, List.setIfInBounds_toArray, List.set_cons_zero, List.set_cons_succ])
              (refine wpHd_not (by rfl) ?_; simp only [Act.put, List.setIfInBounds_toArray, List.set_cons_zero, List.set_cons_succ])
              (refine wpHd_not (by rfl) ?_; simp only [Act.put, List.setIfInBounds_toArray, List.set_cons_zero, List.set_cons_succ])
              (refine wpHd_val (v := ?_) (by rfl) (fun W hW => ?_) ?_; rotate_left; (· obtain ⟨hcW, hfW⟩ := bcell hW; go_simp; with_reducible rfl); simp only [Act.put, List.setIfInBounds_toArray, List.set_cons_zero, List.set_cons_succ])
              refine wpHd_nil ?_
              intro W1 hb
              replace hbel := hbel.trans (hb.mono hsz)
              replace hsz := hbel.size
              replace hl1 := hl1.trans (hb.mono hl1.size)
              replace hl2 := hl2.trans (hb.mono hl2.size)
              replace bB := bB.below hb bB.lt
              clear pB0 pB1 lB
              have pB0 := bB.cell 0
              have pB1 := bB.cell 1
              have lB := bB.lt
              replace HL := hid (HL.out.below hb hb.size)
              replace HM := hid (HM.out.below hb hb.size)
              replace HS := hid (HS.out.below hb hb.size)
              replace HBS := hid (HBS.out.below hb hb.size)
              clear hb
              try clear hWb
              obtain ⟨W0, rfl⟩ : ∃ W0 : World, W0 = W1 := ⟨_, rfl⟩
              go_wp2
              exact ⟨⟨d + 1, by omega, by go_num, hl2⟩, by simp [intOf]; omega⟩
            · have t9 : ((a : Int) != (d : Int)) = true := by simp; omega
              obtain ⟨b1, o1, x, A3, m3x, c3, rfl, hb1, hx, q0, hin3⟩ := HM.out.at_ hlt
              obtain ⟨b2, o2, y, A4, m4x, c4, h2e, hb2, hy, r0, hin4⟩ := HM.out.at_ hlt2
              cases h2e
              have hxv := Hls.out x (List.mem_of_getElem? hx)
              have hyv := Hls.out y (List.mem_of_getElem? hy)
              have hap := Hap.out _ _ _ _ hx hy hne
              have bx8 := bits8 hxv
              have by8 := bits8 hyv
              have hx3 := isL_len8 hxv (by omega)
              have hy3 := isL_len8 hyv (by omega)
              have lx := hin3.len
              have ly := hin4.len
              have HX := hid (fun W h => rbits_any A3 m3x c3 x W h (by omega) (fun z hz => by have := isL_bd hxv z hz; omega))
              have HY := hid (fun W h => rbits_any A4 m4x c4 y W h (by omega) (fun z hz => by have := isL_bd hyv z hz; omega))
              obtain ⟨bx, hbx⟩ : ∃ v, bitsL x = v := ⟨_, rfl⟩
              obtain ⟨bz, hbz⟩ : ∃ v, bitsL y = v := ⟨_, rfl⟩
              rw [hbx] at HX hap bx8
              rw [hbz] at HY hap by8
              have hand := bits_and_i64_nat bx bz (by omega) (by omega)
              have heq : (((bx &&& bz : Nat) : Int) == (bx : Int)) = false := by rw [beq_eq_false_iff_ne] at hap ⊢; omega
              have Hin3 := hid hin3
              have Hin4 := hid hin4
              have ha0 : (0 : Int) ≤ a := by omega
              have hd0 : (0 : Int) ≤ d := by omega
              clear hxv hyv hap hbx hbz hx hy hx3 hy3 lx ly hin3 hin4 hne
              go_wp2_with (fail)
              refine wp_region_hd_all (fun W => Below W0.heap.size W0 W) (by kernel_rfl) (by kernel_rfl) ((Below.refl _ _).drew) ?_
              (refine wpHd_val (v := ?_) (by rfl) (fun W hW => ?_) ?_; rotate_left; (· obtain ⟨hcW, hfW⟩ := bcell hW; go_simp; with_reducible rfl); simp only [Act.put, List.setIfInBounds_toArray, List.set_cons_zero, List.set_cons_succ])
              (refine wpHd_val (v := ?_) (by rfl) (fun W hW => ?_) ?_; rotate_left; (· obtain ⟨hcW, hfW⟩ := bcell hW; go_simp; with_reducible rfl); simp only [Act.put, List.setIfInBounds_toArray, List.set_cons_zero, List.set_cons_succ])
              (refine wpHd_val (v := ?_) (by rfl) (fun W hW => ?_) ?_; rotate_left; (· obtain ⟨hcW, hfW⟩ := bcell hW; go_simp; with_reducible rfl); simp only [Act.put, List.setIfInBounds_toArray, List.set_cons_zero, List.set_cons_succ])
              (refine wpHd_val (v := ?_) (by rfl) (fun W hW => ?_) ?_; rotate_left; (· obtain ⟨hcW, hfW⟩ := bcell hW; go_simp; with_reducible rfl); simp only [Act.put, List.setIfInBounds_toArray, List.set_cons_zero, List.set_cons_succ])
              (refine wpHd_val (v := ?_) (by rfl) (fun W hW => ?_) ?_; rotate_left; (· obtain ⟨hcW, hfW⟩ := bcell hW; go_simp; with_reducible rfl); simp only [Act.put, List.setIfInBounds_toArray, List.set_cons_zero, List.set_cons_succ])
              (refine wpHd_val (v := ?_) (by rfl) (fun W hW => ?_) ?_; rotate_left; (· obtain ⟨hcW, hfW⟩ := bcell hW; go_simp; with_reducible rfl); simp only [Act.put, List.setIfInBounds_toArray, List.set_cons_zero, List.set_cons_succ])
              (refine wpHd_val (v := ?_) (by rfl) (fun W hW => ?_) ?_; rotate_left; (· obtain ⟨hcW, hfW⟩ := bcell hW; go_simp; with_reducible rfl); simp only [Act.put, List.setIfInBounds_toArray, List.set_cons_zero, List.set_cons_succ])
              (refine wpHd_val (v := ?_) (by rfl) (fun W hW => ?_) ?_; rotate_left; (· obtain ⟨hcW, hfW⟩ := bcell hW; go_simp; with_reducible rfl); simp only [Act.put, List.setIfInBounds_toArray, List.set_cons_zero, List.set_cons_succ])
              (refine wpHd_callB (by rfl) (fun W hW => ((HX.out W (Hin3.out.below hW hW.size)).mono fun _ _ h => ⟨h.1, h.2 ▸ Below.refl _ _⟩)) (fun W hW => ?_) ?_; (· obtain ⟨hcW, hfW⟩ := bcell hW; go_simp); simp only [Act.put, List.setIfInBounds_toArray, List.set_cons_zero, List.set_cons_succ])
              (refine wpHd_val (v := ?_) (by rfl) (fun W hW => ?_) ?_; rotate_left; (· obtain ⟨hcW, hfW⟩ := bcell hW; go_simp; with_reducible rfl); simp only [Act.put, List.setIfInBounds_toArray, List.set_cons_zero, List.set_cons_succ])
              (refine wpHd_val (v := ?_) (by rfl) (fun W hW => ?_) ?_; rotate_left; (· obtain ⟨hcW, hfW⟩ := bcell hW; go_simp; with_reducible rfl); simp only [Act.put, List.setIfInBounds_toArray, List.set_cons_zero, List.set_cons_succ])
              (refine wpHd_val (v := ?_) (by rfl) (fun W hW => ?_) ?_; rotate_left; (· obtain ⟨hcW, hfW⟩ := bcell hW; go_simp; with_reducible rfl); simp only [Act.put, List.setIfInBounds_toArray, List.set_cons_zero, List.set_cons_succ])
              (refine wpHd_val (v := ?_) (by rfl) (fun W hW => ?_) ?_; rotate_left; (· obtain ⟨hcW, hfW⟩ := bcell hW; go_simp; with_reducible rfl); simp only [Act.put, List.setIfInBounds_toArray, List.set_cons_zero, List.set_cons_succ])
              (refine wpHd_callB (by rfl) (fun W hW => ((HY.out W (Hin4.out.below hW hW.size)).mono fun _ _ h => ⟨h.1, h.2 ▸ Below.refl _ _⟩)) (fun W hW => ?_) ?_; (· obtain ⟨hcW, hfW⟩ := bcell hW; go_simp); simp only [Act.put, List.setIfInBounds_toArray, List.set_cons_zero, List.set_cons_succ])
              (refine wpHd_val (v := ?_) (by rfl) (fun W hW => ?_) ?_; rotate_left; (· obtain ⟨hcW, hfW⟩ := bcell hW; go_simp; with_reducible rfl); simp only [Act.put, List.setIfInBounds_toArray, List.set_cons_zero, List.set_cons_succ])
              (refine wpHd_val (v := ?_) (by rfl) (fun W hW => ?_) ?_; rotate_left; (· obtain ⟨hcW, hfW⟩ := bcell hW; go_simp; with_reducible rfl); simp only [Act.put, List.setIfInBounds_toArray, List.set_cons_zero, List.set_cons_succ])
              (refine wpHd_val (v := ?_) (by rfl) (fun W hW => ?_) ?_; rotate_left; (· obtain ⟨hcW, hfW⟩ := bcell hW; go_simp; with_reducible rfl); simp only [Act.put, List.setIfInBounds_toArray, List.set_cons_zero, List.set_cons_succ])
              (refine wpHd_val (v := ?_) (by rfl) (fun W hW => ?_) ?_; rotate_left; (· obtain ⟨hcW, hfW⟩ := bcell hW; go_simp; with_reducible rfl); simp only [Act.put, List.setIfInBounds_toArray, List.set_cons_zero, List.set_cons_succ])
              (refine wpHd_val (v := ?_) (by rfl) (fun W hW => ?_) ?_; rotate_left; (· obtain ⟨hcW, hfW⟩ := bcell hW; go_simp; with_reducible rfl); simp only [Act.put, List.setIfInBounds_toArray, List.set_cons_zero, List.set_cons_succ])
              (refine wpHd_callB (by rfl) (fun W hW => ((HX.out W (Hin3.out.below hW hW.size)).mono fun _ _ h => ⟨h.1, h.2 ▸ Below.refl _ _⟩)) (fun W hW => ?_) ?_; (· obtain ⟨hcW, hfW⟩ := bcell hW; go_simp); simp only [Act.put, List.setIfInBounds_toArray, List.set_cons_zero, List.set_cons_succ])
              (refine wpHd_val (v := ?_) (by rfl) (fun W hW => ?_) ?_; rotate_left; (· obtain ⟨hcW, hfW⟩ := bcell hW; go_simp; with_reducible rfl); simp only [Act.put, List.setIfInBounds_toArray, List.set_cons_zero, List.set_cons_succ])
              (refine wpHd_val (v := ?_) (by rfl) (fun W hW => ?_) ?_; rotate_left; (· obtain ⟨hcW, hfW⟩ := bcell hW; go_simp; with_reducible rfl); simp only [Act.put, List.setIfInBounds_toArray, List.set_cons_zero, List.set_cons_succ])
              refine wpHd_nil ?_
              intro W1 hb
              replace hbel := hbel.trans (hb.mono hsz)
              replace hsz := hbel.size
              replace hl1 := hl1.trans (hb.mono hl1.size)
              replace hl2 := hl2.trans (hb.mono hl2.size)
              replace bB := bB.below hb bB.lt
              clear pB0 pB1 lB
              have pB0 := bB.cell 0
              have pB1 := bB.cell 1
              have lB := bB.lt
              replace HL := hid (HL.out.below hb hb.size)
              replace HM := hid (HM.out.below hb hb.size)
              replace HS := hid (HS.out.below hb hb.size)
              replace HBS := hid (HBS.out.below hb hb.size)
              clear hb
              try clear hWb
              obtain ⟨W0, rfl⟩ : ∃ W0 : World, W0 = W1 := ⟨_, rfl⟩
              clear q0 r0
              go_wp2
              exact ⟨⟨d + 1, by omega, by go_num, hl2⟩, by simp [intOf]; omega⟩
          · have hdm : d = m1 := by omega
            have hlti2 : ¬ (d : Int) < m1 := by omega
            clear hdm hlt2 hd9
            go_wp2
            exact ⟨⟨a + 1, by omega, by go_num, hl1⟩, by simp [intOf]; omega⟩
      · have ham : a = m1 := by omega
        have hlti : ¬ (a : Int) < m1 := by omega
        clear ham hlt ha
        go_wp2_with (fail)
        refine (tight_any A AS n c s.length cS ls s J _ (HL.out.below (by repeat' (first | with_reducible assumption | with_reducible exact Below.refl _ _ | refine Below.alloc ?_ ?_ _ | refine Below.setCell ?_ ?_ _ | refine Below.drew ?_ | refine below_drewN ?_ _ | (simp; done) | (simp; omega) | omega)) (by first | (simp; done) | (simp; omega) | omega)) (HS.out.below (by repeat' (first | with_reducible assumption | with_reducible exact Below.refl _ _ | refine Below.alloc ?_ ?_ _ | refine Below.setCell ?_ ?_ _ | refine Below.drew ?_ | refine below_drewN ?_ _ | (simp; done) | (simp; omega) | omega)) (by first | (simp; done) | (simp; omega) | omega)) (by omega) K2.out (by omega) (HBS.out.below (by repeat' (first | with_reducible assumption | with_reducible exact Below.refl _ _ | refine Below.alloc ?_ ?_ _ | refine Below.setCell ?_ ?_ _ | refine Below.drew ?_ | refine below_drewN ?_ _ | (simp; done) | (simp; omega) | omega)) (by first | (simp; done) | (simp; omega) | omega))).mono ?_
        rw [He.out, Ht.out]
        rintro e W1 ⟨At, mt, ct, rfl, -, h, hb⟩
        have hst : Below W0.heap.size W0 W1 := Below.trans (by repeat' (first | with_reducible assumption | with_reducible exact Below.refl _ _ | refine Below.alloc ?_ ?_ _ | refine Below.setCell ?_ ?_ _ | refine Below.drew ?_ | refine below_drewN ?_ _ | (simp; done) | (simp; omega) | omega)) (hb.mono (by first | (simp; done) | (simp; omega) | omega))
        replace hbel := hbel.trans (hst.mono hsz)
        replace hsz := hbel.size
        replace hl1 := hl1.trans (hst.mono hl1.size)
        replace bB := bB.below hst bB.lt
        clear pB0 pB1 lB
        have pB0 := bB.cell 0
        have pB1 := bB.cell 1
        have lB := bB.lt
        replace HL := hid (HL.out.below hst hst.size)
        replace HM := hid (HM.out.below hst hst.size)
        replace HS := hid (HS.out.below hst hst.size)
        replace HBS := hid (HBS.out.below hst hst.size)
        have HT := hid h
        clear h
        clear hb hst
        try clear hWb
        obtain ⟨W0, rfl⟩ : ∃ W0 : World, W0 = W1 := ⟨_, rfl⟩
        go_wp2_with (fail)
        refine (checkBlame_any A AS n c s.length cS ls s J _ (HL.out.below (by repeat' (first | with_reducible assumption | with_reducible exact Below.refl _ _ | refine Below.alloc ?_ ?_ _ | refine Below.setCell ?_ ?_ _ | refine Below.drew ?_ | refine below_drewN ?_ _ | (simp; done) | (simp; omega) | omega)) (by first | (simp; done) | (simp; omega) | omega)) (HS.out.below (by repeat' (first | with_reducible assumption | with_reducible exact Below.refl _ _ | refine Below.alloc ?_ ?_ _ | refine Below.setCell ?_ ?_ _ | refine Below.drew ?_ | refine below_drewN ?_ _ | (simp; done) | (simp; omega) | omega)) (by first | (simp; done) | (simp; omega) | omega)) (by omega) K2.out (by omega)).mono ?_
        rw [He.out, Hm.out]
        rintro e W1 ⟨rfl, hb⟩
        have hst : Below W0.heap.size W0 W1 := Below.trans (by repeat' (first | with_reducible assumption | with_reducible exact Below.refl _ _ | refine Below.alloc ?_ ?_ _ | refine Below.setCell ?_ ?_ _ | refine Below.drew ?_ | refine below_drewN ?_ _ | (simp; done) | (simp; omega) | omega)) (hb.mono (by first | (simp; done) | (simp; omega) | omega))
        replace hbel := hbel.trans (hst.mono hsz)
        replace hsz := hbel.size
        replace hl1 := hl1.trans (hst.mono hl1.size)
        replace bB := bB.below hst bB.lt
        clear pB0 pB1 lB
        have pB0 := bB.cell 0
        have pB1 := bB.cell 1
        have lB := bB.lt
        replace HL := hid (HL.out.below hst hst.size)
        replace HM := hid (HM.out.below hst hst.size)
        replace HS := hid (HS.out.below hst hst.size)
        replace HBS := hid (HBS.out.below hst hst.size)
        replace HT := hid (HT.out.below hst hst.size)
        clear hb hst
        try clear hWb
        obtain ⟨W0, rfl⟩ : ∃ W0 : World, W0 = W1 := ⟨_, rfl⟩
        go_wp2_with (fail)
        refine (checkTight_any A AS n c s.length cS ls s J _ (HL.out.below (by repeat' (first | with_reducible assumption | with_reducible exact Below.refl _ _ | refine Below.alloc ?_ ?_ _ | refine Below.setCell ?_ ?_ _ | refine Below.drew ?_ | refine below_drewN ?_ _ | (simp; done) | (simp; omega) | omega)) (by first | (simp; done) | (simp; omega) | omega)) (HS.out.below (by repeat' (first | with_reducible assumption | with_reducible exact Below.refl _ _ | refine Below.alloc ?_ ?_ _ | refine Below.setCell ?_ ?_ _ | refine Below.drew ?_ | refine below_drewN ?_ _ | (simp; done) | (simp; omega) | omega)) (by first | (simp; done) | (simp; omega) | omega)) (by omega) K2.out (by omega)).mono ?_
        rw [He3.out, Hm3.out]
        rintro e W1 ⟨rfl, hb⟩
        have hst : Below W0.heap.size W0 W1 := Below.trans (by repeat' (first | with_reducible assumption | with_reducible exact Below.refl _ _ | refine Below.alloc ?_ ?_ _ | refine Below.setCell ?_ ?_ _ | refine Below.drew ?_ | refine below_drewN ?_ _ | (simp; done) | (simp; omega) | omega)) (hb.mono (by first | (simp; done) | (simp; omega) | omega))
        replace hbel := hbel.trans (hst.mono hsz)
        replace hsz := hbel.size
        replace hl1 := hl1.trans (hst.mono hl1.size)
        replace bB := bB.below hst bB.lt
        clear pB0 pB1 lB
        have pB0 := bB.cell 0
        have pB1 := bB.cell 1
        have lB := bB.lt
        replace HL := hid (HL.out.below hst hst.size)
        replace HM := hid (HM.out.below hst hst.size)
        replace HS := hid (HS.out.below hst hst.size)
        replace HBS := hid (HBS.out.below hst hst.size)
        replace HT := hid (HT.out.below hst hst.size)
        clear hb hst
        try clear hWb
        obtain ⟨W0, rfl⟩ : ∃ W0 : World, W0 = W1 := ⟨_, rfl⟩
        go_wp2_with (fail)
        refine (rholds_any A1 AS m1 c1 s.length cS L s _ (HM.out.below (by repeat' (first | with_reducible assumption | with_reducible exact Below.refl _ _ | refine Below.alloc ?_ ?_ _ | refine Below.setCell ?_ ?_ _ | refine Below.drew ?_ | refine below_drewN ?_ _ | (simp; done) | (simp; omega) | omega)) (by first | (simp; done) | (simp; omega) | omega)) (HS.out.below (by repeat' (first | with_reducible assumption | with_reducible exact Below.refl _ _ | refine Below.alloc ?_ ?_ _ | refine Below.setCell ?_ ?_ _ | refine Below.drew ?_ | refine below_drewN ?_ _ | (simp; done) | (simp; omega) | omega)) (by first | (simp; done) | (simp; omega) | omega)) (by omega) Hls.out hs80.out).mono ?_
        rw [Hhd.out]
        rintro e W1 ⟨rfl, hb⟩
        have hst : Below W0.heap.size W0 W1 := Below.trans (by repeat' (first | with_reducible assumption | with_reducible exact Below.refl _ _ | refine Below.alloc ?_ ?_ _ | refine Below.setCell ?_ ?_ _ | refine Below.drew ?_ | refine below_drewN ?_ _ | (simp; done) | (simp; omega) | omega)) (hb.mono (by first | (simp; done) | (simp; omega) | omega))
        replace hbel := hbel.trans (hst.mono hsz)
        replace hsz := hbel.size
        replace hl1 := hl1.trans (hst.mono hl1.size)
        replace bB := bB.below hst bB.lt
        clear pB0 pB1 lB
        have pB0 := bB.cell 0
        have pB1 := bB.cell 1
        have lB := bB.lt
        replace HL := hid (HL.out.below hst hst.size)
        replace HM := hid (HM.out.below hst hst.size)
        replace HS := hid (HS.out.below hst hst.size)
        replace HBS := hid (HBS.out.below hst hst.size)
        replace HT := hid (HT.out.below hst hst.size)
        clear hb hst
        try clear hWb
        obtain ⟨W0, rfl⟩ : ∃ W0 : World, W0 = W1 := ⟨_, rfl⟩
        by_cases z : e = 0
        · obtain ⟨g1, g2, g3, g4, g5, g6⟩ := F2.out z
          have te : (e != 0) = false := by simp [z]
          subst g2
          have G1 := hid g1
          have g68 := isL_weak (below' := 8) (by omega) g6
          have G6 := hid g68
          have bt8 := bits8 g68
          have bs8 := bits8 hs80.out
          have lt8 := isL_len8 g68 (by omega)
          have lht := HT.out.len
          have HX := hid (fun W h => rbits_any At mt ct t W h (by omega) (fun z hz => by have := isL_bd g68 z hz; omega))
          have HY := hid (fun W h => rbits_any AS s.length cS s W h (by omega) (fun z hz => by have := isL_bd hs80.out z hz; omega))
          obtain ⟨bx, hbx⟩ : ∃ v, bitsL t = v := ⟨_, rfl⟩
          obtain ⟨bz, hbz⟩ : ∃ v, bitsL s = v := ⟨_, rfl⟩
          rw [hbx] at HX bt8 g3
          rw [hbz] at HY bs8 g3
          have hand := bits_and_i64_nat bx bz (by omega) (by omega)
          rw [g3] at hand
          obtain ⟨kt, hkt, hke⟩ := List.getElem?_of_mem g4 |> fun ⟨i, hi⟩ => (⟨i, (List.getElem?_eq_some_iff.1 hi).1, hi⟩ : ∃ i, i < L.length ∧ L[i]? = some t)
          have hkm : kt < m1 := by rw [← hml.out]; exact hkt
          have Hke := hid hke
          obtain ⟨qq, hqq⟩ : ∃ v, eqI t s = v := ⟨_, rfl⟩
          rw [hqq] at g5
          have Hqq := hid hqq
          have hz9 := z
          have mt8 : mt ≤ 8 := by omega
          clear g1 g3 g4 g6 g68 hbx hbz hkt hke hqq lt8 lht
          go_wp2_with (fail)
          refine (rcheckTight_any A At n c mt ct ls t J _ (HL.out.below (by repeat' (first | with_reducible assumption | with_reducible exact Below.refl _ _ | refine Below.alloc ?_ ?_ _ | refine Below.setCell ?_ ?_ _ | refine Below.drew ?_ | refine below_drewN ?_ _ | (simp; done) | (simp; omega) | omega)) (by first | (simp; done) | (simp; omega) | omega)) (HT.out.below (by repeat' (first | with_reducible assumption | with_reducible exact Below.refl _ _ | refine Below.alloc ?_ ?_ _ | refine Below.setCell ?_ ?_ _ | refine Below.drew ?_ | refine below_drewN ?_ _ | (simp; done) | (simp; omega) | omega)) (by first | (simp; done) | (simp; omega) | omega)) (by omega) K2.out (by omega)).mono ?_
          rw [G1.out]
          rintro e W1 ⟨rfl, hb⟩
          have hst : Below W0.heap.size W0 W1 := Below.trans (by repeat' (first | with_reducible assumption | with_reducible exact Below.refl _ _ | refine Below.alloc ?_ ?_ _ | refine Below.setCell ?_ ?_ _ | refine Below.drew ?_ | refine below_drewN ?_ _ | (simp; done) | (simp; omega) | omega)) (hb.mono (by first | (simp; done) | (simp; omega) | omega))
          replace hbel := hbel.trans (hst.mono hsz)
          replace hsz := hbel.size
          replace hl1 := hl1.trans (hst.mono hl1.size)
          replace bB := bB.below hst bB.lt
          clear pB0 pB1 lB
          have pB0 := bB.cell 0
          have pB1 := bB.cell 1
          have lB := bB.lt
          replace HL := hid (HL.out.below hst hst.size)
          replace HM := hid (HM.out.below hst hst.size)
          replace HS := hid (HS.out.below hst hst.size)
          replace HBS := hid (HBS.out.below hst hst.size)
          replace HT := hid (HT.out.below hst hst.size)
          clear hb hst
          try clear hWb
          obtain ⟨W0, rfl⟩ : ∃ W0 : World, W0 = W1 := ⟨_, rfl⟩
          go_wp2_with (fail)
          refine (toB (HX.out _ (HT.out.below (by repeat' (first | with_reducible assumption | with_reducible exact Below.refl _ _ | refine Below.alloc ?_ ?_ _ | refine Below.setCell ?_ ?_ _ | refine Below.drew ?_ | refine below_drewN ?_ _ | (simp; done) | (simp; omega) | omega)) (by first | (simp; done) | (simp; omega) | omega)))).mono ?_
          rintro e W1 ⟨rfl, hb⟩
          have hst : Below W0.heap.size W0 W1 := Below.trans (by repeat' (first | with_reducible assumption | with_reducible exact Below.refl _ _ | refine Below.alloc ?_ ?_ _ | refine Below.setCell ?_ ?_ _ | refine Below.drew ?_ | refine below_drewN ?_ _ | (simp; done) | (simp; omega) | omega)) (hb.mono (by first | (simp; done) | (simp; omega) | omega))
          replace hbel := hbel.trans (hst.mono hsz)
          replace hsz := hbel.size
          replace hl1 := hl1.trans (hst.mono hl1.size)
          replace bB := bB.below hst bB.lt
          clear pB0 pB1 lB
          have pB0 := bB.cell 0
          have pB1 := bB.cell 1
          have lB := bB.lt
          replace HL := hid (HL.out.below hst hst.size)
          replace HM := hid (HM.out.below hst hst.size)
          replace HS := hid (HS.out.below hst hst.size)
          replace HBS := hid (HBS.out.below hst hst.size)
          replace HT := hid (HT.out.below hst hst.size)
          clear hb hst
          try clear hWb
          obtain ⟨W0, rfl⟩ : ∃ W0 : World, W0 = W1 := ⟨_, rfl⟩
          go_wp2_with (fail)
          refine (toB (HY.out _ (HS.out.below (by repeat' (first | with_reducible assumption | with_reducible exact Below.refl _ _ | refine Below.alloc ?_ ?_ _ | refine Below.setCell ?_ ?_ _ | refine Below.drew ?_ | refine below_drewN ?_ _ | (simp; done) | (simp; omega) | omega)) (by first | (simp; done) | (simp; omega) | omega)))).mono ?_
          rintro e W1 ⟨rfl, hb⟩
          have hst : Below W0.heap.size W0 W1 := Below.trans (by repeat' (first | with_reducible assumption | with_reducible exact Below.refl _ _ | refine Below.alloc ?_ ?_ _ | refine Below.setCell ?_ ?_ _ | refine Below.drew ?_ | refine below_drewN ?_ _ | (simp; done) | (simp; omega) | omega)) (hb.mono (by first | (simp; done) | (simp; omega) | omega))
          replace hbel := hbel.trans (hst.mono hsz)
          replace hsz := hbel.size
          replace hl1 := hl1.trans (hst.mono hl1.size)
          replace bB := bB.below hst bB.lt
          clear pB0 pB1 lB
          have pB0 := bB.cell 0
          have pB1 := bB.cell 1
          have lB := bB.lt
          replace HL := hid (HL.out.below hst hst.size)
          replace HM := hid (HM.out.below hst hst.size)
          replace HS := hid (HS.out.below hst hst.size)
          replace HBS := hid (HBS.out.below hst hst.size)
          replace HT := hid (HT.out.below hst hst.size)
          clear hb hst
          try clear hWb
          obtain ⟨W0, rfl⟩ : ∃ W0 : World, W0 = W1 := ⟨_, rfl⟩
          go_wp2_with (fail)
          refine (toB (HX.out _ (HT.out.below (by repeat' (first | with_reducible assumption | with_reducible exact Below.refl _ _ | refine Below.alloc ?_ ?_ _ | refine Below.setCell ?_ ?_ _ | refine Below.drew ?_ | refine below_drewN ?_ _ | (simp; done) | (simp; omega) | omega)) (by first | (simp; done) | (simp; omega) | omega)))).mono ?_
          rintro e W1 ⟨rfl, hb⟩
          have hst : Below W0.heap.size W0 W1 := Below.trans (by repeat' (first | with_reducible assumption | with_reducible exact Below.refl _ _ | refine Below.alloc ?_ ?_ _ | refine Below.setCell ?_ ?_ _ | refine Below.drew ?_ | refine below_drewN ?_ _ | (simp; done) | (simp; omega) | omega)) (hb.mono (by first | (simp; done) | (simp; omega) | omega))
          replace hbel := hbel.trans (hst.mono hsz)
          replace hsz := hbel.size
          replace hl1 := hl1.trans (hst.mono hl1.size)
          replace bB := bB.below hst bB.lt
          clear pB0 pB1 lB
          have pB0 := bB.cell 0
          have pB1 := bB.cell 1
          have lB := bB.lt
          replace HL := hid (HL.out.below hst hst.size)
          replace HM := hid (HM.out.below hst hst.size)
          replace HS := hid (HS.out.below hst hst.size)
          replace HBS := hid (HBS.out.below hst hst.size)
          replace HT := hid (HT.out.below hst hst.size)
          clear hb hst
          try clear hWb
          obtain ⟨W0, rfl⟩ : ∃ W0 : World, W0 = W1 := ⟨_, rfl⟩
          go_wp2_with (fail)
          obtain ⟨X3, rfl⟩ : ∃ X : World, X = W0 := ⟨_, rfl⟩
          go_loopw [19, 20] (fun f i wr => ∃ a : Nat, a ≤ m1 ∧ i = .int .i64 a ∧ f = .bool (decide (kt < a)) ∧ Below X3.heap.size X3 wr) (fun f i _ => m1 - (intOf i).toNat)
          case atStart => exact ⟨0, by omega, rfl, by simp, Below.refl _ _⟩
          case round =>
            obtain ⟨a, ha, rfl, rfl, hl3⟩ := hrel
            replace hbel := hbel.trans (hl3.mono hsz)
            replace hsz := hbel.size
            replace hl1 := hl1.trans (hl3.mono hl1.size)
            replace bB := bB.below hl3 bB.lt
            clear pB0 pB1 lB
            have pB0 := bB.cell 0
            have pB1 := bB.cell 1
            have lB := bB.lt
            replace HL := hid (HL.out.below hl3 hl3.size)
            replace HM := hid (HM.out.below hl3 hl3.size)
            replace HS := hid (HS.out.below hl3 hl3.size)
            replace HBS := hid (HBS.out.below hl3 hl3.size)
            replace HT := hid (HT.out.below hl3 hl3.size)
            obtain ⟨W0, rfl⟩ : ∃ W0 : World, W0 = wr := ⟨_, rfl⟩
            by_cases hlt : a < m1
            · have hlti : (a : Int) < m1 := by omega
              have ha0 : (0 : Int) ≤ a := by omega
              by_cases hp : kt < a
              · have tp : decide (kt < a) = true := decide_eq_true hp
                have Tp2 : Hid (decide (kt < a + 1) = true) := hid (decide_eq_true (by omega))
                rw [tp]
                clear hp tp
                go_wp2
                exact ⟨⟨a + 1, by omega, by go_num, by rw [Tp2.out], hl3⟩, by simp [intOf]; omega⟩
              · have tp : decide (kt < a) = false := decide_eq_false hp
                obtain ⟨b1, o1, x, A3, m3x, c3, rfl, hb1, hx, q0, hin3⟩ := HM.out.at_ hlt
                have hxv := Hls.out x (List.mem_of_getElem? hx)
                have hx3 := isL_len8 hxv (by omega)
                have lx := hin3.len
                have hq : eqI x t = true → kt < a + 1 := fun h => by
                  by_cases h9 : kt = a
                  · omega
                  · exfalso
                    have h8 := Hap.out _ _ _ _ hx Hke.out (fun e => h9 e.symm)
                    rw [eqI_t.1 h] at h8
                    rw [Nat.and_self] at h8
                    simp at h8
                have hq2 : kt < a + 1 → eqI x t = true := fun h => by
                  obtain rfl : kt = a := by omega
                  have h8 := hx.symm.trans Hke.out
                  rw [Option.some.inj h8]; exact eqI_t.2 rfl
                have hqd : eqI x t = decide (kt < a + 1) := by rw [Bool.eq_iff_iff, decide_eq_true_eq]; exact ⟨hq, hq2⟩
                obtain ⟨pv, hpv⟩ : ∃ v, decide (kt < a + 1) = v := ⟨_, rfl⟩
                have Hpv := hid hpv
                rw [hpv] at hqd
                have Hqd := hid hqd
                have Hin3 := hid hin3
                clear hxv hx hq hq2 hqd hp hin3 hpv
                rw [tp]
                clear tp
                go_wp2_with (fail)
                clear q0
                refine (ints_any _ A3 At m3x c3 mt ct x t (Hin3.out.below (by repeat' (first | with_reducible assumption | with_reducible exact Below.refl _ _ | refine Below.alloc ?_ ?_ _ | refine Below.setCell ?_ ?_ _ | refine Below.drew ?_ | refine below_drewN ?_ _ | (simp; done) | (simp; omega) | omega)) (by first | (simp; done) | (simp; omega) | omega)) (HT.out.below (by repeat' (first | with_reducible assumption | with_reducible exact Below.refl _ _ | refine Below.alloc ?_ ?_ _ | refine Below.setCell ?_ ?_ _ | refine Below.drew ?_ | refine below_drewN ?_ _ | (simp; done) | (simp; omega) | omega)) (by first | (simp; done) | (simp; omega) | omega)) (by omega)).mono ?_
                rw [Hqd.out]
                rintro e W1 ⟨rfl, hb⟩
                have hst : Below W0.heap.size W0 W1 := Below.trans (by repeat' (first | with_reducible assumption | with_reducible exact Below.refl _ _ | refine Below.alloc ?_ ?_ _ | refine Below.setCell ?_ ?_ _ | refine Below.drew ?_ | refine below_drewN ?_ _ | (simp; done) | (simp; omega) | omega)) (hb.mono (by first | (simp; done) | (simp; omega) | omega))
                replace hbel := hbel.trans (hst.mono hsz)
                replace hsz := hbel.size
                replace hl1 := hl1.trans (hst.mono hl1.size)
                replace hl3 := hl3.trans (hst.mono hl3.size)
                replace bB := bB.below hst bB.lt
                clear pB0 pB1 lB
                have pB0 := bB.cell 0
                have pB1 := bB.cell 1
                have lB := bB.lt
                replace HL := hid (HL.out.below hst hst.size)
                replace HM := hid (HM.out.below hst hst.size)
                replace HS := hid (HS.out.below hst hst.size)
                replace HBS := hid (HBS.out.below hst hst.size)
                replace HT := hid (HT.out.below hst hst.size)
                replace Hin3 := hid (Hin3.out.below hst hst.size)
                clear hb hst
                try clear hWb
                obtain ⟨W0, rfl⟩ : ∃ W0 : World, W0 = W1 := ⟨_, rfl⟩
                go_wp2
                exact ⟨⟨a + 1, by omega, by go_num, by rw [Hpv.out], hl3⟩, by simp [intOf]; omega⟩
            · obtain rfl : a = m1 := by omega
              have tp : decide (kt < a) = true := decide_eq_true (by omega)
              rw [tp]
              clear tp
              go_wp2_with (fail)
              refine (ints_any _ At AS mt ct s.length cS t s (HT.out.below (by repeat' (first | with_reducible assumption | with_reducible exact Below.refl _ _ | refine Below.alloc ?_ ?_ _ | refine Below.setCell ?_ ?_ _ | refine Below.drew ?_ | refine below_drewN ?_ _ | (simp; done) | (simp; omega) | omega)) (by first | (simp; done) | (simp; omega) | omega)) (HS.out.below (by repeat' (first | with_reducible assumption | with_reducible exact Below.refl _ _ | refine Below.alloc ?_ ?_ _ | refine Below.setCell ?_ ?_ _ | refine Below.drew ?_ | refine below_drewN ?_ _ | (simp; done) | (simp; omega) | omega)) (by first | (simp; done) | (simp; omega) | omega)) (by omega)).mono ?_
              rw [Hqq.out]
              rintro e W1 ⟨rfl, hb⟩
              have hst : Below W0.heap.size W0 W1 := Below.trans (by repeat' (first | with_reducible assumption | with_reducible exact Below.refl _ _ | refine Below.alloc ?_ ?_ _ | refine Below.setCell ?_ ?_ _ | refine Below.drew ?_ | refine below_drewN ?_ _ | (simp; done) | (simp; omega) | omega)) (hb.mono (by first | (simp; done) | (simp; omega) | omega))
              replace hbel := hbel.trans (hst.mono hsz)
              replace hsz := hbel.size
              replace hl1 := hl1.trans (hst.mono hl1.size)
              replace hl3 := hl3.trans (hst.mono hl3.size)
              replace bB := bB.below hst bB.lt
              clear pB0 pB1 lB
              have pB0 := bB.cell 0
              have pB1 := bB.cell 1
              have lB := bB.lt
              replace HL := hid (HL.out.below hst hst.size)
              replace HM := hid (HM.out.below hst hst.size)
              replace HS := hid (HS.out.below hst hst.size)
              replace HBS := hid (HBS.out.below hst hst.size)
              replace HT := hid (HT.out.below hst hst.size)
              clear hb hst
              try clear hWb
              obtain ⟨W0, rfl⟩ : ∃ W0 : World, W0 = W1 := ⟨_, rfl⟩
              skip
              go_wp2_with (fail)
              refine (works_any _).mono ?_
              rintro e W1 ⟨rfl, hb⟩
              have hst : Below W0.heap.size W0 W1 := Below.trans (by repeat' (first | with_reducible assumption | with_reducible exact Below.refl _ _ | refine Below.alloc ?_ ?_ _ | refine Below.setCell ?_ ?_ _ | refine Below.drew ?_ | refine below_drewN ?_ _ | (simp; done) | (simp; omega) | omega)) (hb.mono (by first | (simp; done) | (simp; omega) | omega))
              replace hbel := hbel.trans (hst.mono hsz)
              replace hsz := hbel.size
              replace hl1 := hl1.trans (hst.mono hl1.size)
              replace hl3 := hl3.trans (hst.mono hl3.size)
              replace bB := bB.below hst bB.lt
              clear pB0 pB1 lB
              have pB0 := bB.cell 0
              have pB1 := bB.cell 1
              have lB := bB.lt
              replace HL := hid (HL.out.below hst hst.size)
              replace HM := hid (HM.out.below hst hst.size)
              replace HS := hid (HS.out.below hst hst.size)
              replace HBS := hid (HBS.out.below hst hst.size)
              replace HT := hid (HT.out.below hst hst.size)
              clear hb hst
              try clear hWb
              obtain ⟨W0, rfl⟩ : ∃ W0 : World, W0 = W1 := ⟨_, rfl⟩
              go_wp2
              go_ret
              exact ⟨rfl, hbel⟩
        · obtain ⟨g1, g2, g3⟩ := F1.out z
          subst g1 g2 g3
          go_wp2_with (fail)
          refine (works_any _).mono ?_
          rintro e W1 ⟨rfl, hb⟩
          have hst : Below W0.heap.size W0 W1 := Below.trans (by repeat' (first | with_reducible assumption | with_reducible exact Below.refl _ _ | refine Below.alloc ?_ ?_ _ | refine Below.setCell ?_ ?_ _ | refine Below.drew ?_ | refine below_drewN ?_ _ | (simp; done) | (simp; omega) | omega)) (hb.mono (by first | (simp; done) | (simp; omega) | omega))
          replace hbel := hbel.trans (hst.mono hsz)
          replace hsz := hbel.size
          replace hl1 := hl1.trans (hst.mono hl1.size)
          replace bB := bB.below hst bB.lt
          clear pB0 pB1 lB
          have pB0 := bB.cell 0
          have pB1 := bB.cell 1
          have lB := bB.lt
          replace HL := hid (HL.out.below hst hst.size)
          replace HM := hid (HM.out.below hst hst.size)
          replace HS := hid (HS.out.below hst hst.size)
          replace HBS := hid (HBS.out.below hst hst.size)
          replace HT := hid (HT.out.below hst hst.size)
          clear hb hst
          try clear hWb
          obtain ⟨W0, rfl⟩ : ∃ W0 : World, W0 = W1 := ⟨_, rfl⟩
          go_wp2
          go_ret
          exact ⟨rfl, hbel⟩

section
open Go.ChangeShapes Go.WideShapes Go.ChangeAt Go.RowKit
set_option maxRecDepth 100000 in
theorem blameTight_lifted (os : Os) (started : os.Started) (H : Type) (enc : TypeId × Value → H) :
    ReturnsInHanded {} Tryz.checked os 8 .any (Rows.blameTightSpec.pre6 enc Tryz.prog Tryz.f8 Rows.blameTightRow.domain false) (Rows.blameTightSpec.post enc Tryz.prog Tryz.f8 false true false false) := by
  refine returnsInHanded_of_change (C := Tryz.checked) ownKx started (by kernel_rfl) Tryz.func8
    (ChangeSpec.witness6 (enc := enc) (C := Tryz.checked) false ⟨#[], #[.agg #[.int .i64 0, .slice none 0 0], .int .u8 0], []⟩ 8 (by kernel_rfl) (by kernel_rfl) (by kernel_rfl) (by kernel_rfl)) ?_
  intro W base args ds gs before hval0 hW hcnd _
  have hval : ∀ (j : Nat) t v, Tryz.f8.params[j]? = some t → args[j]? = some v → Value.okWide Tryz.prog W .any base t v := hval0
  have hW' := hW
  obtain ⟨p, q, hA0, hV, rfl, hfz, hnd⟩ := hW
  have hA : DataW.TrodAll enc Tryz.prog W 0 (fun _ => true) true Tryz.f8.params.toList args.toList ds p := hA0
  have hlt : ∀ x ∈ p, x.block < W.heap.size := fun x hx => hW'.lt x (List.mem_append_left _ hx)
  have hAll : ∀ W', Below W.heap.size W W' → DataW.TrodAll enc Tryz.prog W' 0 (fun b => decide (b < W.heap.size)) true Tryz.f8.params.toList args.toList ds p := fun W' hb => all_below laidOut hb (readable_of (by kernel_rfl)) hlt hA
  rw [Tryz.params8] at hA hval
  obtain ⟨v0, v1, d0, d1, p0, p1, rfl, rfl, rfl, h0, h1⟩ := trodAll_two hA
  obtain ⟨rfl, rfl⟩ := trodVars_none hV
  clear hA0 hval0
  obtain ⟨I0, A0, n0, c0, rfl, wI0, hc0, hN0, l0, hl0, hr0⟩ := open_book (hval 0 24 v0 rfl rfl) h0
  obtain ⟨x1, rfl, rfl, rfl, wx1⟩ := open_int Tryz.underlying5 (hval 1 5 v1 rfl rfl) h1
  obtain ⟨y1, rfl⟩ : ∃ y : Nat, x1 = y := ⟨x1.toNat, (Int.toNat_of_nonneg (u8_bd wx1).1).symm⟩
  refine (blameTight_walk W I0 A0 n0 c0 l0 y1 hr0 (by have := u8_bd wx1; omega)).mono fun e W' ⟨he, hb⟩ => ?_
  subst he
  exact ⟨_, rfl, ⟨_, _, _, [], _, [], hW', trodAll_cons_mk (shut_bool Tryz.underlying4 _) trodAll_mk0, hAll W' hb, rfl, hb.frame _, fun h => by cases h⟩⟩
/-- The law: whatever the input, it returns true, and the input reads as it did. -/
theorem blameTight_holds : Rows.BlameTightSaid :=
  OpenClaim.holds_of_wide 8 Tryz.f8 rfl rfl rfl rfl rfl rfl rfl ⟨rfl, rfl, rfl, rfl, rfl⟩ rfl rfl rfl rfl rfl (by kernel_rfl) Tryz.func8 (by kernel_rfl)
    (of_decide_eq_true (by kernel_rfl)) (by unfold Func.isWrapper; first | (rw [if_pos (by decide +kernel)]; kernel_rfl) | (rw [if_neg (by decide +kernel)]; exact ⟨rfl, rfl⟩))
    (fun os started H enc _ => blameTight_lifted os started H enc)
end
end Go.Proofs.YtnpilfpackdimaaGreat

