/- The statement DrossMelts holds: whatever the arguments, the law returns true and leaves its arguments as they were. -/
import Derived.Test.YtdcglphekafpdaaMs
import Derived.Test.YtdcglphekafpdaaMr
import Derived.Test.YtdcglphekafpdaaMk
import Derived.Lib.MinMax
namespace Go.Proofs.Ytdcglphekafpdaa
open Go.RowKit Go.Shelf
set_option maxRecDepth 100000 in
set_option maxHeartbeats 4000000 in
theorem meltsl_main (w : World) (A A1 : Option Addr) (n c n1 c1 : Nat) (row : List Mt) (sc : List Rg) (b2 : Nat) (x3 m : Int) (hr : MtS w w.heap.size A n row) (hnc : n ≤ c) (hr' : RgS w w.heap.size A1 n1 sc)
    (h0 : checkScales row sc = 0) (a0 : b2 < 256) (a1 : 0 ≤ x3 ∧ x3 ≤ 255) (hm : x3 % (n : Int) = m) :
    Calls Try.prog 13 #[.slice A n c, .slice A1 n1 c1, .int .u8 b2, .int .u8 x3] w fun e w' => e = .returned (.bool true) ∧ Below w.heap.size w w' := by
  obtain ⟨k1, k2, k3⟩ := checkScales_ok h0
  obtain ⟨k4, k5, k6⟩ := checkRow_ok k1
  have hlen := hr.len
  have hlen' := hr'.len
  have hn : n ≤ 12 := by omega
  have hn7 : n ≤ 7 := by omega
  have hn0 : 1 ≤ n := by omega
  have hn1 : n1 ≤ 12 := by omega
  have hnn : Hid (n1 = n + 1) := hid (by omega)
  have HLEN := hid hlen
  have HLEN1 := hid hlen'
  have hwl := melts_law h0
  have HNIL := hid (melts_nil h0)
  have lw : (meltsL row sc).length ≤ 100 := by omega
  have HLT : Hid ((meltsL row sc).length < n1) := hid (by have := hwl.2.2.1; omega)
  have HE7 : Hid (meltsE row sc (meltsL row sc) = 0) := hid (by rw [meltsE_inc h0 hwl.1, hwl.2.1]; rfl)
  have HLB : Hid (listB (meltsL row sc) (n : Nat) = true) := hid (by have := inc_listB.2 hwl.1; rw [hlen] at this; exact this)
  have HLESS := hid (fun i hi => melts_less (row := row) (sc := sc) h0 (i := i) hi)
  have HOWN := hid (melts_own (row := row) (sc := sc) h0 b2 m)
  have HMOST := hid (melts_most (row := row) (sc := sc) h0)
  rw [hlen] at HOWN HMOST
  have l3 := ownN_len b2 n
  have l4 := withN_len b2 m n
  have l6 : (ownN 255 n).length ≤ n := ownN_len 255 n
  have n80 : n ≤ 8 := by omega
  have z1 : x3.tmod (n : Int) = m := by rw [Int.tmod_eq_emod_of_nonneg a1.1]; exact hm
  have z2 : ¬ ((n : Int) = 0) := by omega
  have I3 := hid (inc_own b2 n)
  obtain ⟨L7, hL7⟩ : ∃ L, meltsL row sc = L := ⟨_, rfl⟩
  obtain ⟨L3, hL3⟩ : ∃ L, ownN b2 n = L := ⟨_, rfl⟩
  obtain ⟨L4, hL4⟩ : ∃ L, withN b2 m n = L := ⟨_, rfl⟩
  obtain ⟨L6, hL6⟩ : ∃ L, ownN 255 n = L := ⟨_, rfl⟩
  rw [hL7] at hwl HNIL lw HLT HE7 HLB HLESS HOWN
  rw [hL3] at l3 HOWN
  rw [hL4] at l4 HOWN
  have HMOST2 : Hid (meltsE row sc L6 = 0) := hid (by rw [← hL6]; exact HMOST.out)
  rw [hL6] at l6
  have HL7 := hid hL7
  have HL3 := hid hL3
  have HL4 := hid hL4
  have HL6 : Hid (ownN ((255 : Nat) : Int) n = L6) := hid hL6
  have l3' : L3.length ≤ 100 := by omega
  have l4' : L4.length ≤ 100 := by omega
  have l6' : L6.length ≤ 100 := by omega
  have hll8 : L7.length ≤ 8 := by have := hwl.2.2.1; omega
  clear hL7 hL3 hL4 hL6 hm l3 l4 l6 HMOST hwl
  have HR := hid (fun V (h : Below w.heap.size w V) => hr.below h h.size)
  have HS := hid (fun V (h : Below w.heap.size w V) => hr'.below h h.size)
  have hd := hid (decide_eq_true h0)
  have H0 := hid h0
  have HK1 := hid k1
  have HK3 := hid k3
  have HK6 := hid k6
  clear hr hr' h0 k1 k2 k3 k4 k5 k6 hlen hlen'
  obtain ⟨i0, hi, hz0, hz1, hz2⟩ := info_parts info3
  go_enter Try.func13, Try.ntmps13
  have hbel : Below w.heap.size w w := Below.refl _ _
  have hsz := hbel.size
  go_wp2_with (fail)
  refine (read_any _ _ _ n c n1 c1 row sc (HR.out _ ?_) (HS.out _ ?_)).mono ?_
  · exact (by repeat' (first | with_reducible assumption | with_reducible exact Below.refl _ _ | refine Below.alloc ?_ ?_ _ | refine Below.setCell ?_ ?_ _ | refine Below.drew ?_ | refine below_drewN ?_ _ | (simp; done) | (simp; omega) | omega))
  · exact (by repeat' (first | with_reducible assumption | with_reducible exact Below.refl _ _ | refine Below.alloc ?_ ?_ _ | refine Below.setCell ?_ ?_ _ | refine Below.drew ?_ | refine below_drewN ?_ _ | (simp; done) | (simp; omega) | omega))
  rw [hd.out]
  rintro e V1 ⟨rfl, hb⟩
  have hst : Below w.heap.size w V1 := Below.trans (by repeat' (first | with_reducible assumption | with_reducible exact Below.refl _ _ | refine Below.alloc ?_ ?_ _ | refine Below.setCell ?_ ?_ _ | refine Below.drew ?_ | refine below_drewN ?_ _ | (simp; done) | (simp; omega) | omega)) (hb.mono (by first | (simp; done) | (simp; omega) | omega))
  replace hbel := hbel.trans (hst.mono hsz)
  replace hsz := hbel.size
  clear hb hst
  go_wp2_with (fail)
  refine (possible_any _ _ _ n c n1 c1 row sc (HR.out _ ?_) (HS.out _ ?_) H0.out).mono ?_
  · exact (by repeat' (first | with_reducible assumption | with_reducible exact Below.refl _ _ | refine Below.alloc ?_ ?_ _ | refine Below.setCell ?_ ?_ _ | refine Below.drew ?_ | refine below_drewN ?_ _ | (simp; done) | (simp; omega) | omega))
  · exact (by repeat' (first | with_reducible assumption | with_reducible exact Below.refl _ _ | refine Below.alloc ?_ ?_ _ | refine Below.setCell ?_ ?_ _ | refine Below.drew ?_ | refine below_drewN ?_ _ | (simp; done) | (simp; omega) | omega))
  rintro e V2 ⟨rfl, hb⟩
  have hst : Below V1.heap.size V1 V2 := Below.trans (by repeat' (first | with_reducible assumption | with_reducible exact Below.refl _ _ | refine Below.alloc ?_ ?_ _ | refine Below.setCell ?_ ?_ _ | refine Below.drew ?_ | refine below_drewN ?_ _ | (simp; done) | (simp; omega) | omega)) (hb.mono (by first | (simp; done) | (simp; omega) | omega))
  replace hbel := hbel.trans (hst.mono hsz)
  replace hsz := hbel.size
  clear hb hst
  obtain ⟨po, hpo⟩ : ∃ po, possB row sc = po := ⟨_, rfl⟩
  rw [hpo]
  rw [hpo] at HNIL
  clear hpo
  go_wp2_with (fail)
  refine (dMelts_any _ _ _ n c n1 c1 row sc (HR.out _ ?_) hn hnc (HS.out _ ?_) hn1).mono ?_
  · exact (by repeat' (first | with_reducible assumption | with_reducible exact Below.refl _ _ | refine Below.alloc ?_ ?_ _ | refine Below.setCell ?_ ?_ _ | refine Below.drew ?_ | refine below_drewN ?_ _ | (simp; done) | (simp; omega) | omega))
  · exact (by repeat' (first | with_reducible assumption | with_reducible exact Below.refl _ _ | refine Below.alloc ?_ ?_ _ | refine Below.setCell ?_ ?_ _ | refine Below.drew ?_ | refine below_drewN ?_ _ | (simp; done) | (simp; omega) | omega))
  rintro e V3 ⟨u1, rfl, ho1, hb⟩
  have hst : Below V2.heap.size V2 V3 := Below.trans (by repeat' (first | with_reducible assumption | with_reducible exact Below.refl _ _ | refine Below.alloc ?_ ?_ _ | refine Below.setCell ?_ ?_ _ | refine Below.drew ?_ | refine below_drewN ?_ _ | (simp; done) | (simp; omega) | omega)) (hb.mono (by first | (simp; done) | (simp; omega) | omega))
  replace hbel := hbel.trans (hst.mono hsz)
  replace hsz := hbel.size
  clear hb hst
  rw [HL7.out] at ho1
  rw [H0.out]
  obtain ⟨A7, c7, rfl, hc7, h7⟩ := ins_of_own ho1
  have H7 := hid h7
  clear h7 ho1
  have hp0 : ((L7.length : Int) == 0) = po := by
   have := HNIL.out
   cases po
   · simp only [Bool.false_eq_true, iff_false] at this; simp [this]
   · rw [this.2 rfl]; rfl
  have hp1 : ((po == po) = true) := by simp
  have hp2 : (po != po) = false := by simp
  have HLTi : (L7.length : Int) < n1 := by have := HLT.out; omega
  have HLTd : decide (n1 ≤ L7.length) = false := decide_eq_false (by have := HLT.out; omega)
  go_wp2_with (fail)
  refine (isList_any _ _ _ _ L7 n H7.out lw).mono ?_
  rw [HLB.out]
  rintro e V4 ⟨rfl, hb⟩
  have hst : Below V3.heap.size V3 V4 := Below.trans (by repeat' (first | with_reducible assumption | with_reducible exact Below.refl _ _ | refine Below.alloc ?_ ?_ _ | refine Below.setCell ?_ ?_ _ | refine Below.drew ?_ | refine below_drewN ?_ _ | (simp; done) | (simp; omega) | omega)) (hb.mono (by first | (simp; done) | (simp; omega) | omega))
  replace hbel := hbel.trans (hst.mono hsz)
  replace hsz := hbel.size
  replace H7 := hid (H7.out.below hst hst.size)
  clear hb hst
  clear hp0 hp1 hp2
  go_wp2_with (fail)
  refine (dCheckMelts_any _ _ _ A7 n c n1 c1 L7.length c7 row sc L7 (HR.out _ ?_) hn hnc (HS.out _ ?_) hn1 (H7.out.below (Below.refl _ _) (Nat.le_refl _)) lw).mono ?_
  · exact (by repeat' (first | with_reducible assumption | with_reducible exact Below.refl _ _ | refine Below.alloc ?_ ?_ _ | refine Below.setCell ?_ ?_ _ | refine Below.drew ?_ | refine below_drewN ?_ _ | (simp; done) | (simp; omega) | omega))
  · exact (by repeat' (first | with_reducible assumption | with_reducible exact Below.refl _ _ | refine Below.alloc ?_ ?_ _ | refine Below.setCell ?_ ?_ _ | refine Below.drew ?_ | refine below_drewN ?_ _ | (simp; done) | (simp; omega) | omega))
  rw [HE7.out]
  rintro e V5 ⟨rfl, hb⟩
  have hst : Below V4.heap.size V4 V5 := Below.trans (by repeat' (first | with_reducible assumption | with_reducible exact Below.refl _ _ | refine Below.alloc ?_ ?_ _ | refine Below.setCell ?_ ?_ _ | refine Below.drew ?_ | refine below_drewN ?_ _ | (simp; done) | (simp; omega) | omega)) (hb.mono (by first | (simp; done) | (simp; omega) | omega))
  replace hbel := hbel.trans (hst.mono hsz)
  replace hsz := hbel.size
  replace H7 := hid (H7.out.below hst hst.size)
  clear hb hst
  go_wp2_with (fail)
  refine (refCheckMelts_any _ _ _ A7 n c n1 c1 L7.length c7 row sc L7 (HR.out _ ?_) hn (HS.out _ ?_) hn1 (H7.out.below (Below.refl _ _) (Nat.le_refl _)) lw).mono ?_
  · exact (by repeat' (first | with_reducible assumption | with_reducible exact Below.refl _ _ | refine Below.alloc ?_ ?_ _ | refine Below.setCell ?_ ?_ _ | refine Below.drew ?_ | refine below_drewN ?_ _ | (simp; done) | (simp; omega) | omega))
  · exact (by repeat' (first | with_reducible assumption | with_reducible exact Below.refl _ _ | refine Below.alloc ?_ ?_ _ | refine Below.setCell ?_ ?_ _ | refine Below.drew ?_ | refine below_drewN ?_ _ | (simp; done) | (simp; omega) | omega))
  rw [HE7.out]
  rintro e V6 ⟨rfl, hb⟩
  have hst : Below V5.heap.size V5 V6 := Below.trans (by repeat' (first | with_reducible assumption | with_reducible exact Below.refl _ _ | refine Below.alloc ?_ ?_ _ | refine Below.setCell ?_ ?_ _ | refine Below.drew ?_ | refine below_drewN ?_ _ | (simp; done) | (simp; omega) | omega)) (hb.mono (by first | (simp; done) | (simp; omega) | omega))
  replace hbel := hbel.trans (hst.mono hsz)
  replace hsz := hbel.size
  replace H7 := hid (H7.out.below hst hst.size)
  clear hb hst
  go_wp2_with (fail)
  go_loopw [14] (fun i wr => ∃ k : Nat, k ≤ L7.length ∧ i = .int .i64 k ∧ Below V6.heap.size V6 wr) (fun i _ => L7.length - (intOf i).toNat)
  case atStart => exact ⟨0, by omega, rfl, Below.refl _ _⟩
  case round =>
    obtain ⟨k, hk, rfl, hb⟩ := hrel
    have hrr : Hid (∀ U : World, Below wr.heap.size wr U → Below V6.heap.size V6 U) := hid (fun U h => hb.trans (h.mono hb.size))
    have hst : Below V6.heap.size V6 wr := Below.trans (by repeat' (first | with_reducible assumption | with_reducible exact Below.refl _ _ | refine Below.alloc ?_ ?_ _ | refine Below.setCell ?_ ?_ _ | refine Below.drew ?_ | refine below_drewN ?_ _ | (simp; done) | (simp; omega) | omega)) (hb.mono (by first | (simp; done) | (simp; omega) | omega))
    replace hbel := hbel.trans (hst.mono hsz)
    replace hsz := hbel.size
    replace H7 := hid (H7.out.below hst hst.size)
    clear hb hst
    by_cases hlt : k < L7.length
    · obtain ⟨b7, o7, rfl, hb7⟩ := ins_some H7.out (by omega)
      have hlti : (k : Int) < L7.length := by omega
      have y0 : (0 : Int) ≤ k := by omega
      have y1 : (k : Int) ≤ c7 := by omega
      have y2 : IntKind.i64.wrap ((k : Int) + 1) = (k : Int) + 1 := IntWalk.i64_in _ (by omega)
      have y3 : (0 : Int) ≤ (k : Int) + 1 := by omega
      have y4 : (k : Int) + 1 ≤ L7.length := by omega
      have y5 : (k : Int) + 1 ≤ c7 := by omega
      have y6 : ¬ c7 = k := by omega
      have y7 : ((k : Int) + 1).toNat = k + 1 := by omega
      have HLE := hid (HLESS.out k hlt)
      have n3 := hid (show ((L7.take k).flatMap cI).length = k * 1 by rw [flatI_len', List.length_take]; omega)
      have n4 := hid (show ((L7.drop (k + 1)).flatMap cI).length = (L7.length - (k + 1)) * 1 by rw [flatI_len', List.length_drop]; omega)
      go_wp2_with (fail)
      by_cases hcc : c7 = k + 1
      · subst hcc
        have hdrop : L7.drop (k + 1) = [] := List.drop_eq_nil_of_le (by omega)
        have y8 : (k : Int) ≤ (k : Int) + 1 := by omega
        have hz : L7.length - (k + 1) = 0 := by omega
        refine wp_region_el [0, 1, 2, 3, 4, 5, 7, 8, 9, 10] 4 (by kernel_rfl) (by kernel_rfl) (fun V7 hX => ?_)
        have hb : Below wr.heap.size wr V7 := by rw [hX]; exact (Below.refl _ _).drew
        clear hX
        have hwX := hid hb
        have hst : Below wr.heap.size wr V7 := Below.trans (by repeat' (first | with_reducible assumption | with_reducible exact Below.refl _ _ | refine Below.alloc ?_ ?_ _ | refine Below.setCell ?_ ?_ _ | refine Below.drew ?_ | refine below_drewN ?_ _ | (simp; done) | (simp; omega) | omega)) (hb.mono (by first | (simp; done) | (simp; omega) | omega))
        replace hbel := hbel.trans (hst.mono hsz)
        replace hsz := hbel.size
        replace H7 := hid (H7.out.below hst hst.size)
        clear hb hst
        simp only [pick, List.getElem?_toArray, List.getElem?_cons_zero, List.getElem?_cons_succ]
        iterate 2 (refine wpE_val (v := ?_) (by rfl) (fun W hW => ?_) ?_; rotate_left; (· obtain ⟨hcW, hfW⟩ := bcell hW; go_simp; with_reducible rfl); simp only [Act.put, List.setIfInBounds_toArray, List.set_cons_zero, List.set_cons_succ])
        (refine wpE_call (by rfl) (fun W hW => of_ext (.slice none 0 0) W) (fun W hW => ?_) ?_; (· obtain ⟨hcW, hfW⟩ := bcell hW; go_simp); simp only [Act.put, List.setIfInBounds_toArray, List.set_cons_zero, List.set_cons_succ])
        iterate 7 (refine wpE_val (v := ?_) (by rfl) (fun W hW => ?_) ?_; rotate_left; (· obtain ⟨hcW, hfW⟩ := bcell hW; go_simp; with_reducible rfl); simp only [Act.put, List.setIfInBounds_toArray, List.set_cons_zero, List.set_cons_succ])
        simp only [wpE]
        (refine wpM_one 6 _ (by simp only [List.getElem?_toArray, List.getElem?_cons_zero, List.getElem?_cons_succ]; rfl) (by kernel_rfl) (by rfl) ?_)
        intro X1 hX1 hX1p
        refine lupon_append_own _ _ _ 49 rfl V7.heap.size 3 i0 _ 1 8 under49 hi hz0 hz1 hz2 rfl (by decide) _ 0 [] (by rfl) (World.ownsRow_nil _ _ _ _) ⟨b7, o7, none⟩ k (k + 1) ((L7.take k).flatMap cI) (by rfl) n3.out (ins_take (H7.out.below hX1p hX1p.size) (by omega)) (one_flatI _) (by unfold maxLen; omega) (by omega) hX1p.size ?_
        intro v1 w1 own1 gr1
        have hx1 : Ext V7 w1 := below_own (R := fun _ => True) hX1p (fun q hq => by simp [Value.ownBlock] at hq) gr1 (Nat.le_refl _)
        refine ⟨hx1, ?_⟩
        simp only [Act.put, List.setIfInBounds_toArray, List.set_cons_zero, List.set_cons_succ]
        simp only [Nat.zero_add, List.nil_append] at own1
        (refine wpM_one 11 _ (by simp only [List.getElem?_toArray, List.getElem?_cons_zero, List.getElem?_cons_succ]; rfl) (by kernel_rfl) (by rfl) ?_)
        intro X2 hX2 hX2p
        have own2 := owns_below own1 hX2
        refine lupon_append_own _ _ _ 49 rfl V7.heap.size 3 i0 _ 1 8 under49 hi hz0 hz1 hz2 rfl (by decide) _ k _ (by rfl) own2 ⟨b7, o7, none⟩ 0 0 [] (by rfl) rfl (fun j u hj => by simp at hj) (fun u hu => by simp at hu) (by unfold maxLen; omega) (by omega) hX2p.size ?_
        intro v3 w3 own3 gr3
        have hx3 : Ext V7 w3 := below_own (R := fun _ => True) hX2p (fun q hq => ⟨(own2.lt q hq).1, trivial⟩) gr3 (Nat.le_refl _)
        refine ⟨hx3, ?_⟩
        simp only [Act.put, List.setIfInBounds_toArray, List.set_cons_zero, List.set_cons_succ]
        have hE : Hid ((L7.take k).flatMap cI ++ [] = (L7.take k ++ L7.drop (k + 1)).flatMap cI) := hid (by rw [List.flatMap_append]; rw [hdrop]; rfl)
        rw [hE.out] at own3
        obtain ⟨A9, c9, rfl, _, h9⟩ := ins_of_own own3
        have H9 := hid h9
        clear h9 own1 own2 own3 gr1 gr3 hX1 hX1p hX2 hX2p hx1
        have n9 : k + 0 ≤ 100 := by omega
        (refine wpM_one 12 _ (by simp only [List.getElem?_toArray, List.getElem?_cons_zero, List.getElem?_cons_succ]; rfl) (by kernel_rfl) (by rfl) ?_)
        intro X4 hX4 hX4p
        (go_simp; simp only [LUpon, Act.put]; try simp only [List.setIfInBounds_toArray, List.set_cons_zero, List.set_cons_succ])
        refine (dCheckMelts_any _ _ _ A9 n c n1 c1 (k + 0) c9 row sc (L7.take k ++ L7.drop (k + 1)) (HR.out _ (hbel.trans (hX4p.mono hsz))) hn hnc (HS.out _ (hbel.trans (hX4p.mono hsz))) hn1 (H9.out.below hX4 hX4.size) n9).mono ?_
        rw [HLE.out]
        rintro e X5 ⟨rfl, hb5⟩
        refine ⟨_, rfl, hX4p.trans' hb5, ?_⟩
        try simp only [Act.put, List.setIfInBounds_toArray, List.set_cons_zero, List.set_cons_succ]
        (refine wpM_one 13 _ (by simp only [List.getElem?_toArray, List.getElem?_cons_zero, List.getElem?_cons_succ]; rfl) (by kernel_rfl) (by rfl) ?_)
        intro X6 hX6 hX6p
        (go_simp; simp only [LUpon, Act.put]; try simp only [List.setIfInBounds_toArray, List.set_cons_zero, List.set_cons_succ])
        refine ⟨hX6p, ?_⟩
        refine wpM_end (by kernel_rfl) ?_
        intro V8 hX7 hb
        clear hX4 hX4p hX6 hX6p hX7 H9 hb5 hx3
        have hst : Below V7.heap.size V7 V8 := Below.trans (by repeat' (first | with_reducible assumption | with_reducible exact Below.refl _ _ | refine Below.alloc ?_ ?_ _ | refine Below.setCell ?_ ?_ _ | refine Below.drew ?_ | refine below_drewN ?_ _ | (simp; done) | (simp; omega) | omega)) (hb.mono (by first | (simp; done) | (simp; omega) | omega))
        replace hbel := hbel.trans (hst.mono hsz)
        replace hsz := hbel.size
        replace H7 := hid (H7.out.below hst hst.size)
        go_wp2_with (fail)
        exact ⟨⟨k + 1, by omega, by go_num, hrr.out V8 (Ext.trans' hwX.out hb)⟩, by simp [intOf]; omega⟩
      · have hcc2 : ¬ c7 = k + 1 := hcc
        refine wp_region_el [0, 1, 2, 3, 4, 5, 7, 8, 9, 10] 4 (by kernel_rfl) (by kernel_rfl) (fun V7 hX => ?_)
        have hb : Below wr.heap.size wr V7 := by rw [hX]; exact (Below.refl _ _).drew
        clear hX
        have hwX := hid hb
        have hst : Below wr.heap.size wr V7 := Below.trans (by repeat' (first | with_reducible assumption | with_reducible exact Below.refl _ _ | refine Below.alloc ?_ ?_ _ | refine Below.setCell ?_ ?_ _ | refine Below.drew ?_ | refine below_drewN ?_ _ | (simp; done) | (simp; omega) | omega)) (hb.mono (by first | (simp; done) | (simp; omega) | omega))
        replace hbel := hbel.trans (hst.mono hsz)
        replace hsz := hbel.size
        replace H7 := hid (H7.out.below hst hst.size)
        clear hb hst
        simp only [pick, List.getElem?_toArray, List.getElem?_cons_zero, List.getElem?_cons_succ]
        iterate 2 (refine wpE_val (v := ?_) (by rfl) (fun W hW => ?_) ?_; rotate_left; (· obtain ⟨hcW, hfW⟩ := bcell hW; go_simp; with_reducible rfl); simp only [Act.put, List.setIfInBounds_toArray, List.set_cons_zero, List.set_cons_succ])
        (refine wpE_call (by rfl) (fun W hW => of_ext (.slice none 0 0) W) (fun W hW => ?_) ?_; (· obtain ⟨hcW, hfW⟩ := bcell hW; go_simp); simp only [Act.put, List.setIfInBounds_toArray, List.set_cons_zero, List.set_cons_succ])
        iterate 7 (refine wpE_val (v := ?_) (by rfl) (fun W hW => ?_) ?_; rotate_left; (· obtain ⟨hcW, hfW⟩ := bcell hW; go_simp; with_reducible rfl); simp only [Act.put, List.setIfInBounds_toArray, List.set_cons_zero, List.set_cons_succ])
        simp only [wpE]
        (refine wpM_one 6 _ (by simp only [List.getElem?_toArray, List.getElem?_cons_zero, List.getElem?_cons_succ]; rfl) (by kernel_rfl) (by rfl) ?_)
        intro X1 hX1 hX1p
        refine lupon_append_own _ _ _ 49 rfl V7.heap.size 3 i0 _ 1 8 under49 hi hz0 hz1 hz2 rfl (by decide) _ 0 [] (by rfl) (World.ownsRow_nil _ _ _ _) ⟨b7, o7, none⟩ k c7 ((L7.take k).flatMap cI) (by rfl) n3.out (ins_take (H7.out.below hX1p hX1p.size) (by omega)) (one_flatI _) (by unfold maxLen; omega) (by omega) hX1p.size ?_
        intro v1 w1 own1 gr1
        have hx1 : Ext V7 w1 := below_own (R := fun _ => True) hX1p (fun q hq => by simp [Value.ownBlock] at hq) gr1 (Nat.le_refl _)
        refine ⟨hx1, ?_⟩
        simp only [Act.put, List.setIfInBounds_toArray, List.set_cons_zero, List.set_cons_succ]
        simp only [Nat.zero_add, List.nil_append] at own1
        (refine wpM_one 11 _ (by simp only [List.getElem?_toArray, List.getElem?_cons_zero, List.getElem?_cons_succ]; rfl) (by kernel_rfl) (by rfl) ?_)
        intro X2 hX2 hX2p
        have own2 := owns_below own1 hX2
        refine lupon_append_own _ _ _ 49 rfl V7.heap.size 3 i0 _ 1 8 under49 hi hz0 hz1 hz2 rfl (by decide) _ k _ (by rfl) own2 ⟨b7, o7 + (k + 1), none⟩ (L7.length - (k + 1)) (c7 - (k + 1)) ((L7.drop (k + 1)).flatMap cI) (by rfl) n4.out (ins_drop (H7.out.below hX2p hX2p.size)) (one_flatI _) (by unfold maxLen; omega) (by omega) hX2p.size ?_
        intro v3 w3 own3 gr3
        have hx3 : Ext V7 w3 := below_own (R := fun _ => True) hX2p (fun q hq => ⟨(own2.lt q hq).1, trivial⟩) gr3 (Nat.le_refl _)
        refine ⟨hx3, ?_⟩
        simp only [Act.put, List.setIfInBounds_toArray, List.set_cons_zero, List.set_cons_succ]
        have hE : Hid ((L7.take k).flatMap cI ++ (L7.drop (k + 1)).flatMap cI = (L7.take k ++ L7.drop (k + 1)).flatMap cI) := hid (by rw [List.flatMap_append])
        rw [hE.out] at own3
        obtain ⟨A9, c9, rfl, _, h9⟩ := ins_of_own own3
        have H9 := hid h9
        clear h9 own1 own2 own3 gr1 gr3 hX1 hX1p hX2 hX2p hx1
        have n9 : k + (L7.length - (k + 1)) ≤ 100 := by omega
        (refine wpM_one 12 _ (by simp only [List.getElem?_toArray, List.getElem?_cons_zero, List.getElem?_cons_succ]; rfl) (by kernel_rfl) (by rfl) ?_)
        intro X4 hX4 hX4p
        (go_simp; simp only [LUpon, Act.put]; try simp only [List.setIfInBounds_toArray, List.set_cons_zero, List.set_cons_succ])
        refine (dCheckMelts_any _ _ _ A9 n c n1 c1 (k + (L7.length - (k + 1))) c9 row sc (L7.take k ++ L7.drop (k + 1)) (HR.out _ (hbel.trans (hX4p.mono hsz))) hn hnc (HS.out _ (hbel.trans (hX4p.mono hsz))) hn1 (H9.out.below hX4 hX4.size) n9).mono ?_
        rw [HLE.out]
        rintro e X5 ⟨rfl, hb5⟩
        refine ⟨_, rfl, hX4p.trans' hb5, ?_⟩
        try simp only [Act.put, List.setIfInBounds_toArray, List.set_cons_zero, List.set_cons_succ]
        (refine wpM_one 13 _ (by simp only [List.getElem?_toArray, List.getElem?_cons_zero, List.getElem?_cons_succ]; rfl) (by kernel_rfl) (by rfl) ?_)
        intro X6 hX6 hX6p
        (go_simp; simp only [LUpon, Act.put]; try simp only [List.setIfInBounds_toArray, List.set_cons_zero, List.set_cons_succ])
        refine ⟨hX6p, ?_⟩
        refine wpM_end (by kernel_rfl) ?_
        intro V8 hX7 hb
        clear hX4 hX4p hX6 hX6p hX7 H9 hb5 hx3
        have hst : Below V7.heap.size V7 V8 := Below.trans (by repeat' (first | with_reducible assumption | with_reducible exact Below.refl _ _ | refine Below.alloc ?_ ?_ _ | refine Below.setCell ?_ ?_ _ | refine Below.drew ?_ | refine below_drewN ?_ _ | (simp; done) | (simp; omega) | omega)) (hb.mono (by first | (simp; done) | (simp; omega) | omega))
        replace hbel := hbel.trans (hst.mono hsz)
        replace hsz := hbel.size
        replace H7 := hid (H7.out.below hst hst.size)
        go_wp2_with (fail)
        exact ⟨⟨k + 1, by omega, by go_num, hrr.out V8 (Ext.trans' hwX.out hb)⟩, by simp [intOf]; omega⟩
    · obtain rfl : k = L7.length := by omega
      clear hlt
      go_wp2_with (fail)
      refine (chosen62_any _ b2 m n a0 n80).mono ?_
      rintro e V17 ⟨A3, c3, A4, c4, rfl, h3, h4, hb⟩
      have hst : Below wr.heap.size wr V17 := Below.trans (by repeat' (first | with_reducible assumption | with_reducible exact Below.refl _ _ | refine Below.alloc ?_ ?_ _ | refine Below.setCell ?_ ?_ _ | refine Below.drew ?_ | refine below_drewN ?_ _ | (simp; done) | (simp; omega) | omega)) (hb.mono (by first | (simp; done) | (simp; omega) | omega))
      replace hbel := hbel.trans (hst.mono hsz)
      replace hsz := hbel.size
      replace H7 := hid (H7.out.below hst hst.size)
      clear hb hst
      rw [HL3.out] at h3
      rw [HL4.out] at h4
      rw [HL3.out, HL4.out]
      have H3 := hid h3
      have H4 := hid h4
      clear h3 h4
      obtain ⟨eo, heo⟩ : ∃ eo, meltsE row sc L3 = eo := ⟨_, rfl⟩
      obtain ⟨ew, hew⟩ : ∃ ew, meltsE row sc L4 = ew := ⟨_, rfl⟩
      rw [heo, hew] at HOWN
      have HEO := hid heo
      have HEW := hid hew
      clear heo hew
      go_wp2_with (fail)
      refine (dCheckMelts_any _ _ _ A3 n c n1 c1 L3.length c3 row sc L3 (HR.out _ ?_) hn hnc (HS.out _ ?_) hn1 (H3.out.below (Below.refl _ _) (Nat.le_refl _)) l3').mono ?_
      · exact (by repeat' (first | with_reducible assumption | with_reducible exact Below.refl _ _ | refine Below.alloc ?_ ?_ _ | refine Below.setCell ?_ ?_ _ | refine Below.drew ?_ | refine below_drewN ?_ _ | (simp; done) | (simp; omega) | omega))
      · exact (by repeat' (first | with_reducible assumption | with_reducible exact Below.refl _ _ | refine Below.alloc ?_ ?_ _ | refine Below.setCell ?_ ?_ _ | refine Below.drew ?_ | refine below_drewN ?_ _ | (simp; done) | (simp; omega) | omega))
      rw [HEO.out]
      rintro e V18 ⟨rfl, hb⟩
      have hst : Below V17.heap.size V17 V18 := Below.trans (by repeat' (first | with_reducible assumption | with_reducible exact Below.refl _ _ | refine Below.alloc ?_ ?_ _ | refine Below.setCell ?_ ?_ _ | refine Below.drew ?_ | refine below_drewN ?_ _ | (simp; done) | (simp; omega) | omega)) (hb.mono (by first | (simp; done) | (simp; omega) | omega))
      replace hbel := hbel.trans (hst.mono hsz)
      replace hsz := hbel.size
      replace H7 := hid (H7.out.below hst hst.size)
      replace H3 := hid (H3.out.below hst hst.size)
      replace H4 := hid (H4.out.below hst hst.size)
      clear hb hst
      go_wp2_with (fail)
      refine (dCheckMelts_any _ _ _ A4 n c n1 c1 L4.length c4 row sc L4 (HR.out _ ?_) hn hnc (HS.out _ ?_) hn1 (H4.out.below (Below.refl _ _) (Nat.le_refl _)) l4').mono ?_
      · exact (by repeat' (first | with_reducible assumption | with_reducible exact Below.refl _ _ | refine Below.alloc ?_ ?_ _ | refine Below.setCell ?_ ?_ _ | refine Below.drew ?_ | refine below_drewN ?_ _ | (simp; done) | (simp; omega) | omega))
      · exact (by repeat' (first | with_reducible assumption | with_reducible exact Below.refl _ _ | refine Below.alloc ?_ ?_ _ | refine Below.setCell ?_ ?_ _ | refine Below.drew ?_ | refine below_drewN ?_ _ | (simp; done) | (simp; omega) | omega))
      rw [HEW.out]
      rintro e V19 ⟨rfl, hb⟩
      have hst : Below V18.heap.size V18 V19 := Below.trans (by repeat' (first | with_reducible assumption | with_reducible exact Below.refl _ _ | refine Below.alloc ?_ ?_ _ | refine Below.setCell ?_ ?_ _ | refine Below.drew ?_ | refine below_drewN ?_ _ | (simp; done) | (simp; omega) | omega)) (hb.mono (by first | (simp; done) | (simp; omega) | omega))
      replace hbel := hbel.trans (hst.mono hsz)
      replace hsz := hbel.size
      replace H7 := hid (H7.out.below hst hst.size)
      replace H3 := hid (H3.out.below hst hst.size)
      replace H4 := hid (H4.out.below hst hst.size)
      clear hb hst
      rcases HOWN.out with ⟨rfl, hle, rfl⟩ | rfl
      · have hle2 : ¬ ((L3.length : Int) < L7.length) := by omega
        go_wp2_with (fail)
        refine (chosen62_any _ 255 n n (by omega) n80).mono ?_
        rintro e V20 ⟨A6, c6, A5, c5, rfl, h6, _, hb⟩
        have hst : Below V19.heap.size V19 V20 := Below.trans (by repeat' (first | with_reducible assumption | with_reducible exact Below.refl _ _ | refine Below.alloc ?_ ?_ _ | refine Below.setCell ?_ ?_ _ | refine Below.drew ?_ | refine below_drewN ?_ _ | (simp; done) | (simp; omega) | omega)) (hb.mono (by first | (simp; done) | (simp; omega) | omega))
        replace hbel := hbel.trans (hst.mono hsz)
        replace hsz := hbel.size
        replace H7 := hid (H7.out.below hst hst.size)
        replace H3 := hid (H3.out.below hst hst.size)
        replace H4 := hid (H4.out.below hst hst.size)
        clear hb hst
        rw [HL6.out] at h6
        rw [HL6.out]
        have H6 := hid h6
        clear h6
        go_wp2_with (fail)
        refine (dCheckMelts_any _ _ _ A6 n c n1 c1 L6.length c6 row sc L6 (HR.out _ ?_) hn hnc (HS.out _ ?_) hn1 (H6.out.below (Below.refl _ _) (Nat.le_refl _)) l6').mono ?_
        · exact (by repeat' (first | with_reducible assumption | with_reducible exact Below.refl _ _ | refine Below.alloc ?_ ?_ _ | refine Below.setCell ?_ ?_ _ | refine Below.drew ?_ | refine below_drewN ?_ _ | (simp; done) | (simp; omega) | omega))
        · exact (by repeat' (first | with_reducible assumption | with_reducible exact Below.refl _ _ | refine Below.alloc ?_ ?_ _ | refine Below.setCell ?_ ?_ _ | refine Below.drew ?_ | refine below_drewN ?_ _ | (simp; done) | (simp; omega) | omega))
        rw [HMOST2.out]
        rintro e V21 ⟨rfl, hb⟩
        have hst : Below V20.heap.size V20 V21 := Below.trans (by repeat' (first | with_reducible assumption | with_reducible exact Below.refl _ _ | refine Below.alloc ?_ ?_ _ | refine Below.setCell ?_ ?_ _ | refine Below.drew ?_ | refine below_drewN ?_ _ | (simp; done) | (simp; omega) | omega)) (hb.mono (by first | (simp; done) | (simp; omega) | omega))
        replace hbel := hbel.trans (hst.mono hsz)
        replace hsz := hbel.size
        replace H7 := hid (H7.out.below hst hst.size)
        replace H3 := hid (H3.out.below hst hst.size)
        replace H4 := hid (H4.out.below hst hst.size)
        replace H6 := hid (H6.out.below hst hst.size)
        clear hb hst
        go_wp2_with (fail)
        refine (works_any _).mono ?_
        rintro e V22 ⟨rfl, hb⟩
        have hst : Below V21.heap.size V21 V22 := Below.trans (by repeat' (first | with_reducible assumption | with_reducible exact Below.refl _ _ | refine Below.alloc ?_ ?_ _ | refine Below.setCell ?_ ?_ _ | refine Below.drew ?_ | refine below_drewN ?_ _ | (simp; done) | (simp; omega) | omega)) (hb.mono (by first | (simp; done) | (simp; omega) | omega))
        replace hbel := hbel.trans (hst.mono hsz)
        replace hsz := hbel.size
        replace H7 := hid (H7.out.below hst hst.size)
        replace H3 := hid (H3.out.below hst hst.size)
        replace H4 := hid (H4.out.below hst hst.size)
        replace H6 := hid (H6.out.below hst hst.size)
        clear hb hst
        go_wp2
        go_ret
        exact ⟨rfl, hbel⟩
      · clear HOWN
        go_wp2_with (fail)
        refine (chosen62_any _ 255 n n (by omega) n80).mono ?_
        rintro e V20 ⟨A6, c6, A5, c5, rfl, h6, _, hb⟩
        have hst : Below V19.heap.size V19 V20 := Below.trans (by repeat' (first | with_reducible assumption | with_reducible exact Below.refl _ _ | refine Below.alloc ?_ ?_ _ | refine Below.setCell ?_ ?_ _ | refine Below.drew ?_ | refine below_drewN ?_ _ | (simp; done) | (simp; omega) | omega)) (hb.mono (by first | (simp; done) | (simp; omega) | omega))
        replace hbel := hbel.trans (hst.mono hsz)
        replace hsz := hbel.size
        replace H7 := hid (H7.out.below hst hst.size)
        replace H3 := hid (H3.out.below hst hst.size)
        replace H4 := hid (H4.out.below hst hst.size)
        clear hb hst
        rw [HL6.out] at h6
        rw [HL6.out]
        have H6 := hid h6
        clear h6
        go_wp2_with (fail)
        refine (dCheckMelts_any _ _ _ A6 n c n1 c1 L6.length c6 row sc L6 (HR.out _ ?_) hn hnc (HS.out _ ?_) hn1 (H6.out.below (Below.refl _ _) (Nat.le_refl _)) l6').mono ?_
        · exact (by repeat' (first | with_reducible assumption | with_reducible exact Below.refl _ _ | refine Below.alloc ?_ ?_ _ | refine Below.setCell ?_ ?_ _ | refine Below.drew ?_ | refine below_drewN ?_ _ | (simp; done) | (simp; omega) | omega))
        · exact (by repeat' (first | with_reducible assumption | with_reducible exact Below.refl _ _ | refine Below.alloc ?_ ?_ _ | refine Below.setCell ?_ ?_ _ | refine Below.drew ?_ | refine below_drewN ?_ _ | (simp; done) | (simp; omega) | omega))
        rw [HMOST2.out]
        rintro e V21 ⟨rfl, hb⟩
        have hst : Below V20.heap.size V20 V21 := Below.trans (by repeat' (first | with_reducible assumption | with_reducible exact Below.refl _ _ | refine Below.alloc ?_ ?_ _ | refine Below.setCell ?_ ?_ _ | refine Below.drew ?_ | refine below_drewN ?_ _ | (simp; done) | (simp; omega) | omega)) (hb.mono (by first | (simp; done) | (simp; omega) | omega))
        replace hbel := hbel.trans (hst.mono hsz)
        replace hsz := hbel.size
        replace H7 := hid (H7.out.below hst hst.size)
        replace H3 := hid (H3.out.below hst hst.size)
        replace H4 := hid (H4.out.below hst hst.size)
        replace H6 := hid (H6.out.below hst hst.size)
        clear hb hst
        go_wp2_with (fail)
        refine (works_any _).mono ?_
        rintro e V22 ⟨rfl, hb⟩
        have hst : Below V21.heap.size V21 V22 := Below.trans (by repeat' (first | with_reducible assumption | with_reducible exact Below.refl _ _ | refine Below.alloc ?_ ?_ _ | refine Below.setCell ?_ ?_ _ | refine Below.drew ?_ | refine below_drewN ?_ _ | (simp; done) | (simp; omega) | omega)) (hb.mono (by first | (simp; done) | (simp; omega) | omega))
        replace hbel := hbel.trans (hst.mono hsz)
        replace hsz := hbel.size
        replace H7 := hid (H7.out.below hst hst.size)
        replace H3 := hid (H3.out.below hst hst.size)
        replace H4 := hid (H4.out.below hst hst.size)
        replace H6 := hid (H6.out.below hst hst.size)
        clear hb hst
        go_wp2
        go_ret
        exact ⟨rfl, hbel⟩
set_option maxRecDepth 100000 in
set_option maxHeartbeats 4000000 in
theorem meltsl_walk (w : World) (A A1 : Option Addr) (n c n1 c1 : Nat) (row : List Mt) (sc : List Rg) (x2 x3 : Int) (hr : MtS w w.heap.size A n row) (hnc : n ≤ c) (hr' : RgS w w.heap.size A1 n1 sc) (a0 : 0 ≤ x2 ∧ x2 ≤ 255) (a1 : 0 ≤ x3 ∧ x3 ≤ 255) :
    Calls Try.prog 13 #[.slice A n c, .slice A1 n1 c1, .int .u8 x2, .int .u8 x3] w fun e w' => e = .returned (.bool true) ∧ Below w.heap.size w w' := by
  by_cases h0 : checkScales row sc = 0
  · obtain ⟨b2, rfl⟩ : ∃ b : Nat, x2 = b := ⟨x2.toNat, by omega⟩
    exact meltsl_main w A A1 n c n1 c1 row sc b2 x3 _ hr hnc hr' h0 (by omega) a1 rfl
  · have hd := hid (decide_eq_false h0)
    have HR := hid (fun V (h : Below w.heap.size w V) => hr.below h h.size)
    have HS := hid (fun V (h : Below w.heap.size w V) => hr'.below h h.size)
    clear hr hr' h0
    go_enter Try.func13, Try.ntmps13
    go_wp2_with (first | (go_at_call 48; refine (read_any _ _ _ n c n1 c1 row sc (HR.out _ ?_) (HS.out _ ?_)).mono ?_; (· exact (by repeat' (first | with_reducible assumption | with_reducible exact Below.refl _ _ | refine Below.alloc ?_ ?_ _ | refine Below.setCell ?_ ?_ _ | refine Below.drew ?_ | refine below_drewN ?_ _ | (simp; done) | (simp; omega) | omega))); (· exact (by repeat' (first | with_reducible assumption | with_reducible exact Below.refl _ _ | refine Below.alloc ?_ ?_ _ | refine Below.setCell ?_ ?_ _ | refine Below.drew ?_ | refine below_drewN ?_ _ | (simp; done) | (simp; omega) | omega))); rw [hd.out]; rintro e W1 ⟨rfl, hb⟩; have hbel : Below w.heap.size w W1 := Below.trans (by repeat' (first | with_reducible assumption | with_reducible exact Below.refl _ _ | refine Below.alloc ?_ ?_ _ | refine Below.setCell ?_ ?_ _ | refine Below.drew ?_ | refine below_drewN ?_ _ | (simp; done) | (simp; omega) | omega)) (hb.mono (by first | (simp; done) | (simp; omega) | omega))) | (go_at_call 19; refine (works_any _).mono ?_; rintro e W2 ⟨rfl, hb2⟩))
    go_ret
    exact ⟨rfl, Below.trans (by repeat' (first | with_reducible assumption | with_reducible exact Below.refl _ _ | refine Below.alloc ?_ ?_ _ | refine Below.setCell ?_ ?_ _ | refine Below.drew ?_ | refine below_drewN ?_ _ | (simp; done) | (simp; omega) | omega)) (hb2.mono hbel.size)⟩

section
open Go.ChangeShapes Go.WideShapes Go.ChangeAt Go.RowKit
set_option maxRecDepth 100000 in
theorem drossMelts_lifted (os : Os) (started : os.Started) (H : Type) (enc : TypeId × Value → H) :
    ReturnsInHanded {} Try.checked os 13 .any (Rows.drossMeltsSpec.pre6 enc Try.prog Try.f13 Rows.drossMeltsRow.domain false) (Rows.drossMeltsSpec.post enc Try.prog Try.f13 false true false false) := by
  refine returnsInHanded_of_change (C := Try.checked) ownKx started (by kernel_rfl) Try.func13
    (ChangeSpec.witness6 (enc := enc) (C := Try.checked) false ⟨#[], #[.slice none 0 0, .slice none 0 0, .int .u8 0, .int .u8 0], []⟩ 8 (by kernel_rfl) (by kernel_rfl) (by kernel_rfl) (by kernel_rfl)) ?_
  intro W base args ds gs before hval0 hW hcnd _
  have hval : ∀ (j : Nat) t v, Try.f13.params[j]? = some t → args[j]? = some v → Value.okWide Try.prog W .any base t v := hval0
  have hW' := hW
  obtain ⟨p, q, hA0, hV, rfl, hfz, hnd⟩ := hW
  have hA : DataW.TrodAll enc Try.prog W 0 (fun _ => true) true Try.f13.params.toList args.toList ds p := hA0
  have hlt : ∀ x ∈ p, x.block < W.heap.size := fun x hx => hW'.lt x (List.mem_append_left _ hx)
  have hAll : ∀ W', Below W.heap.size W W' → DataW.TrodAll enc Try.prog W' 0 (fun b => decide (b < W.heap.size)) true Try.f13.params.toList args.toList ds p := fun W' hb => all_below laidOut hb (readable_of (by kernel_rfl)) hlt hA
  rw [Try.params13] at hA hval
  obtain ⟨v0, v1, v2, v3, d0, d1, d2, d3, p0, p1, p2, p3, rfl, rfl, rfl, h0, h1, h2, h3⟩ := trodAll_four hA
  obtain ⟨rfl, rfl⟩ := trodVars_none hV
  clear hA0 hval0
  obtain ⟨A0, n0, c0, rfl⟩ := okWide_slice Try.underlying22 (hval 0 22 v0 rfl rfl)
  obtain ⟨hc0, l0, hl0, hr0⟩ := open_mts h0
  obtain ⟨A1, n1, c1, rfl⟩ := okWide_slice Try.underlying34 (hval 1 34 v1 rfl rfl)
  obtain ⟨hc1, l1, hl1, hr1⟩ := open_rgs h1
  obtain ⟨x2, rfl, rfl, rfl, wx2⟩ := open_int Try.underlying5 (hval 2 5 v2 rfl rfl) h2
  obtain ⟨x3, rfl, rfl, rfl, wx3⟩ := open_int Try.underlying5 (hval 3 5 v3 rfl rfl) h3
  refine (meltsl_walk W A0 A1 n0 c0 n1 c1 l0 l1 x2 x3 hr0 hc0 hr1 (u8_bdx wx2) (u8_bdx wx3)).mono fun e W' ⟨he, hb⟩ => ?_
  subst he
  exact ⟨_, rfl, ⟨_, _, _, [], _, [], hW', trodAll_cons_mk (shut_bool Try.underlying4 _) trodAll_mk0, hAll W' hb, rfl, hb.frame _, fun h => by cases h⟩⟩
/-- The law: whatever the input, it returns true, and the input reads as it did. -/
theorem drossMelts_holds : Rows.DrossMeltsSaid :=
  OpenClaim.holds_of_wide 13 Try.f13 rfl rfl rfl rfl rfl rfl rfl ⟨rfl, rfl, rfl, rfl, rfl⟩ rfl rfl rfl rfl rfl (by kernel_rfl) Try.func13 (by kernel_rfl)
    (of_decide_eq_true (by kernel_rfl)) (by unfold Func.isWrapper; first | (rw [if_pos (by decide +kernel)]; kernel_rfl) | (rw [if_neg (by decide +kernel)]; exact ⟨rfl, rfl⟩))
    (fun os started H enc _ => drossMelts_lifted os started H enc)
end
end Go.Proofs.Ytdcglphekafpdaa
