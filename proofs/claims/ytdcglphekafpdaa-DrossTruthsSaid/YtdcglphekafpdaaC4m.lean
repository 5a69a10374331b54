/- DrossTruths answers true for every row, scales and weights that Go can hand it, of any length, wherever they lie. -/
import Derived.Test.YtdcglphekafpdaaMk
import Derived.Test.YtdcglphekafpdaaMl
namespace Go.Proofs.Ytdcglphekafpdaa
open Go.RowKit Go.Shelf
theorem truthErr_scales {row : List Mt} {sc : List Rg} (h : truthErr row sc = 0) : checkScales row sc = 0 := by
  unfold truthErr at h
  by_cases h0 : checkScales row sc = 0
  · exact h0
  · rw [if_pos h0] at h; exact absurd h h0
theorem btwL_len (row : List Mt) (sc : List Rg) : (btwL row sc).length ≤ 100 := by
  unfold btwL
  split
  · rename_i h
    have := checkScales_ok (truthErr_scales h)
    have := checkRow_ok this.1
    rw [btwAll_len]; omega
  · simp
set_option maxRecDepth 100000 in
set_option maxHeartbeats 4000000 in
theorem truths_walk (w : World) (A A' : Option Addr) (n c n' c' : Nat) (row : List Mt) (sc : List Rg) (A2 : Option Addr) (n2 c2 : Nat) (ws : List Int) (hr : MtS w w.heap.size A n row) (hnc : n ≤ c) (hr' : RgS w w.heap.size A' n' sc) (hw : InS w w.heap.size A2 n2 ws) :
    Calls Try.prog 4 #[.slice A n c, .slice A' n' c', .slice A2 n2 c2] w fun e w' => e = .returned (.bool true) ∧ Below w.heap.size w w' := by
  have HR := hid (fun V (h : Below w.heap.size w V) => hr.below h h.size)
  have HS := hid (fun V (h : Below w.heap.size w V) => hr'.below h h.size)
  have HW := hid (fun V (h : Below w.heap.size w V) => hw.below h h.size)
  clear hr hr' hw
  cases h1 : decide ((12 : Int) < n)
  rotate_left
  · replace h1 := hid h1
    go_enter Try.func4, Try.ntmps4
    go_wp2_with (first | (go_at_call 18; refine (great_any A A' n c n' c' _).mono ?_; rw [h1.out]; rintro e W1 ⟨rfl, hw1⟩; subst hw1; simp only [Bool.true_or]) | (go_at_call 19; refine (works_any _).mono ?_; rintro e W1 ⟨rfl, hb⟩))
    go_ret
    exact ⟨rfl, Below.trans (by repeat' (first | with_reducible assumption | with_reducible exact Below.refl _ _ | refine Below.alloc ?_ ?_ _ | refine Below.setCell ?_ ?_ _ | refine Below.drew ?_ | refine below_drewN ?_ _ | (simp; done) | (simp; omega) | omega)) (hb.mono (by first | (simp; done) | (simp; omega) | omega))⟩
  cases h2 : decide ((12 : Int) < n')
  rotate_left
  · replace h1 := hid h1
    replace h2 := hid h2
    go_enter Try.func4, Try.ntmps4
    go_wp2_with (first | (go_at_call 18; refine (great_any A A' n c n' c' _).mono ?_; rw [h1.out, h2.out]; rintro e W1 ⟨rfl, hw1⟩; subst hw1; simp only [Bool.or_true]) | (go_at_call 19; refine (works_any _).mono ?_; rintro e W1 ⟨rfl, hb⟩))
    go_ret
    exact ⟨rfl, Below.trans (by repeat' (first | with_reducible assumption | with_reducible exact Below.refl _ _ | refine Below.alloc ?_ ?_ _ | refine Below.setCell ?_ ?_ _ | refine Below.drew ?_ | refine below_drewN ?_ _ | (simp; done) | (simp; omega) | omega)) (hb.mono (by first | (simp; done) | (simp; omega) | omega))⟩
  by_cases hx0 : (12 : Int) < n2
  · replace h1 := hid h1
    replace h2 := hid h2
    go_enter Try.func4, Try.ntmps4
    go_wp2_with (first | (go_at_call 18; refine (great_any A A' n c n' c' _).mono ?_; rw [h1.out, h2.out]; rintro e W1 ⟨rfl, hw1⟩; subst hw1; simp only [Bool.or_false]) | (go_at_call 19; refine (works_any _).mono ?_; rintro e W1 ⟨rfl, hb⟩))
    go_ret
    exact ⟨rfl, Below.trans (by repeat' (first | with_reducible assumption | with_reducible exact Below.refl _ _ | refine Below.alloc ?_ ?_ _ | refine Below.setCell ?_ ?_ _ | refine Below.drew ?_ | refine below_drewN ?_ _ | (simp; done) | (simp; omega) | omega)) (hb.mono (by first | (simp; done) | (simp; omega) | omega))⟩
  have hm0 : n2 ≤ 12 := by omega
  have hn : n ≤ 12 := by have := of_decide_eq_false h1; omega
  have hn' : n' ≤ 12 := by have := of_decide_eq_false h2; omega
  replace h1 := hid h1
  replace h2 := hid h2
  go_enter Try.func4, Try.ntmps4
  go_wp2_with (fail)
  refine (great_any A A' n c n' c' _).mono ?_
  rw [h1.out, h2.out]
  rintro e W1 ⟨rfl, hw1⟩
  subst hw1
  simp only [Bool.or_false]
  have hbel : Below w.heap.size w w := Below.refl _ _
  have hsz := hbel.size
  obtain ⟨W0, rfl⟩ : ∃ W0 : World, W0 = w := ⟨_, rfl⟩
  have HE1 : Hid (eqRs (btwL row sc) (btwL row sc) = true) := hid (eqRs_t.2 rfl)
  go_wp2_with (fail)
  refine (dTruth_any _ A A' n c n' c' row sc (HR.out _ ?_) hn (HS.out _ ?_) hn').mono ?_
  · exact (by repeat' (first | with_reducible assumption | with_reducible exact Below.refl _ _ | refine Below.alloc ?_ ?_ _ | refine Below.setCell ?_ ?_ _ | refine Below.drew ?_ | refine below_drewN ?_ _ | (simp; done) | (simp; omega) | omega))
  · exact (by repeat' (first | with_reducible assumption | with_reducible exact Below.refl _ _ | refine Below.alloc ?_ ?_ _ | refine Below.setCell ?_ ?_ _ | refine Below.drew ?_ | refine below_drewN ?_ _ | (simp; done) | (simp; omega) | omega))
  rintro e W1 ⟨Ax1, mx1, cx1, ts, rfl, hts, ht1, ht0, hb⟩
  have hst : Below W0.heap.size W0 W1 := Below.trans (by repeat' (first | with_reducible assumption | with_reducible exact Below.refl _ _ | refine Below.alloc ?_ ?_ _ | refine Below.setCell ?_ ?_ _ | refine Below.drew ?_ | refine below_drewN ?_ _ | (simp; done) | (simp; omega) | omega)) (hb.mono (by first | (simp; done) | (simp; omega) | omega))
  replace hbel := hbel.trans (hst.mono hsz)
  replace hsz := hbel.size
  replace HR := hid (fun V (h : Below W1.heap.size W1 V) => HR.out V (hst.trans (h.mono hst.size)))
  replace HS := hid (fun V (h : Below W1.heap.size W1 V) => HS.out V (hst.trans (h.mono hst.size)))
  replace HW := hid (fun V (h : Below W1.heap.size W1 V) => HW.out V (hst.trans (h.mono hst.size)))
  have Hts := hid hts
  have Ht1 := hid ht1
  have Ht0 := hid ht0
  clear hts ht1 ht0
  clear hb hst
  obtain ⟨W0, rfl⟩ : ∃ W0 : World, W0 = W1 := ⟨_, rfl⟩
  go_wp2_with (fail)
  refine (truthError_any _ A A' n c n' c' row sc (HR.out _ ?_) hn (HS.out _ ?_) hn').mono ?_
  · exact (by repeat' (first | with_reducible assumption | with_reducible exact Below.refl _ _ | refine Below.alloc ?_ ?_ _ | refine Below.setCell ?_ ?_ _ | refine Below.drew ?_ | refine below_drewN ?_ _ | (simp; done) | (simp; omega) | omega))
  · exact (by repeat' (first | with_reducible assumption | with_reducible exact Below.refl _ _ | refine Below.alloc ?_ ?_ _ | refine Below.setCell ?_ ?_ _ | refine Below.drew ?_ | refine below_drewN ?_ _ | (simp; done) | (simp; omega) | omega))
  rintro e W1 ⟨rfl, hb⟩
  have hst : Below W0.heap.size W0 W1 := Below.trans (by repeat' (first | with_reducible assumption | with_reducible exact Below.refl _ _ | refine Below.alloc ?_ ?_ _ | refine Below.setCell ?_ ?_ _ | refine Below.drew ?_ | refine below_drewN ?_ _ | (simp; done) | (simp; omega) | omega)) (hb.mono (by first | (simp; done) | (simp; omega) | omega))
  replace hbel := hbel.trans (hst.mono hsz)
  replace hsz := hbel.size
  replace HR := hid (fun V (h : Below W1.heap.size W1 V) => HR.out V (hst.trans (h.mono hst.size)))
  replace HS := hid (fun V (h : Below W1.heap.size W1 V) => HS.out V (hst.trans (h.mono hst.size)))
  replace HW := hid (fun V (h : Below W1.heap.size W1 V) => HW.out V (hst.trans (h.mono hst.size)))
  replace Hts := hid (Hts.out.below hst hst.size)
  clear hb hst
  obtain ⟨W0, rfl⟩ : ∃ W0 : World, W0 = W1 := ⟨_, rfl⟩
  go_wp2_with (fail)
  refine (dBetween_any _ A A' n c n' c' row sc (HR.out _ ?_) hn (HS.out _ ?_) hn').mono ?_
  · exact (by repeat' (first | with_reducible assumption | with_reducible exact Below.refl _ _ | refine Below.alloc ?_ ?_ _ | refine Below.setCell ?_ ?_ _ | refine Below.drew ?_ | refine below_drewN ?_ _ | (simp; done) | (simp; omega) | omega))
  · exact (by repeat' (first | with_reducible assumption | with_reducible exact Below.refl _ _ | refine Below.alloc ?_ ?_ _ | refine Below.setCell ?_ ?_ _ | refine Below.drew ?_ | refine below_drewN ?_ _ | (simp; done) | (simp; omega) | omega))
  rintro e W1 ⟨Ax2, mx2, cx2, rfl, hl2, hb⟩
  have hst : Below W0.heap.size W0 W1 := Below.trans (by repeat' (first | with_reducible assumption | with_reducible exact Below.refl _ _ | refine Below.alloc ?_ ?_ _ | refine Below.setCell ?_ ?_ _ | refine Below.drew ?_ | refine below_drewN ?_ _ | (simp; done) | (simp; omega) | omega)) (hb.mono (by first | (simp; done) | (simp; omega) | omega))
  replace hbel := hbel.trans (hst.mono hsz)
  replace hsz := hbel.size
  replace HR := hid (fun V (h : Below W1.heap.size W1 V) => HR.out V (hst.trans (h.mono hst.size)))
  replace HS := hid (fun V (h : Below W1.heap.size W1 V) => HS.out V (hst.trans (h.mono hst.size)))
  replace HW := hid (fun V (h : Below W1.heap.size W1 V) => HW.out V (hst.trans (h.mono hst.size)))
  replace Hts := hid (Hts.out.below hst hst.size)
  have Hl2 := hid hl2
  clear hl2
  clear hb hst
  obtain ⟨W0, rfl⟩ : ∃ W0 : World, W0 = W1 := ⟨_, rfl⟩
  go_wp2_with (fail)
  refine (refBetween_any _ A A' n c n' c' row sc (HR.out _ ?_) hn hnc (HS.out _ ?_) hn').mono ?_
  · exact (by repeat' (first | with_reducible assumption | with_reducible exact Below.refl _ _ | refine Below.alloc ?_ ?_ _ | refine Below.setCell ?_ ?_ _ | refine Below.drew ?_ | refine below_drewN ?_ _ | (simp; done) | (simp; omega) | omega))
  · exact (by repeat' (first | with_reducible assumption | with_reducible exact Below.refl _ _ | refine Below.alloc ?_ ?_ _ | refine Below.setCell ?_ ?_ _ | refine Below.drew ?_ | refine below_drewN ?_ _ | (simp; done) | (simp; omega) | omega))
  rintro e W1 ⟨Ax3, mx3, cx3, rfl, hl3, hb⟩
  have hst : Below W0.heap.size W0 W1 := Below.trans (by repeat' (first | with_reducible assumption | with_reducible exact Below.refl _ _ | refine Below.alloc ?_ ?_ _ | refine Below.setCell ?_ ?_ _ | refine Below.drew ?_ | refine below_drewN ?_ _ | (simp; done) | (simp; omega) | omega)) (hb.mono (by first | (simp; done) | (simp; omega) | omega))
  replace hbel := hbel.trans (hst.mono hsz)
  replace hsz := hbel.size
  replace HR := hid (fun V (h : Below W1.heap.size W1 V) => HR.out V (hst.trans (h.mono hst.size)))
  replace HS := hid (fun V (h : Below W1.heap.size W1 V) => HS.out V (hst.trans (h.mono hst.size)))
  replace HW := hid (fun V (h : Below W1.heap.size W1 V) => HW.out V (hst.trans (h.mono hst.size)))
  replace Hts := hid (Hts.out.below hst hst.size)
  replace Hl2 := hid (Hl2.out.below hst hst.size)
  have Hl3 := hid hl3
  clear hl3
  clear hb hst
  obtain ⟨W0, rfl⟩ : ∃ W0 : World, W0 = W1 := ⟨_, rfl⟩
  go_wp2_with (fail)
  refine (dCheckScales_any _ A A' n c n' c' row sc (HR.out _ ?_) hn (HS.out _ ?_) hn').mono ?_
  · exact (by repeat' (first | with_reducible assumption | with_reducible exact Below.refl _ _ | refine Below.alloc ?_ ?_ _ | refine Below.setCell ?_ ?_ _ | refine Below.drew ?_ | refine below_drewN ?_ _ | (simp; done) | (simp; omega) | omega))
  · exact (by repeat' (first | with_reducible assumption | with_reducible exact Below.refl _ _ | refine Below.alloc ?_ ?_ _ | refine Below.setCell ?_ ?_ _ | refine Below.drew ?_ | refine below_drewN ?_ _ | (simp; done) | (simp; omega) | omega))
  rintro e W1 ⟨rfl, hb⟩
  have hst : Below W0.heap.size W0 W1 := Below.trans (by repeat' (first | with_reducible assumption | with_reducible exact Below.refl _ _ | refine Below.alloc ?_ ?_ _ | refine Below.setCell ?_ ?_ _ | refine Below.drew ?_ | refine below_drewN ?_ _ | (simp; done) | (simp; omega) | omega)) (hb.mono (by first | (simp; done) | (simp; omega) | omega))
  replace hbel := hbel.trans (hst.mono hsz)
  replace hsz := hbel.size
  replace HR := hid (fun V (h : Below W1.heap.size W1 V) => HR.out V (hst.trans (h.mono hst.size)))
  replace HS := hid (fun V (h : Below W1.heap.size W1 V) => HS.out V (hst.trans (h.mono hst.size)))
  replace HW := hid (fun V (h : Below W1.heap.size W1 V) => HW.out V (hst.trans (h.mono hst.size)))
  replace Hts := hid (Hts.out.below hst hst.size)
  replace Hl2 := hid (Hl2.out.below hst hst.size)
  replace Hl3 := hid (Hl3.out.below hst hst.size)
  clear hb hst
  obtain ⟨W0, rfl⟩ : ∃ W0 : World, W0 = W1 := ⟨_, rfl⟩
  go_wp2_with (fail)
  refine (checkScales_any _ A A' n c n' c' row sc (HR.out _ ?_) hn (HS.out _ ?_) hn').mono ?_
  · exact (by repeat' (first | with_reducible assumption | with_reducible exact Below.refl _ _ | refine Below.alloc ?_ ?_ _ | refine Below.setCell ?_ ?_ _ | refine Below.drew ?_ | refine below_drewN ?_ _ | (simp; done) | (simp; omega) | omega))
  · exact (by repeat' (first | with_reducible assumption | with_reducible exact Below.refl _ _ | refine Below.alloc ?_ ?_ _ | refine Below.setCell ?_ ?_ _ | refine Below.drew ?_ | refine below_drewN ?_ _ | (simp; done) | (simp; omega) | omega))
  rintro e W1 ⟨rfl, hb⟩
  have hst : Below W0.heap.size W0 W1 := Below.trans (by repeat' (first | with_reducible assumption | with_reducible exact Below.refl _ _ | refine Below.alloc ?_ ?_ _ | refine Below.setCell ?_ ?_ _ | refine Below.drew ?_ | refine below_drewN ?_ _ | (simp; done) | (simp; omega) | omega)) (hb.mono (by first | (simp; done) | (simp; omega) | omega))
  replace hbel := hbel.trans (hst.mono hsz)
  replace hsz := hbel.size
  replace HR := hid (fun V (h : Below W1.heap.size W1 V) => HR.out V (hst.trans (h.mono hst.size)))
  replace HS := hid (fun V (h : Below W1.heap.size W1 V) => HS.out V (hst.trans (h.mono hst.size)))
  replace HW := hid (fun V (h : Below W1.heap.size W1 V) => HW.out V (hst.trans (h.mono hst.size)))
  replace Hts := hid (Hts.out.below hst hst.size)
  replace Hl2 := hid (Hl2.out.below hst hst.size)
  replace Hl3 := hid (Hl3.out.below hst hst.size)
  clear hb hst
  obtain ⟨W0, rfl⟩ : ∃ W0 : World, W0 = W1 := ⟨_, rfl⟩
  go_wp2_with (fail)
  refine (dCheckTruth_any _ A A' A2 n c n' c' n2 c2 row sc ws (HR.out _ ?_) hn (HS.out _ ?_) hn' (HW.out _ ?_) (by omega)).mono ?_
  · exact (by repeat' (first | with_reducible assumption | with_reducible exact Below.refl _ _ | refine Below.alloc ?_ ?_ _ | refine Below.setCell ?_ ?_ _ | refine Below.drew ?_ | refine below_drewN ?_ _ | (simp; done) | (simp; omega) | omega))
  · exact (by repeat' (first | with_reducible assumption | with_reducible exact Below.refl _ _ | refine Below.alloc ?_ ?_ _ | refine Below.setCell ?_ ?_ _ | refine Below.drew ?_ | refine below_drewN ?_ _ | (simp; done) | (simp; omega) | omega))
  · exact (by repeat' (first | with_reducible assumption | with_reducible exact Below.refl _ _ | refine Below.alloc ?_ ?_ _ | refine Below.setCell ?_ ?_ _ | refine Below.drew ?_ | refine below_drewN ?_ _ | (simp; done) | (simp; omega) | omega))
  rintro e W1 ⟨rfl, hb⟩
  have hst : Below W0.heap.size W0 W1 := Below.trans (by repeat' (first | with_reducible assumption | with_reducible exact Below.refl _ _ | refine Below.alloc ?_ ?_ _ | refine Below.setCell ?_ ?_ _ | refine Below.drew ?_ | refine below_drewN ?_ _ | (simp; done) | (simp; omega) | omega)) (hb.mono (by first | (simp; done) | (simp; omega) | omega))
  replace hbel := hbel.trans (hst.mono hsz)
  replace hsz := hbel.size
  replace HR := hid (fun V (h : Below W1.heap.size W1 V) => HR.out V (hst.trans (h.mono hst.size)))
  replace HS := hid (fun V (h : Below W1.heap.size W1 V) => HS.out V (hst.trans (h.mono hst.size)))
  replace HW := hid (fun V (h : Below W1.heap.size W1 V) => HW.out V (hst.trans (h.mono hst.size)))
  replace Hts := hid (Hts.out.below hst hst.size)
  replace Hl2 := hid (Hl2.out.below hst hst.size)
  replace Hl3 := hid (Hl3.out.below hst hst.size)
  clear hb hst
  obtain ⟨W0, rfl⟩ : ∃ W0 : World, W0 = W1 := ⟨_, rfl⟩
  go_wp2_with (fail)
  refine (refCheckTruth_any _ A A' A2 n c n' c' n2 c2 row sc ws (HR.out _ ?_) hn (HS.out _ ?_) hn' (HW.out _ ?_) (by omega)).mono ?_
  · exact (by repeat' (first | with_reducible assumption | with_reducible exact Below.refl _ _ | refine Below.alloc ?_ ?_ _ | refine Below.setCell ?_ ?_ _ | refine Below.drew ?_ | refine below_drewN ?_ _ | (simp; done) | (simp; omega) | omega))
  · exact (by repeat' (first | with_reducible assumption | with_reducible exact Below.refl _ _ | refine Below.alloc ?_ ?_ _ | refine Below.setCell ?_ ?_ _ | refine Below.drew ?_ | refine below_drewN ?_ _ | (simp; done) | (simp; omega) | omega))
  · exact (by repeat' (first | with_reducible assumption | with_reducible exact Below.refl _ _ | refine Below.alloc ?_ ?_ _ | refine Below.setCell ?_ ?_ _ | refine Below.drew ?_ | refine below_drewN ?_ _ | (simp; done) | (simp; omega) | omega))
  rintro e W1 ⟨rfl, hb⟩
  have hst : Below W0.heap.size W0 W1 := Below.trans (by repeat' (first | with_reducible assumption | with_reducible exact Below.refl _ _ | refine Below.alloc ?_ ?_ _ | refine Below.setCell ?_ ?_ _ | refine Below.drew ?_ | refine below_drewN ?_ _ | (simp; done) | (simp; omega) | omega)) (hb.mono (by first | (simp; done) | (simp; omega) | omega))
  replace hbel := hbel.trans (hst.mono hsz)
  replace hsz := hbel.size
  replace HR := hid (fun V (h : Below W1.heap.size W1 V) => HR.out V (hst.trans (h.mono hst.size)))
  replace HS := hid (fun V (h : Below W1.heap.size W1 V) => HS.out V (hst.trans (h.mono hst.size)))
  replace HW := hid (fun V (h : Below W1.heap.size W1 V) => HW.out V (hst.trans (h.mono hst.size)))
  replace Hts := hid (Hts.out.below hst hst.size)
  replace Hl2 := hid (Hl2.out.below hst hst.size)
  replace Hl3 := hid (Hl3.out.below hst hst.size)
  clear hb hst
  obtain ⟨W0, rfl⟩ : ∃ W0 : World, W0 = W1 := ⟨_, rfl⟩
  have hm2 : mx2 ≤ 100 := by have := Hl2.out.len; have := btwL_len row sc; omega
  have hm3 : mx3 ≤ 100 := by have := Hl3.out.len; have := btwL_len row sc; omega
  go_wp2_with (fail)
  refine (rangesEq_any _ Ax2 Ax3 mx2 cx2 mx3 cx3 (btwL row sc) (btwL row sc) (Hl2.out.below (Below.refl _ _) (Nat.le_refl _)) (Hl3.out.below (Below.refl _ _) (Nat.le_refl _)) hm2 hm3).mono ?_
  rw [HE1.out]
  rintro e W1 ⟨rfl, hb⟩
  have hst : Below W0.heap.size W0 W1 := Below.trans (by repeat' (first | with_reducible assumption | with_reducible exact Below.refl _ _ | refine Below.alloc ?_ ?_ _ | refine Below.setCell ?_ ?_ _ | refine Below.drew ?_ | refine below_drewN ?_ _ | (simp; done) | (simp; omega) | omega)) (hb.mono (by first | (simp; done) | (simp; omega) | omega))
  replace hbel := hbel.trans (hst.mono hsz)
  replace hsz := hbel.size
  replace HR := hid (fun V (h : Below W1.heap.size W1 V) => HR.out V (hst.trans (h.mono hst.size)))
  replace HS := hid (fun V (h : Below W1.heap.size W1 V) => HS.out V (hst.trans (h.mono hst.size)))
  replace HW := hid (fun V (h : Below W1.heap.size W1 V) => HW.out V (hst.trans (h.mono hst.size)))
  replace Hts := hid (Hts.out.below hst hst.size)
  replace Hl2 := hid (Hl2.out.below hst hst.size)
  replace Hl3 := hid (Hl3.out.below hst hst.size)
  clear hb hst
  obtain ⟨W0, rfl⟩ : ∃ W0 : World, W0 = W1 := ⟨_, rfl⟩
  by_cases hz : truthErr row sc = 0
  · have Hz := hid hz
    have Hfin := hid (truthE_of (truthErr_scales hz) (Ht1.out hz).1 (Ht1.out hz).2)
    have hmx : mx1 ≤ 100 := by have := Hts.out.len; have := (Ht1.out hz).1; have := checkScales_ok (truthErr_scales hz); have := checkRow_ok this.1; omega
    have t1 : (truthErr row sc != 0) = false := by rw [hz]; rfl
    clear hz
    go_wp2_with (fail)
    refine (refCheckTruth_any _ A A' Ax1 n c n' c' mx1 cx1 row sc ts (HR.out _ ?_) hn (HS.out _ ?_) hn' (Hts.out.below (Below.refl _ _) (Nat.le_refl _)) hmx).mono ?_
    · exact (by repeat' (first | with_reducible assumption | with_reducible exact Below.refl _ _ | refine Below.alloc ?_ ?_ _ | refine Below.setCell ?_ ?_ _ | refine Below.drew ?_ | refine below_drewN ?_ _ | (simp; done) | (simp; omega) | omega))
    · exact (by repeat' (first | with_reducible assumption | with_reducible exact Below.refl _ _ | refine Below.alloc ?_ ?_ _ | refine Below.setCell ?_ ?_ _ | refine Below.drew ?_ | refine below_drewN ?_ _ | (simp; done) | (simp; omega) | omega))
    rw [Hfin.out]
    rintro e W1 ⟨rfl, hb⟩
    have hst : Below W0.heap.size W0 W1 := Below.trans (by repeat' (first | with_reducible assumption | with_reducible exact Below.refl _ _ | refine Below.alloc ?_ ?_ _ | refine Below.setCell ?_ ?_ _ | refine Below.drew ?_ | refine below_drewN ?_ _ | (simp; done) | (simp; omega) | omega)) (hb.mono (by first | (simp; done) | (simp; omega) | omega))
    replace hbel := hbel.trans (hst.mono hsz)
    replace hsz := hbel.size
    replace HR := hid (fun V (h : Below W1.heap.size W1 V) => HR.out V (hst.trans (h.mono hst.size)))
    replace HS := hid (fun V (h : Below W1.heap.size W1 V) => HS.out V (hst.trans (h.mono hst.size)))
    replace HW := hid (fun V (h : Below W1.heap.size W1 V) => HW.out V (hst.trans (h.mono hst.size)))
    replace Hts := hid (Hts.out.below hst hst.size)
    replace Hl2 := hid (Hl2.out.below hst hst.size)
    replace Hl3 := hid (Hl3.out.below hst hst.size)
    clear hb hst
    obtain ⟨W0, rfl⟩ : ∃ W0 : World, W0 = W1 := ⟨_, rfl⟩
    go_wp2_with (fail)
    refine (works_any _).mono ?_
    rintro e W1 ⟨rfl, hb⟩
    have hst : Below W0.heap.size W0 W1 := Below.trans (by repeat' (first | with_reducible assumption | with_reducible exact Below.refl _ _ | refine Below.alloc ?_ ?_ _ | refine Below.setCell ?_ ?_ _ | refine Below.drew ?_ | refine below_drewN ?_ _ | (simp; done) | (simp; omega) | omega)) (hb.mono (by first | (simp; done) | (simp; omega) | omega))
    replace hbel := hbel.trans (hst.mono hsz)
    replace hsz := hbel.size
    replace HR := hid (fun V (h : Below W1.heap.size W1 V) => HR.out V (hst.trans (h.mono hst.size)))
    replace HS := hid (fun V (h : Below W1.heap.size W1 V) => HS.out V (hst.trans (h.mono hst.size)))
    replace HW := hid (fun V (h : Below W1.heap.size W1 V) => HW.out V (hst.trans (h.mono hst.size)))
    replace Hts := hid (Hts.out.below hst hst.size)
    replace Hl2 := hid (Hl2.out.below hst hst.size)
    replace Hl3 := hid (Hl3.out.below hst hst.size)
    clear hb hst
    obtain ⟨W0, rfl⟩ : ∃ W0 : World, W0 = W1 := ⟨_, rfl⟩
    go_wp2
    go_ret
    exact ⟨rfl, hbel⟩
  · have h0 := Ht0.out hz
    have hmx : mx1 = 0 := by rw [← Hts.out.len, h0]; rfl
    subst hmx
    have t1 : (truthErr row sc != 0) = true := by simp [hz]
    clear hz h0
    go_wp2_with (fail)
    refine (works_any _).mono ?_
    rintro e W1 ⟨rfl, hb⟩
    have hst : Below W0.heap.size W0 W1 := Below.trans (by repeat' (first | with_reducible assumption | with_reducible exact Below.refl _ _ | refine Below.alloc ?_ ?_ _ | refine Below.setCell ?_ ?_ _ | refine Below.drew ?_ | refine below_drewN ?_ _ | (simp; done) | (simp; omega) | omega)) (hb.mono (by first | (simp; done) | (simp; omega) | omega))
    replace hbel := hbel.trans (hst.mono hsz)
    replace hsz := hbel.size
    replace HR := hid (fun V (h : Below W1.heap.size W1 V) => HR.out V (hst.trans (h.mono hst.size)))
    replace HS := hid (fun V (h : Below W1.heap.size W1 V) => HS.out V (hst.trans (h.mono hst.size)))
    replace HW := hid (fun V (h : Below W1.heap.size W1 V) => HW.out V (hst.trans (h.mono hst.size)))
    replace Hts := hid (Hts.out.below hst hst.size)
    replace Hl2 := hid (Hl2.out.below hst hst.size)
    replace Hl3 := hid (Hl3.out.below hst hst.size)
    clear hb hst
    obtain ⟨W0, rfl⟩ : ∃ W0 : World, W0 = W1 := ⟨_, rfl⟩
    go_wp2
    go_ret
    exact ⟨rfl, hbel⟩

theorem ownK : ownKnob Try.prog.godebug = none := by kernel_rfl

section
open Go.ChangeShapes Go.WideShapes Go.ChangeAt Go.RowKit
set_option maxRecDepth 100000 in
theorem drossTruths_lifted (os : Os) (started : os.Started) (H : Type) (enc : TypeId × Value → H) :
    ReturnsInHanded {} Try.checked os 4 .any (Rows.drossTruthsSpec.pre6 enc Try.prog Try.f4 Rows.drossTruthsRow.domain false) (Rows.drossTruthsSpec.post enc Try.prog Try.f4 false true false false) := by
  refine returnsInHanded_of_change (C := Try.checked) ownK started (by kernel_rfl) Try.func4
    (ChangeSpec.witness6 (enc := enc) (C := Try.checked) false ⟨#[], #[.slice none 0 0, .slice none 0 0, .slice none 0 0], []⟩ 8 (by kernel_rfl) (by kernel_rfl) (by kernel_rfl) (by kernel_rfl)) ?_
  intro W base args ds gs before hval0 hW hcnd _
  have hval : ∀ (j : Nat) t v, Try.f4.params[j]? = some t → args[j]? = some v → Value.okWide Try.prog W .any base t v := hval0
  have hW' := hW
  obtain ⟨p, q, hA0, hV, rfl, hfz, hnd⟩ := hW
  have hA : DataW.TrodAll enc Try.prog W 0 (fun _ => true) true Try.f4.params.toList args.toList ds p := hA0
  have hlt : ∀ x ∈ p, x.block < W.heap.size := fun x hx => hW'.lt x (List.mem_append_left _ hx)
  have hAll : ∀ W', Below W.heap.size W W' → DataW.TrodAll enc Try.prog W' 0 (fun b => decide (b < W.heap.size)) true Try.f4.params.toList args.toList ds p := fun W' hb => all_below laidOut hb (readable_of (by kernel_rfl)) hlt hA
  rw [Try.params4] at hA hval
  obtain ⟨v0, v1, v2, d0, d1, d2, p0, p1, p2, rfl, rfl, rfl, h0, h1, h2⟩ := trodAll_three hA
  obtain ⟨rfl, rfl⟩ := trodVars_none hV
  clear hA0 hval0
  obtain ⟨A0, n0, c0, rfl⟩ := okWide_slice Try.underlying22 (hval 0 22 v0 rfl rfl)
  obtain ⟨hc0, l0, hl0, hr0⟩ := open_mts h0
  obtain ⟨A1, n1, c1, rfl⟩ := okWide_slice Try.underlying34 (hval 1 34 v1 rfl rfl)
  obtain ⟨hc1, l1, hl1, hr1⟩ := open_rgs h1
  obtain ⟨A2, n2, c2, rfl⟩ := okWide_slice Try.underlying35 (hval 2 35 v2 rfl rfl)
  obtain ⟨hc2, l2, hl2, hr2⟩ := open_ins Try.underlying35 Try.underlying2 (by kernel_rfl) h2
  refine (truths_walk W A0 A1 n0 c0 n1 c1 l0 l1 A2 n2 c2 l2 hr0 hc0 hr1 hr2).mono fun e W' ⟨he, hb⟩ => ?_
  subst he
  exact ⟨_, rfl, ⟨_, _, _, [], _, [], hW', trodAll_cons_mk (shut_bool Try.underlying4 _) trodAll_mk0, hAll W' hb, rfl, hb.frame _, fun h => by cases h⟩⟩
/-- The law: whatever the input, it returns true, and the input reads as it did. -/
theorem drossTruths_holds : Rows.DrossTruthsSaid :=
  OpenClaim.holds_of_wide 4 Try.f4 rfl rfl rfl rfl rfl rfl rfl ⟨rfl, rfl, rfl, rfl, rfl⟩ rfl rfl rfl rfl rfl (by kernel_rfl) Try.func4 (by kernel_rfl)
    (of_decide_eq_true (by kernel_rfl)) (by unfold Func.isWrapper; first | (rw [if_pos (by decide +kernel)]; kernel_rfl) | (rw [if_neg (by decide +kernel)]; exact ⟨rfl, rfl⟩))
    (fun os started H enc _ => drossTruths_lifted os started H enc)
end
end Go.Proofs.Ytdcglphekafpdaa
