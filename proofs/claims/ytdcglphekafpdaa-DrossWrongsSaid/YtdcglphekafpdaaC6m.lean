/- DrossWrongs answers true for every row, scales and two lists of numbers that Go can hand it, of any length, wherever they lie. -/
import Derived.Test.YtdcglphekafpdaaMk
import Derived.Test.YtdcglphekafpdaaMl
namespace Go.Proofs.Ytdcglphekafpdaa
open Go.RowKit Go.Shelf
theorem fewL_len {below : Nat} {G : List Int → Bool} : (fewL below G).length ≤ below := by
  unfold fewL
  cases h : fewO below G (below + 1) with
  | none => simp
  | some l => exact (fewO_good h).2.1.len_le
theorem wrongL_len (row : List Mt) (sc : List Rg) : (wrongL row sc).length ≤ 100 := by
  unfold wrongL
  split
  · rename_i h
    have := checkScales_ok h
    have h2 := checkRow_ok this.1
    have := fewL_len (below := sc.length) (G := wrongG row sc)
    omega
  · simp
theorem meltsL_len (row : List Mt) (sc : List Rg) : (meltsL row sc).length ≤ 100 := by
  unfold meltsL
  split
  · rename_i h
    have := checkScales_ok h
    have h2 := checkRow_ok this.1
    have := fewL_len (below := row.length) (G := meltsG row sc)
    omega
  · simp
set_option maxRecDepth 100000 in
set_option maxHeartbeats 4000000 in
theorem wrongs_walk (w : World) (A A' : Option Addr) (n c n' c' : Nat) (row : List Mt) (sc : List Rg) (A2 A3 : Option Addr) (n2 c2 n3 c3 : Nat) (ws ms : List Int) (hr : MtS w w.heap.size A n row) (hnc : n ≤ c) (hr' : RgS w w.heap.size A' n' sc) (hw : InS w w.heap.size A2 n2 ws) (hm : InS w w.heap.size A3 n3 ms) :
    Calls Try.prog 6 #[.slice A n c, .slice A' n' c', .slice A2 n2 c2, .slice A3 n3 c3] w fun e w' => e = .returned (.bool true) ∧ Below w.heap.size w w' := by
  have HR := hid (fun V (h : Below w.heap.size w V) => hr.below h h.size)
  have HS := hid (fun V (h : Below w.heap.size w V) => hr'.below h h.size)
  have HW := hid (fun V (h : Below w.heap.size w V) => hw.below h h.size)
  have HM := hid (fun V (h : Below w.heap.size w V) => hm.below h h.size)
  clear hr hr' hw hm
  cases h1 : decide ((12 : Int) < n)
  rotate_left
  · replace h1 := hid h1
    go_enter Try.func6, Try.ntmps6
    go_wp2_with (first | (go_at_call 18; refine (great_any A A' n c n' c' _).mono ?_; rw [h1.out]; rintro e W1 ⟨rfl, hw1⟩; subst hw1; simp only [Bool.true_or]) | (go_at_call 19; refine (works_any _).mono ?_; rintro e W1 ⟨rfl, hb⟩))
    go_ret
    exact ⟨rfl, Below.trans (by repeat' (first | with_reducible assumption | with_reducible exact Below.refl _ _ | refine Below.alloc ?_ ?_ _ | refine Below.setCell ?_ ?_ _ | refine Below.drew ?_ | refine below_drewN ?_ _ | (simp; done) | (simp; omega) | omega)) (hb.mono (by first | (simp; done) | (simp; omega) | omega))⟩
  cases h2 : decide ((12 : Int) < n')
  rotate_left
  · replace h1 := hid h1
    replace h2 := hid h2
    go_enter Try.func6, Try.ntmps6
    go_wp2_with (first | (go_at_call 18; refine (great_any A A' n c n' c' _).mono ?_; rw [h1.out, h2.out]; rintro e W1 ⟨rfl, hw1⟩; subst hw1; simp only [Bool.or_true]) | (go_at_call 19; refine (works_any _).mono ?_; rintro e W1 ⟨rfl, hb⟩))
    go_ret
    exact ⟨rfl, Below.trans (by repeat' (first | with_reducible assumption | with_reducible exact Below.refl _ _ | refine Below.alloc ?_ ?_ _ | refine Below.setCell ?_ ?_ _ | refine Below.drew ?_ | refine below_drewN ?_ _ | (simp; done) | (simp; omega) | omega)) (hb.mono (by first | (simp; done) | (simp; omega) | omega))⟩
  by_cases hx0 : (12 : Int) < n2
  · replace h1 := hid h1
    replace h2 := hid h2
    go_enter Try.func6, Try.ntmps6
    go_wp2_with (first | (go_at_call 18; refine (great_any A A' n c n' c' _).mono ?_; rw [h1.out, h2.out]; rintro e W1 ⟨rfl, hw1⟩; subst hw1; simp only [Bool.or_false]) | (go_at_call 19; refine (works_any _).mono ?_; rintro e W1 ⟨rfl, hb⟩))
    go_ret
    exact ⟨rfl, Below.trans (by repeat' (first | with_reducible assumption | with_reducible exact Below.refl _ _ | refine Below.alloc ?_ ?_ _ | refine Below.setCell ?_ ?_ _ | refine Below.drew ?_ | refine below_drewN ?_ _ | (simp; done) | (simp; omega) | omega)) (hb.mono (by first | (simp; done) | (simp; omega) | omega))⟩
  have hm0 : n2 ≤ 12 := by omega
  by_cases hx1 : (12 : Int) < n3
  · replace h1 := hid h1
    replace h2 := hid h2
    go_enter Try.func6, Try.ntmps6
    go_wp2_with (first | (go_at_call 18; refine (great_any A A' n c n' c' _).mono ?_; rw [h1.out, h2.out]; rintro e W1 ⟨rfl, hw1⟩; subst hw1; simp only [Bool.or_false]) | (go_at_call 19; refine (works_any _).mono ?_; rintro e W1 ⟨rfl, hb⟩))
    go_ret
    exact ⟨rfl, Below.trans (by repeat' (first | with_reducible assumption | with_reducible exact Below.refl _ _ | refine Below.alloc ?_ ?_ _ | refine Below.setCell ?_ ?_ _ | refine Below.drew ?_ | refine below_drewN ?_ _ | (simp; done) | (simp; omega) | omega)) (hb.mono (by first | (simp; done) | (simp; omega) | omega))⟩
  have hm1 : n3 ≤ 12 := by omega
  have hn : n ≤ 12 := by have := of_decide_eq_false h1; omega
  have hn' : n' ≤ 12 := by have := of_decide_eq_false h2; omega
  replace h1 := hid h1
  replace h2 := hid h2
  go_enter Try.func6, Try.ntmps6
  go_wp2_with (fail)
  refine (great_any A A' n c n' c' _).mono ?_
  rw [h1.out, h2.out]
  rintro e W1 ⟨rfl, hw1⟩
  subst hw1
  simp only [Bool.or_false]
  have hbel : Below w.heap.size w w := Below.refl _ _
  have hsz := hbel.size
  obtain ⟨W0, rfl⟩ : ∃ W0 : World, W0 = w := ⟨_, rfl⟩
  have HE1 : Hid (eqI (wrongL row sc) (wrongL row sc) = true) := hid (eqI_t.2 rfl)
  have HE2 : Hid (eqI (meltsL row sc) (meltsL row sc) = true) := hid (eqI_t.2 rfl)
  have hlw := wrongL_len row sc
  have hlm := meltsL_len row sc
  go_wp2_with (fail)
  refine (dWrong_any _ A A' n c n' c' row sc (HR.out _ ?_) hn (HS.out _ ?_) hn').mono ?_
  · exact (by repeat' (first | with_reducible assumption | with_reducible exact Below.refl _ _ | refine Below.alloc ?_ ?_ _ | refine Below.setCell ?_ ?_ _ | refine Below.drew ?_ | refine below_drewN ?_ _ | (simp; done) | (simp; omega) | omega))
  · exact (by repeat' (first | with_reducible assumption | with_reducible exact Below.refl _ _ | refine Below.alloc ?_ ?_ _ | refine Below.setCell ?_ ?_ _ | refine Below.drew ?_ | refine below_drewN ?_ _ | (simp; done) | (simp; omega) | omega))
  rintro e W1 ⟨u, rfl, hu, hb⟩
  have hst : Below W0.heap.size W0 W1 := Below.trans (by repeat' (first | with_reducible assumption | with_reducible exact Below.refl _ _ | refine Below.alloc ?_ ?_ _ | refine Below.setCell ?_ ?_ _ | refine Below.drew ?_ | refine below_drewN ?_ _ | (simp; done) | (simp; omega) | omega)) (hb.mono (by first | (simp; done) | (simp; omega) | omega))
  replace hbel := hbel.trans (hst.mono hsz)
  replace hsz := hbel.size
  replace HR := hid (fun V (h : Below W1.heap.size W1 V) => HR.out V (hst.trans (h.mono hst.size)))
  replace HS := hid (fun V (h : Below W1.heap.size W1 V) => HS.out V (hst.trans (h.mono hst.size)))
  replace HW := hid (fun V (h : Below W1.heap.size W1 V) => HW.out V (hst.trans (h.mono hst.size)))
  replace HM := hid (fun V (h : Below W1.heap.size W1 V) => HM.out V (hst.trans (h.mono hst.size)))
  obtain ⟨Ax1, cx1, rfl, hs1, _⟩ := hu.form; have Hx1 := hid hs1; clear hu hs1
  clear hb hst
  obtain ⟨W0, rfl⟩ : ∃ W0 : World, W0 = W1 := ⟨_, rfl⟩
  go_wp2_with (fail)
  refine (refWrong_any _ A A' n c n' c' row sc (HR.out _ ?_) hn (HS.out _ ?_) hn').mono ?_
  · exact (by repeat' (first | with_reducible assumption | with_reducible exact Below.refl _ _ | refine Below.alloc ?_ ?_ _ | refine Below.setCell ?_ ?_ _ | refine Below.drew ?_ | refine below_drewN ?_ _ | (simp; done) | (simp; omega) | omega))
  · exact (by repeat' (first | with_reducible assumption | with_reducible exact Below.refl _ _ | refine Below.alloc ?_ ?_ _ | refine Below.setCell ?_ ?_ _ | refine Below.drew ?_ | refine below_drewN ?_ _ | (simp; done) | (simp; omega) | omega))
  rintro e W1 ⟨u, rfl, hu, hb⟩
  have hst : Below W0.heap.size W0 W1 := Below.trans (by repeat' (first | with_reducible assumption | with_reducible exact Below.refl _ _ | refine Below.alloc ?_ ?_ _ | refine Below.setCell ?_ ?_ _ | refine Below.drew ?_ | refine below_drewN ?_ _ | (simp; done) | (simp; omega) | omega)) (hb.mono (by first | (simp; done) | (simp; omega) | omega))
  replace hbel := hbel.trans (hst.mono hsz)
  replace hsz := hbel.size
  replace HR := hid (fun V (h : Below W1.heap.size W1 V) => HR.out V (hst.trans (h.mono hst.size)))
  replace HS := hid (fun V (h : Below W1.heap.size W1 V) => HS.out V (hst.trans (h.mono hst.size)))
  replace HW := hid (fun V (h : Below W1.heap.size W1 V) => HW.out V (hst.trans (h.mono hst.size)))
  replace HM := hid (fun V (h : Below W1.heap.size W1 V) => HM.out V (hst.trans (h.mono hst.size)))
  replace Hx1 := hid (Hx1.out.below hst hst.size)
  obtain ⟨Ax2, cx2, rfl, hs2, _⟩ := hu.form; have Hx2 := hid hs2; clear hu hs2
  clear hb hst
  obtain ⟨W0, rfl⟩ : ∃ W0 : World, W0 = W1 := ⟨_, rfl⟩
  go_wp2_with (fail)
  refine (dMelts_any _ A A' n c n' c' row sc (HR.out _ ?_) hn hnc (HS.out _ ?_) hn').mono ?_
  · exact (by repeat' (first | with_reducible assumption | with_reducible exact Below.refl _ _ | refine Below.alloc ?_ ?_ _ | refine Below.setCell ?_ ?_ _ | refine Below.drew ?_ | refine below_drewN ?_ _ | (simp; done) | (simp; omega) | omega))
  · exact (by repeat' (first | with_reducible assumption | with_reducible exact Below.refl _ _ | refine Below.alloc ?_ ?_ _ | refine Below.setCell ?_ ?_ _ | refine Below.drew ?_ | refine below_drewN ?_ _ | (simp; done) | (simp; omega) | omega))
  rintro e W1 ⟨u, rfl, hu, hb⟩
  have hst : Below W0.heap.size W0 W1 := Below.trans (by repeat' (first | with_reducible assumption | with_reducible exact Below.refl _ _ | refine Below.alloc ?_ ?_ _ | refine Below.setCell ?_ ?_ _ | refine Below.drew ?_ | refine below_drewN ?_ _ | (simp; done) | (simp; omega) | omega)) (hb.mono (by first | (simp; done) | (simp; omega) | omega))
  replace hbel := hbel.trans (hst.mono hsz)
  replace hsz := hbel.size
  replace HR := hid (fun V (h : Below W1.heap.size W1 V) => HR.out V (hst.trans (h.mono hst.size)))
  replace HS := hid (fun V (h : Below W1.heap.size W1 V) => HS.out V (hst.trans (h.mono hst.size)))
  replace HW := hid (fun V (h : Below W1.heap.size W1 V) => HW.out V (hst.trans (h.mono hst.size)))
  replace HM := hid (fun V (h : Below W1.heap.size W1 V) => HM.out V (hst.trans (h.mono hst.size)))
  replace Hx1 := hid (Hx1.out.below hst hst.size)
  replace Hx2 := hid (Hx2.out.below hst hst.size)
  obtain ⟨Ax3, cx3, rfl, hs3, _⟩ := hu.form; have Hx3 := hid hs3; clear hu hs3
  clear hb hst
  obtain ⟨W0, rfl⟩ : ∃ W0 : World, W0 = W1 := ⟨_, rfl⟩
  go_wp2_with (fail)
  refine (refMelts_any _ A A' n c n' c' row sc (HR.out _ ?_) hn (HS.out _ ?_) hn').mono ?_
  · exact (by repeat' (first | with_reducible assumption | with_reducible exact Below.refl _ _ | refine Below.alloc ?_ ?_ _ | refine Below.setCell ?_ ?_ _ | refine Below.drew ?_ | refine below_drewN ?_ _ | (simp; done) | (simp; omega) | omega))
  · exact (by repeat' (first | with_reducible assumption | with_reducible exact Below.refl _ _ | refine Below.alloc ?_ ?_ _ | refine Below.setCell ?_ ?_ _ | refine Below.drew ?_ | refine below_drewN ?_ _ | (simp; done) | (simp; omega) | omega))
  rintro e W1 ⟨u, rfl, hu, hb⟩
  have hst : Below W0.heap.size W0 W1 := Below.trans (by repeat' (first | with_reducible assumption | with_reducible exact Below.refl _ _ | refine Below.alloc ?_ ?_ _ | refine Below.setCell ?_ ?_ _ | refine Below.drew ?_ | refine below_drewN ?_ _ | (simp; done) | (simp; omega) | omega)) (hb.mono (by first | (simp; done) | (simp; omega) | omega))
  replace hbel := hbel.trans (hst.mono hsz)
  replace hsz := hbel.size
  replace HR := hid (fun V (h : Below W1.heap.size W1 V) => HR.out V (hst.trans (h.mono hst.size)))
  replace HS := hid (fun V (h : Below W1.heap.size W1 V) => HS.out V (hst.trans (h.mono hst.size)))
  replace HW := hid (fun V (h : Below W1.heap.size W1 V) => HW.out V (hst.trans (h.mono hst.size)))
  replace HM := hid (fun V (h : Below W1.heap.size W1 V) => HM.out V (hst.trans (h.mono hst.size)))
  replace Hx1 := hid (Hx1.out.below hst hst.size)
  replace Hx2 := hid (Hx2.out.below hst hst.size)
  replace Hx3 := hid (Hx3.out.below hst hst.size)
  obtain ⟨Ax4, cx4, rfl, hs4, _⟩ := hu.form; have Hx4 := hid hs4; clear hu hs4
  clear hb hst
  obtain ⟨W0, rfl⟩ : ∃ W0 : World, W0 = W1 := ⟨_, rfl⟩
  go_wp2_with (fail)
  refine (dCheckWrong_any _ A A' A2 n c n' c' n2 c2 row sc ws (HR.out _ ?_) hn (HS.out _ ?_) hn' (HW.out _ ?_) (by omega)).mono ?_
  · exact (by repeat' (first | with_reducible assumption | with_reducible exact Below.refl _ _ | refine Below.alloc ?_ ?_ _ | refine Below.setCell ?_ ?_ _ | refine Below.drew ?_ | refine below_drewN ?_ _ | (simp; done) | (simp; omega) | omega))
  · exact (by repeat' (first | with_reducible assumption | with_reducible exact Below.refl _ _ | refine Below.alloc ?_ ?_ _ | refine Below.setCell ?_ ?_ _ | refine Below.drew ?_ | refine below_drewN ?_ _ | (simp; done) | (simp; omega) | omega))
  · exact (by repeat' (first | with_reducible assumption | with_reducible exact Below.refl _ _ | refine Below.alloc ?_ ?_ _ | refine Below.setCell ?_ ?_ _ | refine Below.drew ?_ | refine below_drewN ?_ _ | (simp; done) | (simp; omega) | omega))
  rintro e W1 ⟨rfl, hb⟩
  have hst : Below W0.heap.size W0 W1 := Below.trans (by repeat' (first | with_reducible assumption | with_reducible exact Below.refl _ _ | refine Below.alloc ?_ ?_ _ | refine Below.setCell ?_ ?_ _ | refine Below.drew ?_ | refine below_drewN ?_ _ | (simp; done) | (simp; omega) | omega)) (hb.mono (by first | (simp; done) | (simp; omega) | omega))
  replace hbel := hbel.trans (hst.mono hsz)
  replace hsz := hbel.size
  replace HR := hid (fun V (h : Below W1.heap.size W1 V) => HR.out V (hst.trans (h.mono hst.size)))
  replace HS := hid (fun V (h : Below W1.heap.size W1 V) => HS.out V (hst.trans (h.mono hst.size)))
  replace HW := hid (fun V (h : Below W1.heap.size W1 V) => HW.out V (hst.trans (h.mono hst.size)))
  replace HM := hid (fun V (h : Below W1.heap.size W1 V) => HM.out V (hst.trans (h.mono hst.size)))
  replace Hx1 := hid (Hx1.out.below hst hst.size)
  replace Hx2 := hid (Hx2.out.below hst hst.size)
  replace Hx3 := hid (Hx3.out.below hst hst.size)
  replace Hx4 := hid (Hx4.out.below hst hst.size)
  clear hb hst
  obtain ⟨W0, rfl⟩ : ∃ W0 : World, W0 = W1 := ⟨_, rfl⟩
  go_wp2_with (fail)
  refine (refCheckWrong_any _ A A' A2 n c n' c' n2 c2 row sc ws (HR.out _ ?_) hn (HS.out _ ?_) hn' (HW.out _ ?_) (by omega)).mono ?_
  · exact (by repeat' (first | with_reducible assumption | with_reducible exact Below.refl _ _ | refine Below.alloc ?_ ?_ _ | refine Below.setCell ?_ ?_ _ | refine Below.drew ?_ | refine below_drewN ?_ _ | (simp; done) | (simp; omega) | omega))
  · exact (by repeat' (first | with_reducible assumption | with_reducible exact Below.refl _ _ | refine Below.alloc ?_ ?_ _ | refine Below.setCell ?_ ?_ _ | refine Below.drew ?_ | refine below_drewN ?_ _ | (simp; done) | (simp; omega) | omega))
  · exact (by repeat' (first | with_reducible assumption | with_reducible exact Below.refl _ _ | refine Below.alloc ?_ ?_ _ | refine Below.setCell ?_ ?_ _ | refine Below.drew ?_ | refine below_drewN ?_ _ | (simp; done) | (simp; omega) | omega))
  rintro e W1 ⟨rfl, hb⟩
  have hst : Below W0.heap.size W0 W1 := Below.trans (by repeat' (first | with_reducible assumption | with_reducible exact Below.refl _ _ | refine Below.alloc ?_ ?_ _ | refine Below.setCell ?_ ?_ _ | refine Below.drew ?_ | refine below_drewN ?_ _ | (simp; done) | (simp; omega) | omega)) (hb.mono (by first | (simp; done) | (simp; omega) | omega))
  replace hbel := hbel.trans (hst.mono hsz)
  replace hsz := hbel.size
  replace HR := hid (fun V (h : Below W1.heap.size W1 V) => HR.out V (hst.trans (h.mono hst.size)))
  replace HS := hid (fun V (h : Below W1.heap.size W1 V) => HS.out V (hst.trans (h.mono hst.size)))
  replace HW := hid (fun V (h : Below W1.heap.size W1 V) => HW.out V (hst.trans (h.mono hst.size)))
  replace HM := hid (fun V (h : Below W1.heap.size W1 V) => HM.out V (hst.trans (h.mono hst.size)))
  replace Hx1 := hid (Hx1.out.below hst hst.size)
  replace Hx2 := hid (Hx2.out.below hst hst.size)
  replace Hx3 := hid (Hx3.out.below hst hst.size)
  replace Hx4 := hid (Hx4.out.below hst hst.size)
  clear hb hst
  obtain ⟨W0, rfl⟩ : ∃ W0 : World, W0 = W1 := ⟨_, rfl⟩
  go_wp2_with (fail)
  refine (dCheckMelts_any _ A A' A3 n c n' c' n3 c3 row sc ms (HR.out _ ?_) hn hnc (HS.out _ ?_) hn' (HM.out _ ?_) (by omega)).mono ?_
  · exact (by repeat' (first | with_reducible assumption | with_reducible exact Below.refl _ _ | refine Below.alloc ?_ ?_ _ | refine Below.setCell ?_ ?_ _ | refine Below.drew ?_ | refine below_drewN ?_ _ | (simp; done) | (simp; omega) | omega))
  · exact (by repeat' (first | with_reducible assumption | with_reducible exact Below.refl _ _ | refine Below.alloc ?_ ?_ _ | refine Below.setCell ?_ ?_ _ | refine Below.drew ?_ | refine below_drewN ?_ _ | (simp; done) | (simp; omega) | omega))
  · exact (by repeat' (first | with_reducible assumption | with_reducible exact Below.refl _ _ | refine Below.alloc ?_ ?_ _ | refine Below.setCell ?_ ?_ _ | refine Below.drew ?_ | refine below_drewN ?_ _ | (simp; done) | (simp; omega) | omega))
  rintro e W1 ⟨rfl, hb⟩
  have hst : Below W0.heap.size W0 W1 := Below.trans (by repeat' (first | with_reducible assumption | with_reducible exact Below.refl _ _ | refine Below.alloc ?_ ?_ _ | refine Below.setCell ?_ ?_ _ | refine Below.drew ?_ | refine below_drewN ?_ _ | (simp; done) | (simp; omega) | omega)) (hb.mono (by first | (simp; done) | (simp; omega) | omega))
  replace hbel := hbel.trans (hst.mono hsz)
  replace hsz := hbel.size
  replace HR := hid (fun V (h : Below W1.heap.size W1 V) => HR.out V (hst.trans (h.mono hst.size)))
  replace HS := hid (fun V (h : Below W1.heap.size W1 V) => HS.out V (hst.trans (h.mono hst.size)))
  replace HW := hid (fun V (h : Below W1.heap.size W1 V) => HW.out V (hst.trans (h.mono hst.size)))
  replace HM := hid (fun V (h : Below W1.heap.size W1 V) => HM.out V (hst.trans (h.mono hst.size)))
  replace Hx1 := hid (Hx1.out.below hst hst.size)
  replace Hx2 := hid (Hx2.out.below hst hst.size)
  replace Hx3 := hid (Hx3.out.below hst hst.size)
  replace Hx4 := hid (Hx4.out.below hst hst.size)
  clear hb hst
  obtain ⟨W0, rfl⟩ : ∃ W0 : World, W0 = W1 := ⟨_, rfl⟩
  go_wp2_with (fail)
  refine (refCheckMelts_any _ A A' A3 n c n' c' n3 c3 row sc ms (HR.out _ ?_) hn (HS.out _ ?_) hn' (HM.out _ ?_) (by omega)).mono ?_
  · exact (by repeat' (first | with_reducible assumption | with_reducible exact Below.refl _ _ | refine Below.alloc ?_ ?_ _ | refine Below.setCell ?_ ?_ _ | refine Below.drew ?_ | refine below_drewN ?_ _ | (simp; done) | (simp; omega) | omega))
  · exact (by repeat' (first | with_reducible assumption | with_reducible exact Below.refl _ _ | refine Below.alloc ?_ ?_ _ | refine Below.setCell ?_ ?_ _ | refine Below.drew ?_ | refine below_drewN ?_ _ | (simp; done) | (simp; omega) | omega))
  · exact (by repeat' (first | with_reducible assumption | with_reducible exact Below.refl _ _ | refine Below.alloc ?_ ?_ _ | refine Below.setCell ?_ ?_ _ | refine Below.drew ?_ | refine below_drewN ?_ _ | (simp; done) | (simp; omega) | omega))
  rintro e W1 ⟨rfl, hb⟩
  have hst : Below W0.heap.size W0 W1 := Below.trans (by repeat' (first | with_reducible assumption | with_reducible exact Below.refl _ _ | refine Below.alloc ?_ ?_ _ | refine Below.setCell ?_ ?_ _ | refine Below.drew ?_ | refine below_drewN ?_ _ | (simp; done) | (simp; omega) | omega)) (hb.mono (by first | (simp; done) | (simp; omega) | omega))
  replace hbel := hbel.trans (hst.mono hsz)
  replace hsz := hbel.size
  replace HR := hid (fun V (h : Below W1.heap.size W1 V) => HR.out V (hst.trans (h.mono hst.size)))
  replace HS := hid (fun V (h : Below W1.heap.size W1 V) => HS.out V (hst.trans (h.mono hst.size)))
  replace HW := hid (fun V (h : Below W1.heap.size W1 V) => HW.out V (hst.trans (h.mono hst.size)))
  replace HM := hid (fun V (h : Below W1.heap.size W1 V) => HM.out V (hst.trans (h.mono hst.size)))
  replace Hx1 := hid (Hx1.out.below hst hst.size)
  replace Hx2 := hid (Hx2.out.below hst hst.size)
  replace Hx3 := hid (Hx3.out.below hst hst.size)
  replace Hx4 := hid (Hx4.out.below hst hst.size)
  clear hb hst
  obtain ⟨W0, rfl⟩ : ∃ W0 : World, W0 = W1 := ⟨_, rfl⟩
  go_wp2_with (fail)
  refine (ints_any _ Ax1 Ax2 _ cx1 _ cx2 (wrongL row sc) (wrongL row sc) (Hx1.out.below (Below.refl _ _) (Nat.le_refl _)) (Hx2.out.below (Below.refl _ _) (Nat.le_refl _)) hlw hlw).mono ?_
  rw [HE1.out]
  rintro e W1 ⟨rfl, hb⟩
  have hst : Below W0.heap.size W0 W1 := Below.trans (by repeat' (first | with_reducible assumption | with_reducible exact Below.refl _ _ | refine Below.alloc ?_ ?_ _ | refine Below.setCell ?_ ?_ _ | refine Below.drew ?_ | refine below_drewN ?_ _ | (simp; done) | (simp; omega) | omega)) (hb.mono (by first | (simp; done) | (simp; omega) | omega))
  replace hbel := hbel.trans (hst.mono hsz)
  replace hsz := hbel.size
  replace HR := hid (fun V (h : Below W1.heap.size W1 V) => HR.out V (hst.trans (h.mono hst.size)))
  replace HS := hid (fun V (h : Below W1.heap.size W1 V) => HS.out V (hst.trans (h.mono hst.size)))
  replace HW := hid (fun V (h : Below W1.heap.size W1 V) => HW.out V (hst.trans (h.mono hst.size)))
  replace HM := hid (fun V (h : Below W1.heap.size W1 V) => HM.out V (hst.trans (h.mono hst.size)))
  replace Hx1 := hid (Hx1.out.below hst hst.size)
  replace Hx2 := hid (Hx2.out.below hst hst.size)
  replace Hx3 := hid (Hx3.out.below hst hst.size)
  replace Hx4 := hid (Hx4.out.below hst hst.size)
  clear hb hst
  obtain ⟨W0, rfl⟩ : ∃ W0 : World, W0 = W1 := ⟨_, rfl⟩
  go_wp2_with (fail)
  refine (ints_any _ Ax3 Ax4 _ cx3 _ cx4 (meltsL row sc) (meltsL row sc) (Hx3.out.below (Below.refl _ _) (Nat.le_refl _)) (Hx4.out.below (Below.refl _ _) (Nat.le_refl _)) hlm hlm).mono ?_
  rw [HE2.out]
  rintro e W1 ⟨rfl, hb⟩
  have hst : Below W0.heap.size W0 W1 := Below.trans (by repeat' (first | with_reducible assumption | with_reducible exact Below.refl _ _ | refine Below.alloc ?_ ?_ _ | refine Below.setCell ?_ ?_ _ | refine Below.drew ?_ | refine below_drewN ?_ _ | (simp; done) | (simp; omega) | omega)) (hb.mono (by first | (simp; done) | (simp; omega) | omega))
  replace hbel := hbel.trans (hst.mono hsz)
  replace hsz := hbel.size
  replace HR := hid (fun V (h : Below W1.heap.size W1 V) => HR.out V (hst.trans (h.mono hst.size)))
  replace HS := hid (fun V (h : Below W1.heap.size W1 V) => HS.out V (hst.trans (h.mono hst.size)))
  replace HW := hid (fun V (h : Below W1.heap.size W1 V) => HW.out V (hst.trans (h.mono hst.size)))
  replace HM := hid (fun V (h : Below W1.heap.size W1 V) => HM.out V (hst.trans (h.mono hst.size)))
  replace Hx1 := hid (Hx1.out.below hst hst.size)
  replace Hx2 := hid (Hx2.out.below hst hst.size)
  replace Hx3 := hid (Hx3.out.below hst hst.size)
  replace Hx4 := hid (Hx4.out.below hst hst.size)
  clear hb hst
  obtain ⟨W0, rfl⟩ : ∃ W0 : World, W0 = W1 := ⟨_, rfl⟩
  go_wp2_with (fail)
  refine (works_any _).mono ?_
  rintro e W1 ⟨rfl, hb⟩
  have hst : Below W0.heap.size W0 W1 := Below.trans (by repeat' (first | with_reducible assumption | with_reducible exact Below.refl _ _ | refine Below.alloc ?_ ?_ _ | refine Below.setCell ?_ ?_ _ | refine Below.drew ?_ | refine below_drewN ?_ _ | (simp; done) | (simp; omega) | omega)) (hb.mono (by first | (simp; done) | (simp; omega) | omega))
  replace hbel := hbel.trans (hst.mono hsz)
  replace hsz := hbel.size
  replace HR := hid (fun V (h : Below W1.heap.size W1 V) => HR.out V (hst.trans (h.mono hst.size)))
  replace HS := hid (fun V (h : Below W1.heap.size W1 V) => HS.out V (hst.trans (h.mono hst.size)))
  replace HW := hid (fun V (h : Below W1.heap.size W1 V) => HW.out V (hst.trans (h.mono hst.size)))
  replace HM := hid (fun V (h : Below W1.heap.size W1 V) => HM.out V (hst.trans (h.mono hst.size)))
  replace Hx1 := hid (Hx1.out.below hst hst.size)
  replace Hx2 := hid (Hx2.out.below hst hst.size)
  replace Hx3 := hid (Hx3.out.below hst hst.size)
  replace Hx4 := hid (Hx4.out.below hst hst.size)
  clear hb hst
  obtain ⟨W0, rfl⟩ : ∃ W0 : World, W0 = W1 := ⟨_, rfl⟩
  go_wp2
  go_ret
  exact ⟨rfl, hbel⟩

theorem ownK : ownKnob Try.prog.godebug = none := by kernel_rfl

section
open Go.ChangeShapes Go.WideShapes Go.ChangeAt Go.RowKit
set_option maxRecDepth 100000 in
theorem drossWrongs_lifted (os : Os) (started : os.Started) (H : Type) (enc : TypeId × Value → H) :
    ReturnsInHanded {} Try.checked os 6 .any (Rows.drossWrongsSpec.pre6 enc Try.prog Try.f6 Rows.drossWrongsRow.domain false) (Rows.drossWrongsSpec.post enc Try.prog Try.f6 false true false false) := by
  refine returnsInHanded_of_change (C := Try.checked) ownK started (by kernel_rfl) Try.func6
    (ChangeSpec.witness6 (enc := enc) (C := Try.checked) false ⟨#[], #[.slice none 0 0, .slice none 0 0, .slice none 0 0, .slice none 0 0], []⟩ 8 (by kernel_rfl) (by kernel_rfl) (by kernel_rfl) (by kernel_rfl)) ?_
  intro W base args ds gs before hval0 hW hcnd _
  have hval : ∀ (j : Nat) t v, Try.f6.params[j]? = some t → args[j]? = some v → Value.okWide Try.prog W .any base t v := hval0
  have hW' := hW
  obtain ⟨p, q, hA0, hV, rfl, hfz, hnd⟩ := hW
  have hA : DataW.TrodAll enc Try.prog W 0 (fun _ => true) true Try.f6.params.toList args.toList ds p := hA0
  have hlt : ∀ x ∈ p, x.block < W.heap.size := fun x hx => hW'.lt x (List.mem_append_left _ hx)
  have hAll : ∀ W', Below W.heap.size W W' → DataW.TrodAll enc Try.prog W' 0 (fun b => decide (b < W.heap.size)) true Try.f6.params.toList args.toList ds p := fun W' hb => all_below laidOut hb (readable_of (by kernel_rfl)) hlt hA
  rw [Try.params6] at hA hval
  obtain ⟨v0, v1, v2, v3, d0, d1, d2, d3, p0, p1, p2, p3, rfl, rfl, rfl, h0, h1, h2, h3⟩ := trodAll_four hA
  obtain ⟨rfl, rfl⟩ := trodVars_none hV
  clear hA0 hval0
  obtain ⟨A0, n0, c0, rfl⟩ := okWide_slice Try.underlying22 (hval 0 22 v0 rfl rfl)
  obtain ⟨hc0, l0, hl0, hr0⟩ := open_mts h0
  obtain ⟨A1, n1, c1, rfl⟩ := okWide_slice Try.underlying34 (hval 1 34 v1 rfl rfl)
  obtain ⟨hc1, l1, hl1, hr1⟩ := open_rgs h1
  obtain ⟨A2, n2, c2, rfl⟩ := okWide_slice Try.underlying49 (hval 2 49 v2 rfl rfl)
  obtain ⟨hc2, l2, hl2, hr2⟩ := open_ins Try.underlying49 Try.underlying3 (by kernel_rfl) h2
  obtain ⟨A3, n3, c3, rfl⟩ := okWide_slice Try.underlying49 (hval 3 49 v3 rfl rfl)
  obtain ⟨hc3, l3, hl3, hr3⟩ := open_ins Try.underlying49 Try.underlying3 (by kernel_rfl) h3
  refine (wrongs_walk W A0 A1 n0 c0 n1 c1 l0 l1 A2 A3 n2 c2 n3 c3 l2 l3 hr0 hc0 hr1 hr2 hr3).mono fun e W' ⟨he, hb⟩ => ?_
  subst he
  exact ⟨_, rfl, ⟨_, _, _, [], _, [], hW', trodAll_cons_mk (shut_bool Try.underlying4 _) trodAll_mk0, hAll W' hb, rfl, hb.frame _, fun h => by cases h⟩⟩
/-- The law: whatever the input, it returns true, and the input reads as it did. -/
theorem drossWrongs_holds : Rows.DrossWrongsSaid :=
  OpenClaim.holds_of_wide 6 Try.f6 rfl rfl rfl rfl rfl rfl rfl ⟨rfl, rfl, rfl, rfl, rfl⟩ rfl rfl rfl rfl rfl (by kernel_rfl) Try.func6 (by kernel_rfl)
    (of_decide_eq_true (by kernel_rfl)) (by unfold Func.isWrapper; first | (rw [if_pos (by decide +kernel)]; kernel_rfl) | (rw [if_neg (by decide +kernel)]; exact ⟨rfl, rfl⟩))
    (fun os started H enc _ => drossWrongs_lifted os started H enc)
end
end Go.Proofs.Ytdcglphekafpdaa
