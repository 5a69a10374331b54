/- The statement RimEither holds: whatever the arguments, the law returns true and leaves its arguments as they were. -/
import Derived.Test.YtiobmfggnacplaaMm
set_option linter.unusedSimpArgs false
set_option linter.unusedVariables false
namespace Go.Proofs.Ytiobmfggnacplaa
open Go.RowKit Go.Shelf
attribute [local go_sem] Oper.semAt_some
set_option maxRecDepth 100000 in
set_option maxHeartbeats 40000000 in
theorem rimEither_walk (w : World) (K : Int) (A0 : Option Addr) (n c0 : Nat) (l : List Int) (A1 : Option Addr) (n1 c1 : Nat) (m : List Int) (x : Nat) (hx : x < 256) (h0 : InS w w.heap.size A0 n l) (hc0 : n ≤ c0) (h1 : InS w w.heap.size A1 n1 m) (hc1 : n1 ≤ c1) :
    Calls Try.prog 8 #[.int .i64 K, .slice A0 n c0, .slice A1 n1 c1, .int .u8 (x : Int)] w fun e w' => e = .returned (.bool true) ∧ Below w.heap.size w w' := by
  have H0 := hid h0
  have H1 := hid h1
  have hl0 := hid h0.len
  have hl1 := hid h1.len
  clear h0 h1
  cases hf0 : fineB K l
  · have Hf0 := hid hf0
    clear hf0
    go_enter Try.func8, Try.ntmps8
    obtain ⟨W0, rfl⟩ : ∃ W0 : World, W0 = w := ⟨_, rfl⟩
    skip
    skip
    have hbel : Below W0.heap.size W0 W0 := Below.refl _ _
    have hsz := hbel.size
    go_wp2_with (fail)
    refine (fineW_any K A0 n c0 l _ (H0.out.below (by repeat' (first | with_reducible assumption | with_reducible exact Below.refl _ _ | refine Below.alloc ?_ ?_ _ | refine Below.setCell ?_ ?_ _ | refine Below.drew ?_ | refine below_drewN ?_ _ | (simp; done) | (simp; omega) | omega)) (by first | (simp; done) | (simp; omega) | omega))).mono ?_
    rw [Hf0.out]
    rintro e W1 ⟨rfl, hb⟩
    have hst : Below W0.heap.size W0 W1 := Below.trans (by repeat' (first | with_reducible assumption | with_reducible exact Below.refl _ _ | refine Below.alloc ?_ ?_ _ | refine Below.setCell ?_ ?_ _ | refine Below.drew ?_ | refine below_drewN ?_ _ | (simp; done) | (simp; omega) | omega)) (hb.mono (by first | (simp; done) | (simp; omega) | omega))
    replace hbel := hbel.trans (hst.mono hsz)
    replace hsz := hbel.size
    replace H0 := hid (H0.out.below hst hst.size)
    replace H1 := hid (H1.out.below hst hst.size)
    clear hb hst
    obtain ⟨W0, rfl⟩ : ∃ W0 : World, W0 = W1 := ⟨_, rfl⟩
    go_wp2_with (fail)
    refine (works_any _).mono ?_
    rintro e W1 ⟨rfl, hb⟩
    have hst : Below W0.heap.size W0 W1 := Below.trans (by repeat' (first | with_reducible assumption | with_reducible exact Below.refl _ _ | refine Below.alloc ?_ ?_ _ | refine Below.setCell ?_ ?_ _ | refine Below.drew ?_ | refine below_drewN ?_ _ | (simp; done) | (simp; omega) | omega)) (hb.mono (by first | (simp; done) | (simp; omega) | omega))
    replace hbel := hbel.trans (hst.mono hsz)
    replace hsz := hbel.size
    replace H0 := hid (H0.out.below hst hst.size)
    replace H1 := hid (H1.out.below hst hst.size)
    clear hb hst
    obtain ⟨W0, rfl⟩ : ∃ W0 : World, W0 = W1 := ⟨_, rfl⟩
    go_wp2
    go_ret
    exact ⟨rfl, hbel⟩
  · have hok0 := fineB_t.1 hf0
    have Hf0 := hid hf0
    clear hf0
    cases hf1 : fineB K m
    · have Hf1 := hid hf1
      clear hf1
      go_enter Try.func8, Try.ntmps8
      obtain ⟨W0, rfl⟩ : ∃ W0 : World, W0 = w := ⟨_, rfl⟩
      skip
      skip
      have hbel : Below W0.heap.size W0 W0 := Below.refl _ _
      have hsz := hbel.size
      go_wp2_with (fail)
      refine (fineW_any K A0 n c0 l _ (H0.out.below (by repeat' (first | with_reducible assumption | with_reducible exact Below.refl _ _ | refine Below.alloc ?_ ?_ _ | refine Below.setCell ?_ ?_ _ | refine Below.drew ?_ | refine below_drewN ?_ _ | (simp; done) | (simp; omega) | omega)) (by first | (simp; done) | (simp; omega) | omega))).mono ?_
      rw [Hf0.out]
      rintro e W1 ⟨rfl, hb⟩
      have hst : Below W0.heap.size W0 W1 := Below.trans (by repeat' (first | with_reducible assumption | with_reducible exact Below.refl _ _ | refine Below.alloc ?_ ?_ _ | refine Below.setCell ?_ ?_ _ | refine Below.drew ?_ | refine below_drewN ?_ _ | (simp; done) | (simp; omega) | omega)) (hb.mono (by first | (simp; done) | (simp; omega) | omega))
      replace hbel := hbel.trans (hst.mono hsz)
      replace hsz := hbel.size
      replace H0 := hid (H0.out.below hst hst.size)
      replace H1 := hid (H1.out.below hst hst.size)
      clear hb hst
      obtain ⟨W0, rfl⟩ : ∃ W0 : World, W0 = W1 := ⟨_, rfl⟩
      go_wp2_with (fail)
      refine (fineW_any K A1 n1 c1 m _ (H1.out.below (by repeat' (first | with_reducible assumption | with_reducible exact Below.refl _ _ | refine Below.alloc ?_ ?_ _ | refine Below.setCell ?_ ?_ _ | refine Below.drew ?_ | refine below_drewN ?_ _ | (simp; done) | (simp; omega) | omega)) (by first | (simp; done) | (simp; omega) | omega))).mono ?_
      rw [Hf1.out]
      rintro e W1 ⟨rfl, hb⟩
      have hst : Below W0.heap.size W0 W1 := Below.trans (by repeat' (first | with_reducible assumption | with_reducible exact Below.refl _ _ | refine Below.alloc ?_ ?_ _ | refine Below.setCell ?_ ?_ _ | refine Below.drew ?_ | refine below_drewN ?_ _ | (simp; done) | (simp; omega) | omega)) (hb.mono (by first | (simp; done) | (simp; omega) | omega))
      replace hbel := hbel.trans (hst.mono hsz)
      replace hsz := hbel.size
      replace H0 := hid (H0.out.below hst hst.size)
      replace H1 := hid (H1.out.below hst hst.size)
      clear hb hst
      obtain ⟨W0, rfl⟩ : ∃ W0 : World, W0 = W1 := ⟨_, rfl⟩
      go_wp2_with (fail)
      refine (works_any _).mono ?_
      rintro e W1 ⟨rfl, hb⟩
      have hst : Below W0.heap.size W0 W1 := Below.trans (by repeat' (first | with_reducible assumption | with_reducible exact Below.refl _ _ | refine Below.alloc ?_ ?_ _ | refine Below.setCell ?_ ?_ _ | refine Below.drew ?_ | refine below_drewN ?_ _ | (simp; done) | (simp; omega) | omega)) (hb.mono (by first | (simp; done) | (simp; omega) | omega))
      replace hbel := hbel.trans (hst.mono hsz)
      replace hsz := hbel.size
      replace H0 := hid (H0.out.below hst hst.size)
      replace H1 := hid (H1.out.below hst hst.size)
      clear hb hst
      obtain ⟨W0, rfl⟩ : ∃ W0 : World, W0 = W1 := ⟨_, rfl⟩
      go_wp2
      go_ret
      exact ⟨rfl, hbel⟩
    · have hok1 := fineB_t.1 hf1
      have Hf1 := hid hf1
      clear hf1
      by_cases hn : n = n1
      · subst hn
        have h64 := (rim_good hok0).2.1
        rw [hl0.out] at h64
        have hll : l.length = m.length := by rw [hl0.out, hl1.out]
        have hE0 : Hid (decide (checkRim K l = 0) = true) := hid (decide_eq_true hok0)
        have hE1 : Hid (decide (checkRim K m = 0) = true) := hid (decide_eq_true hok1)
        have haV : Hid (leastV K l = least l) := hid (if_pos hok0)
        have hbV : Hid (leastV K m = least m) := hid (if_pos hok1)
        have hal : Hid ((least l).length = n) := hid (by rw [least_len, hl0.out])
        have hbl : Hid ((least m).length = n) := hid (by rw [least_len, hl1.out])
        obtain ⟨i, hi⟩ : ∃ i, x % n = i := ⟨_, rfl⟩
        have hin : i < n := by rw [← hi]; exact Nat.mod_lt _ (by omega)
        have hmod : (x : Int) % (n : Int) = (i : Int) := by rw [← hi]; exact (Int.natCast_emod x n).symm
        have htmod : Int.tmod (x : Int) (n : Int) = (i : Int) := by rw [← hi]; exact (Int.ofNat_tmod x n).symm
        have zi : IntKind.i64.wrap (i : Int) = (i : Int) := IntWalk.i64_in _ (by omega)
        have zx : IntKind.i64.wrap (x : Int) = (x : Int) := IntWalk.i64_in _ (by omega)
        have hn0 : ¬ (n : Int) = 0 := by omega
        have hn00 : ¬ n = 0 := by omega
        have htE : Hid (turnE K l (i : Int) = 0) := hid (by unfold turnE; rw [if_neg (by omega), if_neg (by rw [hl0.out]; omega)])
        have htV : Hid (turnV K l (i : Int) = rot l i) := hid (by unfold turnV; rw [htE.out, if_pos rfl]; rfl)
        obtain ⟨et1, et2, kt, et3, hkt⟩ := either_turn (a := l) (i := i) (by rw [hl0.out]; exact hin)
        have hrt : checkRim K (rot l i) = 0 := by rw [checkRim_rot]; exact hok0
        have htl : Hid ((rot l i).length = n) := hid (by rw [rot_len, hl0.out])
        have htf : Hid (fineB K (rot l i) = true) := hid (fineB_t.2 hrt)
        have htd : Hid (decide (checkRim K (rot l i) = 0) = true) := hid (decide_eq_true hrt)
        have htL : Hid (leastV K (rot l i) = least l) := hid (by rw [← et1]; exact if_pos hrt)
        have hsV2 : Hid (shV K l (rot l i) = kt) := hid (by unfold shV; rw [if_neg (by omega), if_neg (by omega), et3]; rfl)
        have hsE2 : Hid (shE K l (rot l i) = 0) := hid (by unfold shE; rw [if_neg (by omega), if_neg (by omega), et3]; rfl)
        have hbf : Hid (bef (rot l i) (least l) = false) := hid et2
        have hkti : (kt : Int) ≤ i := by omega
        have hkt0 : (0 : Int) ≤ kt := by omega
        have hqa : Hid (eqI (least l) (least l) = true) := hid (eqI_t.2 rfl)
        have hqm : Hid (eqI m m = true) := hid (eqI_t.2 rfl)
        have hql : Hid (eqI l l = true) := hid (eqI_t.2 rfl)
        obtain ⟨a, ha⟩ : ∃ a, least l = a := ⟨_, rfl⟩
        obtain ⟨b, hb'⟩ : ∃ b, least m = b := ⟨_, rfl⟩
        have hab := either_none (a := l) (b := m) (by rw [hl0.out]; omega) hll
        have hso := fun k => either_some (a := l) (b := m) hll (k := k)
        obtain ⟨t, ht'⟩ : ∃ t, rot l i = t := ⟨_, rfl⟩
        rw [ha, hb'] at hab hso
        rw [ha] at haV hal htL hbf hqa
        rw [hb'] at hbV hbl
        rw [ht'] at htV htl htf htd htL hsV2 hsE2 hbf
        have HAB := hid hab
        have HSO := hid hso
        have Hok0 := hid hok0
        have Hok1 := hid hok1
        have hi9 := hid hi
        clear ha hb' ht' hab hso et1 et2 et3 hkt hrt hok0 hok1 hll hi
        cases hs : shK l m with
        | none =>
          have hsV : Hid (shV K l m = 0) := hid (by unfold shV; rw [if_neg (by have := Hok0.out; omega), if_neg (by have := Hok1.out; omega), hs]; rfl)
          have hsE : Hid (shE K l m = 15) := hid (by unfold shE; rw [if_neg (by have := Hok0.out; omega), if_neg (by have := Hok1.out; omega), hs]; rfl)
          have hqab : Hid (eqI a b = false) := hid (by cases h : eqI a b; rfl; exact absurd (eqI_t.1 h) (HAB.out hs))
          clear hs
          go_enter Try.func8, Try.ntmps8
          obtain ⟨W0, rfl⟩ : ∃ W0 : World, W0 = w := ⟨_, rfl⟩
          skip
          skip
          have hbel : Below W0.heap.size W0 W0 := Below.refl _ _
          have hsz := hbel.size
          go_wp2_with (fail)
          refine (fineW_any K A0 n c0 l _ (H0.out.below (by repeat' (first | with_reducible assumption | with_reducible exact Below.refl _ _ | refine Below.alloc ?_ ?_ _ | refine Below.setCell ?_ ?_ _ | refine Below.drew ?_ | refine below_drewN ?_ _ | (simp; done) | (simp; omega) | omega)) (by first | (simp; done) | (simp; omega) | omega))).mono ?_
          rw [Hf0.out]
          rintro e W1 ⟨rfl, hb⟩
          have hst : Below W0.heap.size W0 W1 := Below.trans (by repeat' (first | with_reducible assumption | with_reducible exact Below.refl _ _ | refine Below.alloc ?_ ?_ _ | refine Below.setCell ?_ ?_ _ | refine Below.drew ?_ | refine below_drewN ?_ _ | (simp; done) | (simp; omega) | omega)) (hb.mono (by first | (simp; done) | (simp; omega) | omega))
          replace hbel := hbel.trans (hst.mono hsz)
          replace hsz := hbel.size
          replace H0 := hid (H0.out.below hst hst.size)
          replace H1 := hid (H1.out.below hst hst.size)
          clear hb hst
          obtain ⟨W0, rfl⟩ : ∃ W0 : World, W0 = W1 := ⟨_, rfl⟩
          go_wp2_with (fail)
          refine (fineW_any K A1 n c1 m _ (H1.out.below (by repeat' (first | with_reducible assumption | with_reducible exact Below.refl _ _ | refine Below.alloc ?_ ?_ _ | refine Below.setCell ?_ ?_ _ | refine Below.drew ?_ | refine below_drewN ?_ _ | (simp; done) | (simp; omega) | omega)) (by first | (simp; done) | (simp; omega) | omega))).mono ?_
          rw [Hf1.out]
          rintro e W1 ⟨rfl, hb⟩
          have hst : Below W0.heap.size W0 W1 := Below.trans (by repeat' (first | with_reducible assumption | with_reducible exact Below.refl _ _ | refine Below.alloc ?_ ?_ _ | refine Below.setCell ?_ ?_ _ | refine Below.drew ?_ | refine below_drewN ?_ _ | (simp; done) | (simp; omega) | omega)) (hb.mono (by first | (simp; done) | (simp; omega) | omega))
          replace hbel := hbel.trans (hst.mono hsz)
          replace hsz := hbel.size
          replace H0 := hid (H0.out.below hst hst.size)
          replace H1 := hid (H1.out.below hst hst.size)
          clear hb hst
          obtain ⟨W0, rfl⟩ : ∃ W0 : World, W0 = W1 := ⟨_, rfl⟩
          go_wp2_with (fail)
          refine (lawLeast_any K A0 n c0 l _ (H0.out.below (by repeat' (first | with_reducible assumption | with_reducible exact Below.refl _ _ | refine Below.alloc ?_ ?_ _ | refine Below.setCell ?_ ?_ _ | refine Below.drew ?_ | refine below_drewN ?_ _ | (simp; done) | (simp; omega) | omega)) (by first | (simp; done) | (simp; omega) | omega)) (by omega) hc0).mono ?_
          rw [hE0.out, haV.out]
          rintro e W1 ⟨Ba, ma, ca, rfl, hr, hb⟩
          have hr0 := hr.1.len
          obtain rfl : n = ma := by rw [← hr0, hal.out]
          have hr1 := hr.1
          clear hr hr0
          have hst : Below W0.heap.size W0 W1 := Below.trans (by repeat' (first | with_reducible assumption | with_reducible exact Below.refl _ _ | refine Below.alloc ?_ ?_ _ | refine Below.setCell ?_ ?_ _ | refine Below.drew ?_ | refine below_drewN ?_ _ | (simp; done) | (simp; omega) | omega)) (hb.mono (by first | (simp; done) | (simp; omega) | omega))
          replace hbel := hbel.trans (hst.mono hsz)
          replace hsz := hbel.size
          replace H0 := hid (H0.out.below hst hst.size)
          replace H1 := hid (H1.out.below hst hst.size)
          have Ha := hid hr1
          clear hr1
          clear hb hst
          obtain ⟨W0, rfl⟩ : ∃ W0 : World, W0 = W1 := ⟨_, rfl⟩
          go_wp2_with (fail)
          refine (lawLeast_any K A1 n c1 m _ (H1.out.below (by repeat' (first | with_reducible assumption | with_reducible exact Below.refl _ _ | refine Below.alloc ?_ ?_ _ | refine Below.setCell ?_ ?_ _ | refine Below.drew ?_ | refine below_drewN ?_ _ | (simp; done) | (simp; omega) | omega)) (by first | (simp; done) | (simp; omega) | omega)) (by omega) hc1).mono ?_
          rw [hE1.out, hbV.out]
          rintro e W1 ⟨Bb, mb, cb, rfl, hr, hb⟩
          have hr0 := hr.1.len
          obtain rfl : n = mb := by rw [← hr0, hbl.out]
          have hr1 := hr.1
          clear hr hr0
          have hst : Below W0.heap.size W0 W1 := Below.trans (by repeat' (first | with_reducible assumption | with_reducible exact Below.refl _ _ | refine Below.alloc ?_ ?_ _ | refine Below.setCell ?_ ?_ _ | refine Below.drew ?_ | refine below_drewN ?_ _ | (simp; done) | (simp; omega) | omega)) (hb.mono (by first | (simp; done) | (simp; omega) | omega))
          replace hbel := hbel.trans (hst.mono hsz)
          replace hsz := hbel.size
          replace H0 := hid (H0.out.below hst hst.size)
          replace H1 := hid (H1.out.below hst hst.size)
          replace Ha := hid (Ha.out.below hst hst.size)
          have Hb := hid hr1
          clear hr1
          clear hb hst
          obtain ⟨W0, rfl⟩ : ∃ W0 : World, W0 = W1 := ⟨_, rfl⟩
          go_wp2_with (fail)
          refine (shift_any K A0 A1 n c0 n c1 l m _ (H0.out.below (by repeat' (first | with_reducible assumption | with_reducible exact Below.refl _ _ | refine Below.alloc ?_ ?_ _ | refine Below.setCell ?_ ?_ _ | refine Below.drew ?_ | refine below_drewN ?_ _ | (simp; done) | (simp; omega) | omega)) (by first | (simp; done) | (simp; omega) | omega)) (H1.out.below (by repeat' (first | with_reducible assumption | with_reducible exact Below.refl _ _ | refine Below.alloc ?_ ?_ _ | refine Below.setCell ?_ ?_ _ | refine Below.drew ?_ | refine below_drewN ?_ _ | (simp; done) | (simp; omega) | omega)) (by first | (simp; done) | (simp; omega) | omega)) (by omega) (by omega) hc0).mono ?_
          rw [hsV.out, hsE.out]
          rintro e W1 ⟨rfl, hb⟩
          have hst : Below W0.heap.size W0 W1 := Below.trans (by repeat' (first | with_reducible assumption | with_reducible exact Below.refl _ _ | refine Below.alloc ?_ ?_ _ | refine Below.setCell ?_ ?_ _ | refine Below.drew ?_ | refine below_drewN ?_ _ | (simp; done) | (simp; omega) | omega)) (hb.mono (by first | (simp; done) | (simp; omega) | omega))
          replace hbel := hbel.trans (hst.mono hsz)
          replace hsz := hbel.size
          replace H0 := hid (H0.out.below hst hst.size)
          replace H1 := hid (H1.out.below hst hst.size)
          replace Ha := hid (Ha.out.below hst hst.size)
          replace Hb := hid (Hb.out.below hst hst.size)
          clear hb hst
          obtain ⟨W0, rfl⟩ : ∃ W0 : World, W0 = W1 := ⟨_, rfl⟩
          go_wp2_with (fail)
          refine (ints_any _ Ba Bb n ca n cb a b (Ha.out.below (by repeat' (first | with_reducible assumption | with_reducible exact Below.refl _ _ | refine Below.alloc ?_ ?_ _ | refine Below.setCell ?_ ?_ _ | refine Below.drew ?_ | refine below_drewN ?_ _ | (simp; done) | (simp; omega) | omega)) (by first | (simp; done) | (simp; omega) | omega)) (Hb.out.below (by repeat' (first | with_reducible assumption | with_reducible exact Below.refl _ _ | refine Below.alloc ?_ ?_ _ | refine Below.setCell ?_ ?_ _ | refine Below.drew ?_ | refine below_drewN ?_ _ | (simp; done) | (simp; omega) | omega)) (by first | (simp; done) | (simp; omega) | omega)) (by omega)).mono ?_
          rw [hqab.out]
          rintro e W1 ⟨rfl, hb⟩
          have hst : Below W0.heap.size W0 W1 := Below.trans (by repeat' (first | with_reducible assumption | with_reducible exact Below.refl _ _ | refine Below.alloc ?_ ?_ _ | refine Below.setCell ?_ ?_ _ | refine Below.drew ?_ | refine below_drewN ?_ _ | (simp; done) | (simp; omega) | omega)) (hb.mono (by first | (simp; done) | (simp; omega) | omega))
          replace hbel := hbel.trans (hst.mono hsz)
          replace hsz := hbel.size
          replace H0 := hid (H0.out.below hst hst.size)
          replace H1 := hid (H1.out.below hst hst.size)
          replace Ha := hid (Ha.out.below hst hst.size)
          replace Hb := hid (Hb.out.below hst hst.size)
          clear hb hst
          obtain ⟨W0, rfl⟩ : ∃ W0 : World, W0 = W1 := ⟨_, rfl⟩
          go_wp2_with (fail)
          refine (turn_any K A0 n c0 l (i : Int) _ (H0.out.below (by repeat' (first | with_reducible assumption | with_reducible exact Below.refl _ _ | refine Below.alloc ?_ ?_ _ | refine Below.setCell ?_ ?_ _ | refine Below.drew ?_ | refine below_drewN ?_ _ | (simp; done) | (simp; omega) | omega)) (by first | (simp; done) | (simp; omega) | omega)) (by omega) hc0).mono ?_
          rw [htE.out, htV.out]
          rintro e W1 ⟨Bt, mt, ct, rfl, hr, hb⟩
          have hr0 := hr.1.len
          obtain rfl : n = mt := by rw [← hr0, htl.out]
          have hr1 := hr.1
          have hct := hr.2.1
          clear hr hr0
          have hst : Below W0.heap.size W0 W1 := Below.trans (by repeat' (first | with_reducible assumption | with_reducible exact Below.refl _ _ | refine Below.alloc ?_ ?_ _ | refine Below.setCell ?_ ?_ _ | refine Below.drew ?_ | refine below_drewN ?_ _ | (simp; done) | (simp; omega) | omega)) (hb.mono (by first | (simp; done) | (simp; omega) | omega))
          replace hbel := hbel.trans (hst.mono hsz)
          replace hsz := hbel.size
          replace H0 := hid (H0.out.below hst hst.size)
          replace H1 := hid (H1.out.below hst hst.size)
          replace Ha := hid (Ha.out.below hst hst.size)
          replace Hb := hid (Hb.out.below hst hst.size)
          have Ht := hid hr1
          clear hr1
          clear hb hst
          obtain ⟨W0, rfl⟩ : ∃ W0 : World, W0 = W1 := ⟨_, rfl⟩
          go_wp2_with (fail)
          refine (fineW_any K Bt n ct t _ (Ht.out.below (by repeat' (first | with_reducible assumption | with_reducible exact Below.refl _ _ | refine Below.alloc ?_ ?_ _ | refine Below.setCell ?_ ?_ _ | refine Below.drew ?_ | refine below_drewN ?_ _ | (simp; done) | (simp; omega) | omega)) (by first | (simp; done) | (simp; omega) | omega))).mono ?_
          rw [htf.out]
          rintro e W1 ⟨rfl, hb⟩
          have hst : Below W0.heap.size W0 W1 := Below.trans (by repeat' (first | with_reducible assumption | with_reducible exact Below.refl _ _ | refine Below.alloc ?_ ?_ _ | refine Below.setCell ?_ ?_ _ | refine Below.drew ?_ | refine below_drewN ?_ _ | (simp; done) | (simp; omega) | omega)) (hb.mono (by first | (simp; done) | (simp; omega) | omega))
          replace hbel := hbel.trans (hst.mono hsz)
          replace hsz := hbel.size
          replace H0 := hid (H0.out.below hst hst.size)
          replace H1 := hid (H1.out.below hst hst.size)
          replace Ha := hid (Ha.out.below hst hst.size)
          replace Hb := hid (Hb.out.below hst hst.size)
          replace Ht := hid (Ht.out.below hst hst.size)
          clear hb hst
          obtain ⟨W0, rfl⟩ : ∃ W0 : World, W0 = W1 := ⟨_, rfl⟩
          go_wp2_with (fail)
          refine (lawLeast_any K Bt n ct t _ (Ht.out.below (by repeat' (first | with_reducible assumption | with_reducible exact Below.refl _ _ | refine Below.alloc ?_ ?_ _ | refine Below.setCell ?_ ?_ _ | refine Below.drew ?_ | refine below_drewN ?_ _ | (simp; done) | (simp; omega) | omega)) (by first | (simp; done) | (simp; omega) | omega)) (by omega) hct).mono ?_
          rw [htd.out, htL.out]
          rintro e W1 ⟨Bd, md, cd, rfl, hr, hb⟩
          have hr0 := hr.1.len
          obtain rfl : n = md := by rw [← hr0, hal.out]
          have hr1 := hr.1
          clear hr hr0
          have hst : Below W0.heap.size W0 W1 := Below.trans (by repeat' (first | with_reducible assumption | with_reducible exact Below.refl _ _ | refine Below.alloc ?_ ?_ _ | refine Below.setCell ?_ ?_ _ | refine Below.drew ?_ | refine below_drewN ?_ _ | (simp; done) | (simp; omega) | omega)) (hb.mono (by first | (simp; done) | (simp; omega) | omega))
          replace hbel := hbel.trans (hst.mono hsz)
          replace hsz := hbel.size
          replace H0 := hid (H0.out.below hst hst.size)
          replace H1 := hid (H1.out.below hst hst.size)
          replace Ha := hid (Ha.out.below hst hst.size)
          replace Hb := hid (Hb.out.below hst hst.size)
          replace Ht := hid (Ht.out.below hst hst.size)
          have Hd := hid hr1
          clear hr1
          clear hb hst
          obtain ⟨W0, rfl⟩ : ∃ W0 : World, W0 = W1 := ⟨_, rfl⟩
          go_wp2_with (fail)
          refine (shift_any K A0 Bt n c0 n ct l t _ (H0.out.below (by repeat' (first | with_reducible assumption | with_reducible exact Below.refl _ _ | refine Below.alloc ?_ ?_ _ | refine Below.setCell ?_ ?_ _ | refine Below.drew ?_ | refine below_drewN ?_ _ | (simp; done) | (simp; omega) | omega)) (by first | (simp; done) | (simp; omega) | omega)) (Ht.out.below (by repeat' (first | with_reducible assumption | with_reducible exact Below.refl _ _ | refine Below.alloc ?_ ?_ _ | refine Below.setCell ?_ ?_ _ | refine Below.drew ?_ | refine below_drewN ?_ _ | (simp; done) | (simp; omega) | omega)) (by first | (simp; done) | (simp; omega) | omega)) (by omega) (by omega) hc0).mono ?_
          rw [hsV2.out, hsE2.out]
          rintro e W1 ⟨rfl, hb⟩
          have hst : Below W0.heap.size W0 W1 := Below.trans (by repeat' (first | with_reducible assumption | with_reducible exact Below.refl _ _ | refine Below.alloc ?_ ?_ _ | refine Below.setCell ?_ ?_ _ | refine Below.drew ?_ | refine below_drewN ?_ _ | (simp; done) | (simp; omega) | omega)) (hb.mono (by first | (simp; done) | (simp; omega) | omega))
          replace hbel := hbel.trans (hst.mono hsz)
          replace hsz := hbel.size
          replace H0 := hid (H0.out.below hst hst.size)
          replace H1 := hid (H1.out.below hst hst.size)
          replace Ha := hid (Ha.out.below hst hst.size)
          replace Hb := hid (Hb.out.below hst hst.size)
          replace Ht := hid (Ht.out.below hst hst.size)
          replace Hd := hid (Hd.out.below hst hst.size)
          clear hb hst
          obtain ⟨W0, rfl⟩ : ∃ W0 : World, W0 = W1 := ⟨_, rfl⟩
          go_wp2_with (fail)
          refine (ints_any _ Ba Bd n ca n cd a a (Ha.out.below (by repeat' (first | with_reducible assumption | with_reducible exact Below.refl _ _ | refine Below.alloc ?_ ?_ _ | refine Below.setCell ?_ ?_ _ | refine Below.drew ?_ | refine below_drewN ?_ _ | (simp; done) | (simp; omega) | omega)) (by first | (simp; done) | (simp; omega) | omega)) (Hd.out.below (by repeat' (first | with_reducible assumption | with_reducible exact Below.refl _ _ | refine Below.alloc ?_ ?_ _ | refine Below.setCell ?_ ?_ _ | refine Below.drew ?_ | refine below_drewN ?_ _ | (simp; done) | (simp; omega) | omega)) (by first | (simp; done) | (simp; omega) | omega)) (by omega)).mono ?_
          rw [hqa.out]
          rintro e W1 ⟨rfl, hb⟩
          have hst : Below W0.heap.size W0 W1 := Below.trans (by repeat' (first | with_reducible assumption | with_reducible exact Below.refl _ _ | refine Below.alloc ?_ ?_ _ | refine Below.setCell ?_ ?_ _ | refine Below.drew ?_ | refine below_drewN ?_ _ | (simp; done) | (simp; omega) | omega)) (hb.mono (by first | (simp; done) | (simp; omega) | omega))
          replace hbel := hbel.trans (hst.mono hsz)
          replace hsz := hbel.size
          replace H0 := hid (H0.out.below hst hst.size)
          replace H1 := hid (H1.out.below hst hst.size)
          replace Ha := hid (Ha.out.below hst hst.size)
          replace Hb := hid (Hb.out.below hst hst.size)
          replace Ht := hid (Ht.out.below hst hst.size)
          replace Hd := hid (Hd.out.below hst hst.size)
          clear hb hst
          obtain ⟨W0, rfl⟩ : ∃ W0 : World, W0 = W1 := ⟨_, rfl⟩
          go_wp2_with (fail)
          refine (before_any _ Bt Ba n ct n ca t a (Ht.out.below (by repeat' (first | with_reducible assumption | with_reducible exact Below.refl _ _ | refine Below.alloc ?_ ?_ _ | refine Below.setCell ?_ ?_ _ | refine Below.drew ?_ | refine below_drewN ?_ _ | (simp; done) | (simp; omega) | omega)) (by first | (simp; done) | (simp; omega) | omega)) (Ha.out.below (by repeat' (first | with_reducible assumption | with_reducible exact Below.refl _ _ | refine Below.alloc ?_ ?_ _ | refine Below.setCell ?_ ?_ _ | refine Below.drew ?_ | refine below_drewN ?_ _ | (simp; done) | (simp; omega) | omega)) (by first | (simp; done) | (simp; omega) | omega)) (by omega) (by omega)).mono ?_
          rw [hbf.out]
          rintro e W1 ⟨rfl, hb⟩
          have hst : Below W0.heap.size W0 W1 := Below.trans (by repeat' (first | with_reducible assumption | with_reducible exact Below.refl _ _ | refine Below.alloc ?_ ?_ _ | refine Below.setCell ?_ ?_ _ | refine Below.drew ?_ | refine below_drewN ?_ _ | (simp; done) | (simp; omega) | omega)) (hb.mono (by first | (simp; done) | (simp; omega) | omega))
          replace hbel := hbel.trans (hst.mono hsz)
          replace hsz := hbel.size
          replace H0 := hid (H0.out.below hst hst.size)
          replace H1 := hid (H1.out.below hst hst.size)
          replace Ha := hid (Ha.out.below hst hst.size)
          replace Hb := hid (Hb.out.below hst hst.size)
          replace Ht := hid (Ht.out.below hst hst.size)
          replace Hd := hid (Hd.out.below hst hst.size)
          clear hb hst
          obtain ⟨W0, rfl⟩ : ∃ W0 : World, W0 = W1 := ⟨_, rfl⟩
          go_wp2_with (fail)
          refine (works_any _).mono ?_
          rintro e W1 ⟨rfl, hb⟩
          have hst : Below W0.heap.size W0 W1 := Below.trans (by repeat' (first | with_reducible assumption | with_reducible exact Below.refl _ _ | refine Below.alloc ?_ ?_ _ | refine Below.setCell ?_ ?_ _ | refine Below.drew ?_ | refine below_drewN ?_ _ | (simp; done) | (simp; omega) | omega)) (hb.mono (by first | (simp; done) | (simp; omega) | omega))
          replace hbel := hbel.trans (hst.mono hsz)
          replace hsz := hbel.size
          replace H0 := hid (H0.out.below hst hst.size)
          replace H1 := hid (H1.out.below hst hst.size)
          replace Ha := hid (Ha.out.below hst hst.size)
          replace Hb := hid (Hb.out.below hst hst.size)
          replace Ht := hid (Ht.out.below hst hst.size)
          replace Hd := hid (Hd.out.below hst hst.size)
          clear hb hst
          obtain ⟨W0, rfl⟩ : ∃ W0 : World, W0 = W1 := ⟨_, rfl⟩
          go_wp2
          go_ret
          exact ⟨rfl, hbel⟩
        | some k =>
          obtain ⟨e1, e2, e3, j, e4, e5, e6⟩ := HSO.out k hs
          have hsV : Hid (shV K l m = k) := hid (by unfold shV; rw [if_neg (by have := Hok0.out; omega), if_neg (by have := Hok1.out; omega), hs]; rfl)
          have hsE : Hid (shE K l m = 0) := hid (by unfold shE; rw [if_neg (by have := Hok0.out; omega), if_neg (by have := Hok1.out; omega), hs]; rfl)
          have hsV3 : Hid (shV K m l = j) := hid (by unfold shV; rw [if_neg (by have := Hok1.out; omega), if_neg (by have := Hok0.out; omega), e4]; rfl)
          have hsE3 : Hid (shE K m l = 0) := hid (by unfold shE; rw [if_neg (by have := Hok1.out; omega), if_neg (by have := Hok0.out; omega), e4]; rfl)
          have hqab : Hid (eqI a b = true) := hid (eqI_t.2 e1)
          have hrk : Hid (rot l k = m) := hid e2
          have hrj : Hid (rot m j = l) := hid e5
          have hkn : (k : Int) < n := by rw [hl0.out] at e3; omega
          have hjn : (j : Int) < n := by rw [hl1.out] at e6; omega
          have hk0 : ¬ (k : Int) < 0 := by omega
          have hj0 : ¬ (j : Int) < 0 := by omega
          clear hs e1 e2 e3 e4 e5 e6
          go_enter Try.func8, Try.ntmps8
          obtain ⟨W0, rfl⟩ : ∃ W0 : World, W0 = w := ⟨_, rfl⟩
          skip
          skip
          have hbel : Below W0.heap.size W0 W0 := Below.refl _ _
          have hsz := hbel.size
          go_wp2_with (fail)
          refine (fineW_any K A0 n c0 l _ (H0.out.below (by repeat' (first | with_reducible assumption | with_reducible exact Below.refl _ _ | refine Below.alloc ?_ ?_ _ | refine Below.setCell ?_ ?_ _ | refine Below.drew ?_ | refine below_drewN ?_ _ | (simp; done) | (simp; omega) | omega)) (by first | (simp; done) | (simp; omega) | omega))).mono ?_
          rw [Hf0.out]
          rintro e W1 ⟨rfl, hb⟩
          have hst : Below W0.heap.size W0 W1 := Below.trans (by repeat' (first | with_reducible assumption | with_reducible exact Below.refl _ _ | refine Below.alloc ?_ ?_ _ | refine Below.setCell ?_ ?_ _ | refine Below.drew ?_ | refine below_drewN ?_ _ | (simp; done) | (simp; omega) | omega)) (hb.mono (by first | (simp; done) | (simp; omega) | omega))
          replace hbel := hbel.trans (hst.mono hsz)
          replace hsz := hbel.size
          replace H0 := hid (H0.out.below hst hst.size)
          replace H1 := hid (H1.out.below hst hst.size)
          clear hb hst
          obtain ⟨W0, rfl⟩ : ∃ W0 : World, W0 = W1 := ⟨_, rfl⟩
          go_wp2_with (fail)
          refine (fineW_any K A1 n c1 m _ (H1.out.below (by repeat' (first | with_reducible assumption | with_reducible exact Below.refl _ _ | refine Below.alloc ?_ ?_ _ | refine Below.setCell ?_ ?_ _ | refine Below.drew ?_ | refine below_drewN ?_ _ | (simp; done) | (simp; omega) | omega)) (by first | (simp; done) | (simp; omega) | omega))).mono ?_
          rw [Hf1.out]
          rintro e W1 ⟨rfl, hb⟩
          have hst : Below W0.heap.size W0 W1 := Below.trans (by repeat' (first | with_reducible assumption | with_reducible exact Below.refl _ _ | refine Below.alloc ?_ ?_ _ | refine Below.setCell ?_ ?_ _ | refine Below.drew ?_ | refine below_drewN ?_ _ | (simp; done) | (simp; omega) | omega)) (hb.mono (by first | (simp; done) | (simp; omega) | omega))
          replace hbel := hbel.trans (hst.mono hsz)
          replace hsz := hbel.size
          replace H0 := hid (H0.out.below hst hst.size)
          replace H1 := hid (H1.out.below hst hst.size)
          clear hb hst
          obtain ⟨W0, rfl⟩ : ∃ W0 : World, W0 = W1 := ⟨_, rfl⟩
          go_wp2_with (fail)
          refine (lawLeast_any K A0 n c0 l _ (H0.out.below (by repeat' (first | with_reducible assumption | with_reducible exact Below.refl _ _ | refine Below.alloc ?_ ?_ _ | refine Below.setCell ?_ ?_ _ | refine Below.drew ?_ | refine below_drewN ?_ _ | (simp; done) | (simp; omega) | omega)) (by first | (simp; done) | (simp; omega) | omega)) (by omega) hc0).mono ?_
          rw [hE0.out, haV.out]
          rintro e W1 ⟨Ba, ma, ca, rfl, hr, hb⟩
          have hr0 := hr.1.len
          obtain rfl : n = ma := by rw [← hr0, hal.out]
          have hr1 := hr.1
          clear hr hr0
          have hst : Below W0.heap.size W0 W1 := Below.trans (by repeat' (first | with_reducible assumption | with_reducible exact Below.refl _ _ | refine Below.alloc ?_ ?_ _ | refine Below.setCell ?_ ?_ _ | refine Below.drew ?_ | refine below_drewN ?_ _ | (simp; done) | (simp; omega) | omega)) (hb.mono (by first | (simp; done) | (simp; omega) | omega))
          replace hbel := hbel.trans (hst.mono hsz)
          replace hsz := hbel.size
          replace H0 := hid (H0.out.below hst hst.size)
          replace H1 := hid (H1.out.below hst hst.size)
          have Ha := hid hr1
          clear hr1
          clear hb hst
          obtain ⟨W0, rfl⟩ : ∃ W0 : World, W0 = W1 := ⟨_, rfl⟩
          go_wp2_with (fail)
          refine (lawLeast_any K A1 n c1 m _ (H1.out.below (by repeat' (first | with_reducible assumption | with_reducible exact Below.refl _ _ | refine Below.alloc ?_ ?_ _ | refine Below.setCell ?_ ?_ _ | refine Below.drew ?_ | refine below_drewN ?_ _ | (simp; done) | (simp; omega) | omega)) (by first | (simp; done) | (simp; omega) | omega)) (by omega) hc1).mono ?_
          rw [hE1.out, hbV.out]
          rintro e W1 ⟨Bb, mb, cb, rfl, hr, hb⟩
          have hr0 := hr.1.len
          obtain rfl : n = mb := by rw [← hr0, hbl.out]
          have hr1 := hr.1
          clear hr hr0
          have hst : Below W0.heap.size W0 W1 := Below.trans (by repeat' (first | with_reducible assumption | with_reducible exact Below.refl _ _ | refine Below.alloc ?_ ?_ _ | refine Below.setCell ?_ ?_ _ | refine Below.drew ?_ | refine below_drewN ?_ _ | (simp; done) | (simp; omega) | omega)) (hb.mono (by first | (simp; done) | (simp; omega) | omega))
          replace hbel := hbel.trans (hst.mono hsz)
          replace hsz := hbel.size
          replace H0 := hid (H0.out.below hst hst.size)
          replace H1 := hid (H1.out.below hst hst.size)
          replace Ha := hid (Ha.out.below hst hst.size)
          have Hb := hid hr1
          clear hr1
          clear hb hst
          obtain ⟨W0, rfl⟩ : ∃ W0 : World, W0 = W1 := ⟨_, rfl⟩
          go_wp2_with (fail)
          refine (shift_any K A0 A1 n c0 n c1 l m _ (H0.out.below (by repeat' (first | with_reducible assumption | with_reducible exact Below.refl _ _ | refine Below.alloc ?_ ?_ _ | refine Below.setCell ?_ ?_ _ | refine Below.drew ?_ | refine below_drewN ?_ _ | (simp; done) | (simp; omega) | omega)) (by first | (simp; done) | (simp; omega) | omega)) (H1.out.below (by repeat' (first | with_reducible assumption | with_reducible exact Below.refl _ _ | refine Below.alloc ?_ ?_ _ | refine Below.setCell ?_ ?_ _ | refine Below.drew ?_ | refine below_drewN ?_ _ | (simp; done) | (simp; omega) | omega)) (by first | (simp; done) | (simp; omega) | omega)) (by omega) (by omega) hc0).mono ?_
          rw [hsV.out, hsE.out]
          rintro e W1 ⟨rfl, hb⟩
          have hst : Below W0.heap.size W0 W1 := Below.trans (by repeat' (first | with_reducible assumption | with_reducible exact Below.refl _ _ | refine Below.alloc ?_ ?_ _ | refine Below.setCell ?_ ?_ _ | refine Below.drew ?_ | refine below_drewN ?_ _ | (simp; done) | (simp; omega) | omega)) (hb.mono (by first | (simp; done) | (simp; omega) | omega))
          replace hbel := hbel.trans (hst.mono hsz)
          replace hsz := hbel.size
          replace H0 := hid (H0.out.below hst hst.size)
          replace H1 := hid (H1.out.below hst hst.size)
          replace Ha := hid (Ha.out.below hst hst.size)
          replace Hb := hid (Hb.out.below hst hst.size)
          clear hb hst
          obtain ⟨W0, rfl⟩ : ∃ W0 : World, W0 = W1 := ⟨_, rfl⟩
          go_wp2_with (fail)
          refine (ints_any _ Ba Bb n ca n cb a b (Ha.out.below (by repeat' (first | with_reducible assumption | with_reducible exact Below.refl _ _ | refine Below.alloc ?_ ?_ _ | refine Below.setCell ?_ ?_ _ | refine Below.drew ?_ | refine below_drewN ?_ _ | (simp; done) | (simp; omega) | omega)) (by first | (simp; done) | (simp; omega) | omega)) (Hb.out.below (by repeat' (first | with_reducible assumption | with_reducible exact Below.refl _ _ | refine Below.alloc ?_ ?_ _ | refine Below.setCell ?_ ?_ _ | refine Below.drew ?_ | refine below_drewN ?_ _ | (simp; done) | (simp; omega) | omega)) (by first | (simp; done) | (simp; omega) | omega)) (by omega)).mono ?_
          rw [hqab.out]
          rintro e W1 ⟨rfl, hb⟩
          have hst : Below W0.heap.size W0 W1 := Below.trans (by repeat' (first | with_reducible assumption | with_reducible exact Below.refl _ _ | refine Below.alloc ?_ ?_ _ | refine Below.setCell ?_ ?_ _ | refine Below.drew ?_ | refine below_drewN ?_ _ | (simp; done) | (simp; omega) | omega)) (hb.mono (by first | (simp; done) | (simp; omega) | omega))
          replace hbel := hbel.trans (hst.mono hsz)
          replace hsz := hbel.size
          replace H0 := hid (H0.out.below hst hst.size)
          replace H1 := hid (H1.out.below hst hst.size)
          replace Ha := hid (Ha.out.below hst hst.size)
          replace Hb := hid (Hb.out.below hst hst.size)
          clear hb hst
          obtain ⟨W0, rfl⟩ : ∃ W0 : World, W0 = W1 := ⟨_, rfl⟩
          go_wp2_with (fail)
          refine (turnOf_any A0 n c0 l k _ (H0.out.below (by repeat' (first | with_reducible assumption | with_reducible exact Below.refl _ _ | refine Below.alloc ?_ ?_ _ | refine Below.setCell ?_ ?_ _ | refine Below.drew ?_ | refine below_drewN ?_ _ | (simp; done) | (simp; omega) | omega)) (by first | (simp; done) | (simp; omega) | omega)) (by omega) (by omega)).mono ?_
          rw [hrk.out]
          rintro e W1 ⟨vu, rfl, ho, hb⟩
          obtain ⟨Bu, cu, rfl, hs2⟩ := sl_of_owns ho
          have hs3 : InS W1 W1.heap.size Bu n m := hs2
          clear ho hs2
          have hst : Below W0.heap.size W0 W1 := Below.trans (by repeat' (first | with_reducible assumption | with_reducible exact Below.refl _ _ | refine Below.alloc ?_ ?_ _ | refine Below.setCell ?_ ?_ _ | refine Below.drew ?_ | refine below_drewN ?_ _ | (simp; done) | (simp; omega) | omega)) (hb.mono (by first | (simp; done) | (simp; omega) | omega))
          replace hbel := hbel.trans (hst.mono hsz)
          replace hsz := hbel.size
          replace H0 := hid (H0.out.below hst hst.size)
          replace H1 := hid (H1.out.below hst hst.size)
          replace Ha := hid (Ha.out.below hst hst.size)
          replace Hb := hid (Hb.out.below hst hst.size)
          have Hu := hid hs3
          clear hs3
          clear hb hst
          obtain ⟨W0, rfl⟩ : ∃ W0 : World, W0 = W1 := ⟨_, rfl⟩
          go_wp2_with (fail)
          refine (ints_any _ Bu A1 n cu n c1 m m (Hu.out.below (by repeat' (first | with_reducible assumption | with_reducible exact Below.refl _ _ | refine Below.alloc ?_ ?_ _ | refine Below.setCell ?_ ?_ _ | refine Below.drew ?_ | refine below_drewN ?_ _ | (simp; done) | (simp; omega) | omega)) (by first | (simp; done) | (simp; omega) | omega)) (H1.out.below (by repeat' (first | with_reducible assumption | with_reducible exact Below.refl _ _ | refine Below.alloc ?_ ?_ _ | refine Below.setCell ?_ ?_ _ | refine Below.drew ?_ | refine below_drewN ?_ _ | (simp; done) | (simp; omega) | omega)) (by first | (simp; done) | (simp; omega) | omega)) (by omega)).mono ?_
          rw [hqm.out]
          rintro e W1 ⟨rfl, hb⟩
          have hst : Below W0.heap.size W0 W1 := Below.trans (by repeat' (first | with_reducible assumption | with_reducible exact Below.refl _ _ | refine Below.alloc ?_ ?_ _ | refine Below.setCell ?_ ?_ _ | refine Below.drew ?_ | refine below_drewN ?_ _ | (simp; done) | (simp; omega) | omega)) (hb.mono (by first | (simp; done) | (simp; omega) | omega))
          replace hbel := hbel.trans (hst.mono hsz)
          replace hsz := hbel.size
          replace H0 := hid (H0.out.below hst hst.size)
          replace H1 := hid (H1.out.below hst hst.size)
          replace Ha := hid (Ha.out.below hst hst.size)
          replace Hb := hid (Hb.out.below hst hst.size)
          replace Hu := hid (Hu.out.below hst hst.size)
          clear hb hst
          obtain ⟨W0, rfl⟩ : ∃ W0 : World, W0 = W1 := ⟨_, rfl⟩
          clear Hu
          go_wp2_with (fail)
          refine (shift_any K A1 A0 n c1 n c0 m l _ (H1.out.below (by repeat' (first | with_reducible assumption | with_reducible exact Below.refl _ _ | refine Below.alloc ?_ ?_ _ | refine Below.setCell ?_ ?_ _ | refine Below.drew ?_ | refine below_drewN ?_ _ | (simp; done) | (simp; omega) | omega)) (by first | (simp; done) | (simp; omega) | omega)) (H0.out.below (by repeat' (first | with_reducible assumption | with_reducible exact Below.refl _ _ | refine Below.alloc ?_ ?_ _ | refine Below.setCell ?_ ?_ _ | refine Below.drew ?_ | refine below_drewN ?_ _ | (simp; done) | (simp; omega) | omega)) (by first | (simp; done) | (simp; omega) | omega)) (by omega) (by omega) hc1).mono ?_
          rw [hsV3.out, hsE3.out]
          rintro e W1 ⟨rfl, hb⟩
          have hst : Below W0.heap.size W0 W1 := Below.trans (by repeat' (first | with_reducible assumption | with_reducible exact Below.refl _ _ | refine Below.alloc ?_ ?_ _ | refine Below.setCell ?_ ?_ _ | refine Below.drew ?_ | refine below_drewN ?_ _ | (simp; done) | (simp; omega) | omega)) (hb.mono (by first | (simp; done) | (simp; omega) | omega))
          replace hbel := hbel.trans (hst.mono hsz)
          replace hsz := hbel.size
          replace H0 := hid (H0.out.below hst hst.size)
          replace H1 := hid (H1.out.below hst hst.size)
          replace Ha := hid (Ha.out.below hst hst.size)
          replace Hb := hid (Hb.out.below hst hst.size)
          clear hb hst
          obtain ⟨W0, rfl⟩ : ∃ W0 : World, W0 = W1 := ⟨_, rfl⟩
          go_wp2_with (fail)
          refine (turnOf_any A1 n c1 m j _ (H1.out.below (by repeat' (first | with_reducible assumption | with_reducible exact Below.refl _ _ | refine Below.alloc ?_ ?_ _ | refine Below.setCell ?_ ?_ _ | refine Below.drew ?_ | refine below_drewN ?_ _ | (simp; done) | (simp; omega) | omega)) (by first | (simp; done) | (simp; omega) | omega)) (by omega) (by omega)).mono ?_
          rw [hrj.out]
          rintro e W1 ⟨vu2, rfl, ho, hb⟩
          obtain ⟨Bu2, cu2, rfl, hs2⟩ := sl_of_owns ho
          have hs3 : InS W1 W1.heap.size Bu2 n l := hs2
          clear ho hs2
          have hst : Below W0.heap.size W0 W1 := Below.trans (by repeat' (first | with_reducible assumption | with_reducible exact Below.refl _ _ | refine Below.alloc ?_ ?_ _ | refine Below.setCell ?_ ?_ _ | refine Below.drew ?_ | refine below_drewN ?_ _ | (simp; done) | (simp; omega) | omega)) (hb.mono (by first | (simp; done) | (simp; omega) | omega))
          replace hbel := hbel.trans (hst.mono hsz)
          replace hsz := hbel.size
          replace H0 := hid (H0.out.below hst hst.size)
          replace H1 := hid (H1.out.below hst hst.size)
          replace Ha := hid (Ha.out.below hst hst.size)
          replace Hb := hid (Hb.out.below hst hst.size)
          have Hu2 := hid hs3
          clear hs3
          clear hb hst
          obtain ⟨W0, rfl⟩ : ∃ W0 : World, W0 = W1 := ⟨_, rfl⟩
          go_wp2_with (fail)
          refine (ints_any _ Bu2 A0 n cu2 n c0 l l (Hu2.out.below (by repeat' (first | with_reducible assumption | with_reducible exact Below.refl _ _ | refine Below.alloc ?_ ?_ _ | refine Below.setCell ?_ ?_ _ | refine Below.drew ?_ | refine below_drewN ?_ _ | (simp; done) | (simp; omega) | omega)) (by first | (simp; done) | (simp; omega) | omega)) (H0.out.below (by repeat' (first | with_reducible assumption | with_reducible exact Below.refl _ _ | refine Below.alloc ?_ ?_ _ | refine Below.setCell ?_ ?_ _ | refine Below.drew ?_ | refine below_drewN ?_ _ | (simp; done) | (simp; omega) | omega)) (by first | (simp; done) | (simp; omega) | omega)) (by omega)).mono ?_
          rw [hql.out]
          rintro e W1 ⟨rfl, hb⟩
          have hst : Below W0.heap.size W0 W1 := Below.trans (by repeat' (first | with_reducible assumption | with_reducible exact Below.refl _ _ | refine Below.alloc ?_ ?_ _ | refine Below.setCell ?_ ?_ _ | refine Below.drew ?_ | refine below_drewN ?_ _ | (simp; done) | (simp; omega) | omega)) (hb.mono (by first | (simp; done) | (simp; omega) | omega))
          replace hbel := hbel.trans (hst.mono hsz)
          replace hsz := hbel.size
          replace H0 := hid (H0.out.below hst hst.size)
          replace H1 := hid (H1.out.below hst hst.size)
          replace Ha := hid (Ha.out.below hst hst.size)
          replace Hb := hid (Hb.out.below hst hst.size)
          replace Hu2 := hid (Hu2.out.below hst hst.size)
          clear hb hst
          obtain ⟨W0, rfl⟩ : ∃ W0 : World, W0 = W1 := ⟨_, rfl⟩
          clear Hu2
          go_wp2_with (fail)
          refine (turn_any K A0 n c0 l (i : Int) _ (H0.out.below (by repeat' (first | with_reducible assumption | with_reducible exact Below.refl _ _ | refine Below.alloc ?_ ?_ _ | refine Below.setCell ?_ ?_ _ | refine Below.drew ?_ | refine below_drewN ?_ _ | (simp; done) | (simp; omega) | omega)) (by first | (simp; done) | (simp; omega) | omega)) (by omega) hc0).mono ?_
          rw [htE.out, htV.out]
          rintro e W1 ⟨Bt, mt, ct, rfl, hr, hb⟩
          have hr0 := hr.1.len
          obtain rfl : n = mt := by rw [← hr0, htl.out]
          have hr1 := hr.1
          have hct := hr.2.1
          clear hr hr0
          have hst : Below W0.heap.size W0 W1 := Below.trans (by repeat' (first | with_reducible assumption | with_reducible exact Below.refl _ _ | refine Below.alloc ?_ ?_ _ | refine Below.setCell ?_ ?_ _ | refine Below.drew ?_ | refine below_drewN ?_ _ | (simp; done) | (simp; omega) | omega)) (hb.mono (by first | (simp; done) | (simp; omega) | omega))
          replace hbel := hbel.trans (hst.mono hsz)
          replace hsz := hbel.size
          replace H0 := hid (H0.out.below hst hst.size)
          replace H1 := hid (H1.out.below hst hst.size)
          replace Ha := hid (Ha.out.below hst hst.size)
          replace Hb := hid (Hb.out.below hst hst.size)
          have Ht := hid hr1
          clear hr1
          clear hb hst
          obtain ⟨W0, rfl⟩ : ∃ W0 : World, W0 = W1 := ⟨_, rfl⟩
          go_wp2_with (fail)
          refine (fineW_any K Bt n ct t _ (Ht.out.below (by repeat' (first | with_reducible assumption | with_reducible exact Below.refl _ _ | refine Below.alloc ?_ ?_ _ | refine Below.setCell ?_ ?_ _ | refine Below.drew ?_ | refine below_drewN ?_ _ | (simp; done) | (simp; omega) | omega)) (by first | (simp; done) | (simp; omega) | omega))).mono ?_
          rw [htf.out]
          rintro e W1 ⟨rfl, hb⟩
          have hst : Below W0.heap.size W0 W1 := Below.trans (by repeat' (first | with_reducible assumption | with_reducible exact Below.refl _ _ | refine Below.alloc ?_ ?_ _ | refine Below.setCell ?_ ?_ _ | refine Below.drew ?_ | refine below_drewN ?_ _ | (simp; done) | (simp; omega) | omega)) (hb.mono (by first | (simp; done) | (simp; omega) | omega))
          replace hbel := hbel.trans (hst.mono hsz)
          replace hsz := hbel.size
          replace H0 := hid (H0.out.below hst hst.size)
          replace H1 := hid (H1.out.below hst hst.size)
          replace Ha := hid (Ha.out.below hst hst.size)
          replace Hb := hid (Hb.out.below hst hst.size)
          replace Ht := hid (Ht.out.below hst hst.size)
          clear hb hst
          obtain ⟨W0, rfl⟩ : ∃ W0 : World, W0 = W1 := ⟨_, rfl⟩
          go_wp2_with (fail)
          refine (lawLeast_any K Bt n ct t _ (Ht.out.below (by repeat' (first | with_reducible assumption | with_reducible exact Below.refl _ _ | refine Below.alloc ?_ ?_ _ | refine Below.setCell ?_ ?_ _ | refine Below.drew ?_ | refine below_drewN ?_ _ | (simp; done) | (simp; omega) | omega)) (by first | (simp; done) | (simp; omega) | omega)) (by omega) hct).mono ?_
          rw [htd.out, htL.out]
          rintro e W1 ⟨Bd, md, cd, rfl, hr, hb⟩
          have hr0 := hr.1.len
          obtain rfl : n = md := by rw [← hr0, hal.out]
          have hr1 := hr.1
          clear hr hr0
          have hst : Below W0.heap.size W0 W1 := Below.trans (by repeat' (first | with_reducible assumption | with_reducible exact Below.refl _ _ | refine Below.alloc ?_ ?_ _ | refine Below.setCell ?_ ?_ _ | refine Below.drew ?_ | refine below_drewN ?_ _ | (simp; done) | (simp; omega) | omega)) (hb.mono (by first | (simp; done) | (simp; omega) | omega))
          replace hbel := hbel.trans (hst.mono hsz)
          replace hsz := hbel.size
          replace H0 := hid (H0.out.below hst hst.size)
          replace H1 := hid (H1.out.below hst hst.size)
          replace Ha := hid (Ha.out.below hst hst.size)
          replace Hb := hid (Hb.out.below hst hst.size)
          replace Ht := hid (Ht.out.below hst hst.size)
          have Hd := hid hr1
          clear hr1
          clear hb hst
          obtain ⟨W0, rfl⟩ : ∃ W0 : World, W0 = W1 := ⟨_, rfl⟩
          go_wp2_with (fail)
          refine (shift_any K A0 Bt n c0 n ct l t _ (H0.out.below (by repeat' (first | with_reducible assumption | with_reducible exact Below.refl _ _ | refine Below.alloc ?_ ?_ _ | refine Below.setCell ?_ ?_ _ | refine Below.drew ?_ | refine below_drewN ?_ _ | (simp; done) | (simp; omega) | omega)) (by first | (simp; done) | (simp; omega) | omega)) (Ht.out.below (by repeat' (first | with_reducible assumption | with_reducible exact Below.refl _ _ | refine Below.alloc ?_ ?_ _ | refine Below.setCell ?_ ?_ _ | refine Below.drew ?_ | refine below_drewN ?_ _ | (simp; done) | (simp; omega) | omega)) (by first | (simp; done) | (simp; omega) | omega)) (by omega) (by omega) hc0).mono ?_
          rw [hsV2.out, hsE2.out]
          rintro e W1 ⟨rfl, hb⟩
          have hst : Below W0.heap.size W0 W1 := Below.trans (by repeat' (first | with_reducible assumption | with_reducible exact Below.refl _ _ | refine Below.alloc ?_ ?_ _ | refine Below.setCell ?_ ?_ _ | refine Below.drew ?_ | refine below_drewN ?_ _ | (simp; done) | (simp; omega) | omega)) (hb.mono (by first | (simp; done) | (simp; omega) | omega))
          replace hbel := hbel.trans (hst.mono hsz)
          replace hsz := hbel.size
          replace H0 := hid (H0.out.below hst hst.size)
          replace H1 := hid (H1.out.below hst hst.size)
          replace Ha := hid (Ha.out.below hst hst.size)
          replace Hb := hid (Hb.out.below hst hst.size)
          replace Ht := hid (Ht.out.below hst hst.size)
          replace Hd := hid (Hd.out.below hst hst.size)
          clear hb hst
          obtain ⟨W0, rfl⟩ : ∃ W0 : World, W0 = W1 := ⟨_, rfl⟩
          go_wp2_with (fail)
          refine (ints_any _ Ba Bd n ca n cd a a (Ha.out.below (by repeat' (first | with_reducible assumption | with_reducible exact Below.refl _ _ | refine Below.alloc ?_ ?_ _ | refine Below.setCell ?_ ?_ _ | refine Below.drew ?_ | refine below_drewN ?_ _ | (simp; done) | (simp; omega) | omega)) (by first | (simp; done) | (simp; omega) | omega)) (Hd.out.below (by repeat' (first | with_reducible assumption | with_reducible exact Below.refl _ _ | refine Below.alloc ?_ ?_ _ | refine Below.setCell ?_ ?_ _ | refine Below.drew ?_ | refine below_drewN ?_ _ | (simp; done) | (simp; omega) | omega)) (by first | (simp; done) | (simp; omega) | omega)) (by omega)).mono ?_
          rw [hqa.out]
          rintro e W1 ⟨rfl, hb⟩
          have hst : Below W0.heap.size W0 W1 := Below.trans (by repeat' (first | with_reducible assumption | with_reducible exact Below.refl _ _ | refine Below.alloc ?_ ?_ _ | refine Below.setCell ?_ ?_ _ | refine Below.drew ?_ | refine below_drewN ?_ _ | (simp; done) | (simp; omega) | omega)) (hb.mono (by first | (simp; done) | (simp; omega) | omega))
          replace hbel := hbel.trans (hst.mono hsz)
          replace hsz := hbel.size
          replace H0 := hid (H0.out.below hst hst.size)
          replace H1 := hid (H1.out.below hst hst.size)
          replace Ha := hid (Ha.out.below hst hst.size)
          replace Hb := hid (Hb.out.below hst hst.size)
          replace Ht := hid (Ht.out.below hst hst.size)
          replace Hd := hid (Hd.out.below hst hst.size)
          clear hb hst
          obtain ⟨W0, rfl⟩ : ∃ W0 : World, W0 = W1 := ⟨_, rfl⟩
          go_wp2_with (fail)
          refine (before_any _ Bt Ba n ct n ca t a (Ht.out.below (by repeat' (first | with_reducible assumption | with_reducible exact Below.refl _ _ | refine Below.alloc ?_ ?_ _ | refine Below.setCell ?_ ?_ _ | refine Below.drew ?_ | refine below_drewN ?_ _ | (simp; done) | (simp; omega) | omega)) (by first | (simp; done) | (simp; omega) | omega)) (Ha.out.below (by repeat' (first | with_reducible assumption | with_reducible exact Below.refl _ _ | refine Below.alloc ?_ ?_ _ | refine Below.setCell ?_ ?_ _ | refine Below.drew ?_ | refine below_drewN ?_ _ | (simp; done) | (simp; omega) | omega)) (by first | (simp; done) | (simp; omega) | omega)) (by omega) (by omega)).mono ?_
          rw [hbf.out]
          rintro e W1 ⟨rfl, hb⟩
          have hst : Below W0.heap.size W0 W1 := Below.trans (by repeat' (first | with_reducible assumption | with_reducible exact Below.refl _ _ | refine Below.alloc ?_ ?_ _ | refine Below.setCell ?_ ?_ _ | refine Below.drew ?_ | refine below_drewN ?_ _ | (simp; done) | (simp; omega) | omega)) (hb.mono (by first | (simp; done) | (simp; omega) | omega))
          replace hbel := hbel.trans (hst.mono hsz)
          replace hsz := hbel.size
          replace H0 := hid (H0.out.below hst hst.size)
          replace H1 := hid (H1.out.below hst hst.size)
          replace Ha := hid (Ha.out.below hst hst.size)
          replace Hb := hid (Hb.out.below hst hst.size)
          replace Ht := hid (Ht.out.below hst hst.size)
          replace Hd := hid (Hd.out.below hst hst.size)
          clear hb hst
          obtain ⟨W0, rfl⟩ : ∃ W0 : World, W0 = W1 := ⟨_, rfl⟩
          go_wp2_with (fail)
          refine (works_any _).mono ?_
          rintro e W1 ⟨rfl, hb⟩
          have hst : Below W0.heap.size W0 W1 := Below.trans (by repeat' (first | with_reducible assumption | with_reducible exact Below.refl _ _ | refine Below.alloc ?_ ?_ _ | refine Below.setCell ?_ ?_ _ | refine Below.drew ?_ | refine below_drewN ?_ _ | (simp; done) | (simp; omega) | omega)) (hb.mono (by first | (simp; done) | (simp; omega) | omega))
          replace hbel := hbel.trans (hst.mono hsz)
          replace hsz := hbel.size
          replace H0 := hid (H0.out.below hst hst.size)
          replace H1 := hid (H1.out.below hst hst.size)
          replace Ha := hid (Ha.out.below hst hst.size)
          replace Hb := hid (Hb.out.below hst hst.size)
          replace Ht := hid (Ht.out.below hst hst.size)
          replace Hd := hid (Hd.out.below hst hst.size)
          clear hb hst
          obtain ⟨W0, rfl⟩ : ∃ W0 : World, W0 = W1 := ⟨_, rfl⟩
          go_wp2
          go_ret
          exact ⟨rfl, hbel⟩
      · have t1 : ((n : Int) != (n1 : Int)) = true := by simp; omega
        clear hn
        go_enter Try.func8, Try.ntmps8
        obtain ⟨W0, rfl⟩ : ∃ W0 : World, W0 = w := ⟨_, rfl⟩
        skip
        skip
        have hbel : Below W0.heap.size W0 W0 := Below.refl _ _
        have hsz := hbel.size
        go_wp2_with (fail)
        refine (fineW_any K A0 n c0 l _ (H0.out.below (by repeat' (first | with_reducible assumption | with_reducible exact Below.refl _ _ | refine Below.alloc ?_ ?_ _ | refine Below.setCell ?_ ?_ _ | refine Below.drew ?_ | refine below_drewN ?_ _ | (simp; done) | (simp; omega) | omega)) (by first | (simp; done) | (simp; omega) | omega))).mono ?_
        rw [Hf0.out]
        rintro e W1 ⟨rfl, hb⟩
        have hst : Below W0.heap.size W0 W1 := Below.trans (by repeat' (first | with_reducible assumption | with_reducible exact Below.refl _ _ | refine Below.alloc ?_ ?_ _ | refine Below.setCell ?_ ?_ _ | refine Below.drew ?_ | refine below_drewN ?_ _ | (simp; done) | (simp; omega) | omega)) (hb.mono (by first | (simp; done) | (simp; omega) | omega))
        replace hbel := hbel.trans (hst.mono hsz)
        replace hsz := hbel.size
        replace H0 := hid (H0.out.below hst hst.size)
        replace H1 := hid (H1.out.below hst hst.size)
        clear hb hst
        obtain ⟨W0, rfl⟩ : ∃ W0 : World, W0 = W1 := ⟨_, rfl⟩
        go_wp2_with (fail)
        refine (fineW_any K A1 n1 c1 m _ (H1.out.below (by repeat' (first | with_reducible assumption | with_reducible exact Below.refl _ _ | refine Below.alloc ?_ ?_ _ | refine Below.setCell ?_ ?_ _ | refine Below.drew ?_ | refine below_drewN ?_ _ | (simp; done) | (simp; omega) | omega)) (by first | (simp; done) | (simp; omega) | omega))).mono ?_
        rw [Hf1.out]
        rintro e W1 ⟨rfl, hb⟩
        have hst : Below W0.heap.size W0 W1 := Below.trans (by repeat' (first | with_reducible assumption | with_reducible exact Below.refl _ _ | refine Below.alloc ?_ ?_ _ | refine Below.setCell ?_ ?_ _ | refine Below.drew ?_ | refine below_drewN ?_ _ | (simp; done) | (simp; omega) | omega)) (hb.mono (by first | (simp; done) | (simp; omega) | omega))
        replace hbel := hbel.trans (hst.mono hsz)
        replace hsz := hbel.size
        replace H0 := hid (H0.out.below hst hst.size)
        replace H1 := hid (H1.out.below hst hst.size)
        clear hb hst
        obtain ⟨W0, rfl⟩ : ∃ W0 : World, W0 = W1 := ⟨_, rfl⟩
        go_wp2_with (fail)
        refine (works_any _).mono ?_
        rintro e W1 ⟨rfl, hb⟩
        have hst : Below W0.heap.size W0 W1 := Below.trans (by repeat' (first | with_reducible assumption | with_reducible exact Below.refl _ _ | refine Below.alloc ?_ ?_ _ | refine Below.setCell ?_ ?_ _ | refine Below.drew ?_ | refine below_drewN ?_ _ | (simp; done) | (simp; omega) | omega)) (hb.mono (by first | (simp; done) | (simp; omega) | omega))
        replace hbel := hbel.trans (hst.mono hsz)
        replace hsz := hbel.size
        replace H0 := hid (H0.out.below hst hst.size)
        replace H1 := hid (H1.out.below hst hst.size)
        clear hb hst
        obtain ⟨W0, rfl⟩ : ∃ W0 : World, W0 = W1 := ⟨_, rfl⟩
        go_wp2
        go_ret
        exact ⟨rfl, hbel⟩

section
open Go.ChangeShapes Go.WideShapes Go.ChangeAt Go.RowKit
set_option maxRecDepth 100000 in
theorem rimEither_lifted (os : Os) (started : os.Started) (H : Type) (enc : TypeId × Value → H) :
    ReturnsInHanded {} Try.checked os 8 .any (Rows.rimEitherSpec.pre6 enc Try.prog Try.f8 Rows.rimEitherRow.domain false) (Rows.rimEitherSpec.post enc Try.prog Try.f8 false true false false) := by
  refine returnsInHanded_of_change (C := Try.checked) ownKx started (by kernel_rfl) Try.func8
    (ChangeSpec.witness6 (enc := enc) (C := Try.checked) false ⟨#[], #[.int .i64 0, .slice none 0 0, .slice none 0 0, .int .u8 0], []⟩ 8 (by kernel_rfl) (by kernel_rfl) (by kernel_rfl) (by kernel_rfl)) ?_
  intro W base args ds gs before hval0 hW hcnd _
  have hval : ∀ (j : Nat) t v, Try.f8.params[j]? = some t → args[j]? = some v → Value.okWide Try.prog W .any base t v := hval0
  have hW' := hW
  obtain ⟨p, q, hA0, hV, rfl, hfz, hnd⟩ := hW
  have hA : DataW.TrodAll enc Try.prog W 0 (fun _ => true) true Try.f8.params.toList args.toList ds p := hA0
  have hlt : ∀ x ∈ p, x.block < W.heap.size := fun x hx => hW'.lt x (List.mem_append_left _ hx)
  have hAll : ∀ W', Below W.heap.size W W' → DataW.TrodAll enc Try.prog W' 0 (fun b => decide (b < W.heap.size)) true Try.f8.params.toList args.toList ds p := fun W' hb => all_below laidOut hb (readable_of (by kernel_rfl)) hlt hA
  rw [Try.params8] at hA hval
  obtain ⟨v0, v1, v2, v3, d0, d1, d2, d3, p0, p1, p2, p3, rfl, rfl, rfl, h0, h1, h2, h3⟩ := trodAll_four hA
  obtain ⟨rfl, rfl⟩ := trodVars_none hV
  clear hA0 hval0
  obtain ⟨x0, rfl, rfl, rfl, wx0⟩ := open_int Try.underlying3 (hval 0 3 v0 rfl rfl) h0
  obtain ⟨A1, n1, c1, rfl⟩ := okWide_slice Try.underlying22 (hval 1 22 v1 rfl rfl)
  obtain ⟨hc1, l1, hl1, hr1⟩ := open_ins Try.underlying22 Try.underlying3 (by kernel_rfl) h1
  obtain ⟨A2, n2, c2, rfl⟩ := okWide_slice Try.underlying22 (hval 2 22 v2 rfl rfl)
  obtain ⟨hc2, l2, hl2, hr2⟩ := open_ins Try.underlying22 Try.underlying3 (by kernel_rfl) h2
  obtain ⟨x3, rfl, rfl, rfl, wx3⟩ := open_int Try.underlying5 (hval 3 5 v3 rfl rfl) h3
  obtain ⟨y3, rfl⟩ : ∃ y : Nat, x3 = y := ⟨x3.toNat, (Int.toNat_of_nonneg (wf_u8 wx3).1).symm⟩
  refine (rimEither_walk W x0 A1 n1 c1 l1 A2 n2 c2 l2 y3 (by have := wf_u8 wx3; omega) hr1 hc1 hr2 hc2).mono fun e W' ⟨he, hb⟩ => ?_
  subst he
  exact ⟨_, rfl, ⟨_, _, _, [], _, [], hW', trodAll_cons_mk (shut_bool Try.underlying4 _) trodAll_mk0, hAll W' hb, rfl, hb.frame _, fun h => by cases h⟩⟩
/-- The law: whatever the input, it returns true, and the input reads as it did. -/
theorem rimEither_holds : Rows.RimEitherSaid :=
  OpenClaim.holds_of_wide 8 Try.f8 rfl rfl rfl rfl rfl rfl rfl ⟨rfl, rfl, rfl, rfl, rfl⟩ rfl rfl rfl rfl rfl (by kernel_rfl) Try.func8 (by kernel_rfl)
    (of_decide_eq_true (by kernel_rfl)) (by unfold Func.isWrapper; first | (rw [if_pos (by decide +kernel)]; kernel_rfl) | (rw [if_neg (by decide +kernel)]; exact ⟨rfl, rfl⟩))
    (fun os started H enc _ => rimEither_lifted os started H enc)
end
end Go.Proofs.Ytiobmfggnacplaa

