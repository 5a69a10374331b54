/- The statement RimCut holds: whatever the arguments, the law returns true and leaves its arguments as they were. -/
import Derived.Test.YtiobmfggnacplaaMm
import Derived.Test.YtiobmfggnacplaaMn
set_option linter.unusedSimpArgs false
set_option linter.unusedVariables false
namespace Go.Proofs.Ytiobmfggnacplaa
open Go.RowKit Go.Shelf
attribute [local go_sem] Oper.semAt_some
set_option maxRecDepth 100000 in
set_option maxHeartbeats 40000000 in
theorem rimCut_walk (w : World) (K : Int) (A0 : Option Addr) (n c0 : Nat) (l : List Int) (A1 : Option Addr) (n1 c1 : Nat) (cs : List Int) (h0 : InS w w.heap.size A0 n l) (hc0 : n ≤ c0) (h1 : InS w w.heap.size A1 n1 cs) (hc1 : n1 ≤ c1) :
    Calls Try.prog 10 #[.int .i64 K, .slice A0 n c0, .slice A1 n1 c1] w fun e w' => e = .returned (.bool true) ∧ Below w.heap.size w w' := by
  have H0 := hid h0
  have H1 := hid h1
  have hl0 := hid h0.len
  have hl1 := hid h1.len
  cases hf0 : fineB K l
  · have Hf0 := hid hf0
    clear hf0 h0 h1
    go_enter Try.func10, Try.ntmps10
    obtain ⟨W0, rfl⟩ : ∃ W0 : World, W0 = w := ⟨_, rfl⟩
    skip
    skip
    have hbel : Below W0.heap.size W0 W0 := Below.refl _ _
    have hsz := hbel.size
    go_wp2_with (fail)
    refine (fineW_any K A0 n c0 l _ (H0.out.below (by repeat' (first | with_reducible assumption | with_reducible exact Below.refl _ _ | refine Below.alloc ?_ ?_ _ | refine Below.setCell ?_ ?_ _ | refine Below.drew ?_ | refine below_drewN ?_ _ | (simp; done) | (simp; omega) | omega)) (by first | (simp; done) | (simp; omega) | omega))).mono ?_
    rw [Hf0.out]
    rintro e W1 ⟨rfl, hb⟩
    have hst : Below W0.heap.size W0 W1 := Below.trans (by repeat' (first | with_reducible assumption | with_reducible exact Below.refl _ _ | refine Below.alloc ?_ ?_ _ | refine Below.setCell ?_ ?_ _ | refine Below.drew ?_ | refine below_drewN ?_ _ | (simp; done) | (simp; omega) | omega)) (hb.mono (by first | (simp; done) | (simp; omega) | omega))
    replace hbel := hbel.trans (hst.mono hsz)
    replace hsz := hbel.size
    replace H0 := hid (H0.out.below hst hst.size)
    replace H1 := hid (H1.out.below hst hst.size)
    clear hb hst
    obtain ⟨W0, rfl⟩ : ∃ W0 : World, W0 = W1 := ⟨_, rfl⟩
    go_wp2_with (fail)
    refine (works_any _).mono ?_
    rintro e W1 ⟨rfl, hb⟩
    have hst : Below W0.heap.size W0 W1 := Below.trans (by repeat' (first | with_reducible assumption | with_reducible exact Below.refl _ _ | refine Below.alloc ?_ ?_ _ | refine Below.setCell ?_ ?_ _ | refine Below.drew ?_ | refine below_drewN ?_ _ | (simp; done) | (simp; omega) | omega)) (hb.mono (by first | (simp; done) | (simp; omega) | omega))
    replace hbel := hbel.trans (hst.mono hsz)
    replace hsz := hbel.size
    replace H0 := hid (H0.out.below hst hst.size)
    replace H1 := hid (H1.out.below hst hst.size)
    clear hb hst
    obtain ⟨W0, rfl⟩ : ∃ W0 : World, W0 = W1 := ⟨_, rfl⟩
    go_wp2
    go_ret
    exact ⟨rfl, hbel⟩
  · have hok0 := fineB_t.1 hf0
    have Hf0 := hid hf0
    clear hf0 h1
    by_cases hg : 80 < n1
    · have Hg := hid (decide_eq_true hg)
      clear h0
      go_enter Try.func10, Try.ntmps10
      obtain ⟨W0, rfl⟩ : ∃ W0 : World, W0 = w := ⟨_, rfl⟩
      skip
      skip
      have hbel : Below W0.heap.size W0 W0 := Below.refl _ _
      have hsz := hbel.size
      go_wp2_with (fail)
      refine (fineW_any K A0 n c0 l _ (H0.out.below (by repeat' (first | with_reducible assumption | with_reducible exact Below.refl _ _ | refine Below.alloc ?_ ?_ _ | refine Below.setCell ?_ ?_ _ | refine Below.drew ?_ | refine below_drewN ?_ _ | (simp; done) | (simp; omega) | omega)) (by first | (simp; done) | (simp; omega) | omega))).mono ?_
      rw [Hf0.out]
      rintro e W1 ⟨rfl, hb⟩
      have hst : Below W0.heap.size W0 W1 := Below.trans (by repeat' (first | with_reducible assumption | with_reducible exact Below.refl _ _ | refine Below.alloc ?_ ?_ _ | refine Below.setCell ?_ ?_ _ | refine Below.drew ?_ | refine below_drewN ?_ _ | (simp; done) | (simp; omega) | omega)) (hb.mono (by first | (simp; done) | (simp; omega) | omega))
      replace hbel := hbel.trans (hst.mono hsz)
      replace hsz := hbel.size
      replace H0 := hid (H0.out.below hst hst.size)
      replace H1 := hid (H1.out.below hst hst.size)
      clear hb hst
      obtain ⟨W0, rfl⟩ : ∃ W0 : World, W0 = W1 := ⟨_, rfl⟩
      go_wp2_with (fail)
      refine (great_any A1 n1 c1 _).mono ?_
      rw [Hg.out]
      rintro e W1 ⟨rfl, hb⟩
      have hst : Below W0.heap.size W0 W1 := Below.trans (by repeat' (first | with_reducible assumption | with_reducible exact Below.refl _ _ | refine Below.alloc ?_ ?_ _ | refine Below.setCell ?_ ?_ _ | refine Below.drew ?_ | refine below_drewN ?_ _ | (simp; done) | (simp; omega) | omega)) (hb.mono (by first | (simp; done) | (simp; omega) | omega))
      replace hbel := hbel.trans (hst.mono hsz)
      replace hsz := hbel.size
      replace H0 := hid (H0.out.below hst hst.size)
      replace H1 := hid (H1.out.below hst hst.size)
      clear hb hst
      obtain ⟨W0, rfl⟩ : ∃ W0 : World, W0 = W1 := ⟨_, rfl⟩
      go_wp2_with (fail)
      refine (works_any _).mono ?_
      rintro e W1 ⟨rfl, hb⟩
      have hst : Below W0.heap.size W0 W1 := Below.trans (by repeat' (first | with_reducible assumption | with_reducible exact Below.refl _ _ | refine Below.alloc ?_ ?_ _ | refine Below.setCell ?_ ?_ _ | refine Below.drew ?_ | refine below_drewN ?_ _ | (simp; done) | (simp; omega) | omega)) (hb.mono (by first | (simp; done) | (simp; omega) | omega))
      replace hbel := hbel.trans (hst.mono hsz)
      replace hsz := hbel.size
      replace H0 := hid (H0.out.below hst hst.size)
      replace H1 := hid (H1.out.below hst hst.size)
      clear hb hst
      obtain ⟨W0, rfl⟩ : ∃ W0 : World, W0 = W1 := ⟨_, rfl⟩
      go_wp2
      go_ret
      exact ⟨rfl, hbel⟩
    · have Hg := hid (decide_eq_false hg)
      have hn1 : n1 ≤ 80 := by omega
      have h64 := (rim_good hok0).2.1
      rw [hl0.out] at h64
      obtain ⟨b0, off0, rfl, -⟩ := h0.2 (by omega)
      have hlp : 0 < l.length := by rw [hl0.out]; omega
      have hlne : l ≠ [] := List.length_pos_iff.1 hlp
      have hE0 : Hid (decide (checkRim K l = 0) = true) := hid (decide_eq_true hok0)
      have HokE : Hid (checkRim K l = 0) := hid hok0
      have hoka : checkRim K (least l) = 0 := by unfold least; rw [checkRim_rot]; exact hok0
      have HokA : Hid (checkRim K (least l) = 0) := hid hoka
      have haV : Hid (leastV K l = least l) := hid (if_pos hok0)
      have hpV : Hid (perV K l = perL l) := hid (if_pos hok0)
      have hwV : Hid (wordsV K l = cutsI l) := hid (if_pos hok0)
      have hwA : Hid (wordsV K (least l) = cutsI (least l)) := hid (if_pos hoka)
      have hal : Hid ((least l).length = n) := hid (by rw [least_len, hl0.out])
      obtain ⟨hp1, hpn⟩ := perL_pos hlp
      have hpd := Nat.mod_eq_zero_of_dvd (perL_len hlp)
      obtain ⟨z, hz1, hz2, hz3⟩ := last_least hlne
      obtain ⟨r0, hr0⟩ := cutsL_zero hlne
      have hm1 : 1 ≤ (cutsI l).length := by rw [cutsI_len, hr0]; simp
      have hm64 : (cutsI l).length ≤ 64 := by have := cutsI_le l; rw [hl0.out] at this; omega
      have hcw : Hid (cutE K l (cutsI l) = 0) := hid (cutE_self hok0)
      have hzI : (cutsI l)[(cutsI l).length - 1]? = some (z : Int) := by rw [cutsI_len]; unfold cutsI; rw [List.getElem?_map, hz1]; rfl
      have hceq : cutE K l cs = 0 → cs = cutsI l := fun e => cutE_eq e hok0
      obtain ⟨hcl, hca⟩ := cuts_least hlp
      rw [hl0.out] at hpn hpd hz2 hz3 hcl hca
      obtain ⟨p, hp⟩ : ∃ p, perL l = p := ⟨_, rfl⟩
      rw [hp] at hp1 hpn hpd hpV hcl hca
      have hcaI : ∀ i, i < n / p → (cutsI (least l))[i]? = some ((i * p : Nat) : Int) := fun i hi => by unfold cutsI; rw [List.getElem?_map, hca i hi]; rfl
      have hclI : (cutsI (least l)).length = n / p := by rw [cutsI_len]; exact hcl
      obtain ⟨a, ha⟩ : ∃ a, least l = a := ⟨_, rfl⟩
      rw [ha] at haV hal hwA HokA hcaI hclI
      obtain ⟨W', hW'⟩ : ∃ W', cutsI l = W' := ⟨_, rfl⟩
      rw [hW'] at hwV hm1 hm64 hcw hzI hceq
      obtain ⟨C', hC'⟩ : ∃ C', cutsI a = C' := ⟨_, rfl⟩
      rw [hC'] at hwA hcaI hclI
      obtain ⟨m, hm⟩ : ∃ m, W'.length = m := ⟨_, rfl⟩
      rw [hm] at hm1 hm64 hzI
      obtain ⟨q, hq⟩ : ∃ q, n / p = q := ⟨_, rfl⟩
      rw [hq] at hcaI hclI
      have hq64 : q ≤ 64 := by rw [← hq]; exact Nat.le_trans (Nat.div_le_self n p) h64.2
      have hqp : q * p = n := by rw [← hq]; exact Nat.div_mul_cancel (Nat.dvd_of_mod_eq_zero hpd)
      have Hqp := hid hqp
      have hdiv : (n : Int) / (p : Int) = (q : Int) := by rw [← hq]; exact (Int.natCast_ediv n p).symm
      have htdiv : Int.tdiv (n : Int) (p : Int) = (q : Int) := by rw [← hq]; exact (Int.ofNat_tdiv n p).symm
      have zq : IntKind.i64.wrap (q : Int) = (q : Int) := IntWalk.i64_in _ (by omega)
      have hp0 : ¬ (p : Int) = 0 := by omega
      have hp00 : ¬ p = 0 := by omega
      have tp1 : ¬ (p : Int) < 1 := by omega
      have tpn : ¬ (n : Int) < (p : Int) := by omega
      have hpmod : (n : Int) % (p : Int) = 0 := by rw [← Int.natCast_emod, hpd]; rfl
      have hptmod : Int.tmod (n : Int) (p : Int) = 0 := by rw [← Int.ofNat_tmod, hpd]; rfl
      have Hg2 := hid (decide_eq_false (show ¬ 80 < m by omega))
      have HzI := hid hzI
      have Hz3 := hid hz3
      have HcaI := hid hcaI
      have HclI := hid hclI
      have Hceq := hid hceq
      have Hm := hid hm
      have hqw : Hid (eqI W' W' = true) := hid (eqI_t.2 rfl)
      have tm1 : ¬ (m : Int) < 1 := by omega
      have zm : IntKind.i64.wrap ((m : Int) - 1) = ((m - 1 : Nat) : Int) := by rw [show (m : Int) - 1 = ((m - 1 : Nat) : Int) by omega]; exact IntWalk.i64_in _ (by omega)
      obtain ⟨m', hm'⟩ : ∃ m', m - 1 = m' := ⟨_, rfl⟩
      rw [hm'] at zm HzI
      have hm'm : m' < m := by omega
      have hm'i : (m' : Int) < m := by omega
      have hm'0 : (0 : Int) ≤ m' := by omega
      have hzn : (z : Int) < n := by omega
      have hz0 : (0 : Int) ≤ z := by omega
      have hzc : (z : Int) ≤ c0 := by omega
      have hzc2 : ¬ c0 = z := by omega
      have hzn2 : z ≤ n := by omega
      clear hz1 hz3 hzI hm hm' hq hqp hW' hC' ha hp hpd hcl hca hcaI hclI hceq hok0 hoka hr0 hlne hlp h0 hpn
      obtain ⟨ce, hce⟩ : ∃ ce, cutE K l cs = ce := ⟨_, rfl⟩
      have Hce := hid hce
      rw [hce] at Hceq
      clear hce
      have tail : True := trivial
      by_cases hcz : ce = 0
      · have tcz : (ce == 0) = true := by rw [hcz]; rfl
        have hceq2 := (Hceq.out hcz).symm
        subst hceq2
        clear hcz
        go_enter Try.func10, Try.ntmps10
        obtain ⟨W0, rfl⟩ : ∃ W0 : World, W0 = w := ⟨_, rfl⟩
        skip
        skip
        have hbel : Below W0.heap.size W0 W0 := Below.refl _ _
        have hsz := hbel.size
        go_wp2_with (fail)
        refine (fineW_any K (some ⟨b0, off0, none⟩) n c0 l _ (H0.out.below (by repeat' (first | with_reducible assumption | with_reducible exact Below.refl _ _ | refine Below.alloc ?_ ?_ _ | refine Below.setCell ?_ ?_ _ | refine Below.drew ?_ | refine below_drewN ?_ _ | (simp; done) | (simp; omega) | omega)) (by first | (simp; done) | (simp; omega) | omega))).mono ?_
        rw [Hf0.out]
        rintro e W1 ⟨rfl, hb⟩
        have hst : Below W0.heap.size W0 W1 := Below.trans (by repeat' (first | with_reducible assumption | with_reducible exact Below.refl _ _ | refine Below.alloc ?_ ?_ _ | refine Below.setCell ?_ ?_ _ | refine Below.drew ?_ | refine below_drewN ?_ _ | (simp; done) | (simp; omega) | omega)) (hb.mono (by first | (simp; done) | (simp; omega) | omega))
        replace hbel := hbel.trans (hst.mono hsz)
        replace hsz := hbel.size
        replace H0 := hid (H0.out.below hst hst.size)
        replace H1 := hid (H1.out.below hst hst.size)
        clear hb hst
        obtain ⟨W0, rfl⟩ : ∃ W0 : World, W0 = W1 := ⟨_, rfl⟩
        go_wp2_with (fail)
        refine (great_any A1 n1 c1 _).mono ?_
        rw [Hg.out]
        rintro e W1 ⟨rfl, hb⟩
        have hst : Below W0.heap.size W0 W1 := Below.trans (by repeat' (first | with_reducible assumption | with_reducible exact Below.refl _ _ | refine Below.alloc ?_ ?_ _ | refine Below.setCell ?_ ?_ _ | refine Below.drew ?_ | refine below_drewN ?_ _ | (simp; done) | (simp; omega) | omega)) (hb.mono (by first | (simp; done) | (simp; omega) | omega))
        replace hbel := hbel.trans (hst.mono hsz)
        replace hsz := hbel.size
        replace H0 := hid (H0.out.below hst hst.size)
        replace H1 := hid (H1.out.below hst hst.size)
        clear hb hst
        obtain ⟨W0, rfl⟩ : ∃ W0 : World, W0 = W1 := ⟨_, rfl⟩
        go_wp2_with (fail)
        refine (words_any K (some ⟨b0, off0, none⟩) n c0 l _ (H0.out.below (by repeat' (first | with_reducible assumption | with_reducible exact Below.refl _ _ | refine Below.alloc ?_ ?_ _ | refine Below.setCell ?_ ?_ _ | refine Below.drew ?_ | refine below_drewN ?_ _ | (simp; done) | (simp; omega) | omega)) (by first | (simp; done) | (simp; omega) | omega)) (by omega)).mono ?_
        rw [HokE.out, hwV.out, Hm.out]
        rintro e W1 ⟨Bw, cw, rfl, hr, hb⟩
        have hr1 := hr.1
        have hcw2 := hr.2.1
        clear hr
        have hst : Below W0.heap.size W0 W1 := Below.trans (by repeat' (first | with_reducible assumption | with_reducible exact Below.refl _ _ | refine Below.alloc ?_ ?_ _ | refine Below.setCell ?_ ?_ _ | refine Below.drew ?_ | refine below_drewN ?_ _ | (simp; done) | (simp; omega) | omega)) (hb.mono (by first | (simp; done) | (simp; omega) | omega))
        replace hbel := hbel.trans (hst.mono hsz)
        replace hsz := hbel.size
        replace H0 := hid (H0.out.below hst hst.size)
        replace H1 := hid (H1.out.below hst hst.size)
        have Hw := hid hr1
        clear hr1
        clear hb hst
        obtain ⟨W0, rfl⟩ : ∃ W0 : World, W0 = W1 := ⟨_, rfl⟩
        go_wp2_with (fail)
        refine (great_any Bw m cw _).mono ?_
        rw [Hg2.out]
        rintro e W1 ⟨rfl, hb⟩
        have hst : Below W0.heap.size W0 W1 := Below.trans (by repeat' (first | with_reducible assumption | with_reducible exact Below.refl _ _ | refine Below.alloc ?_ ?_ _ | refine Below.setCell ?_ ?_ _ | refine Below.drew ?_ | refine below_drewN ?_ _ | (simp; done) | (simp; omega) | omega)) (hb.mono (by first | (simp; done) | (simp; omega) | omega))
        replace hbel := hbel.trans (hst.mono hsz)
        replace hsz := hbel.size
        replace H0 := hid (H0.out.below hst hst.size)
        replace H1 := hid (H1.out.below hst hst.size)
        replace Hw := hid (Hw.out.below hst hst.size)
        clear hb hst
        obtain ⟨W0, rfl⟩ : ∃ W0 : World, W0 = W1 := ⟨_, rfl⟩
        go_wp2_with (fail)
        refine (checkWords_any K (some ⟨b0, off0, none⟩) Bw n c0 m cw l W' _ (H0.out.below (by repeat' (first | with_reducible assumption | with_reducible exact Below.refl _ _ | refine Below.alloc ?_ ?_ _ | refine Below.setCell ?_ ?_ _ | refine Below.drew ?_ | refine below_drewN ?_ _ | (simp; done) | (simp; omega) | omega)) (by first | (simp; done) | (simp; omega) | omega)) (Hw.out.below (by repeat' (first | with_reducible assumption | with_reducible exact Below.refl _ _ | refine Below.alloc ?_ ?_ _ | refine Below.setCell ?_ ?_ _ | refine Below.drew ?_ | refine below_drewN ?_ _ | (simp; done) | (simp; omega) | omega)) (by first | (simp; done) | (simp; omega) | omega)) (by omega) (by omega) hcw2).mono ?_
        rw [hcw.out]
        rintro e W1 ⟨rfl, hb⟩
        have hst : Below W0.heap.size W0 W1 := Below.trans (by repeat' (first | with_reducible assumption | with_reducible exact Below.refl _ _ | refine Below.alloc ?_ ?_ _ | refine Below.setCell ?_ ?_ _ | refine Below.drew ?_ | refine below_drewN ?_ _ | (simp; done) | (simp; omega) | omega)) (hb.mono (by first | (simp; done) | (simp; omega) | omega))
        replace hbel := hbel.trans (hst.mono hsz)
        replace hsz := hbel.size
        replace H0 := hid (H0.out.below hst hst.size)
        replace H1 := hid (H1.out.below hst hst.size)
        replace Hw := hid (Hw.out.below hst hst.size)
        clear hb hst
        obtain ⟨W0, rfl⟩ : ∃ W0 : World, W0 = W1 := ⟨_, rfl⟩
        go_wp2_with (fail)
        refine (refCheckWords_any K (some ⟨b0, off0, none⟩) Bw n c0 m cw l W' _ (H0.out.below (by repeat' (first | with_reducible assumption | with_reducible exact Below.refl _ _ | refine Below.alloc ?_ ?_ _ | refine Below.setCell ?_ ?_ _ | refine Below.drew ?_ | refine below_drewN ?_ _ | (simp; done) | (simp; omega) | omega)) (by first | (simp; done) | (simp; omega) | omega)) (Hw.out.below (by repeat' (first | with_reducible assumption | with_reducible exact Below.refl _ _ | refine Below.alloc ?_ ?_ _ | refine Below.setCell ?_ ?_ _ | refine Below.drew ?_ | refine below_drewN ?_ _ | (simp; done) | (simp; omega) | omega)) (by first | (simp; done) | (simp; omega) | omega)) (by omega) (by omega) hc0).mono ?_
        rw [hcw.out]
        rintro e W1 ⟨rfl, hb⟩
        have hst : Below W0.heap.size W0 W1 := Below.trans (by repeat' (first | with_reducible assumption | with_reducible exact Below.refl _ _ | refine Below.alloc ?_ ?_ _ | refine Below.setCell ?_ ?_ _ | refine Below.drew ?_ | refine below_drewN ?_ _ | (simp; done) | (simp; omega) | omega)) (hb.mono (by first | (simp; done) | (simp; omega) | omega))
        replace hbel := hbel.trans (hst.mono hsz)
        replace hsz := hbel.size
        replace H0 := hid (H0.out.below hst hst.size)
        replace H1 := hid (H1.out.below hst hst.size)
        replace Hw := hid (Hw.out.below hst hst.size)
        clear hb hst
        obtain ⟨W0, rfl⟩ : ∃ W0 : World, W0 = W1 := ⟨_, rfl⟩
        go_wp2_with (fail)
        refine (checkWords_any K (some ⟨b0, off0, none⟩) A1 n c0 n1 c1 l W' _ (H0.out.below (by repeat' (first | with_reducible assumption | with_reducible exact Below.refl _ _ | refine Below.alloc ?_ ?_ _ | refine Below.setCell ?_ ?_ _ | refine Below.drew ?_ | refine below_drewN ?_ _ | (simp; done) | (simp; omega) | omega)) (by first | (simp; done) | (simp; omega) | omega)) (H1.out.below (by repeat' (first | with_reducible assumption | with_reducible exact Below.refl _ _ | refine Below.alloc ?_ ?_ _ | refine Below.setCell ?_ ?_ _ | refine Below.drew ?_ | refine below_drewN ?_ _ | (simp; done) | (simp; omega) | omega)) (by first | (simp; done) | (simp; omega) | omega)) (by omega) (by omega) hc1).mono ?_
        rw [Hce.out]
        rintro e W1 ⟨rfl, hb⟩
        have hst : Below W0.heap.size W0 W1 := Below.trans (by repeat' (first | with_reducible assumption | with_reducible exact Below.refl _ _ | refine Below.alloc ?_ ?_ _ | refine Below.setCell ?_ ?_ _ | refine Below.drew ?_ | refine below_drewN ?_ _ | (simp; done) | (simp; omega) | omega)) (hb.mono (by first | (simp; done) | (simp; omega) | omega))
        replace hbel := hbel.trans (hst.mono hsz)
        replace hsz := hbel.size
        replace H0 := hid (H0.out.below hst hst.size)
        replace H1 := hid (H1.out.below hst hst.size)
        replace Hw := hid (Hw.out.below hst hst.size)
        clear hb hst
        obtain ⟨W0, rfl⟩ : ∃ W0 : World, W0 = W1 := ⟨_, rfl⟩
        go_wp2_with (fail)
        refine (ints_any _ A1 Bw n1 c1 m cw W' W' (H1.out.below (by repeat' (first | with_reducible assumption | with_reducible exact Below.refl _ _ | refine Below.alloc ?_ ?_ _ | refine Below.setCell ?_ ?_ _ | refine Below.drew ?_ | refine below_drewN ?_ _ | (simp; done) | (simp; omega) | omega)) (by first | (simp; done) | (simp; omega) | omega)) (Hw.out.below (by repeat' (first | with_reducible assumption | with_reducible exact Below.refl _ _ | refine Below.alloc ?_ ?_ _ | refine Below.setCell ?_ ?_ _ | refine Below.drew ?_ | refine below_drewN ?_ _ | (simp; done) | (simp; omega) | omega)) (by first | (simp; done) | (simp; omega) | omega)) (by omega)).mono ?_
        rw [hqw.out]
        rintro e W1 ⟨rfl, hb⟩
        have hst : Below W0.heap.size W0 W1 := Below.trans (by repeat' (first | with_reducible assumption | with_reducible exact Below.refl _ _ | refine Below.alloc ?_ ?_ _ | refine Below.setCell ?_ ?_ _ | refine Below.drew ?_ | refine below_drewN ?_ _ | (simp; done) | (simp; omega) | omega)) (hb.mono (by first | (simp; done) | (simp; omega) | omega))
        replace hbel := hbel.trans (hst.mono hsz)
        replace hsz := hbel.size
        replace H0 := hid (H0.out.below hst hst.size)
        replace H1 := hid (H1.out.below hst hst.size)
        replace Hw := hid (Hw.out.below hst hst.size)
        clear hb hst
        obtain ⟨W0, rfl⟩ : ∃ W0 : World, W0 = W1 := ⟨_, rfl⟩
        have HB0 := hid (hbel)
        obtain ⟨bw, offw, x9, rfl, hbw9, hx9, hc9⟩ := Hw.out.at_ hm'm
        rw [HzI.out] at hx9
        cases hx9
        go_wp2
        clear hc9
        go_loopw [10] (fun i wr => ∃ j : Nat, j ≤ n ∧ i = .int .i64 (j : Int) ∧ Below W0.heap.size W0 wr) (fun i _ => n - (intOf i).toNat)
        case atStart => exact ⟨0, Nat.zero_le _, rfl, Below.refl _ _⟩
        case round =>
          obtain ⟨j, hjn, rfl, hbr⟩ := hrel
          have hszr := hbr.size
          by_cases hlt : j < n
          · have hlti : (j : Int) < n := by omega
            have H0r := hid (H0.out.below hbr hszr)
            by_cases hjz : j = z
            · have tjz : ((j : Int) != (z : Int)) = false := by rw [hjz]; simp
              clear hjz
              go_wp2
              refine wp_region_hd_all (fun W => Below wr.heap.size wr W) (by kernel_rfl) (by kernel_rfl) ((Below.refl _ _).drew) ?_
              iterate 4 (refine wpHd_val (v := ?_) (by rfl) (fun W hW => ?_) ?_; rotate_left; (· obtain ⟨hcW, hfW⟩ := bcell hW; go_simp; with_reducible rfl); simp only [Act.put, List.setIfInBounds_toArray, List.set_cons_zero, List.set_cons_succ])
              iterate 7 (refine wpHd_not (by rfl) ?_; simp only [Act.put, List.setIfInBounds_toArray, List.set_cons_zero, List.set_cons_succ])
              (refine wpHd_val (v := ?_) (by rfl) (fun W hW => ?_) ?_; rotate_left; (· obtain ⟨hcW, hfW⟩ := bcell hW; go_simp; with_reducible rfl); simp only [Act.put, List.setIfInBounds_toArray, List.set_cons_zero, List.set_cons_succ])
              refine wpHd_nil ?_
              intro W9 hW9
              go_wp2
              exact ⟨⟨j + 1, by omega, by go_num, hbr.trans (hW9.mono hszr)⟩, by simp [intOf]; omega⟩
            · have tjz : ((j : Int) != (z : Int)) = true := by simp; omega
              have hj0 : (0 : Int) ≤ j := by omega
              have hjc : (j : Int) ≤ c0 := by omega
              have hjc2 : ¬ c0 = j := by omega
              have hbf := hid (Hz3.out j hlt)
              have hD1 := hid (insDrop H0r.out hlt)
              have hD2 := hid (insDrop H0r.out hz2)
              clear hjz
              go_wp2
              refine wp_region_hd_all (fun W => Below wr.heap.size wr W) (by kernel_rfl) (by kernel_rfl) ((Below.refl _ _).drew) ?_
              iterate 10 (refine wpHd_val (v := ?_) (by rfl) (fun W hW => ?_) ?_; rotate_left; (· obtain ⟨hcW, hfW⟩ := bcell hW; go_simp; with_reducible rfl); simp only [Act.put, List.setIfInBounds_toArray, List.set_cons_zero, List.set_cons_succ])
              (refine wpHd_callB (by rfl) (fun W hW => before_any W (some ⟨b0, off0 + j, none⟩) (some ⟨b0, off0 + z, none⟩) (n - j) (c0 - j) (n - z) (c0 - z) (l.drop j) (l.drop z) (hD1.out.below hW hW.size) (hD2.out.below hW hW.size) (by omega) (by omega)) (fun W hW => ?_) ?_; (· obtain ⟨hcW, hfW⟩ := bcell hW; go_simp); simp only [Act.put, List.setIfInBounds_toArray, List.set_cons_zero, List.set_cons_succ])
              rw [hbf.out]
              (refine wpHd_val (v := ?_) (by rfl) (fun W hW => ?_) ?_; rotate_left; (· obtain ⟨hcW, hfW⟩ := bcell hW; go_simp; with_reducible rfl); simp only [Act.put, List.setIfInBounds_toArray, List.set_cons_zero, List.set_cons_succ])
              refine wpHd_nil ?_
              intro W9 hW9
              go_wp2
              exact ⟨⟨j + 1, by omega, by go_num, hbr.trans (hW9.mono hszr)⟩, by simp [intOf]; omega⟩
          · obtain rfl : n = j := by omega
            have hlti : ¬ (n : Int) < n := by omega
            have hbel9 := hbel.trans (hbr.mono hsz)
            replace H0 := hid (H0.out.below hbr hszr)
            clear HB0 hbw9 hbel hsz Hw H1
            obtain ⟨W0, rfl⟩ : ∃ W0 : World, W0 = wr := ⟨_, rfl⟩
            have hbel := hbel9
            have hsz := hbel.size
            clear hbel9
            go_wp2_with (fail)
            refine (lawLeast_any K (some ⟨b0, off0, none⟩) n c0 l _ (H0.out.below (by repeat' (first | with_reducible assumption | with_reducible exact Below.refl _ _ | refine Below.alloc ?_ ?_ _ | refine Below.setCell ?_ ?_ _ | refine Below.drew ?_ | refine below_drewN ?_ _ | (simp; done) | (simp; omega) | omega)) (by first | (simp; done) | (simp; omega) | omega)) (by omega) hc0).mono ?_
            rw [hE0.out, haV.out]
            rintro e W1 ⟨Ba, ma, ca, rfl, hr, hb⟩
            have hr0 := hr.1.len
            obtain rfl : n = ma := by rw [← hr0, hal.out]
            have hr1 := hr.1
            have hca := hr.2.1
            clear hr hr0
            have hst : Below W0.heap.size W0 W1 := Below.trans (by repeat' (first | with_reducible assumption | with_reducible exact Below.refl _ _ | refine Below.alloc ?_ ?_ _ | refine Below.setCell ?_ ?_ _ | refine Below.drew ?_ | refine below_drewN ?_ _ | (simp; done) | (simp; omega) | omega)) (hb.mono (by first | (simp; done) | (simp; omega) | omega))
            replace hbel := hbel.trans (hst.mono hsz)
            replace hsz := hbel.size
            replace H0 := hid (H0.out.below hst hst.size)
            have Ha := hid hr1
            clear hr1
            clear hb hst
            obtain ⟨W0, rfl⟩ : ∃ W0 : World, W0 = W1 := ⟨_, rfl⟩
            go_wp2_with (fail)
            refine (periodF_any K (some ⟨b0, off0, none⟩) n c0 l _ (H0.out.below (by repeat' (first | with_reducible assumption | with_reducible exact Below.refl _ _ | refine Below.alloc ?_ ?_ _ | refine Below.setCell ?_ ?_ _ | refine Below.drew ?_ | refine below_drewN ?_ _ | (simp; done) | (simp; omega) | omega)) (by first | (simp; done) | (simp; omega) | omega)) (by omega) hc0).mono ?_
            rw [hpV.out, HokE.out]
            rintro e W1 ⟨rfl, hb⟩
            have hst : Below W0.heap.size W0 W1 := Below.trans (by repeat' (first | with_reducible assumption | with_reducible exact Below.refl _ _ | refine Below.alloc ?_ ?_ _ | refine Below.setCell ?_ ?_ _ | refine Below.drew ?_ | refine below_drewN ?_ _ | (simp; done) | (simp; omega) | omega)) (hb.mono (by first | (simp; done) | (simp; omega) | omega))
            replace hbel := hbel.trans (hst.mono hsz)
            replace hsz := hbel.size
            replace H0 := hid (H0.out.below hst hst.size)
            replace Ha := hid (Ha.out.below hst hst.size)
            clear hb hst
            obtain ⟨W0, rfl⟩ : ∃ W0 : World, W0 = W1 := ⟨_, rfl⟩
            go_wp2_with (fail)
            refine (words_any K Ba n ca a _ (Ha.out.below (by repeat' (first | with_reducible assumption | with_reducible exact Below.refl _ _ | refine Below.alloc ?_ ?_ _ | refine Below.setCell ?_ ?_ _ | refine Below.drew ?_ | refine below_drewN ?_ _ | (simp; done) | (simp; omega) | omega)) (by first | (simp; done) | (simp; omega) | omega)) (by omega)).mono ?_
            rw [HokA.out, hwA.out, HclI.out]
            rintro e W1 ⟨Bc, cc, rfl, hr, hb⟩
            have hr1 := hr.1
            clear hr
            have hst : Below W0.heap.size W0 W1 := Below.trans (by repeat' (first | with_reducible assumption | with_reducible exact Below.refl _ _ | refine Below.alloc ?_ ?_ _ | refine Below.setCell ?_ ?_ _ | refine Below.drew ?_ | refine below_drewN ?_ _ | (simp; done) | (simp; omega) | omega)) (hb.mono (by first | (simp; done) | (simp; omega) | omega))
            replace hbel := hbel.trans (hst.mono hsz)
            replace hsz := hbel.size
            replace H0 := hid (H0.out.below hst hst.size)
            replace Ha := hid (Ha.out.below hst hst.size)
            have Hc := hid hr1
            clear hr1
            clear hb hst
            obtain ⟨W0, rfl⟩ : ∃ W0 : World, W0 = W1 := ⟨_, rfl⟩
            clear Ha
            clear H0
            go_wp2_with (fail)
            go_loopw [18] (fun i wr => ∃ j : Nat, j ≤ q ∧ i = .int .i64 (j : Int) ∧ Below W0.heap.size W0 wr) (fun i _ => q - (intOf i).toNat)
            case atStart => exact ⟨0, Nat.zero_le _, rfl, Below.refl _ _⟩
            case round =>
              obtain ⟨j, hjn, rfl, hbr⟩ := hrel
              have hszr := hbr.size
              by_cases hlt : j < q
              · have hlti : (j : Int) < q := by omega
                obtain ⟨b5, off5, x5, rfl, hb5, hx5, hc5⟩ := (Hc.out.below hbr hszr).at_ hlt
                rw [HcaI.out j hlt] at hx5
                cases hx5
                have hjp : j * p ≤ n := by rw [← Hqp.out]; exact Nat.mul_le_mul_right p hjn
                have e5 : ((j * p : Nat) : Int) = (j : Int) * (p : Int) := by push_cast; rfl
                have zjp : IntKind.i64.wrap ((j : Int) * (p : Int)) = ((j * p : Nat) : Int) := by rw [← e5]; exact IntWalk.i64_in _ (by omega)
                obtain ⟨u, hu⟩ : ∃ u : Nat, j * p = u := ⟨_, rfl⟩
                rw [hu] at hc5 zjp
                have hj0 : (0 : Int) ≤ j := by omega
                have tu : ((u : Int) != (u : Int)) = false := by simp
                clear e5 hu hjp
                go_wp2
                exact ⟨⟨j + 1, by omega, by go_num, hbr⟩, by simp [intOf]; omega⟩
              · obtain rfl : q = j := by omega
                have hlti : ¬ (q : Int) < q := by omega
                go_wp2_with (go_at_call 18; refine (works_any _).mono ?_; rintro e W5 ⟨rfl, hb5⟩)
                go_ret
                exact ⟨rfl, hbel.trans ((hbr.trans (hb5.mono hszr)).mono hsz)⟩
      · have tcz : (ce == 0) = false := by simp [hcz]
        clear hcz
        go_enter Try.func10, Try.ntmps10
        obtain ⟨W0, rfl⟩ : ∃ W0 : World, W0 = w := ⟨_, rfl⟩
        skip
        skip
        have hbel : Below W0.heap.size W0 W0 := Below.refl _ _
        have hsz := hbel.size
        go_wp2_with (fail)
        refine (fineW_any K (some ⟨b0, off0, none⟩) n c0 l _ (H0.out.below (by repeat' (first | with_reducible assumption | with_reducible exact Below.refl _ _ | refine Below.alloc ?_ ?_ _ | refine Below.setCell ?_ ?_ _ | refine Below.drew ?_ | refine below_drewN ?_ _ | (simp; done) | (simp; omega) | omega)) (by first | (simp; done) | (simp; omega) | omega))).mono ?_
        rw [Hf0.out]
        rintro e W1 ⟨rfl, hb⟩
        have hst : Below W0.heap.size W0 W1 := Below.trans (by repeat' (first | with_reducible assumption | with_reducible exact Below.refl _ _ | refine Below.alloc ?_ ?_ _ | refine Below.setCell ?_ ?_ _ | refine Below.drew ?_ | refine below_drewN ?_ _ | (simp; done) | (simp; omega) | omega)) (hb.mono (by first | (simp; done) | (simp; omega) | omega))
        replace hbel := hbel.trans (hst.mono hsz)
        replace hsz := hbel.size
        replace H0 := hid (H0.out.below hst hst.size)
        replace H1 := hid (H1.out.below hst hst.size)
        clear hb hst
        obtain ⟨W0, rfl⟩ : ∃ W0 : World, W0 = W1 := ⟨_, rfl⟩
        go_wp2_with (fail)
        refine (great_any A1 n1 c1 _).mono ?_
        rw [Hg.out]
        rintro e W1 ⟨rfl, hb⟩
        have hst : Below W0.heap.size W0 W1 := Below.trans (by repeat' (first | with_reducible assumption | with_reducible exact Below.refl _ _ | refine Below.alloc ?_ ?_ _ | refine Below.setCell ?_ ?_ _ | refine Below.drew ?_ | refine below_drewN ?_ _ | (simp; done) | (simp; omega) | omega)) (hb.mono (by first | (simp; done) | (simp; omega) | omega))
        replace hbel := hbel.trans (hst.mono hsz)
        replace hsz := hbel.size
        replace H0 := hid (H0.out.below hst hst.size)
        replace H1 := hid (H1.out.below hst hst.size)
        clear hb hst
        obtain ⟨W0, rfl⟩ : ∃ W0 : World, W0 = W1 := ⟨_, rfl⟩
        go_wp2_with (fail)
        refine (words_any K (some ⟨b0, off0, none⟩) n c0 l _ (H0.out.below (by repeat' (first | with_reducible assumption | with_reducible exact Below.refl _ _ | refine Below.alloc ?_ ?_ _ | refine Below.setCell ?_ ?_ _ | refine Below.drew ?_ | refine below_drewN ?_ _ | (simp; done) | (simp; omega) | omega)) (by first | (simp; done) | (simp; omega) | omega)) (by omega)).mono ?_
        rw [HokE.out, hwV.out, Hm.out]
        rintro e W1 ⟨Bw, cw, rfl, hr, hb⟩
        have hr1 := hr.1
        have hcw2 := hr.2.1
        clear hr
        have hst : Below W0.heap.size W0 W1 := Below.trans (by repeat' (first | with_reducible assumption | with_reducible exact Below.refl _ _ | refine Below.alloc ?_ ?_ _ | refine Below.setCell ?_ ?_ _ | refine Below.drew ?_ | refine below_drewN ?_ _ | (simp; done) | (simp; omega) | omega)) (hb.mono (by first | (simp; done) | (simp; omega) | omega))
        replace hbel := hbel.trans (hst.mono hsz)
        replace hsz := hbel.size
        replace H0 := hid (H0.out.below hst hst.size)
        replace H1 := hid (H1.out.below hst hst.size)
        have Hw := hid hr1
        clear hr1
        clear hb hst
        obtain ⟨W0, rfl⟩ : ∃ W0 : World, W0 = W1 := ⟨_, rfl⟩
        go_wp2_with (fail)
        refine (great_any Bw m cw _).mono ?_
        rw [Hg2.out]
        rintro e W1 ⟨rfl, hb⟩
        have hst : Below W0.heap.size W0 W1 := Below.trans (by repeat' (first | with_reducible assumption | with_reducible exact Below.refl _ _ | refine Below.alloc ?_ ?_ _ | refine Below.setCell ?_ ?_ _ | refine Below.drew ?_ | refine below_drewN ?_ _ | (simp; done) | (simp; omega) | omega)) (hb.mono (by first | (simp; done) | (simp; omega) | omega))
        replace hbel := hbel.trans (hst.mono hsz)
        replace hsz := hbel.size
        replace H0 := hid (H0.out.below hst hst.size)
        replace H1 := hid (H1.out.below hst hst.size)
        replace Hw := hid (Hw.out.below hst hst.size)
        clear hb hst
        obtain ⟨W0, rfl⟩ : ∃ W0 : World, W0 = W1 := ⟨_, rfl⟩
        go_wp2_with (fail)
        refine (checkWords_any K (some ⟨b0, off0, none⟩) Bw n c0 m cw l W' _ (H0.out.below (by repeat' (first | with_reducible assumption | with_reducible exact Below.refl _ _ | refine Below.alloc ?_ ?_ _ | refine Below.setCell ?_ ?_ _ | refine Below.drew ?_ | refine below_drewN ?_ _ | (simp; done) | (simp; omega) | omega)) (by first | (simp; done) | (simp; omega) | omega)) (Hw.out.below (by repeat' (first | with_reducible assumption | with_reducible exact Below.refl _ _ | refine Below.alloc ?_ ?_ _ | refine Below.setCell ?_ ?_ _ | refine Below.drew ?_ | refine below_drewN ?_ _ | (simp; done) | (simp; omega) | omega)) (by first | (simp; done) | (simp; omega) | omega)) (by omega) (by omega) hcw2).mono ?_
        rw [hcw.out]
        rintro e W1 ⟨rfl, hb⟩
        have hst : Below W0.heap.size W0 W1 := Below.trans (by repeat' (first | with_reducible assumption | with_reducible exact Below.refl _ _ | refine Below.alloc ?_ ?_ _ | refine Below.setCell ?_ ?_ _ | refine Below.drew ?_ | refine below_drewN ?_ _ | (simp; done) | (simp; omega) | omega)) (hb.mono (by first | (simp; done) | (simp; omega) | omega))
        replace hbel := hbel.trans (hst.mono hsz)
        replace hsz := hbel.size
        replace H0 := hid (H0.out.below hst hst.size)
        replace H1 := hid (H1.out.below hst hst.size)
        replace Hw := hid (Hw.out.below hst hst.size)
        clear hb hst
        obtain ⟨W0, rfl⟩ : ∃ W0 : World, W0 = W1 := ⟨_, rfl⟩
        go_wp2_with (fail)
        refine (refCheckWords_any K (some ⟨b0, off0, none⟩) Bw n c0 m cw l W' _ (H0.out.below (by repeat' (first | with_reducible assumption | with_reducible exact Below.refl _ _ | refine Below.alloc ?_ ?_ _ | refine Below.setCell ?_ ?_ _ | refine Below.drew ?_ | refine below_drewN ?_ _ | (simp; done) | (simp; omega) | omega)) (by first | (simp; done) | (simp; omega) | omega)) (Hw.out.below (by repeat' (first | with_reducible assumption | with_reducible exact Below.refl _ _ | refine Below.alloc ?_ ?_ _ | refine Below.setCell ?_ ?_ _ | refine Below.drew ?_ | refine below_drewN ?_ _ | (simp; done) | (simp; omega) | omega)) (by first | (simp; done) | (simp; omega) | omega)) (by omega) (by omega) hc0).mono ?_
        rw [hcw.out]
        rintro e W1 ⟨rfl, hb⟩
        have hst : Below W0.heap.size W0 W1 := Below.trans (by repeat' (first | with_reducible assumption | with_reducible exact Below.refl _ _ | refine Below.alloc ?_ ?_ _ | refine Below.setCell ?_ ?_ _ | refine Below.drew ?_ | refine below_drewN ?_ _ | (simp; done) | (simp; omega) | omega)) (hb.mono (by first | (simp; done) | (simp; omega) | omega))
        replace hbel := hbel.trans (hst.mono hsz)
        replace hsz := hbel.size
        replace H0 := hid (H0.out.below hst hst.size)
        replace H1 := hid (H1.out.below hst hst.size)
        replace Hw := hid (Hw.out.below hst hst.size)
        clear hb hst
        obtain ⟨W0, rfl⟩ : ∃ W0 : World, W0 = W1 := ⟨_, rfl⟩
        go_wp2_with (fail)
        refine (checkWords_any K (some ⟨b0, off0, none⟩) A1 n c0 n1 c1 l cs _ (H0.out.below (by repeat' (first | with_reducible assumption | with_reducible exact Below.refl _ _ | refine Below.alloc ?_ ?_ _ | refine Below.setCell ?_ ?_ _ | refine Below.drew ?_ | refine below_drewN ?_ _ | (simp; done) | (simp; omega) | omega)) (by first | (simp; done) | (simp; omega) | omega)) (H1.out.below (by repeat' (first | with_reducible assumption | with_reducible exact Below.refl _ _ | refine Below.alloc ?_ ?_ _ | refine Below.setCell ?_ ?_ _ | refine Below.drew ?_ | refine below_drewN ?_ _ | (simp; done) | (simp; omega) | omega)) (by first | (simp; done) | (simp; omega) | omega)) (by omega) (by omega) hc1).mono ?_
        rw [Hce.out]
        rintro e W1 ⟨rfl, hb⟩
        have hst : Below W0.heap.size W0 W1 := Below.trans (by repeat' (first | with_reducible assumption | with_reducible exact Below.refl _ _ | refine Below.alloc ?_ ?_ _ | refine Below.setCell ?_ ?_ _ | refine Below.drew ?_ | refine below_drewN ?_ _ | (simp; done) | (simp; omega) | omega)) (hb.mono (by first | (simp; done) | (simp; omega) | omega))
        replace hbel := hbel.trans (hst.mono hsz)
        replace hsz := hbel.size
        replace H0 := hid (H0.out.below hst hst.size)
        replace H1 := hid (H1.out.below hst hst.size)
        replace Hw := hid (Hw.out.below hst hst.size)
        clear hb hst
        obtain ⟨W0, rfl⟩ : ∃ W0 : World, W0 = W1 := ⟨_, rfl⟩
        have HB0 := hid (hbel)
        obtain ⟨bw, offw, x9, rfl, hbw9, hx9, hc9⟩ := Hw.out.at_ hm'm
        rw [HzI.out] at hx9
        cases hx9
        go_wp2
        clear hc9
        go_loopw [10] (fun i wr => ∃ j : Nat, j ≤ n ∧ i = .int .i64 (j : Int) ∧ Below W0.heap.size W0 wr) (fun i _ => n - (intOf i).toNat)
        case atStart => exact ⟨0, Nat.zero_le _, rfl, Below.refl _ _⟩
        case round =>
          obtain ⟨j, hjn, rfl, hbr⟩ := hrel
          have hszr := hbr.size
          by_cases hlt : j < n
          · have hlti : (j : Int) < n := by omega
            have H0r := hid (H0.out.below hbr hszr)
            by_cases hjz : j = z
            · have tjz : ((j : Int) != (z : Int)) = false := by rw [hjz]; simp
              clear hjz
              go_wp2
              refine wp_region_hd_all (fun W => Below wr.heap.size wr W) (by kernel_rfl) (by kernel_rfl) ((Below.refl _ _).drew) ?_
              iterate 4 (refine wpHd_val (v := ?_) (by rfl) (fun W hW => ?_) ?_; rotate_left; (· obtain ⟨hcW, hfW⟩ := bcell hW; go_simp; with_reducible rfl); simp only [Act.put, List.setIfInBounds_toArray, List.set_cons_zero, List.set_cons_succ])
              iterate 7 (refine wpHd_not (by rfl) ?_; simp only [Act.put, List.setIfInBounds_toArray, List.set_cons_zero, List.set_cons_succ])
              (refine wpHd_val (v := ?_) (by rfl) (fun W hW => ?_) ?_; rotate_left; (· obtain ⟨hcW, hfW⟩ := bcell hW; go_simp; with_reducible rfl); simp only [Act.put, List.setIfInBounds_toArray, List.set_cons_zero, List.set_cons_succ])
              refine wpHd_nil ?_
              intro W9 hW9
              go_wp2
              exact ⟨⟨j + 1, by omega, by go_num, hbr.trans (hW9.mono hszr)⟩, by simp [intOf]; omega⟩
            · have tjz : ((j : Int) != (z : Int)) = true := by simp; omega
              have hj0 : (0 : Int) ≤ j := by omega
              have hjc : (j : Int) ≤ c0 := by omega
              have hjc2 : ¬ c0 = j := by omega
              have hbf := hid (Hz3.out j hlt)
              have hD1 := hid (insDrop H0r.out hlt)
              have hD2 := hid (insDrop H0r.out hz2)
              clear hjz
              go_wp2
              refine wp_region_hd_all (fun W => Below wr.heap.size wr W) (by kernel_rfl) (by kernel_rfl) ((Below.refl _ _).drew) ?_
              iterate 10 (refine wpHd_val (v := ?_) (by rfl) (fun W hW => ?_) ?_; rotate_left; (· obtain ⟨hcW, hfW⟩ := bcell hW; go_simp; with_reducible rfl); simp only [Act.put, List.setIfInBounds_toArray, List.set_cons_zero, List.set_cons_succ])
              (refine wpHd_callB (by rfl) (fun W hW => before_any W (some ⟨b0, off0 + j, none⟩) (some ⟨b0, off0 + z, none⟩) (n - j) (c0 - j) (n - z) (c0 - z) (l.drop j) (l.drop z) (hD1.out.below hW hW.size) (hD2.out.below hW hW.size) (by omega) (by omega)) (fun W hW => ?_) ?_; (· obtain ⟨hcW, hfW⟩ := bcell hW; go_simp); simp only [Act.put, List.setIfInBounds_toArray, List.set_cons_zero, List.set_cons_succ])
              rw [hbf.out]
              (refine wpHd_val (v := ?_) (by rfl) (fun W hW => ?_) ?_; rotate_left; (· obtain ⟨hcW, hfW⟩ := bcell hW; go_simp; with_reducible rfl); simp only [Act.put, List.setIfInBounds_toArray, List.set_cons_zero, List.set_cons_succ])
              refine wpHd_nil ?_
              intro W9 hW9
              go_wp2
              exact ⟨⟨j + 1, by omega, by go_num, hbr.trans (hW9.mono hszr)⟩, by simp [intOf]; omega⟩
          · obtain rfl : n = j := by omega
            have hlti : ¬ (n : Int) < n := by omega
            have hbel9 := hbel.trans (hbr.mono hsz)
            replace H0 := hid (H0.out.below hbr hszr)
            clear HB0 hbw9 hbel hsz Hw H1
            obtain ⟨W0, rfl⟩ : ∃ W0 : World, W0 = wr := ⟨_, rfl⟩
            have hbel := hbel9
            have hsz := hbel.size
            clear hbel9
            go_wp2_with (fail)
            refine (lawLeast_any K (some ⟨b0, off0, none⟩) n c0 l _ (H0.out.below (by repeat' (first | with_reducible assumption | with_reducible exact Below.refl _ _ | refine Below.alloc ?_ ?_ _ | refine Below.setCell ?_ ?_ _ | refine Below.drew ?_ | refine below_drewN ?_ _ | (simp; done) | (simp; omega) | omega)) (by first | (simp; done) | (simp; omega) | omega)) (by omega) hc0).mono ?_
            rw [hE0.out, haV.out]
            rintro e W1 ⟨Ba, ma, ca, rfl, hr, hb⟩
            have hr0 := hr.1.len
            obtain rfl : n = ma := by rw [← hr0, hal.out]
            have hr1 := hr.1
            have hca := hr.2.1
            clear hr hr0
            have hst : Below W0.heap.size W0 W1 := Below.trans (by repeat' (first | with_reducible assumption | with_reducible exact Below.refl _ _ | refine Below.alloc ?_ ?_ _ | refine Below.setCell ?_ ?_ _ | refine Below.drew ?_ | refine below_drewN ?_ _ | (simp; done) | (simp; omega) | omega)) (hb.mono (by first | (simp; done) | (simp; omega) | omega))
            replace hbel := hbel.trans (hst.mono hsz)
            replace hsz := hbel.size
            replace H0 := hid (H0.out.below hst hst.size)
            have Ha := hid hr1
            clear hr1
            clear hb hst
            obtain ⟨W0, rfl⟩ : ∃ W0 : World, W0 = W1 := ⟨_, rfl⟩
            go_wp2_with (fail)
            refine (periodF_any K (some ⟨b0, off0, none⟩) n c0 l _ (H0.out.below (by repeat' (first | with_reducible assumption | with_reducible exact Below.refl _ _ | refine Below.alloc ?_ ?_ _ | refine Below.setCell ?_ ?_ _ | refine Below.drew ?_ | refine below_drewN ?_ _ | (simp; done) | (simp; omega) | omega)) (by first | (simp; done) | (simp; omega) | omega)) (by omega) hc0).mono ?_
            rw [hpV.out, HokE.out]
            rintro e W1 ⟨rfl, hb⟩
            have hst : Below W0.heap.size W0 W1 := Below.trans (by repeat' (first | with_reducible assumption | with_reducible exact Below.refl _ _ | refine Below.alloc ?_ ?_ _ | refine Below.setCell ?_ ?_ _ | refine Below.drew ?_ | refine below_drewN ?_ _ | (simp; done) | (simp; omega) | omega)) (hb.mono (by first | (simp; done) | (simp; omega) | omega))
            replace hbel := hbel.trans (hst.mono hsz)
            replace hsz := hbel.size
            replace H0 := hid (H0.out.below hst hst.size)
            replace Ha := hid (Ha.out.below hst hst.size)
            clear hb hst
            obtain ⟨W0, rfl⟩ : ∃ W0 : World, W0 = W1 := ⟨_, rfl⟩
            go_wp2_with (fail)
            refine (words_any K Ba n ca a _ (Ha.out.below (by repeat' (first | with_reducible assumption | with_reducible exact Below.refl _ _ | refine Below.alloc ?_ ?_ _ | refine Below.setCell ?_ ?_ _ | refine Below.drew ?_ | refine below_drewN ?_ _ | (simp; done) | (simp; omega) | omega)) (by first | (simp; done) | (simp; omega) | omega)) (by omega)).mono ?_
            rw [HokA.out, hwA.out, HclI.out]
            rintro e W1 ⟨Bc, cc, rfl, hr, hb⟩
            have hr1 := hr.1
            clear hr
            have hst : Below W0.heap.size W0 W1 := Below.trans (by repeat' (first | with_reducible assumption | with_reducible exact Below.refl _ _ | refine Below.alloc ?_ ?_ _ | refine Below.setCell ?_ ?_ _ | refine Below.drew ?_ | refine below_drewN ?_ _ | (simp; done) | (simp; omega) | omega)) (hb.mono (by first | (simp; done) | (simp; omega) | omega))
            replace hbel := hbel.trans (hst.mono hsz)
            replace hsz := hbel.size
            replace H0 := hid (H0.out.below hst hst.size)
            replace Ha := hid (Ha.out.below hst hst.size)
            have Hc := hid hr1
            clear hr1
            clear hb hst
            obtain ⟨W0, rfl⟩ : ∃ W0 : World, W0 = W1 := ⟨_, rfl⟩
            clear Ha
            clear H0
            go_wp2_with (fail)
            go_loopw [18] (fun i wr => ∃ j : Nat, j ≤ q ∧ i = .int .i64 (j : Int) ∧ Below W0.heap.size W0 wr) (fun i _ => q - (intOf i).toNat)
            case atStart => exact ⟨0, Nat.zero_le _, rfl, Below.refl _ _⟩
            case round =>
              obtain ⟨j, hjn, rfl, hbr⟩ := hrel
              have hszr := hbr.size
              by_cases hlt : j < q
              · have hlti : (j : Int) < q := by omega
                obtain ⟨b5, off5, x5, rfl, hb5, hx5, hc5⟩ := (Hc.out.below hbr hszr).at_ hlt
                rw [HcaI.out j hlt] at hx5
                cases hx5
                have hjp : j * p ≤ n := by rw [← Hqp.out]; exact Nat.mul_le_mul_right p hjn
                have e5 : ((j * p : Nat) : Int) = (j : Int) * (p : Int) := by push_cast; rfl
                have zjp : IntKind.i64.wrap ((j : Int) * (p : Int)) = ((j * p : Nat) : Int) := by rw [← e5]; exact IntWalk.i64_in _ (by omega)
                obtain ⟨u, hu⟩ : ∃ u : Nat, j * p = u := ⟨_, rfl⟩
                rw [hu] at hc5 zjp
                have hj0 : (0 : Int) ≤ j := by omega
                have tu : ((u : Int) != (u : Int)) = false := by simp
                clear e5 hu hjp
                go_wp2
                exact ⟨⟨j + 1, by omega, by go_num, hbr⟩, by simp [intOf]; omega⟩
              · obtain rfl : q = j := by omega
                have hlti : ¬ (q : Int) < q := by omega
                go_wp2_with (go_at_call 18; refine (works_any _).mono ?_; rintro e W5 ⟨rfl, hb5⟩)
                go_ret
                exact ⟨rfl, hbel.trans ((hbr.trans (hb5.mono hszr)).mono hsz)⟩

section
open Go.ChangeShapes Go.WideShapes Go.ChangeAt Go.RowKit
set_option maxRecDepth 100000 in
theorem rimCut_lifted (os : Os) (started : os.Started) (H : Type) (enc : TypeId × Value → H) :
    ReturnsInHanded {} Try.checked os 10 .any (Rows.rimCutSpec.pre6 enc Try.prog Try.f10 Rows.rimCutRow.domain false) (Rows.rimCutSpec.post enc Try.prog Try.f10 false true false false) := by
  refine returnsInHanded_of_change (C := Try.checked) ownKx started (by kernel_rfl) Try.func10
    (ChangeSpec.witness6 (enc := enc) (C := Try.checked) false ⟨#[], #[.int .i64 0, .slice none 0 0, .slice none 0 0], []⟩ 8 (by kernel_rfl) (by kernel_rfl) (by kernel_rfl) (by kernel_rfl)) ?_
  intro W base args ds gs before hval0 hW hcnd _
  have hval : ∀ (j : Nat) t v, Try.f10.params[j]? = some t → args[j]? = some v → Value.okWide Try.prog W .any base t v := hval0
  have hW' := hW
  obtain ⟨p, q, hA0, hV, rfl, hfz, hnd⟩ := hW
  have hA : DataW.TrodAll enc Try.prog W 0 (fun _ => true) true Try.f10.params.toList args.toList ds p := hA0
  have hlt : ∀ x ∈ p, x.block < W.heap.size := fun x hx => hW'.lt x (List.mem_append_left _ hx)
  have hAll : ∀ W', Below W.heap.size W W' → DataW.TrodAll enc Try.prog W' 0 (fun b => decide (b < W.heap.size)) true Try.f10.params.toList args.toList ds p := fun W' hb => all_below laidOut hb (readable_of (by kernel_rfl)) hlt hA
  rw [Try.params10] at hA hval
  obtain ⟨v0, v1, v2, d0, d1, d2, p0, p1, p2, rfl, rfl, rfl, h0, h1, h2⟩ := trodAll_three hA
  obtain ⟨rfl, rfl⟩ := trodVars_none hV
  clear hA0 hval0
  obtain ⟨x0, rfl, rfl, rfl, wx0⟩ := open_int Try.underlying3 (hval 0 3 v0 rfl rfl) h0
  obtain ⟨A1, n1, c1, rfl⟩ := okWide_slice Try.underlying22 (hval 1 22 v1 rfl rfl)
  obtain ⟨hc1, l1, hl1, hr1⟩ := open_ins Try.underlying22 Try.underlying3 (by kernel_rfl) h1
  obtain ⟨A2, n2, c2, rfl⟩ := okWide_slice Try.underlying22 (hval 2 22 v2 rfl rfl)
  obtain ⟨hc2, l2, hl2, hr2⟩ := open_ins Try.underlying22 Try.underlying3 (by kernel_rfl) h2
  refine (rimCut_walk W x0 A1 n1 c1 l1 A2 n2 c2 l2 hr1 hc1 hr2 hc2).mono fun e W' ⟨he, hb⟩ => ?_
  subst he
  exact ⟨_, rfl, ⟨_, _, _, [], _, [], hW', trodAll_cons_mk (shut_bool Try.underlying4 _) trodAll_mk0, hAll W' hb, rfl, hb.frame _, fun h => by cases h⟩⟩
/-- The law: whatever the input, it returns true, and the input reads as it did. -/
theorem rimCut_holds : Rows.RimCutSaid :=
  OpenClaim.holds_of_wide 10 Try.f10 rfl rfl rfl rfl rfl rfl rfl ⟨rfl, rfl, rfl, rfl, rfl⟩ rfl rfl rfl rfl rfl (by kernel_rfl) Try.func10 (by kernel_rfl)
    (of_decide_eq_true (by kernel_rfl)) (by unfold Func.isWrapper; first | (rw [if_pos (by decide +kernel)]; kernel_rfl) | (rw [if_neg (by decide +kernel)]; exact ⟨rfl, rfl⟩))
    (fun os started H enc _ => rimCut_lifted os started H enc)
end
end Go.Proofs.Ytiobmfggnacplaa

