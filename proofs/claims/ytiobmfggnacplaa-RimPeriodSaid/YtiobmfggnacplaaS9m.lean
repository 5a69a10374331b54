/- The statement RimPeriod holds: whatever the arguments, the law returns true and leaves its arguments as they were. -/
import Derived.Test.YtiobmfggnacplaaMm
set_option linter.unusedSimpArgs false
set_option linter.unusedVariables false
namespace Go.Proofs.Ytiobmfggnacplaa
open Go.RowKit Go.Shelf
attribute [local go_sem] Oper.semAt_some
set_option maxRecDepth 100000 in
set_option maxHeartbeats 40000000 in
theorem rimPeriod_walk (w : World) (K : Int) (A0 : Option Addr) (n c0 : Nat) (l : List Int) (x : Nat) (hx : x < 256) (h0 : InS w w.heap.size A0 n l) (hc0 : n ≤ c0) :
    Calls Try.prog 9 #[.int .i64 K, .slice A0 n c0, .int .u8 (x : Int)] w fun e w' => e = .returned (.bool true) ∧ Below w.heap.size w w' := by
  have H0 := hid h0
  have hl0 := hid h0.len
  clear h0
  cases hf0 : fineB K l
  · have Hf0 := hid hf0
    clear hf0
    go_enter Try.func9, Try.ntmps9
    obtain ⟨W0, rfl⟩ : ∃ W0 : World, W0 = w := ⟨_, rfl⟩
    skip
    skip
    have hbel : Below W0.heap.size W0 W0 := Below.refl _ _
    have hsz := hbel.size
    go_wp2_with (fail)
    refine (fineW_any K A0 n c0 l _ (H0.out.below (by repeat' (first | with_reducible assumption | with_reducible exact Below.refl _ _ | refine Below.alloc ?_ ?_ _ | refine Below.setCell ?_ ?_ _ | refine Below.drew ?_ | refine below_drewN ?_ _ | (simp; done) | (simp; omega) | omega)) (by first | (simp; done) | (simp; omega) | omega))).mono ?_
    rw [Hf0.out]
    rintro e W1 ⟨rfl, hb⟩
    have hst : Below W0.heap.size W0 W1 := Below.trans (by repeat' (first | with_reducible assumption | with_reducible exact Below.refl _ _ | refine Below.alloc ?_ ?_ _ | refine Below.setCell ?_ ?_ _ | refine Below.drew ?_ | refine below_drewN ?_ _ | (simp; done) | (simp; omega) | omega)) (hb.mono (by first | (simp; done) | (simp; omega) | omega))
    replace hbel := hbel.trans (hst.mono hsz)
    replace hsz := hbel.size
    replace H0 := hid (H0.out.below hst hst.size)
    clear hb hst
    obtain ⟨W0, rfl⟩ : ∃ W0 : World, W0 = W1 := ⟨_, rfl⟩
    go_wp2_with (fail)
    refine (works_any _).mono ?_
    rintro e W1 ⟨rfl, hb⟩
    have hst : Below W0.heap.size W0 W1 := Below.trans (by repeat' (first | with_reducible assumption | with_reducible exact Below.refl _ _ | refine Below.alloc ?_ ?_ _ | refine Below.setCell ?_ ?_ _ | refine Below.drew ?_ | refine below_drewN ?_ _ | (simp; done) | (simp; omega) | omega)) (hb.mono (by first | (simp; done) | (simp; omega) | omega))
    replace hbel := hbel.trans (hst.mono hsz)
    replace hsz := hbel.size
    replace H0 := hid (H0.out.below hst hst.size)
    clear hb hst
    obtain ⟨W0, rfl⟩ : ∃ W0 : World, W0 = W1 := ⟨_, rfl⟩
    go_wp2
    go_ret
    exact ⟨rfl, hbel⟩
  · have hok0 := fineB_t.1 hf0
    have Hf0 := hid hf0
    clear hf0
    have h64 := (rim_good hok0).2.1
    rw [hl0.out] at h64
    have hlp : 0 < l.length := by rw [hl0.out]; omega
    have hE0 : Hid (decide (checkRim K l = 0) = true) := hid (decide_eq_true hok0)
    have HokE : Hid (checkRim K l = 0) := hid hok0
    have haV : Hid (leastV K l = least l) := hid (if_pos hok0)
    have hsK : Hid (leastK K l = lstart l) := hid (if_pos hok0)
    have hpV : Hid (perV K l = perL l) := hid (if_pos hok0)
    have hal : Hid ((least l).length = n) := hid (by rw [least_len, hl0.out])
    obtain ⟨hp1, hpn⟩ := perL_pos hlp
    have hpd := Nat.mod_eq_zero_of_dvd (perL_len hlp)
    have hsp := lstart_per hlp
    have hiff : ∀ j, j < n → (rot l j = l ↔ j % perL l = 0) := fun j hj => rot_per_iff hlp (by rw [hl0.out]; exact hj)
    have hpr := perL_rot l
    have hmin : ∀ j, 0 < j → j < perL l → rot l j ≠ l := fun j h1 h2 => perL_min h1 h2
    rw [hl0.out] at hpn hpd
    obtain ⟨p, hp⟩ : ∃ p, perL l = p := ⟨_, rfl⟩
    obtain ⟨s, hs⟩ : ∃ s, lstart l = s := ⟨_, rfl⟩
    obtain ⟨a, ha⟩ : ∃ a, least l = a := ⟨_, rfl⟩
    rw [hp] at hp1 hpn hpd hsp hiff hpr hmin hpV
    rw [hs] at hsp hsK
    rw [ha] at haV hal
    obtain ⟨i, hi⟩ : ∃ i, x % n = i := ⟨_, rfl⟩
    have hin : i < n := by rw [← hi]; exact Nat.mod_lt _ (by omega)
    have hmod : (x : Int) % (n : Int) = (i : Int) := by rw [← hi]; exact (Int.natCast_emod x n).symm
    have htmod : Int.tmod (x : Int) (n : Int) = (i : Int) := by rw [← hi]; exact (Int.ofNat_tmod x n).symm
    have zi : IntKind.i64.wrap (i : Int) = (i : Int) := IntWalk.i64_in _ (by omega)
    have zx : IntKind.i64.wrap (x : Int) = (x : Int) := IntWalk.i64_in _ (by omega)
    have hn0 : ¬ (n : Int) = 0 := by omega
    have hn00 : ¬ n = 0 := by omega
    have hp0 : ¬ (p : Int) = 0 := by omega
    have hp00 : ¬ p = 0 := by omega
    have tp1 : ¬ (p : Int) < 1 := by omega
    have tpn : ¬ (n : Int) < (p : Int) := by omega
    have hpmod : (n : Int) % (p : Int) = 0 := by rw [← Int.natCast_emod, hpd]; rfl
    have hptmod : Int.tmod (n : Int) (p : Int) = 0 := by rw [← Int.ofNat_tmod, hpd]; rfl
    have tsp : (s : Int) < (p : Int) := by omega
    have htE : ∀ j, j < n → turnE K l (j : Int) = 0 := fun j hj => by unfold turnE; rw [if_neg (by omega), if_neg (by rw [hl0.out]; omega)]
    have htV : ∀ j, j < n → turnV K l (j : Int) = rot l j := fun j hj => by unfold turnV; rw [htE j hj, if_pos rfl]; rfl
    have HtE := hid htE
    have HtV := hid htV
    have HtE1 := hid (htE i hin)
    have HtV1 := hid (htV i hin)
    have hrl : Hid (∀ j, (rot l j).length = n) := hid (fun j => by rw [rot_len, hl0.out])
    obtain ⟨bv, hbv⟩ : ∃ bv, eqI (rot l i) l = bv := ⟨_, rfl⟩
    have Hbv := hid hbv
    have hipm : (i : Int) % (p : Int) = ((i % p : Nat) : Int) := (Int.natCast_emod i p).symm
    have hiptm : Int.tmod (i : Int) (p : Int) = ((i % p : Nat) : Int) := (Int.ofNat_tmod i p).symm
    obtain ⟨r, hr⟩ : ∃ r, i % p = r := ⟨_, rfl⟩
    have hrp : r < p := by rw [← hr]; exact Nat.mod_lt _ (by omega)
    rw [hr] at hipm hiptm
    have hbr : (((r : Int) == 0)) = bv := by
      have h1 := hiff i hin
      rw [hr] at h1
      cases bv with
      | true => have := h1.1 (eqI_t.1 hbv); subst this; rfl
      | false =>
        have : r ≠ 0 := fun e => by have := eqI_t.2 (h1.2 e); rw [hbv] at this; cases this
        simp; omega
    have Hiff := hid hiff
    have Hpr := hid hpr
    have Hmin := hid hmin
    clear hp hs ha hi htE htV hbv hiff hpr hmin hok0 hr
    go_enter Try.func9, Try.ntmps9
    obtain ⟨W0, rfl⟩ : ∃ W0 : World, W0 = w := ⟨_, rfl⟩
    skip
    skip
    have hbel : Below W0.heap.size W0 W0 := Below.refl _ _
    have hsz := hbel.size
    go_wp2_with (fail)
    refine (fineW_any K A0 n c0 l _ (H0.out.below (by repeat' (first | with_reducible assumption | with_reducible exact Below.refl _ _ | refine Below.alloc ?_ ?_ _ | refine Below.setCell ?_ ?_ _ | refine Below.drew ?_ | refine below_drewN ?_ _ | (simp; done) | (simp; omega) | omega)) (by first | (simp; done) | (simp; omega) | omega))).mono ?_
    rw [Hf0.out]
    rintro e W1 ⟨rfl, hb⟩
    have hst : Below W0.heap.size W0 W1 := Below.trans (by repeat' (first | with_reducible assumption | with_reducible exact Below.refl _ _ | refine Below.alloc ?_ ?_ _ | refine Below.setCell ?_ ?_ _ | refine Below.drew ?_ | refine below_drewN ?_ _ | (simp; done) | (simp; omega) | omega)) (hb.mono (by first | (simp; done) | (simp; omega) | omega))
    replace hbel := hbel.trans (hst.mono hsz)
    replace hsz := hbel.size
    replace H0 := hid (H0.out.below hst hst.size)
    clear hb hst
    obtain ⟨W0, rfl⟩ : ∃ W0 : World, W0 = W1 := ⟨_, rfl⟩
    go_wp2_with (fail)
    refine (periodF_any K A0 n c0 l _ (H0.out.below (by repeat' (first | with_reducible assumption | with_reducible exact Below.refl _ _ | refine Below.alloc ?_ ?_ _ | refine Below.setCell ?_ ?_ _ | refine Below.drew ?_ | refine below_drewN ?_ _ | (simp; done) | (simp; omega) | omega)) (by first | (simp; done) | (simp; omega) | omega)) (by omega) hc0).mono ?_
    rw [hpV.out, HokE.out]
    rintro e W1 ⟨rfl, hb⟩
    have hst : Below W0.heap.size W0 W1 := Below.trans (by repeat' (first | with_reducible assumption | with_reducible exact Below.refl _ _ | refine Below.alloc ?_ ?_ _ | refine Below.setCell ?_ ?_ _ | refine Below.drew ?_ | refine below_drewN ?_ _ | (simp; done) | (simp; omega) | omega)) (hb.mono (by first | (simp; done) | (simp; omega) | omega))
    replace hbel := hbel.trans (hst.mono hsz)
    replace hsz := hbel.size
    replace H0 := hid (H0.out.below hst hst.size)
    clear hb hst
    obtain ⟨W0, rfl⟩ : ∃ W0 : World, W0 = W1 := ⟨_, rfl⟩
    go_wp2_with (fail)
    refine (lawLeast_any K A0 n c0 l _ (H0.out.below (by repeat' (first | with_reducible assumption | with_reducible exact Below.refl _ _ | refine Below.alloc ?_ ?_ _ | refine Below.setCell ?_ ?_ _ | refine Below.drew ?_ | refine below_drewN ?_ _ | (simp; done) | (simp; omega) | omega)) (by first | (simp; done) | (simp; omega) | omega)) (by omega) hc0).mono ?_
    rw [hE0.out, haV.out, hsK.out]
    rintro e W1 ⟨Ba, ma, ca, rfl, hr, hb⟩
    have hr0 := hr.1.len
    obtain rfl : n = ma := by rw [← hr0, hal.out]
    have hr1 := hr.1
    clear hr hr0
    have hst : Below W0.heap.size W0 W1 := Below.trans (by repeat' (first | with_reducible assumption | with_reducible exact Below.refl _ _ | refine Below.alloc ?_ ?_ _ | refine Below.setCell ?_ ?_ _ | refine Below.drew ?_ | refine below_drewN ?_ _ | (simp; done) | (simp; omega) | omega)) (hb.mono (by first | (simp; done) | (simp; omega) | omega))
    replace hbel := hbel.trans (hst.mono hsz)
    replace hsz := hbel.size
    replace H0 := hid (H0.out.below hst hst.size)
    have Ha := hid hr1
    clear hr1
    clear hb hst
    obtain ⟨W0, rfl⟩ : ∃ W0 : World, W0 = W1 := ⟨_, rfl⟩
    clear Ha
    go_wp2_with (fail)
    refine (turn_any K A0 n c0 l (i : Int) _ (H0.out.below (by repeat' (first | with_reducible assumption | with_reducible exact Below.refl _ _ | refine Below.alloc ?_ ?_ _ | refine Below.setCell ?_ ?_ _ | refine Below.drew ?_ | refine below_drewN ?_ _ | (simp; done) | (simp; omega) | omega)) (by first | (simp; done) | (simp; omega) | omega)) (by omega) hc0).mono ?_
    rw [HtE1.out, HtV1.out]
    rintro e W1 ⟨Bt, mt, ct, rfl, hr, hb⟩
    have hr0 := hr.1.len
    obtain rfl : n = mt := by rw [← hr0, hrl.out]
    have hr1 := hr.1
    clear hr hr0
    have hst : Below W0.heap.size W0 W1 := Below.trans (by repeat' (first | with_reducible assumption | with_reducible exact Below.refl _ _ | refine Below.alloc ?_ ?_ _ | refine Below.setCell ?_ ?_ _ | refine Below.drew ?_ | refine below_drewN ?_ _ | (simp; done) | (simp; omega) | omega)) (hb.mono (by first | (simp; done) | (simp; omega) | omega))
    replace hbel := hbel.trans (hst.mono hsz)
    replace hsz := hbel.size
    replace H0 := hid (H0.out.below hst hst.size)
    have Ht := hid hr1
    clear hr1
    clear hb hst
    obtain ⟨W0, rfl⟩ : ∃ W0 : World, W0 = W1 := ⟨_, rfl⟩
    go_wp2_with (fail)
    refine wp_region_hd_all (fun W => Below W0.heap.size W0 W) (by kernel_rfl) (by kernel_rfl) ((Below.refl _ _).drew) ?_
    iterate 5 (refine wpHd_val (v := ?_) (by rfl) (fun W hW => ?_) ?_; rotate_left; (· obtain ⟨hcW, hfW⟩ := bcell hW; go_simp; with_reducible rfl); simp only [Act.put, List.setIfInBounds_toArray, List.set_cons_zero, List.set_cons_succ])
    (refine wpHd_callB (by rfl) (fun W hW => ints_any W Bt A0 n ct n c0 (rot l i) l (Ht.out.below hW hW.size) (H0.out.below hW hW.size) (by omega)) (fun W hW => ?_) ?_; (· obtain ⟨hcW, hfW⟩ := bcell hW; go_simp); simp only [Act.put, List.setIfInBounds_toArray, List.set_cons_zero, List.set_cons_succ])
    rw [Hbv.out]
    iterate 6 (refine wpHd_val (v := ?_) (by rfl) (fun W hW => ?_) ?_; rotate_left; (· obtain ⟨hcW, hfW⟩ := bcell hW; go_simp; with_reducible rfl); simp only [Act.put, List.setIfInBounds_toArray, List.set_cons_zero, List.set_cons_succ])
    refine wpHd_nil ?_
    intro W1 hb
    have hst : Below W0.heap.size W0 W1 := Below.trans (by repeat' (first | with_reducible assumption | with_reducible exact Below.refl _ _ | refine Below.alloc ?_ ?_ _ | refine Below.setCell ?_ ?_ _ | refine Below.drew ?_ | refine below_drewN ?_ _ | (simp; done) | (simp; omega) | omega)) (hb.mono (by first | (simp; done) | (simp; omega) | omega))
    replace hbel := hbel.trans (hst.mono hsz)
    replace hsz := hbel.size
    replace H0 := hid (H0.out.below hst hst.size)
    replace Ht := hid (Ht.out.below hst hst.size)
    clear hb hst
    obtain ⟨W0, rfl⟩ : ∃ W0 : World, W0 = W1 := ⟨_, rfl⟩
    clear Ht
    have hbb : (bv != bv) = false := by cases bv <;> rfl
    go_wp2_with (fail)
    go_loopw [14, 15] (fun v i wr => ∃ q d : Nat, q ≤ n ∧ i = .int .i64 (q : Int) ∧ v = .int .i64 (d : Int) ∧ ((q ≤ p ∧ d = q) ∨ (p < q ∧ d = p)) ∧ Below W0.heap.size W0 wr) (fun _ i _ => n - (intOf i).toNat)
    case atStart => exact ⟨0, 0, Nat.zero_le _, rfl, rfl, .inl ⟨Nat.zero_le _, rfl⟩, Below.refl _ _⟩
    case round =>
      obtain ⟨q, d, hqn, rfl, rfl, hd, hbr2⟩ := hrel
      have hszr := hbr2.size
      have hdn : d ≤ n := by omega
      by_cases hlt : q < n
      · have hlti : (q : Int) < n := by omega
        have HE2 := hid (HtE.out q hlt)
        have HV2 := hid (HtV.out q hlt)
        have H0r := hid (H0.out.below hbr2 hszr)
        have zd : IntKind.i64.wrap ((d : Int) + 1) = (d : Int) + 1 := IntWalk.i64_in _ (by omega)
        go_wp2_with (fail)
        refine (turn_any K A0 n c0 l (q : Int) _ H0r.out (by omega) hc0).mono ?_
        rw [HE2.out, HV2.out]
        rintro e W1 ⟨Bt, mt, ct, rfl, hr, hb⟩
        have hr0 := hr.1.len
        obtain rfl : n = mt := by rw [← hr0, hrl.out]
        have Hr1 := hid hr.1
        have hb2 := hbr2.trans (hb.mono hszr)
        have hsz2 := hb2.size
        have h1z := hb.size
        clear hr hr0
        by_cases hq0 : q = 0
        · have tq : ((q : Int) == 0) = true := by rw [hq0]; rfl
          have hd2 : (q + 1 ≤ p ∧ d + 1 = q + 1) ∨ (p < q + 1 ∧ d + 1 = p) := by omega
          clear hq0 hd
          go_wp2
          exact ⟨⟨q + 1, d + 1, by omega, by go_num, by go_num, hd2, hb2⟩, by simp [intOf]; omega⟩
        · have tq : ((q : Int) == 0) = false := by simp; omega
          by_cases hqp : q < p
          · have hne : Hid (eqI (rot l q) l = false) := hid (by cases h : eqI (rot l q) l; rfl; exact absurd (eqI_t.1 h) (Hmin.out q (by omega) hqp))
            have tdq : ((d : Int) == (q : Int)) = true := by rw [show d = q by omega]; simp
            have hd2 : (q + 1 ≤ p ∧ d + 1 = q + 1) ∨ (p < q + 1 ∧ d + 1 = p) := by omega
            clear hd hqp hq0
            go_wp2_with (go_at_call 27; refine (ints_any _ Bt A0 n ct n c0 (rot l q) l Hr1.out (H0r.out.below hb h1z) (by omega)).mono ?_; rw [hne.out]; rintro e W2 ⟨rfl, hb3⟩)
            exact ⟨⟨q + 1, d + 1, by omega, by go_num, by go_num, hd2, hb2.trans (hb3.mono hsz2)⟩, by simp [intOf]; omega⟩
          · have hd2 : (q + 1 ≤ p ∧ d = q + 1) ∨ (p < q + 1 ∧ d = p) := by omega
            cases he : eqI (rot l q) l
            · have hqne : q ≠ p := fun e => by rw [e, eqI_t.2 Hpr.out] at he; cases he
              have tdq : ((d : Int) == (q : Int)) = false := by simp; omega
              have He := hid he
              clear hd hqp hq0 he hqne
              go_wp2_with (go_at_call 27; refine (ints_any _ Bt A0 n ct n c0 (rot l q) l Hr1.out (H0r.out.below hb h1z) (by omega)).mono ?_; rw [He.out]; rintro e W2 ⟨rfl, hb3⟩)
              exact ⟨⟨q + 1, d, by omega, by go_num, rfl, hd2, hb2.trans (hb3.mono hsz2)⟩, by simp [intOf]; omega⟩
            · have He := hid he
              clear hd hqp hq0 he
              go_wp2_with (go_at_call 27; refine (ints_any _ Bt A0 n ct n c0 (rot l q) l Hr1.out (H0r.out.below hb h1z) (by omega)).mono ?_; rw [He.out]; rintro e W2 ⟨rfl, hb3⟩)
              exact ⟨⟨q + 1, d, by omega, by go_num, rfl, hd2, hb2.trans (hb3.mono hsz2)⟩, by simp [intOf]; omega⟩
      · obtain rfl : n = q := by omega
        have tdp : ((d : Int) == (p : Int)) = true := by rw [show d = p by omega]; simp
        have hlti : ¬ (n : Int) < n := by omega
        clear hd
        go_wp2_with (go_at_call 18; refine (works_any _).mono ?_; rintro e W2 ⟨rfl, hb3⟩)
        go_ret
        exact ⟨rfl, hbel.trans ((hbr2.trans (hb3.mono hszr)).mono hsz)⟩

section
open Go.ChangeShapes Go.WideShapes Go.ChangeAt Go.RowKit
set_option maxRecDepth 100000 in
theorem rimPeriod_lifted (os : Os) (started : os.Started) (H : Type) (enc : TypeId × Value → H) :
    ReturnsInHanded {} Try.checked os 9 .any (Rows.rimPeriodSpec.pre6 enc Try.prog Try.f9 Rows.rimPeriodRow.domain false) (Rows.rimPeriodSpec.post enc Try.prog Try.f9 false true false false) := by
  refine returnsInHanded_of_change (C := Try.checked) ownKx started (by kernel_rfl) Try.func9
    (ChangeSpec.witness6 (enc := enc) (C := Try.checked) false ⟨#[], #[.int .i64 0, .slice none 0 0, .int .u8 0], []⟩ 8 (by kernel_rfl) (by kernel_rfl) (by kernel_rfl) (by kernel_rfl)) ?_
  intro W base args ds gs before hval0 hW hcnd _
  have hval : ∀ (j : Nat) t v, Try.f9.params[j]? = some t → args[j]? = some v → Value.okWide Try.prog W .any base t v := hval0
  have hW' := hW
  obtain ⟨p, q, hA0, hV, rfl, hfz, hnd⟩ := hW
  have hA : DataW.TrodAll enc Try.prog W 0 (fun _ => true) true Try.f9.params.toList args.toList ds p := hA0
  have hlt : ∀ x ∈ p, x.block < W.heap.size := fun x hx => hW'.lt x (List.mem_append_left _ hx)
  have hAll : ∀ W', Below W.heap.size W W' → DataW.TrodAll enc Try.prog W' 0 (fun b => decide (b < W.heap.size)) true Try.f9.params.toList args.toList ds p := fun W' hb => all_below laidOut hb (readable_of (by kernel_rfl)) hlt hA
  rw [Try.params9] at hA hval
  obtain ⟨v0, v1, v2, d0, d1, d2, p0, p1, p2, rfl, rfl, rfl, h0, h1, h2⟩ := trodAll_three hA
  obtain ⟨rfl, rfl⟩ := trodVars_none hV
  clear hA0 hval0
  obtain ⟨x0, rfl, rfl, rfl, wx0⟩ := open_int Try.underlying3 (hval 0 3 v0 rfl rfl) h0
  obtain ⟨A1, n1, c1, rfl⟩ := okWide_slice Try.underlying22 (hval 1 22 v1 rfl rfl)
  obtain ⟨hc1, l1, hl1, hr1⟩ := open_ins Try.underlying22 Try.underlying3 (by kernel_rfl) h1
  obtain ⟨x2, rfl, rfl, rfl, wx2⟩ := open_int Try.underlying5 (hval 2 5 v2 rfl rfl) h2
  obtain ⟨y2, rfl⟩ : ∃ y : Nat, x2 = y := ⟨x2.toNat, (Int.toNat_of_nonneg (wf_u8 wx2).1).symm⟩
  refine (rimPeriod_walk W x0 A1 n1 c1 l1 y2 (by have := wf_u8 wx2; omega) hr1 hc1).mono fun e W' ⟨he, hb⟩ => ?_
  subst he
  exact ⟨_, rfl, ⟨_, _, _, [], _, [], hW', trodAll_cons_mk (shut_bool Try.underlying4 _) trodAll_mk0, hAll W' hb, rfl, hb.frame _, fun h => by cases h⟩⟩
/-- The law: whatever the input, it returns true, and the input reads as it did. -/
theorem rimPeriod_holds : Rows.RimPeriodSaid :=
  OpenClaim.holds_of_wide 9 Try.f9 rfl rfl rfl rfl rfl rfl rfl ⟨rfl, rfl, rfl, rfl, rfl⟩ rfl rfl rfl rfl rfl (by kernel_rfl) Try.func9 (by kernel_rfl)
    (of_decide_eq_true (by kernel_rfl)) (by unfold Func.isWrapper; first | (rw [if_pos (by decide +kernel)]; kernel_rfl) | (rw [if_neg (by decide +kernel)]; exact ⟨rfl, rfl⟩))
    (fun os started H enc _ => rimPeriod_lifted os started H enc)
end
end Go.Proofs.Ytiobmfggnacplaa

