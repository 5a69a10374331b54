/- The statement StoneFew holds: whatever the arguments, the law returns true and leaves its arguments as they were. -/
import Derived.Test.YtolghmhodaphfaaMq
namespace Go.Proofs.Ytolghmhodaphfaa
open Go.RowKit Go.Shelf
attribute [local go_sem] Oper.semAt_some
set_option maxRecDepth 100000 in
set_option maxHeartbeats 4000000 in
theorem fewS_walk (w : World) (A : Option Addr) (n c : Nat) (ks : List Kd) (bo : Bool) (x : Int) (hx0 : 0 ≤ x ∧ x ≤ 255) (hr : KdS w w.heap.size A n ks) :
    Calls Try.prog 12 #[.int .u8 x, .bool bo, .slice A n c] w fun e w' => e = .returned (.bool true) ∧ Below w.heap.size w w' := by
  obtain ⟨W0, hW0⟩ : ∃ W0 : World, W0 = w := ⟨_, rfl⟩
  rw [← hW0] at hr ⊢
  clear hW0
  have HR := hid hr
  clear hr
  have hbel : Below W0.heap.size W0 W0 := Below.refl _ _
  have hsz := hbel.size
  obtain ⟨p, hp⟩ : ∃ p, pansOf bo = p := ⟨_, rfl⟩
  have HP := hid (pansOf_or bo)
  rw [hp] at HP
  have Hp := hid hp
  clear hp
  obtain ⟨hx1, hx2⟩ := hx0
  have z1 : IntKind.i64.wrap x = x := wrap_ok (by omega)
  obtain ⟨a0, ha⟩ : ∃ a, x % 121 = a := ⟨_, rfl⟩
  have ha0 := Int.emod_nonneg x (b := 121) (by omega)
  have ha1 := Int.emod_lt_of_pos x (b := 121) (by omega)
  rw [ha] at ha0 ha1
  have z2 : x.tmod 121 = a0 := by rw [Int.tmod_eq_emod_of_nonneg hx1]; exact ha
  have z3 : IntKind.i64.wrap a0 = a0 := wrap_ok (by omega)
  obtain ⟨a, haa⟩ : ∃ a, 1 + a0 = a := ⟨_, rfl⟩
  have z4 : IntKind.i64.wrap (1 + a0) = a := by rw [haa]; exact wrap_ok (by omega)
  have HAB : Hid (1 ≤ a ∧ a ≤ 121) := hid (by omega)
  clear ha ha0 ha1 haa
  obtain ⟨q1, q2, q3, q4⟩ := en_facts HP.out HAB.out.1 HAB.out.2
  obtain ⟨E, hE⟩ : ∃ E, enL p a = E := ⟨_, rfl⟩
  rw [hE] at q1 q2 q3
  obtain ⟨uE, huE⟩ : ∃ u, uptoV p E = u := ⟨_, rfl⟩
  rw [huE] at q2
  have HE := hid hE
  have HUE := hid huE
  have E0 := hid q1
  have EM := hid q3
  have EO := hid q4
  have hEl : E.length ≤ 8 := (checkSet_good q1).2.1
  have hEf := hid (fineB_of q1)
  have hopE : Hid (openE E p = 0) := hid (openE_ok q1 (by rcases HP.out with h | h <;> rw [h] <;> rfl))
  have hua : ¬ uE < a := by omega
  clear hE huE q1 q2 q3 q4
  cases hf : fineB ks
  · have Hf := hid hf
    clear hf
    go_enter Try.func12, Try.ntmps12
    go_wp2_with (fail)
    refine (pans_any _ _).mono ?_
    rw [Hp.out]
    rintro e W1 ⟨rfl, hb⟩
    have hst : Below W0.heap.size W0 W1 := Below.trans (by repeat' (first | with_reducible assumption | with_reducible exact Below.refl _ _ | refine Below.alloc ?_ ?_ _ | refine Below.setCell ?_ ?_ _ | refine Below.drew ?_ | refine below_drewN ?_ _ | (simp; done) | (simp; omega) | omega)) (hb.mono (by first | (simp; done) | (simp; omega) | omega))
    replace hbel := hbel.trans (hst.mono hsz)
    replace hsz := hbel.size
    replace HR := hid (HR.out.below hst hst.size)
    clear hb hst
    obtain ⟨W0, rfl⟩ : ∃ W0 : World, W0 = W1 := ⟨_, rfl⟩
    go_wp2_with (fail)
    refine (fewW_any p a _).mono ?_
    rw [HE.out, EO.out]
    rintro e W1 ⟨rfl, hb⟩
    have hst : Below W0.heap.size W0 W1 := Below.trans (by repeat' (first | with_reducible assumption | with_reducible exact Below.refl _ _ | refine Below.alloc ?_ ?_ _ | refine Below.setCell ?_ ?_ _ | refine Below.drew ?_ | refine below_drewN ?_ _ | (simp; done) | (simp; omega) | omega)) (hb.mono (by first | (simp; done) | (simp; omega) | omega))
    replace hbel := hbel.trans (hst.mono hsz)
    replace hsz := hbel.size
    replace HR := hid (HR.out.below hst hst.size)
    clear hb hst
    obtain ⟨W0, rfl⟩ : ∃ W0 : World, W0 = W1 := ⟨_, rfl⟩
    go_wp2_with (fail)
    refine (enough_any p a _).mono ?_
    rw [HE.out, EO.out]
    rintro e W1 ⟨v1, rfl, ho1, hb⟩
    obtain ⟨A1, c1, hv1, hs1⟩ := sl_of_owns ho1
    subst hv1
    clear ho1
    have hst : Below W0.heap.size W0 W1 := Below.trans (by repeat' (first | with_reducible assumption | with_reducible exact Below.refl _ _ | refine Below.alloc ?_ ?_ _ | refine Below.setCell ?_ ?_ _ | refine Below.drew ?_ | refine below_drewN ?_ _ | (simp; done) | (simp; omega) | omega)) (hb.mono (by first | (simp; done) | (simp; omega) | omega))
    replace hbel := hbel.trans (hst.mono hsz)
    replace hsz := hbel.size
    replace HR := hid (HR.out.below hst hst.size)
    have HS := hid (show KdS W1 W1.heap.size A1 E.length E from hs1)
    clear hb hst
    obtain ⟨W0, rfl⟩ : ∃ W0 : World, W0 = W1 := ⟨_, rfl⟩
    clear hs1
    go_wp2_with (fail)
    refine (fine_any _ _ _ _ _ (HS.out.below (by repeat' (first | with_reducible assumption | with_reducible exact Below.refl _ _ | refine Below.alloc ?_ ?_ _ | refine Below.setCell ?_ ?_ _ | refine Below.drew ?_ | refine below_drewN ?_ _ | (simp; done) | (simp; omega) | omega)) (by first | (simp; done) | (simp; omega) | omega))).mono ?_
    rw [hEf.out]
    rintro e W1 ⟨rfl, hb⟩
    have hst : Below W0.heap.size W0 W1 := Below.trans (by repeat' (first | with_reducible assumption | with_reducible exact Below.refl _ _ | refine Below.alloc ?_ ?_ _ | refine Below.setCell ?_ ?_ _ | refine Below.drew ?_ | refine below_drewN ?_ _ | (simp; done) | (simp; omega) | omega)) (hb.mono (by first | (simp; done) | (simp; omega) | omega))
    replace hbel := hbel.trans (hst.mono hsz)
    replace hsz := hbel.size
    replace HR := hid (HR.out.below hst hst.size)
    replace HS := hid (HS.out.below hst hst.size)
    clear hb hst
    obtain ⟨W0, rfl⟩ : ∃ W0 : World, W0 = W1 := ⟨_, rfl⟩
    go_wp2_with (fail)
    go_loopw [13, 14] (fun v i wr => ∃ k : Nat, k ≤ E.length ∧ i = .int .i64 k ∧ v = .int .i64 (manyOf (E.take k)) ∧ W0 = wr) (fun _ i _ => E.length - (intOf i).toNat)
    case atStart => exact ⟨0, by omega, rfl, rfl, rfl⟩
    case round =>
      obtain ⟨k, hk, rfl, rfl, rfl⟩ := hrel
      by_cases hlt : k < E.length
      · obtain ⟨b, off, m, hAe, hbq, hm, c0, c1'⟩ := HS.out.at_ hlt
        subst hAe
        have hmt := manyOf_take hm
        have hmb := manyOf_tk E0.out (k + 1)
        obtain ⟨t0, ht0⟩ : ∃ t0, manyOf (E.take k) = t0 := ⟨_, rfl⟩
        rw [ht0] at hmt ⊢
        have x0 : IntKind.i64.wrap (t0 + m.many) = t0 + m.many := wrap_ok (by omega)
        have Hmt := hid hmt
        clear hm hmt ht0 hmb
        go_wp2
        exact ⟨⟨k + 1, by omega, by go_num, by rw [Hmt.out], trivial⟩, by simp [intOf]; omega⟩
      · obtain rfl : k = E.length := by omega
        rw [List.take_of_length_le (Nat.le_refl _), EM.out]
        go_wp2_with (fail)
        refine (upto_any _ _ _ _ E p (HS.out.below (by repeat' (first | with_reducible assumption | with_reducible exact Below.refl _ _ | refine Below.alloc ?_ ?_ _ | refine Below.setCell ?_ ?_ _ | refine Below.drew ?_ | refine below_drewN ?_ _ | (simp; done) | (simp; omega) | omega)) (by first | (simp; done) | (simp; omega) | omega)) (by omega)).mono ?_
        rw [HUE.out, hopE.out]
        rintro e W1 ⟨rfl, hb⟩
        have hst : Below W0.heap.size W0 W1 := Below.trans (by repeat' (first | with_reducible assumption | with_reducible exact Below.refl _ _ | refine Below.alloc ?_ ?_ _ | refine Below.setCell ?_ ?_ _ | refine Below.drew ?_ | refine below_drewN ?_ _ | (simp; done) | (simp; omega) | omega)) (hb.mono (by first | (simp; done) | (simp; omega) | omega))
        replace hbel := hbel.trans (hst.mono hsz)
        replace hsz := hbel.size
        replace HR := hid (HR.out.below hst hst.size)
        replace HS := hid (HS.out.below hst hst.size)
        clear hb hst
        obtain ⟨W0, rfl⟩ : ∃ W0 : World, W0 = W1 := ⟨_, rfl⟩
        clear HS
        go_wp2_with (fail)
        refine (fine_any _ _ _ _ _ (HR.out.below (by repeat' (first | with_reducible assumption | with_reducible exact Below.refl _ _ | refine Below.alloc ?_ ?_ _ | refine Below.setCell ?_ ?_ _ | refine Below.drew ?_ | refine below_drewN ?_ _ | (simp; done) | (simp; omega) | omega)) (by first | (simp; done) | (simp; omega) | omega))).mono ?_
        rw [Hf.out]
        rintro e W1 ⟨rfl, hb⟩
        have hst : Below W0.heap.size W0 W1 := Below.trans (by repeat' (first | with_reducible assumption | with_reducible exact Below.refl _ _ | refine Below.alloc ?_ ?_ _ | refine Below.setCell ?_ ?_ _ | refine Below.drew ?_ | refine below_drewN ?_ _ | (simp; done) | (simp; omega) | omega)) (hb.mono (by first | (simp; done) | (simp; omega) | omega))
        replace hbel := hbel.trans (hst.mono hsz)
        replace hsz := hbel.size
        replace HR := hid (HR.out.below hst hst.size)
        clear hb hst
        obtain ⟨W0, rfl⟩ : ∃ W0 : World, W0 = W1 := ⟨_, rfl⟩
        go_wp2_with (fail)
        refine (works_any _).mono ?_
        rintro e W1 ⟨rfl, hb⟩
        have hst : Below W0.heap.size W0 W1 := Below.trans (by repeat' (first | with_reducible assumption | with_reducible exact Below.refl _ _ | refine Below.alloc ?_ ?_ _ | refine Below.setCell ?_ ?_ _ | refine Below.drew ?_ | refine below_drewN ?_ _ | (simp; done) | (simp; omega) | omega)) (hb.mono (by first | (simp; done) | (simp; omega) | omega))
        replace hbel := hbel.trans (hst.mono hsz)
        replace hsz := hbel.size
        replace HR := hid (HR.out.below hst hst.size)
        clear hb hst
        obtain ⟨W0, rfl⟩ : ∃ W0 : World, W0 = W1 := ⟨_, rfl⟩
        go_wp2
        go_ret
        exact ⟨rfl, hbel⟩
  · have Hf := hid hf
    obtain ⟨h0, h8⟩ := fineB_good hf
    have hlen := hid HR.out.len
    have hn : n ≤ 12 := by have := hlen.out; omega
    have H0 := hid h0
    have hop : Hid (openE ks p = 0) := hid (openE_ok H0.out (by rcases HP.out with h | h <;> rw [h] <;> rfl))
    obtain ⟨M, hM, hMl, hMu⟩ := few_enough HP.out h0 (a := a)
    replace hMu := hMu HAB.out.1 HAB.out.2
    rw [HE.out] at hMu
    obtain ⟨WL, hWL⟩ : ∃ WL, weighsL p ks = WL := ⟨_, rfl⟩
    have hwl := (weighsL_good h0 HP.out).1
    rw [hWL] at hwl hMl
    obtain ⟨u, hu⟩ : ∃ u, uptoV p ks = u := ⟨_, rfl⟩
    rw [hu] at hMu
    have hMb : M ≤ 2400 := by
      have := manyOf_tk h0 ks.length
      rw [List.take_length, hM] at this
      omega
    have HM := hid hM
    have HMl := hid hMl
    have HMu := hid hMu
    have HWL := hid hWL
    have HU := hid hu
    have yp : IntKind.i64.wrap (p + 1) = p + 1 := wrap_ok (by rcases HP.out with h | h <;> rw [h] <;> omega)
    clear hf h0 h8 hM hMl hMu hWL hu
    go_enter Try.func12, Try.ntmps12
    go_wp2_with (fail)
    refine (pans_any _ _).mono ?_
    rw [Hp.out]
    rintro e W1 ⟨rfl, hb⟩
    have hst : Below W0.heap.size W0 W1 := Below.trans (by repeat' (first | with_reducible assumption | with_reducible exact Below.refl _ _ | refine Below.alloc ?_ ?_ _ | refine Below.setCell ?_ ?_ _ | refine Below.drew ?_ | refine below_drewN ?_ _ | (simp; done) | (simp; omega) | omega)) (hb.mono (by first | (simp; done) | (simp; omega) | omega))
    replace hbel := hbel.trans (hst.mono hsz)
    replace hsz := hbel.size
    replace HR := hid (HR.out.below hst hst.size)
    clear hb hst
    obtain ⟨W0, rfl⟩ : ∃ W0 : World, W0 = W1 := ⟨_, rfl⟩
    go_wp2_with (fail)
    refine (fewW_any p a _).mono ?_
    rw [HE.out, EO.out]
    rintro e W1 ⟨rfl, hb⟩
    have hst : Below W0.heap.size W0 W1 := Below.trans (by repeat' (first | with_reducible assumption | with_reducible exact Below.refl _ _ | refine Below.alloc ?_ ?_ _ | refine Below.setCell ?_ ?_ _ | refine Below.drew ?_ | refine below_drewN ?_ _ | (simp; done) | (simp; omega) | omega)) (hb.mono (by first | (simp; done) | (simp; omega) | omega))
    replace hbel := hbel.trans (hst.mono hsz)
    replace hsz := hbel.size
    replace HR := hid (HR.out.below hst hst.size)
    clear hb hst
    obtain ⟨W0, rfl⟩ : ∃ W0 : World, W0 = W1 := ⟨_, rfl⟩
    go_wp2_with (fail)
    refine (enough_any p a _).mono ?_
    rw [HE.out, EO.out]
    rintro e W1 ⟨v1, rfl, ho1, hb⟩
    obtain ⟨A1, c1, hv1, hs1⟩ := sl_of_owns ho1
    subst hv1
    clear ho1
    have hst : Below W0.heap.size W0 W1 := Below.trans (by repeat' (first | with_reducible assumption | with_reducible exact Below.refl _ _ | refine Below.alloc ?_ ?_ _ | refine Below.setCell ?_ ?_ _ | refine Below.drew ?_ | refine below_drewN ?_ _ | (simp; done) | (simp; omega) | omega)) (hb.mono (by first | (simp; done) | (simp; omega) | omega))
    replace hbel := hbel.trans (hst.mono hsz)
    replace hsz := hbel.size
    replace HR := hid (HR.out.below hst hst.size)
    have HS := hid (show KdS W1 W1.heap.size A1 E.length E from hs1)
    clear hb hst
    obtain ⟨W0, rfl⟩ : ∃ W0 : World, W0 = W1 := ⟨_, rfl⟩
    clear hs1
    go_wp2_with (fail)
    refine (fine_any _ _ _ _ _ (HS.out.below (by repeat' (first | with_reducible assumption | with_reducible exact Below.refl _ _ | refine Below.alloc ?_ ?_ _ | refine Below.setCell ?_ ?_ _ | refine Below.drew ?_ | refine below_drewN ?_ _ | (simp; done) | (simp; omega) | omega)) (by first | (simp; done) | (simp; omega) | omega))).mono ?_
    rw [hEf.out]
    rintro e W1 ⟨rfl, hb⟩
    have hst : Below W0.heap.size W0 W1 := Below.trans (by repeat' (first | with_reducible assumption | with_reducible exact Below.refl _ _ | refine Below.alloc ?_ ?_ _ | refine Below.setCell ?_ ?_ _ | refine Below.drew ?_ | refine below_drewN ?_ _ | (simp; done) | (simp; omega) | omega)) (hb.mono (by first | (simp; done) | (simp; omega) | omega))
    replace hbel := hbel.trans (hst.mono hsz)
    replace hsz := hbel.size
    replace HR := hid (HR.out.below hst hst.size)
    replace HS := hid (HS.out.below hst hst.size)
    clear hb hst
    obtain ⟨W0, rfl⟩ : ∃ W0 : World, W0 = W1 := ⟨_, rfl⟩
    go_wp2_with (fail)
    go_loopw [13, 14] (fun v i wr => ∃ k : Nat, k ≤ E.length ∧ i = .int .i64 k ∧ v = .int .i64 (manyOf (E.take k)) ∧ W0 = wr) (fun _ i _ => E.length - (intOf i).toNat)
    case atStart => exact ⟨0, by omega, rfl, rfl, rfl⟩
    case round =>
      obtain ⟨k, hk, rfl, rfl, rfl⟩ := hrel
      by_cases hlt : k < E.length
      · obtain ⟨b, off, m, hAe, hbq, hm, c0, c1'⟩ := HS.out.at_ hlt
        subst hAe
        have hmt := manyOf_take hm
        have hmb := manyOf_tk E0.out (k + 1)
        obtain ⟨t0, ht0⟩ : ∃ t0, manyOf (E.take k) = t0 := ⟨_, rfl⟩
        rw [ht0] at hmt ⊢
        have x0 : IntKind.i64.wrap (t0 + m.many) = t0 + m.many := wrap_ok (by omega)
        have Hmt := hid hmt
        clear hm hmt ht0 hmb
        go_wp2
        exact ⟨⟨k + 1, by omega, by go_num, by rw [Hmt.out], trivial⟩, by simp [intOf]; omega⟩
      · obtain rfl : k = E.length := by omega
        rw [List.take_of_length_le (Nat.le_refl _), EM.out]
        go_wp2_with (fail)
        refine (upto_any _ _ _ _ E p (HS.out.below (by repeat' (first | with_reducible assumption | with_reducible exact Below.refl _ _ | refine Below.alloc ?_ ?_ _ | refine Below.setCell ?_ ?_ _ | refine Below.drew ?_ | refine below_drewN ?_ _ | (simp; done) | (simp; omega) | omega)) (by first | (simp; done) | (simp; omega) | omega)) (by omega)).mono ?_
        rw [HUE.out, hopE.out]
        rintro e W1 ⟨rfl, hb⟩
        have hst : Below W0.heap.size W0 W1 := Below.trans (by repeat' (first | with_reducible assumption | with_reducible exact Below.refl _ _ | refine Below.alloc ?_ ?_ _ | refine Below.setCell ?_ ?_ _ | refine Below.drew ?_ | refine below_drewN ?_ _ | (simp; done) | (simp; omega) | omega)) (hb.mono (by first | (simp; done) | (simp; omega) | omega))
        replace hbel := hbel.trans (hst.mono hsz)
        replace hsz := hbel.size
        replace HR := hid (HR.out.below hst hst.size)
        replace HS := hid (HS.out.below hst hst.size)
        clear hb hst
        obtain ⟨W0, rfl⟩ : ∃ W0 : World, W0 = W1 := ⟨_, rfl⟩
        clear HS
        go_wp2_with (fail)
        refine (fine_any _ _ _ _ _ (HR.out.below (by repeat' (first | with_reducible assumption | with_reducible exact Below.refl _ _ | refine Below.alloc ?_ ?_ _ | refine Below.setCell ?_ ?_ _ | refine Below.drew ?_ | refine below_drewN ?_ _ | (simp; done) | (simp; omega) | omega)) (by first | (simp; done) | (simp; omega) | omega))).mono ?_
        rw [Hf.out]
        rintro e W1 ⟨rfl, hb⟩
        have hst : Below W0.heap.size W0 W1 := Below.trans (by repeat' (first | with_reducible assumption | with_reducible exact Below.refl _ _ | refine Below.alloc ?_ ?_ _ | refine Below.setCell ?_ ?_ _ | refine Below.drew ?_ | refine below_drewN ?_ _ | (simp; done) | (simp; omega) | omega)) (hb.mono (by first | (simp; done) | (simp; omega) | omega))
        replace hbel := hbel.trans (hst.mono hsz)
        replace hsz := hbel.size
        replace HR := hid (HR.out.below hst hst.size)
        clear hb hst
        obtain ⟨W0, rfl⟩ : ∃ W0 : World, W0 = W1 := ⟨_, rfl⟩
        go_wp2_with (fail)
        go_loopw [17, 18] (fun v i wr => ∃ k : Nat, k ≤ n ∧ i = .int .i64 k ∧ v = .int .i64 (manyOf (ks.take k)) ∧ W0 = wr) (fun _ i _ => n - (intOf i).toNat)
        case atStart => exact ⟨0, by omega, rfl, rfl, rfl⟩
        case round =>
          obtain ⟨k, hk, rfl, rfl, rfl⟩ := hrel
          by_cases hlt : k < n
          · obtain ⟨b, off, m, hAe, hbq, hm, c0, c1'⟩ := HR.out.at_ hlt
            subst hAe
            have hmt := manyOf_take hm
            have hmb := manyOf_tk H0.out (k + 1)
            obtain ⟨t0, ht0⟩ : ∃ t0, manyOf (ks.take k) = t0 := ⟨_, rfl⟩
            rw [ht0] at hmt ⊢
            have x0 : IntKind.i64.wrap (t0 + m.many) = t0 + m.many := wrap_ok (by omega)
            have Hmt := hid hmt
            clear hm hmt ht0 hmb
            go_wp2
            exact ⟨⟨k + 1, by omega, by go_num, by rw [Hmt.out], trivial⟩, by simp [intOf]; omega⟩
          · obtain rfl : k = n := by omega
            rw [List.take_of_length_le (by rw [hlen.out]; exact Nat.le_refl _), HM.out]
            go_wp2_with (fail)
            refine (upto_any _ _ _ _ ks p (HR.out.below (by repeat' (first | with_reducible assumption | with_reducible exact Below.refl _ _ | refine Below.alloc ?_ ?_ _ | refine Below.setCell ?_ ?_ _ | refine Below.drew ?_ | refine below_drewN ?_ _ | (simp; done) | (simp; omega) | omega)) (by first | (simp; done) | (simp; omega) | omega)) hn).mono ?_
            rw [HU.out, hop.out]
            rintro e W1 ⟨rfl, hb⟩
            have hst : Below W0.heap.size W0 W1 := Below.trans (by repeat' (first | with_reducible assumption | with_reducible exact Below.refl _ _ | refine Below.alloc ?_ ?_ _ | refine Below.setCell ?_ ?_ _ | refine Below.drew ?_ | refine below_drewN ?_ _ | (simp; done) | (simp; omega) | omega)) (hb.mono (by first | (simp; done) | (simp; omega) | omega))
            replace hbel := hbel.trans (hst.mono hsz)
            replace hsz := hbel.size
            replace HR := hid (HR.out.below hst hst.size)
            clear hb hst
            obtain ⟨W0, rfl⟩ : ∃ W0 : World, W0 = W1 := ⟨_, rfl⟩
            go_wp2_with (fail)
            refine (weighs_walk _ _ _ _ ks p (HR.out.below (by repeat' (first | with_reducible assumption | with_reducible exact Below.refl _ _ | refine Below.alloc ?_ ?_ _ | refine Below.setCell ?_ ?_ _ | refine Below.drew ?_ | refine below_drewN ?_ _ | (simp; done) | (simp; omega) | omega)) (by first | (simp; done) | (simp; omega) | omega)) hn).mono ?_
            rw [HWL.out, hop.out]
            rintro e W1 ⟨Aw, mw, cw, rfl, hw, hb⟩
            have hst : Below W0.heap.size W0 W1 := Below.trans (by repeat' (first | with_reducible assumption | with_reducible exact Below.refl _ _ | refine Below.alloc ?_ ?_ _ | refine Below.setCell ?_ ?_ _ | refine Below.drew ?_ | refine below_drewN ?_ _ | (simp; done) | (simp; omega) | omega)) (hb.mono (by first | (simp; done) | (simp; omega) | omega))
            replace hbel := hbel.trans (hst.mono hsz)
            replace hsz := hbel.size
            replace HR := hid (HR.out.below hst hst.size)
            have hmw : mw = WL.length := hw.len.symm
            clear hw
            clear hb hst
            obtain ⟨W0, rfl⟩ : ∃ W0 : World, W0 = W1 := ⟨_, rfl⟩
            subst hmw
            have hmi : ¬ (300 : Int) < WL.length := by omega
            by_cases hau : a ≤ u
            · have hMn : ¬ (M : Int) < E.length := by have := HMu.out hau; omega
              go_wp2_with (fail)
              go_loopw [20, 21] (fun v i wr => ∃ j : Nat, j ≤ M ∧ i = .int .i64 j ∧ v = .int .i64 ((p + 1) ^ j) ∧ Hid ((p + 1) ^ j ≤ 900) ∧ W0 = wr) (fun _ i _ => M - (intOf i).toNat)
              case atStart => exact ⟨0, by omega, rfl, by simp, hid (by simp), rfl⟩
              case round =>
                obtain ⟨j, hj, rfl, rfl, h900, rfl⟩ := hrel
                have hpj : 0 ≤ (p + 1) ^ j := Int.le_of_lt (Int.pow_pos (by rcases HP.out with h | h <;> rw [h] <;> omega))
                have hsucc : (p + 1) ^ (j + 1) = (p + 1) ^ j * (p + 1) := Int.pow_succ _ _
                by_cases hjM : j < M
                · by_cases h3 : (p + 1) ^ j ≤ 300
                  · have hmul : (p + 1) ^ j * (p + 1) ≤ 900 := by
                      have h1 : (p + 1) ^ j * (p + 1) ≤ (p + 1) ^ j * 3 := Int.mul_le_mul_of_nonneg_left (by rcases HP.out with h | h <;> rw [h] <;> omega) hpj
                      omega
                    have hmul0 : 0 ≤ (p + 1) ^ j * (p + 1) := Int.mul_nonneg hpj (by rcases HP.out with h | h <;> rw [h] <;> omega)
                    obtain ⟨t0, ht0⟩ : ∃ t0, (p + 1) ^ j = t0 := ⟨_, rfl⟩
                    rw [ht0] at hsucc hmul hmul0 h3 ⊢
                    have x0 : IntKind.i64.wrap (t0 * (p + 1)) = t0 * (p + 1) := wrap_ok (by omega)
                    have Hsu := hid hsucc
                    have Hmu := hid hmul
                    have hjMi : (j : Int) < M := by omega
                    clear hsucc hmul hmul0 ht0 hpj
                    go_wp2
                    exact ⟨⟨j + 1, by omega, by go_num, by rw [Hsu.out], hid (by rw [Hsu.out]; exact Hmu.out), trivial⟩, by simp [intOf]; omega⟩
                  · have hlt : (WL.length : Int) < (p + 1) ^ j := by omega
                    obtain ⟨t0, ht0⟩ : ∃ t0, (p + 1) ^ j = t0 := ⟨_, rfl⟩
                    rw [ht0] at h3 hlt ⊢
                    have hjMi : (j : Int) < M := by omega
                    clear hsucc hpj ht0
                    go_wp2_with (fail)
                    refine (works_any _).mono ?_
                    rintro e W1 ⟨rfl, hb⟩
                    have hst : Below W0.heap.size W0 W1 := Below.trans (by repeat' (first | with_reducible assumption | with_reducible exact Below.refl _ _ | refine Below.alloc ?_ ?_ _ | refine Below.setCell ?_ ?_ _ | refine Below.drew ?_ | refine below_drewN ?_ _ | (simp; done) | (simp; omega) | omega)) (hb.mono (by first | (simp; done) | (simp; omega) | omega))
                    replace hbel := hbel.trans (hst.mono hsz)
                    replace hsz := hbel.size
                    replace HR := hid (HR.out.below hst hst.size)
                    clear hb hst
                    obtain ⟨W0, rfl⟩ : ∃ W0 : World, W0 = W1 := ⟨_, rfl⟩
                    go_wp2
                    go_ret
                    exact ⟨rfl, hbel⟩
                · obtain rfl : j = M := by omega
                  have hlt : (WL.length : Int) < (p + 1) ^ j := by
                    have h1 := HMl.out
                    have h2 : 1 * (WL.length : Int) ≤ p * WL.length := Int.mul_le_mul_of_nonneg_right (by rcases HP.out with h | h <;> rw [h] <;> omega) (by omega)
                    omega
                  obtain ⟨t0, ht0⟩ : ∃ t0, (p + 1) ^ j = t0 := ⟨_, rfl⟩
                  rw [ht0] at hlt ⊢
                  have hjMi : ¬ (j : Int) < j := by omega
                  clear hsucc hpj ht0
                  go_wp2_with (fail)
                  refine (works_any _).mono ?_
                  rintro e W1 ⟨rfl, hb⟩
                  have hst : Below W0.heap.size W0 W1 := Below.trans (by repeat' (first | with_reducible assumption | with_reducible exact Below.refl _ _ | refine Below.alloc ?_ ?_ _ | refine Below.setCell ?_ ?_ _ | refine Below.drew ?_ | refine below_drewN ?_ _ | (simp; done) | (simp; omega) | omega)) (hb.mono (by first | (simp; done) | (simp; omega) | omega))
                  replace hbel := hbel.trans (hst.mono hsz)
                  replace hsz := hbel.size
                  replace HR := hid (HR.out.below hst hst.size)
                  clear hb hst
                  obtain ⟨W0, rfl⟩ : ∃ W0 : World, W0 = W1 := ⟨_, rfl⟩
                  go_wp2
                  go_ret
                  exact ⟨rfl, hbel⟩
            · skip
              go_wp2_with (fail)
              go_loopw [20, 21] (fun v i wr => ∃ j : Nat, j ≤ M ∧ i = .int .i64 j ∧ v = .int .i64 ((p + 1) ^ j) ∧ Hid ((p + 1) ^ j ≤ 900) ∧ W0 = wr) (fun _ i _ => M - (intOf i).toNat)
              case atStart => exact ⟨0, by omega, rfl, by simp, hid (by simp), rfl⟩
              case round =>
                obtain ⟨j, hj, rfl, rfl, h900, rfl⟩ := hrel
                have hpj : 0 ≤ (p + 1) ^ j := Int.le_of_lt (Int.pow_pos (by rcases HP.out with h | h <;> rw [h] <;> omega))
                have hsucc : (p + 1) ^ (j + 1) = (p + 1) ^ j * (p + 1) := Int.pow_succ _ _
                by_cases hjM : j < M
                · by_cases h3 : (p + 1) ^ j ≤ 300
                  · have hmul : (p + 1) ^ j * (p + 1) ≤ 900 := by
                      have h1 : (p + 1) ^ j * (p + 1) ≤ (p + 1) ^ j * 3 := Int.mul_le_mul_of_nonneg_left (by rcases HP.out with h | h <;> rw [h] <;> omega) hpj
                      omega
                    have hmul0 : 0 ≤ (p + 1) ^ j * (p + 1) := Int.mul_nonneg hpj (by rcases HP.out with h | h <;> rw [h] <;> omega)
                    obtain ⟨t0, ht0⟩ : ∃ t0, (p + 1) ^ j = t0 := ⟨_, rfl⟩
                    rw [ht0] at hsucc hmul hmul0 h3 ⊢
                    have x0 : IntKind.i64.wrap (t0 * (p + 1)) = t0 * (p + 1) := wrap_ok (by omega)
                    have Hsu := hid hsucc
                    have Hmu := hid hmul
                    have hjMi : (j : Int) < M := by omega
                    clear hsucc hmul hmul0 ht0 hpj
                    go_wp2
                    exact ⟨⟨j + 1, by omega, by go_num, by rw [Hsu.out], hid (by rw [Hsu.out]; exact Hmu.out), trivial⟩, by simp [intOf]; omega⟩
                  · have hlt : (WL.length : Int) < (p + 1) ^ j := by omega
                    obtain ⟨t0, ht0⟩ : ∃ t0, (p + 1) ^ j = t0 := ⟨_, rfl⟩
                    rw [ht0] at h3 hlt ⊢
                    have hjMi : (j : Int) < M := by omega
                    clear hsucc hpj ht0
                    go_wp2_with (fail)
                    refine (works_any _).mono ?_
                    rintro e W1 ⟨rfl, hb⟩
                    have hst : Below W0.heap.size W0 W1 := Below.trans (by repeat' (first | with_reducible assumption | with_reducible exact Below.refl _ _ | refine Below.alloc ?_ ?_ _ | refine Below.setCell ?_ ?_ _ | refine Below.drew ?_ | refine below_drewN ?_ _ | (simp; done) | (simp; omega) | omega)) (hb.mono (by first | (simp; done) | (simp; omega) | omega))
                    replace hbel := hbel.trans (hst.mono hsz)
                    replace hsz := hbel.size
                    replace HR := hid (HR.out.below hst hst.size)
                    clear hb hst
                    obtain ⟨W0, rfl⟩ : ∃ W0 : World, W0 = W1 := ⟨_, rfl⟩
                    go_wp2
                    go_ret
                    exact ⟨rfl, hbel⟩
                · obtain rfl : j = M := by omega
                  have hlt : (WL.length : Int) < (p + 1) ^ j := by
                    have h1 := HMl.out
                    have h2 : 1 * (WL.length : Int) ≤ p * WL.length := Int.mul_le_mul_of_nonneg_right (by rcases HP.out with h | h <;> rw [h] <;> omega) (by omega)
                    omega
                  obtain ⟨t0, ht0⟩ : ∃ t0, (p + 1) ^ j = t0 := ⟨_, rfl⟩
                  rw [ht0] at hlt ⊢
                  have hjMi : ¬ (j : Int) < j := by omega
                  clear hsucc hpj ht0
                  go_wp2_with (fail)
                  refine (works_any _).mono ?_
                  rintro e W1 ⟨rfl, hb⟩
                  have hst : Below W0.heap.size W0 W1 := Below.trans (by repeat' (first | with_reducible assumption | with_reducible exact Below.refl _ _ | refine Below.alloc ?_ ?_ _ | refine Below.setCell ?_ ?_ _ | refine Below.drew ?_ | refine below_drewN ?_ _ | (simp; done) | (simp; omega) | omega)) (hb.mono (by first | (simp; done) | (simp; omega) | omega))
                  replace hbel := hbel.trans (hst.mono hsz)
                  replace hsz := hbel.size
                  replace HR := hid (HR.out.below hst hst.size)
                  clear hb hst
                  obtain ⟨W0, rfl⟩ : ∃ W0 : World, W0 = W1 := ⟨_, rfl⟩
                  go_wp2
                  go_ret
                  exact ⟨rfl, hbel⟩

section
open Go.ChangeShapes Go.WideShapes Go.ChangeAt Go.RowKit
set_option maxRecDepth 100000 in
theorem stoneFew_lifted (os : Os) (started : os.Started) (H : Type) (enc : TypeId × Value → H) :
    ReturnsInHanded {} Try.checked os 12 .any (Rows.stoneFewSpec.pre6 enc Try.prog Try.f12 Rows.stoneFewRow.domain false) (Rows.stoneFewSpec.post enc Try.prog Try.f12 false true false false) := by
  refine returnsInHanded_of_change (C := Try.checked) ownKx started (by kernel_rfl) Try.func12
    (ChangeSpec.witness6 (enc := enc) (C := Try.checked) false ⟨#[], #[.int .u8 0, .bool false, .slice none 0 0], []⟩ 8 (by kernel_rfl) (by kernel_rfl) (by kernel_rfl) (by kernel_rfl)) ?_
  intro W base args ds gs before hval0 hW hcnd _
  have hval : ∀ (j : Nat) t v, Try.f12.params[j]? = some t → args[j]? = some v → Value.okWide Try.prog W .any base t v := hval0
  have hW' := hW
  obtain ⟨p, q, hA0, hV, rfl, hfz, hnd⟩ := hW
  have hA : DataW.TrodAll enc Try.prog W 0 (fun _ => true) true Try.f12.params.toList args.toList ds p := hA0
  have hlt : ∀ x ∈ p, x.block < W.heap.size := fun x hx => hW'.lt x (List.mem_append_left _ hx)
  have hAll : ∀ W', Below W.heap.size W W' → DataW.TrodAll enc Try.prog W' 0 (fun b => decide (b < W.heap.size)) true Try.f12.params.toList args.toList ds p := fun W' hb => all_below laidOut hb (readable_of (by kernel_rfl)) hlt hA
  rw [Try.params12] at hA hval
  obtain ⟨v0, v1, v2, d0, d1, d2, p0, p1, p2, rfl, rfl, rfl, h0, h1, h2⟩ := trodAll_three hA
  obtain ⟨rfl, rfl⟩ := trodVars_none hV
  clear hA0 hval0
  obtain ⟨x0, rfl, rfl, rfl, wx0⟩ := open_int Try.underlying5 (hval 0 5 v0 rfl rfl) h0
  obtain ⟨x1, rfl, rfl, rfl⟩ := open_bool Try.underlying4 (hval 1 4 v1 rfl rfl) h1
  obtain ⟨A2, n2, c2, rfl⟩ := okWide_slice Try.underlying22 (hval 2 22 v2 rfl rfl)
  obtain ⟨hc2, l2, hl2, hr2⟩ := open_kds h2
  refine (fewS_walk W A2 n2 c2 l2 x1 x0 (u8_bd wx0) hr2).mono fun e W' ⟨he, hb⟩ => ?_
  subst he
  exact ⟨_, rfl, ⟨_, _, _, [], _, [], hW', trodAll_cons_mk (shut_bool Try.underlying4 _) trodAll_mk0, hAll W' hb, rfl, hb.frame _, fun h => by cases h⟩⟩
/-- The law: whatever the input, it returns true, and the input reads as it did. -/
theorem stoneFew_holds : Rows.StoneFewSaid :=
  OpenClaim.holds_of_wide 12 Try.f12 rfl rfl rfl rfl rfl rfl rfl ⟨rfl, rfl, rfl, rfl, rfl⟩ rfl rfl rfl rfl rfl (by kernel_rfl) Try.func12 (by kernel_rfl)
    (of_decide_eq_true (by kernel_rfl)) (by unfold Func.isWrapper; first | (rw [if_pos (by decide +kernel)]; kernel_rfl) | (rw [if_neg (by decide +kernel)]; exact ⟨rfl, rfl⟩))
    (fun os started H enc _ => stoneFew_lifted os started H enc)
end
end Go.Proofs.Ytolghmhodaphfaa

