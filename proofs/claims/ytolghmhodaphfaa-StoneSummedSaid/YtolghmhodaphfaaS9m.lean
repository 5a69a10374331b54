/- The statement StoneSummed holds: whatever the arguments, the law returns true and leaves its arguments as they were. -/
import Derived.Test.YtolghmhodaphfaaMq
import Derived.Test.YtolghmhodaphfaaMn
namespace Go.Proofs.Ytolghmhodaphfaa
open Go.RowKit Go.Shelf
attribute [local go_sem] Oper.semAt_some
set_option maxRecDepth 100000 in
set_option maxHeartbeats 4000000 in
theorem summed_walk (w : World) (A : Option Addr) (n c : Nat) (ks : List Kd) (bo : Bool) (hr : KdS w w.heap.size A n ks) :
    Calls Try.prog 9 #[.slice A n c, .bool bo] w fun e w' => e = .returned (.bool true) ∧ Below w.heap.size w w' := by
  obtain ⟨W0, hW0⟩ : ∃ W0 : World, W0 = w := ⟨_, rfl⟩
  rw [← hW0] at hr ⊢
  clear hW0
  have HR := hid hr
  clear hr
  have hbel : Below W0.heap.size W0 W0 := Below.refl _ _
  have hsz := hbel.size
  cases hf : fineB ks
  · have Hf := hid hf
    clear hf
    go_enter Try.func9, Try.ntmps9
    go_wp2_with (fail)
    refine (fine_any _ _ _ _ _ (HR.out.below (by repeat' (first | with_reducible assumption | with_reducible exact Below.refl _ _ | refine Below.alloc ?_ ?_ _ | refine Below.setCell ?_ ?_ _ | refine Below.drew ?_ | refine below_drewN ?_ _ | (simp; done) | (simp; omega) | omega)) (by first | (simp; done) | (simp; omega) | omega))).mono ?_
    rw [Hf.out]
    rintro e W1 ⟨rfl, hb⟩
    have hst : Below W0.heap.size W0 W1 := Below.trans (by repeat' (first | with_reducible assumption | with_reducible exact Below.refl _ _ | refine Below.alloc ?_ ?_ _ | refine Below.setCell ?_ ?_ _ | refine Below.drew ?_ | refine below_drewN ?_ _ | (simp; done) | (simp; omega) | omega)) (hb.mono (by first | (simp; done) | (simp; omega) | omega))
    replace hbel := hbel.trans (hst.mono hsz)
    replace hsz := hbel.size
    replace HR := hid (HR.out.below hst hst.size)
    clear hb hst
    obtain ⟨W0, rfl⟩ : ∃ W0 : World, W0 = W1 := ⟨_, rfl⟩
    go_wp2_with (fail)
    refine (works_any _).mono ?_
    rintro e W1 ⟨rfl, hb⟩
    have hst : Below W0.heap.size W0 W1 := Below.trans (by repeat' (first | with_reducible assumption | with_reducible exact Below.refl _ _ | refine Below.alloc ?_ ?_ _ | refine Below.setCell ?_ ?_ _ | refine Below.drew ?_ | refine below_drewN ?_ _ | (simp; done) | (simp; omega) | omega)) (hb.mono (by first | (simp; done) | (simp; omega) | omega))
    replace hbel := hbel.trans (hst.mono hsz)
    replace hsz := hbel.size
    replace HR := hid (HR.out.below hst hst.size)
    clear hb hst
    obtain ⟨W0, rfl⟩ : ∃ W0 : World, W0 = W1 := ⟨_, rfl⟩
    go_wp2
    go_ret
    exact ⟨rfl, hbel⟩
  · have Hf := hid hf
    obtain ⟨h0, h8⟩ := fineB_good hf
    have hlen := hid HR.out.len
    have hn : n ≤ 12 := by have := hlen.out; omega
    have H0 := hid h0
    have hok := hid (List.all_eq_true.1 (checkSet_good h0).2.2.1)
    have hpos := hid (posK_of (checkSet_good h0).2.2.1)
    have hsm := hid (fun k (hk : k ∈ ks) => smallK_of (hok.out k hk))
    obtain ⟨S, hS⟩ : ∃ S : Nat, sumOf ks = S := ⟨(sumOf ks).toNat, by have := sumOf_nonneg (checkSet_good h0).2.2.1; omega⟩
    have hS3 : S ≤ 300 := by have := (checkSet_good h0).2.2.2.2; omega
    have HS := hid hS
    clear hf h0 h8 hS
    obtain ⟨p, hp⟩ : ∃ p, pansOf bo = p := ⟨_, rfl⟩
    have HP := hid (pansOf_or bo)
    rw [hp] at HP
    have Hp := hid hp
    have hpb : Hid (bo = decide (p = 2)) := hid (by rw [← hp]; cases bo <;> rfl)
    have hfl : Hid ((factsL p ks).length = n) := hid (by unfold factsL; rw [List.length_map]; exact hlen.out)
    clear hp
    obtain ⟨z, hz⟩ : ∃ z, facP p ks = z := ⟨_, rfl⟩
    have hall := hid ((accT_all HP.out hpos.out HS.out).trans hz)
    have HZ := hid hz
    clear hz
    cases bo
    · go_enter Try.func9, Try.ntmps9
      go_wp2_with (fail)
      refine (fine_any _ _ _ _ _ (HR.out.below (by repeat' (first | with_reducible assumption | with_reducible exact Below.refl _ _ | refine Below.alloc ?_ ?_ _ | refine Below.setCell ?_ ?_ _ | refine Below.drew ?_ | refine below_drewN ?_ _ | (simp; done) | (simp; omega) | omega)) (by first | (simp; done) | (simp; omega) | omega))).mono ?_
      rw [Hf.out]
      rintro e W1 ⟨rfl, hb⟩
      have hst : Below W0.heap.size W0 W1 := Below.trans (by repeat' (first | with_reducible assumption | with_reducible exact Below.refl _ _ | refine Below.alloc ?_ ?_ _ | refine Below.setCell ?_ ?_ _ | refine Below.drew ?_ | refine below_drewN ?_ _ | (simp; done) | (simp; omega) | omega)) (hb.mono (by first | (simp; done) | (simp; omega) | omega))
      replace hbel := hbel.trans (hst.mono hsz)
      replace hsz := hbel.size
      replace HR := hid (HR.out.below hst hst.size)
      clear hb hst
      obtain ⟨W0, rfl⟩ : ∃ W0 : World, W0 = W1 := ⟨_, rfl⟩
      go_wp2_with (fail)
      refine (pans_any _ _).mono ?_
      rw [Hp.out]
      rintro e W1 ⟨rfl, hb⟩
      have hst : Below W0.heap.size W0 W1 := Below.trans (by repeat' (first | with_reducible assumption | with_reducible exact Below.refl _ _ | refine Below.alloc ?_ ?_ _ | refine Below.setCell ?_ ?_ _ | refine Below.drew ?_ | refine below_drewN ?_ _ | (simp; done) | (simp; omega) | omega)) (hb.mono (by first | (simp; done) | (simp; omega) | omega))
      replace hbel := hbel.trans (hst.mono hsz)
      replace hsz := hbel.size
      replace HR := hid (HR.out.below hst hst.size)
      clear hb hst
      obtain ⟨W0, rfl⟩ : ∃ W0 : World, W0 = W1 := ⟨_, rfl⟩
      go_wp2_with (fail)
      refine (refSum_any _ _ _ _ ks (HR.out.below (by repeat' (first | with_reducible assumption | with_reducible exact Below.refl _ _ | refine Below.alloc ?_ ?_ _ | refine Below.setCell ?_ ?_ _ | refine Below.drew ?_ | refine below_drewN ?_ _ | (simp; done) | (simp; omega) | omega)) (by first | (simp; done) | (simp; omega) | omega)) (by omega) hsm.out).mono ?_
      rw [HS.out]
      rintro e W1 ⟨rfl, hb⟩
      have hst : Below W0.heap.size W0 W1 := Below.trans (by repeat' (first | with_reducible assumption | with_reducible exact Below.refl _ _ | refine Below.alloc ?_ ?_ _ | refine Below.setCell ?_ ?_ _ | refine Below.drew ?_ | refine below_drewN ?_ _ | (simp; done) | (simp; omega) | omega)) (hb.mono (by first | (simp; done) | (simp; omega) | omega))
      replace hbel := hbel.trans (hst.mono hsz)
      replace hsz := hbel.size
      replace HR := hid (HR.out.below hst hst.size)
      clear hb hst
      obtain ⟨W0, rfl⟩ : ∃ W0 : World, W0 = W1 := ⟨_, rfl⟩
      go_wp2_with (fail)
      have HRR := hid HR.out
      go_loopw [7, 8] (fun v i wr => ∃ k : Nat, k ≤ S + 1 ∧ i = .int .i64 k ∧ v = .int .i64 (accT p ks k) ∧ Below W0.heap.size W0 wr) (fun _ i _ => S + 1 - (intOf i).toNat)
      case atStart => exact ⟨0, by omega, rfl, rfl, Below.refl _ _⟩
      case round =>
        obtain ⟨k, hk, rfl, rfl, hbw⟩ := hrel
        have hszw := hbw.size
        by_cases hlt : k < S + 1
        · have hle : (k : Int) ≤ S := by omega
          obtain ⟨b1, b2⟩ := accT_bd HP.out H0.out HS.out hk
          obtain ⟨b3, b4⟩ := accT_bd HP.out H0.out HS.out (k := k + 1) (by omega)
          have hz0 := ways_nonneg p ks k
          have hstep : accT p ks (k + 1) = accT p ks k + ways p ks k + (if 0 < k ∧ p = 2 then ways p ks k else 0) := rfl
          have hdec := hpb.out
          obtain ⟨z0, hz00⟩ : ∃ z0, ways p ks k = z0 := ⟨_, rfl⟩
          obtain ⟨t0, ht0⟩ : ∃ t0, accT p ks k = t0 := ⟨_, rfl⟩
          obtain ⟨t1, ht1⟩ : ∃ t1, accT p ks (k + 1) = t1 := ⟨_, rfl⟩
          rw [hz00] at hstep hz0
          rw [ht0] at hstep b1 b2
          rw [ht1] at hstep b3 b4
          rw [ht0]
          have Hz0 := hid hz00
          have Ht1 := hid ht1
          clear hz00 ht0 ht1
          by_cases hk0 : 0 < k
          · have hk0i : (0 : Int) < k := by omega
            have hdk : decide ((0 : Int) < k) = true := decide_eq_true hk0i
            have hstp : t1 = t0 + z0 := by rw [hstep, if_neg (fun h => of_decide_eq_false hdec.symm h.2)]; omega
            have x1 : IntKind.i64.wrap (t0 + z0) = t1 := by rw [hstp]; exact wrap_ok (by omega)
            clear hstep hstp hdec
            go_wp2_with (first | (go_at_call 53; refine (waysL_any _ _ _ _ ks p k (HRR.out.below hbw hszw) H0.out HP.out ⟨by omega, by omega⟩).mono ?_; rw [Hz0.out]; rintro e W2 ⟨rfl, hb2⟩))
            exact ⟨⟨k + 1, by omega, by go_num, by rw [Ht1.out], hbw.trans (hb2.mono hszw)⟩, by simp [intOf]; omega⟩
          · have hk0i : ¬ (0 : Int) < k := by omega
            have hdk : decide ((0 : Int) < k) = false := decide_eq_false hk0i
            have hstp : t1 = t0 + z0 := by rw [hstep, if_neg (fun h => hk0 h.1)]; omega
            have x1 : IntKind.i64.wrap (t0 + z0) = t1 := by rw [hstp]; exact wrap_ok (by omega)
            clear hstep hstp hdec
            go_wp2_with (first | (go_at_call 53; refine (waysL_any _ _ _ _ ks p k (HRR.out.below hbw hszw) H0.out HP.out ⟨by omega, by omega⟩).mono ?_; rw [Hz0.out]; rintro e W2 ⟨rfl, hb2⟩))
            exact ⟨⟨k + 1, by omega, by go_num, by rw [Ht1.out], hbw.trans (hb2.mono hszw)⟩, by simp [intOf]; omega⟩
        · obtain rfl : k = S + 1 := by omega
          rw [hall.out]
          have hle : ¬ ((S + 1 : Nat) : Int) ≤ S := by omega
          replace HR := hid (HRR.out.below hbw hszw)
          clear HRR
          replace hbel := hbel.trans (hbw.mono hsz)
          replace hsz := hbel.size
          clear hbw
          obtain ⟨W0, rfl⟩ : ∃ W0 : World, W0 = wr := ⟨_, rfl⟩
          go_wp2_with (fail)
          refine (factorsOf_any _ _ _ _ ks p (HR.out.below (by repeat' (first | with_reducible assumption | with_reducible exact Below.refl _ _ | refine Below.alloc ?_ ?_ _ | refine Below.setCell ?_ ?_ _ | refine Below.drew ?_ | refine below_drewN ?_ _ | (simp; done) | (simp; omega) | omega)) (by first | (simp; done) | (simp; omega) | omega)) hok HP.out hn).mono ?_
          rintro e W1 ⟨v1, rfl, ho1, hb⟩
          obtain ⟨A1, c1, hv1, hs1⟩ := sl_of_owns ho1
          subst hv1
          clear ho1
          have hst : Below W0.heap.size W0 W1 := Below.trans (by repeat' (first | with_reducible assumption | with_reducible exact Below.refl _ _ | refine Below.alloc ?_ ?_ _ | refine Below.setCell ?_ ?_ _ | refine Below.drew ?_ | refine below_drewN ?_ _ | (simp; done) | (simp; omega) | omega)) (hb.mono (by first | (simp; done) | (simp; omega) | omega))
          replace hbel := hbel.trans (hst.mono hsz)
          replace hsz := hbel.size
          replace HR := hid (HR.out.below hst hst.size)
          have HX := hid (show InS W1 W1.heap.size A1 n (factsL p ks) from hs1)
          clear hb hst
          obtain ⟨W0, rfl⟩ : ∃ W0 : World, W0 = W1 := ⟨_, rfl⟩
          clear hs1
          go_wp2_with (fail)
          go_loopw [11, 13] (fun v i wr => ∃ k : Nat, k ≤ n ∧ i = .int .i64 k ∧ v = .int .i64 (facP p (ks.take k)) ∧ W0 = wr) (fun _ i _ => n - (intOf i).toNat)
          case atStart => exact ⟨0, by omega, rfl, rfl, rfl⟩
          case round =>
            obtain ⟨k, hk, rfl, rfl, rfl⟩ := hrel
            by_cases hlt : k < n
            · obtain ⟨b, off, y, rfl, hbq, hm, c0⟩ := HX.out.at_ hlt
              obtain ⟨m, hmk⟩ : ∃ m, ks[k]? = some m := ⟨_, List.getElem?_eq_getElem (by have := hlen.out; omega)⟩
              have hy : y = fac p m := by unfold factsL at hm; rw [List.getElem?_map, hmk] at hm; exact (Option.some.inj hm).symm
              have hft := facP_take (p := p) hmk
              obtain ⟨b3, b4⟩ := facP_valid HP.out H0.out (k + 1)
              rw [hft, ← hy] at b3 b4
              rw [← hy] at hft
              obtain ⟨t0, ht0⟩ : ∃ t0, facP p (ks.take k) = t0 := ⟨_, rfl⟩
              rw [ht0] at b3 b4 hft ⊢
              have x1 : IntKind.i64.wrap (t0 * y) = t0 * y := wrap_ok (by omega)
              have Hft := hid hft
              clear hmk hy hft ht0 hm b3 b4
              go_wp2
              exact ⟨⟨k + 1, by omega, by go_num, by rw [Hft.out], trivial⟩, by simp [intOf]; omega⟩
            · obtain rfl : k = n := by omega
              rw [List.take_of_length_le (by rw [hlen.out]; exact Nat.le_refl _), HZ.out]
              clear HX
              by_cases hs300 : S = 300
              · have ds : ((S : Int) == 300) = true := by simp; omega
                go_wp2_with (fail)
                refine (works_any _).mono ?_
                rintro e W1 ⟨rfl, hb⟩
                have hst : Below W0.heap.size W0 W1 := Below.trans (by repeat' (first | with_reducible assumption | with_reducible exact Below.refl _ _ | refine Below.alloc ?_ ?_ _ | refine Below.setCell ?_ ?_ _ | refine Below.drew ?_ | refine below_drewN ?_ _ | (simp; done) | (simp; omega) | omega)) (hb.mono (by first | (simp; done) | (simp; omega) | omega))
                replace hbel := hbel.trans (hst.mono hsz)
                replace hsz := hbel.size
                replace HR := hid (HR.out.below hst hst.size)
                clear hb hst
                obtain ⟨W0, rfl⟩ : ∃ W0 : World, W0 = W1 := ⟨_, rfl⟩
                go_wp2
                go_ret
                exact ⟨rfl, hbel⟩
              · have ds : ((S : Int) == 300) = false := by simp; omega
                have x1 : IntKind.i64.wrap ((S : Int) + 1) = (S : Int) + 1 := wrap_ok (by omega)
                have hz1 : Hid (ways p ks ((S : Int) + 1) = 0) := hid (farP (by have := HP.out; omega) hpos.out _ (.inr (by have := HS.out; omega)))
                go_wp2_with (fail)
                refine (waysL_any _ _ _ _ ks p _ (HR.out.below (by repeat' (first | with_reducible assumption | with_reducible exact Below.refl _ _ | refine Below.alloc ?_ ?_ _ | refine Below.setCell ?_ ?_ _ | refine Below.drew ?_ | refine below_drewN ?_ _ | (simp; done) | (simp; omega) | omega)) (by first | (simp; done) | (simp; omega) | omega)) H0.out HP.out ⟨by omega, by omega⟩).mono ?_
                rw [hz1.out]
                rintro e W1 ⟨rfl, hb⟩
                have hst : Below W0.heap.size W0 W1 := Below.trans (by repeat' (first | with_reducible assumption | with_reducible exact Below.refl _ _ | refine Below.alloc ?_ ?_ _ | refine Below.setCell ?_ ?_ _ | refine Below.drew ?_ | refine below_drewN ?_ _ | (simp; done) | (simp; omega) | omega)) (hb.mono (by first | (simp; done) | (simp; omega) | omega))
                replace hbel := hbel.trans (hst.mono hsz)
                replace hsz := hbel.size
                replace HR := hid (HR.out.below hst hst.size)
                clear hb hst
                obtain ⟨W0, rfl⟩ : ∃ W0 : World, W0 = W1 := ⟨_, rfl⟩
                go_wp2_with (fail)
                refine (works_any _).mono ?_
                rintro e W1 ⟨rfl, hb⟩
                have hst : Below W0.heap.size W0 W1 := Below.trans (by repeat' (first | with_reducible assumption | with_reducible exact Below.refl _ _ | refine Below.alloc ?_ ?_ _ | refine Below.setCell ?_ ?_ _ | refine Below.drew ?_ | refine below_drewN ?_ _ | (simp; done) | (simp; omega) | omega)) (hb.mono (by first | (simp; done) | (simp; omega) | omega))
                replace hbel := hbel.trans (hst.mono hsz)
                replace hsz := hbel.size
                replace HR := hid (HR.out.below hst hst.size)
                clear hb hst
                obtain ⟨W0, rfl⟩ : ∃ W0 : World, W0 = W1 := ⟨_, rfl⟩
                go_wp2
                go_ret
                exact ⟨rfl, hbel⟩
    · go_enter Try.func9, Try.ntmps9
      go_wp2_with (fail)
      refine (fine_any _ _ _ _ _ (HR.out.below (by repeat' (first | with_reducible assumption | with_reducible exact Below.refl _ _ | refine Below.alloc ?_ ?_ _ | refine Below.setCell ?_ ?_ _ | refine Below.drew ?_ | refine below_drewN ?_ _ | (simp; done) | (simp; omega) | omega)) (by first | (simp; done) | (simp; omega) | omega))).mono ?_
      rw [Hf.out]
      rintro e W1 ⟨rfl, hb⟩
      have hst : Below W0.heap.size W0 W1 := Below.trans (by repeat' (first | with_reducible assumption | with_reducible exact Below.refl _ _ | refine Below.alloc ?_ ?_ _ | refine Below.setCell ?_ ?_ _ | refine Below.drew ?_ | refine below_drewN ?_ _ | (simp; done) | (simp; omega) | omega)) (hb.mono (by first | (simp; done) | (simp; omega) | omega))
      replace hbel := hbel.trans (hst.mono hsz)
      replace hsz := hbel.size
      replace HR := hid (HR.out.below hst hst.size)
      clear hb hst
      obtain ⟨W0, rfl⟩ : ∃ W0 : World, W0 = W1 := ⟨_, rfl⟩
      go_wp2_with (fail)
      refine (pans_any _ _).mono ?_
      rw [Hp.out]
      rintro e W1 ⟨rfl, hb⟩
      have hst : Below W0.heap.size W0 W1 := Below.trans (by repeat' (first | with_reducible assumption | with_reducible exact Below.refl _ _ | refine Below.alloc ?_ ?_ _ | refine Below.setCell ?_ ?_ _ | refine Below.drew ?_ | refine below_drewN ?_ _ | (simp; done) | (simp; omega) | omega)) (hb.mono (by first | (simp; done) | (simp; omega) | omega))
      replace hbel := hbel.trans (hst.mono hsz)
      replace hsz := hbel.size
      replace HR := hid (HR.out.below hst hst.size)
      clear hb hst
      obtain ⟨W0, rfl⟩ : ∃ W0 : World, W0 = W1 := ⟨_, rfl⟩
      go_wp2_with (fail)
      refine (refSum_any _ _ _ _ ks (HR.out.below (by repeat' (first | with_reducible assumption | with_reducible exact Below.refl _ _ | refine Below.alloc ?_ ?_ _ | refine Below.setCell ?_ ?_ _ | refine Below.drew ?_ | refine below_drewN ?_ _ | (simp; done) | (simp; omega) | omega)) (by first | (simp; done) | (simp; omega) | omega)) (by omega) hsm.out).mono ?_
      rw [HS.out]
      rintro e W1 ⟨rfl, hb⟩
      have hst : Below W0.heap.size W0 W1 := Below.trans (by repeat' (first | with_reducible assumption | with_reducible exact Below.refl _ _ | refine Below.alloc ?_ ?_ _ | refine Below.setCell ?_ ?_ _ | refine Below.drew ?_ | refine below_drewN ?_ _ | (simp; done) | (simp; omega) | omega)) (hb.mono (by first | (simp; done) | (simp; omega) | omega))
      replace hbel := hbel.trans (hst.mono hsz)
      replace hsz := hbel.size
      replace HR := hid (HR.out.below hst hst.size)
      clear hb hst
      obtain ⟨W0, rfl⟩ : ∃ W0 : World, W0 = W1 := ⟨_, rfl⟩
      go_wp2_with (fail)
      have HRR := hid HR.out
      go_loopw [7, 8] (fun v i wr => ∃ k : Nat, k ≤ S + 1 ∧ i = .int .i64 k ∧ v = .int .i64 (accT p ks k) ∧ Below W0.heap.size W0 wr) (fun _ i _ => S + 1 - (intOf i).toNat)
      case atStart => exact ⟨0, by omega, rfl, rfl, Below.refl _ _⟩
      case round =>
        obtain ⟨k, hk, rfl, rfl, hbw⟩ := hrel
        have hszw := hbw.size
        by_cases hlt : k < S + 1
        · have hle : (k : Int) ≤ S := by omega
          obtain ⟨b1, b2⟩ := accT_bd HP.out H0.out HS.out hk
          obtain ⟨b3, b4⟩ := accT_bd HP.out H0.out HS.out (k := k + 1) (by omega)
          have hz0 := ways_nonneg p ks k
          have hstep : accT p ks (k + 1) = accT p ks k + ways p ks k + (if 0 < k ∧ p = 2 then ways p ks k else 0) := rfl
          have hdec := hpb.out
          obtain ⟨z0, hz00⟩ : ∃ z0, ways p ks k = z0 := ⟨_, rfl⟩
          obtain ⟨t0, ht0⟩ : ∃ t0, accT p ks k = t0 := ⟨_, rfl⟩
          obtain ⟨t1, ht1⟩ : ∃ t1, accT p ks (k + 1) = t1 := ⟨_, rfl⟩
          rw [hz00] at hstep hz0
          rw [ht0] at hstep b1 b2
          rw [ht1] at hstep b3 b4
          rw [ht0]
          have Hz0 := hid hz00
          have Ht1 := hid ht1
          clear hz00 ht0 ht1
          by_cases hk0 : 0 < k
          · have hk0i : (0 : Int) < k := by omega
            have hdk : decide ((0 : Int) < k) = true := decide_eq_true hk0i
            have hstp : t1 = t0 + z0 + z0 := by rw [hstep, if_pos ⟨hk0, of_decide_eq_true hdec.symm⟩]
            have x1 : IntKind.i64.wrap (t0 + z0) = t0 + z0 := wrap_ok (by omega)
            have x2 : IntKind.i64.wrap (t0 + z0 + z0) = t1 := by rw [hstp]; exact wrap_ok (by omega)
            clear hstep hstp hdec
            go_wp2_with (first | (go_at_call 53; refine (waysL_any _ _ _ _ ks p k (HRR.out.below hbw hszw) H0.out HP.out ⟨by omega, by omega⟩).mono ?_; rw [Hz0.out]; rintro e W2 ⟨rfl, hb2⟩))
            exact ⟨⟨k + 1, by omega, by go_num, by rw [Ht1.out], hbw.trans (hb2.mono hszw)⟩, by simp [intOf]; omega⟩
          · have hk0i : ¬ (0 : Int) < k := by omega
            have hdk : decide ((0 : Int) < k) = false := decide_eq_false hk0i
            have hstp : t1 = t0 + z0 := by rw [hstep, if_neg (fun h => hk0 h.1)]; omega
            have x1 : IntKind.i64.wrap (t0 + z0) = t1 := by rw [hstp]; exact wrap_ok (by omega)
            clear hstep hstp hdec
            go_wp2_with (first | (go_at_call 53; refine (waysL_any _ _ _ _ ks p k (HRR.out.below hbw hszw) H0.out HP.out ⟨by omega, by omega⟩).mono ?_; rw [Hz0.out]; rintro e W2 ⟨rfl, hb2⟩))
            exact ⟨⟨k + 1, by omega, by go_num, by rw [Ht1.out], hbw.trans (hb2.mono hszw)⟩, by simp [intOf]; omega⟩
        · obtain rfl : k = S + 1 := by omega
          rw [hall.out]
          have hle : ¬ ((S + 1 : Nat) : Int) ≤ S := by omega
          replace HR := hid (HRR.out.below hbw hszw)
          clear HRR
          replace hbel := hbel.trans (hbw.mono hsz)
          replace hsz := hbel.size
          clear hbw
          obtain ⟨W0, rfl⟩ : ∃ W0 : World, W0 = wr := ⟨_, rfl⟩
          go_wp2_with (fail)
          refine (factorsOf_any _ _ _ _ ks p (HR.out.below (by repeat' (first | with_reducible assumption | with_reducible exact Below.refl _ _ | refine Below.alloc ?_ ?_ _ | refine Below.setCell ?_ ?_ _ | refine Below.drew ?_ | refine below_drewN ?_ _ | (simp; done) | (simp; omega) | omega)) (by first | (simp; done) | (simp; omega) | omega)) hok HP.out hn).mono ?_
          rintro e W1 ⟨v1, rfl, ho1, hb⟩
          obtain ⟨A1, c1, hv1, hs1⟩ := sl_of_owns ho1
          subst hv1
          clear ho1
          have hst : Below W0.heap.size W0 W1 := Below.trans (by repeat' (first | with_reducible assumption | with_reducible exact Below.refl _ _ | refine Below.alloc ?_ ?_ _ | refine Below.setCell ?_ ?_ _ | refine Below.drew ?_ | refine below_drewN ?_ _ | (simp; done) | (simp; omega) | omega)) (hb.mono (by first | (simp; done) | (simp; omega) | omega))
          replace hbel := hbel.trans (hst.mono hsz)
          replace hsz := hbel.size
          replace HR := hid (HR.out.below hst hst.size)
          have HX := hid (show InS W1 W1.heap.size A1 n (factsL p ks) from hs1)
          clear hb hst
          obtain ⟨W0, rfl⟩ : ∃ W0 : World, W0 = W1 := ⟨_, rfl⟩
          clear hs1
          go_wp2_with (fail)
          go_loopw [11, 13] (fun v i wr => ∃ k : Nat, k ≤ n ∧ i = .int .i64 k ∧ v = .int .i64 (facP p (ks.take k)) ∧ W0 = wr) (fun _ i _ => n - (intOf i).toNat)
          case atStart => exact ⟨0, by omega, rfl, rfl, rfl⟩
          case round =>
            obtain ⟨k, hk, rfl, rfl, rfl⟩ := hrel
            by_cases hlt : k < n
            · obtain ⟨b, off, y, rfl, hbq, hm, c0⟩ := HX.out.at_ hlt
              obtain ⟨m, hmk⟩ : ∃ m, ks[k]? = some m := ⟨_, List.getElem?_eq_getElem (by have := hlen.out; omega)⟩
              have hy : y = fac p m := by unfold factsL at hm; rw [List.getElem?_map, hmk] at hm; exact (Option.some.inj hm).symm
              have hft := facP_take (p := p) hmk
              obtain ⟨b3, b4⟩ := facP_valid HP.out H0.out (k + 1)
              rw [hft, ← hy] at b3 b4
              rw [← hy] at hft
              obtain ⟨t0, ht0⟩ : ∃ t0, facP p (ks.take k) = t0 := ⟨_, rfl⟩
              rw [ht0] at b3 b4 hft ⊢
              have x1 : IntKind.i64.wrap (t0 * y) = t0 * y := wrap_ok (by omega)
              have Hft := hid hft
              clear hmk hy hft ht0 hm b3 b4
              go_wp2
              exact ⟨⟨k + 1, by omega, by go_num, by rw [Hft.out], trivial⟩, by simp [intOf]; omega⟩
            · obtain rfl : k = n := by omega
              rw [List.take_of_length_le (by rw [hlen.out]; exact Nat.le_refl _), HZ.out]
              clear HX
              by_cases hs300 : S = 300
              · have ds : ((S : Int) == 300) = true := by simp; omega
                go_wp2_with (fail)
                refine (works_any _).mono ?_
                rintro e W1 ⟨rfl, hb⟩
                have hst : Below W0.heap.size W0 W1 := Below.trans (by repeat' (first | with_reducible assumption | with_reducible exact Below.refl _ _ | refine Below.alloc ?_ ?_ _ | refine Below.setCell ?_ ?_ _ | refine Below.drew ?_ | refine below_drewN ?_ _ | (simp; done) | (simp; omega) | omega)) (hb.mono (by first | (simp; done) | (simp; omega) | omega))
                replace hbel := hbel.trans (hst.mono hsz)
                replace hsz := hbel.size
                replace HR := hid (HR.out.below hst hst.size)
                clear hb hst
                obtain ⟨W0, rfl⟩ : ∃ W0 : World, W0 = W1 := ⟨_, rfl⟩
                go_wp2
                go_ret
                exact ⟨rfl, hbel⟩
              · have ds : ((S : Int) == 300) = false := by simp; omega
                have x1 : IntKind.i64.wrap ((S : Int) + 1) = (S : Int) + 1 := wrap_ok (by omega)
                have hz1 : Hid (ways p ks ((S : Int) + 1) = 0) := hid (farP (by have := HP.out; omega) hpos.out _ (.inr (by have := HS.out; omega)))
                go_wp2_with (fail)
                refine (waysL_any _ _ _ _ ks p _ (HR.out.below (by repeat' (first | with_reducible assumption | with_reducible exact Below.refl _ _ | refine Below.alloc ?_ ?_ _ | refine Below.setCell ?_ ?_ _ | refine Below.drew ?_ | refine below_drewN ?_ _ | (simp; done) | (simp; omega) | omega)) (by first | (simp; done) | (simp; omega) | omega)) H0.out HP.out ⟨by omega, by omega⟩).mono ?_
                rw [hz1.out]
                rintro e W1 ⟨rfl, hb⟩
                have hst : Below W0.heap.size W0 W1 := Below.trans (by repeat' (first | with_reducible assumption | with_reducible exact Below.refl _ _ | refine Below.alloc ?_ ?_ _ | refine Below.setCell ?_ ?_ _ | refine Below.drew ?_ | refine below_drewN ?_ _ | (simp; done) | (simp; omega) | omega)) (hb.mono (by first | (simp; done) | (simp; omega) | omega))
                replace hbel := hbel.trans (hst.mono hsz)
                replace hsz := hbel.size
                replace HR := hid (HR.out.below hst hst.size)
                clear hb hst
                obtain ⟨W0, rfl⟩ : ∃ W0 : World, W0 = W1 := ⟨_, rfl⟩
                go_wp2_with (fail)
                refine (works_any _).mono ?_
                rintro e W1 ⟨rfl, hb⟩
                have hst : Below W0.heap.size W0 W1 := Below.trans (by repeat' (first | with_reducible assumption | with_reducible exact Below.refl _ _ | refine Below.alloc ?_ ?_ _ | refine Below.setCell ?_ ?_ _ | refine Below.drew ?_ | refine below_drewN ?_ _ | (simp; done) | (simp; omega) | omega)) (hb.mono (by first | (simp; done) | (simp; omega) | omega))
                replace hbel := hbel.trans (hst.mono hsz)
                replace hsz := hbel.size
                replace HR := hid (HR.out.below hst hst.size)
                clear hb hst
                obtain ⟨W0, rfl⟩ : ∃ W0 : World, W0 = W1 := ⟨_, rfl⟩
                go_wp2
                go_ret
                exact ⟨rfl, hbel⟩

section
open Go.ChangeShapes Go.WideShapes Go.ChangeAt Go.RowKit
set_option maxRecDepth 100000 in
theorem stoneSummed_lifted (os : Os) (started : os.Started) (H : Type) (enc : TypeId × Value → H) :
    ReturnsInHanded {} Try.checked os 9 .any (Rows.stoneSummedSpec.pre6 enc Try.prog Try.f9 Rows.stoneSummedRow.domain false) (Rows.stoneSummedSpec.post enc Try.prog Try.f9 false true false false) := by
  refine returnsInHanded_of_change (C := Try.checked) ownKx started (by kernel_rfl) Try.func9
    (ChangeSpec.witness6 (enc := enc) (C := Try.checked) false ⟨#[], #[.slice none 0 0, .bool false], []⟩ 8 (by kernel_rfl) (by kernel_rfl) (by kernel_rfl) (by kernel_rfl)) ?_
  intro W base args ds gs before hval0 hW hcnd _
  have hval : ∀ (j : Nat) t v, Try.f9.params[j]? = some t → args[j]? = some v → Value.okWide Try.prog W .any base t v := hval0
  have hW' := hW
  obtain ⟨p, q, hA0, hV, rfl, hfz, hnd⟩ := hW
  have hA : DataW.TrodAll enc Try.prog W 0 (fun _ => true) true Try.f9.params.toList args.toList ds p := hA0
  have hlt : ∀ x ∈ p, x.block < W.heap.size := fun x hx => hW'.lt x (List.mem_append_left _ hx)
  have hAll : ∀ W', Below W.heap.size W W' → DataW.TrodAll enc Try.prog W' 0 (fun b => decide (b < W.heap.size)) true Try.f9.params.toList args.toList ds p := fun W' hb => all_below laidOut hb (readable_of (by kernel_rfl)) hlt hA
  rw [Try.params9] at hA hval
  obtain ⟨v0, v1, d0, d1, p0, p1, rfl, rfl, rfl, h0, h1⟩ := trodAll_two hA
  obtain ⟨rfl, rfl⟩ := trodVars_none hV
  clear hA0 hval0
  obtain ⟨A0, n0, c0, rfl⟩ := okWide_slice Try.underlying22 (hval 0 22 v0 rfl rfl)
  obtain ⟨hc0, l0, hl0, hr0⟩ := open_kds h0
  obtain ⟨x1, rfl, rfl, rfl⟩ := open_bool Try.underlying4 (hval 1 4 v1 rfl rfl) h1
  refine (summed_walk W A0 n0 c0 l0 x1 hr0).mono fun e W' ⟨he, hb⟩ => ?_
  subst he
  exact ⟨_, rfl, ⟨_, _, _, [], _, [], hW', trodAll_cons_mk (shut_bool Try.underlying4 _) trodAll_mk0, hAll W' hb, rfl, hb.frame _, fun h => by cases h⟩⟩
/-- The law: whatever the input, it returns true, and the input reads as it did. -/
theorem stoneSummed_holds : Rows.StoneSummedSaid :=
  OpenClaim.holds_of_wide 9 Try.f9 rfl rfl rfl rfl rfl rfl rfl ⟨rfl, rfl, rfl, rfl, rfl⟩ rfl rfl rfl rfl rfl (by kernel_rfl) Try.func9 (by kernel_rfl)
    (of_decide_eq_true (by kernel_rfl)) (by unfold Func.isWrapper; first | (rw [if_pos (by decide +kernel)]; kernel_rfl) | (rw [if_neg (by decide +kernel)]; exact ⟨rfl, rfl⟩))
    (fun os started H enc _ => stoneSummed_lifted os started H enc)
end
end Go.Proofs.Ytolghmhodaphfaa

