/- The statement StonePerfect holds: whatever the arguments, the law returns true and leaves its arguments as they were. -/
import Derived.Test.YtolghmhodaphfaaMq
namespace Go.Proofs.Ytolghmhodaphfaa
open Go.RowKit Go.Shelf
attribute [local go_sem] Oper.semAt_some
set_option maxRecDepth 100000 in
set_option maxHeartbeats 4000000 in
theorem perfectS_walk (w : World) (A : Option Addr) (n c : Nat) (ks : List Kd) (bo : Bool) (x : Int) (hx0 : 0 ≤ x ∧ x ≤ 65535) (hr : KdS w w.heap.size A n ks) :
    Calls Try.prog 10 #[.slice A n c, .bool bo, .int .u16 x] w fun e w' => e = .returned (.bool true) ∧ Below w.heap.size w w' := by
  obtain ⟨W0, hW0⟩ : ∃ W0 : World, W0 = w := ⟨_, rfl⟩
  rw [← hW0] at hr ⊢
  clear hW0
  have HR := hid hr
  clear hr
  have hbel : Below W0.heap.size W0 W0 := Below.refl _ _
  have hsz := hbel.size
  cases hf : fineB ks
  · have Hf := hid hf
    clear hf
    go_enter Try.func10, Try.ntmps10
    go_wp2_with (fail)
    refine (fine_any _ _ _ _ _ (HR.out.below (by repeat' (first | with_reducible assumption | with_reducible exact Below.refl _ _ | refine Below.alloc ?_ ?_ _ | refine Below.setCell ?_ ?_ _ | refine Below.drew ?_ | refine below_drewN ?_ _ | (simp; done) | (simp; omega) | omega)) (by first | (simp; done) | (simp; omega) | omega))).mono ?_
    rw [Hf.out]
    rintro e W1 ⟨rfl, hb⟩
    have hst : Below W0.heap.size W0 W1 := Below.trans (by repeat' (first | with_reducible assumption | with_reducible exact Below.refl _ _ | refine Below.alloc ?_ ?_ _ | refine Below.setCell ?_ ?_ _ | refine Below.drew ?_ | refine below_drewN ?_ _ | (simp; done) | (simp; omega) | omega)) (hb.mono (by first | (simp; done) | (simp; omega) | omega))
    replace hbel := hbel.trans (hst.mono hsz)
    replace hsz := hbel.size
    replace HR := hid (HR.out.below hst hst.size)
    clear hb hst
    obtain ⟨W0, rfl⟩ : ∃ W0 : World, W0 = W1 := ⟨_, rfl⟩
    go_wp2_with (fail)
    refine (works_any _).mono ?_
    rintro e W1 ⟨rfl, hb⟩
    have hst : Below W0.heap.size W0 W1 := Below.trans (by repeat' (first | with_reducible assumption | with_reducible exact Below.refl _ _ | refine Below.alloc ?_ ?_ _ | refine Below.setCell ?_ ?_ _ | refine Below.drew ?_ | refine below_drewN ?_ _ | (simp; done) | (simp; omega) | omega)) (hb.mono (by first | (simp; done) | (simp; omega) | omega))
    replace hbel := hbel.trans (hst.mono hsz)
    replace hsz := hbel.size
    replace HR := hid (HR.out.below hst hst.size)
    clear hb hst
    obtain ⟨W0, rfl⟩ : ∃ W0 : World, W0 = W1 := ⟨_, rfl⟩
    go_wp2
    go_ret
    exact ⟨rfl, hbel⟩
  · have Hf := hid hf
    obtain ⟨h0, h8⟩ := fineB_good hf
    have hlen := hid HR.out.len
    have hn : n ≤ 12 := by have := hlen.out; omega
    have H0 := hid h0
    have hok := hid (List.all_eq_true.1 (checkSet_good h0).2.2.1)
    have hsm := hid (fun k (hk : k ∈ ks) => smallK_of (hok.out k hk))
    obtain ⟨S, hS⟩ : ∃ S : Nat, sumOf ks = S := ⟨(sumOf ks).toNat, by have := sumOf_nonneg (checkSet_good h0).2.2.1; omega⟩
    have hS3 : S ≤ 300 := by have := (checkSet_good h0).2.2.2.2; omega
    have HS := hid hS
    clear hf h0 h8 hS
    obtain ⟨p, hp⟩ : ∃ p, pansOf bo = p := ⟨_, rfl⟩
    have HP := hid (pansOf_or bo)
    rw [hp] at HP
    have Hp := hid hp
    clear hp
    have hop : Hid (openE ks p = 0) := hid (openE_ok H0.out (by rcases HP.out with h | h <;> rw [h] <;> rfl))
    obtain ⟨hx1, hx2⟩ := hx0
    have z1 : IntKind.i64.wrap x = x := wrap_ok (by omega)
    have z0 : IntKind.i64.wrap ((S : Int) + 1) = (S : Int) + 1 := wrap_ok (by omega)
    obtain ⟨a, ha⟩ : ∃ a, x % ((S : Int) + 1) = a := ⟨_, rfl⟩
    have ha0 := Int.emod_nonneg x (b := (S : Int) + 1) (by omega)
    have ha1 := Int.emod_lt_of_pos x (b := (S : Int) + 1) (by omega)
    rw [ha] at ha0 ha1
    have z2 : x.tmod ((S : Int) + 1) = a := by rw [Int.tmod_eq_emod_of_nonneg hx1]; exact ha
    have z3 : IntKind.i64.wrap a = a := wrap_ok (by omega)
    have HAB : Hid (0 ≤ a ∧ a ≤ 300) := hid ⟨ha0, by omega⟩
    have HAS : Hid (a ≤ sumOf ks) := hid (by rw [HS.out]; omega)
    have zS : ((S : Int) + 1 == 0) = false := by simp; omega
    clear ha ha1
    have hfl : Hid ((factsL p ks).length = n) := hid (by unfold factsL; rw [List.length_map]; exact hlen.out)
    rcases perf_cases HP.out H0.out with ⟨q1, q2, q3, q4, q5, q6⟩ | ⟨q1, q2, q3, q4, q5⟩
    · obtain ⟨z, hz⟩ : ∃ z, facP p ks = z := ⟨_, rfl⟩
      obtain ⟨q, hq⟩ : ∃ q, p * S = q := ⟨_, rfl⟩
      rw [hz, HS.out, hq] at q5
      have hqb : 0 ≤ q ∧ q ≤ 600 := by rcases HP.out with h | h <;> rw [h] at hq <;> omega
      have y1 : IntKind.i64.wrap (p * S) = q := by rw [hq]; exact wrap_ok (by omega)
      have y2 : IntKind.i64.wrap (q + 1) = q + 1 := wrap_ok (by omega)
      subst q5
      rw [HS.out] at q3 q4
      have HZ := hid hz
      have Q1 := hid q1
      have Q2 := hid q2
      have Q3 := hid q3
      have Q4 := hid q4
      have Q6 := hid (q6 a HAB.out.1 HAS.out)
      have heq : Hid (eqI (factsL p ks) (factsL p ks) = true) := hid (eqI_t.2 rfl)
      clear hz hq hqb q1 q2 q3 q4 q6
      go_enter Try.func10, Try.ntmps10
      go_wp2_with (fail)
      refine (fine_any _ _ _ _ _ (HR.out.below (by repeat' (first | with_reducible assumption | with_reducible exact Below.refl _ _ | refine Below.alloc ?_ ?_ _ | refine Below.setCell ?_ ?_ _ | refine Below.drew ?_ | refine below_drewN ?_ _ | (simp; done) | (simp; omega) | omega)) (by first | (simp; done) | (simp; omega) | omega))).mono ?_
      rw [Hf.out]
      rintro e W1 ⟨rfl, hb⟩
      have hst : Below W0.heap.size W0 W1 := Below.trans (by repeat' (first | with_reducible assumption | with_reducible exact Below.refl _ _ | refine Below.alloc ?_ ?_ _ | refine Below.setCell ?_ ?_ _ | refine Below.drew ?_ | refine below_drewN ?_ _ | (simp; done) | (simp; omega) | omega)) (hb.mono (by first | (simp; done) | (simp; omega) | omega))
      replace hbel := hbel.trans (hst.mono hsz)
      replace hsz := hbel.size
      replace HR := hid (HR.out.below hst hst.size)
      clear hb hst
      obtain ⟨W0, rfl⟩ : ∃ W0 : World, W0 = W1 := ⟨_, rfl⟩
      go_wp2_with (fail)
      refine (pans_any _ _).mono ?_
      rw [Hp.out]
      rintro e W1 ⟨rfl, hb⟩
      have hst : Below W0.heap.size W0 W1 := Below.trans (by repeat' (first | with_reducible assumption | with_reducible exact Below.refl _ _ | refine Below.alloc ?_ ?_ _ | refine Below.setCell ?_ ?_ _ | refine Below.drew ?_ | refine below_drewN ?_ _ | (simp; done) | (simp; omega) | omega)) (hb.mono (by first | (simp; done) | (simp; omega) | omega))
      replace hbel := hbel.trans (hst.mono hsz)
      replace hsz := hbel.size
      replace HR := hid (HR.out.below hst hst.size)
      clear hb hst
      obtain ⟨W0, rfl⟩ : ∃ W0 : World, W0 = W1 := ⟨_, rfl⟩
      go_wp2_with (fail)
      refine (perfect_any _ _ _ _ ks p (HR.out.below (by repeat' (first | with_reducible assumption | with_reducible exact Below.refl _ _ | refine Below.alloc ?_ ?_ _ | refine Below.setCell ?_ ?_ _ | refine Below.drew ?_ | refine below_drewN ?_ _ | (simp; done) | (simp; omega) | omega)) (by first | (simp; done) | (simp; omega) | omega)) hn).mono ?_
      rw [Q2.out, Q3.out]
      rintro e W1 ⟨rfl, hb⟩
      have hst : Below W0.heap.size W0 W1 := Below.trans (by repeat' (first | with_reducible assumption | with_reducible exact Below.refl _ _ | refine Below.alloc ?_ ?_ _ | refine Below.setCell ?_ ?_ _ | refine Below.drew ?_ | refine below_drewN ?_ _ | (simp; done) | (simp; omega) | omega)) (hb.mono (by first | (simp; done) | (simp; omega) | omega))
      replace hbel := hbel.trans (hst.mono hsz)
      replace hsz := hbel.size
      replace HR := hid (HR.out.below hst hst.size)
      clear hb hst
      obtain ⟨W0, rfl⟩ : ∃ W0 : World, W0 = W1 := ⟨_, rfl⟩
      go_wp2_with (fail)
      refine (factors_any _ _ _ _ ks p (HR.out.below (by repeat' (first | with_reducible assumption | with_reducible exact Below.refl _ _ | refine Below.alloc ?_ ?_ _ | refine Below.setCell ?_ ?_ _ | refine Below.drew ?_ | refine below_drewN ?_ _ | (simp; done) | (simp; omega) | omega)) (by first | (simp; done) | (simp; omega) | omega)) hn).mono ?_
      rw [Q2.out]
      rintro e W1 ⟨v1, rfl, ho1, hb⟩
      rw [if_pos rfl] at ho1
      obtain ⟨A1, c1, hv1, hs1⟩ := sl_of_owns ho1
      subst hv1
      clear ho1
      rw [hfl.out] at hs1 ⊢
      have hst : Below W0.heap.size W0 W1 := Below.trans (by repeat' (first | with_reducible assumption | with_reducible exact Below.refl _ _ | refine Below.alloc ?_ ?_ _ | refine Below.setCell ?_ ?_ _ | refine Below.drew ?_ | refine below_drewN ?_ _ | (simp; done) | (simp; omega) | omega)) (hb.mono (by first | (simp; done) | (simp; omega) | omega))
      replace hbel := hbel.trans (hst.mono hsz)
      replace hsz := hbel.size
      replace HR := hid (HR.out.below hst hst.size)
      have HX := hid (show InS W1 W1.heap.size A1 n (factsL p ks) from hs1)
      clear hb hst
      obtain ⟨W0, rfl⟩ : ∃ W0 : World, W0 = W1 := ⟨_, rfl⟩
      clear hs1
      go_wp2_with (fail)
      go_loopw [12, 13, 14] (fun nx b i wr => ∃ k : Nat, k ≤ n ∧ i = .int .i64 k ∧ nx = .int .i64 (facP p (ks.take k)) ∧ b = .bool (isPf p 1 (ks.take k)) ∧ W0 = wr) (fun _ _ i _ => n - (intOf i).toNat)
      case atStart => exact ⟨0, by omega, rfl, rfl, rfl, rfl⟩
      case round =>
        obtain ⟨k, hk, rfl, rfl, rfl, rfl⟩ := hrel
        by_cases hlt : k < n
        · obtain ⟨bv, hbv⟩ : ∃ bv, isPf p 1 (ks.take k) = bv := ⟨_, rfl⟩
          rw [hbv]
          cases bv
          · exact absurd ((isPf_off hbv).symm.trans Q1.out) (by simp)
          · obtain ⟨b, off, m, rfl, hbq, hm, c0, c1'⟩ := HR.out.at_ hlt
            obtain ⟨m1, m2, m3, m4⟩ := okK_le (hok.out m (List.mem_of_getElem? hm))
            have hft := facP_take (p := p) hm
            have hit := isPf_take (p := p) hm
            rw [hbv, Bool.true_and] at hit
            obtain ⟨b3, b4⟩ := facP_valid HP.out H0.out (k + 1)
            obtain ⟨b5, b6⟩ := facP_valid HP.out H0.out k
            rw [hft] at b3 b4
            obtain ⟨t0, ht0⟩ : ∃ t0, facP p (ks.take k) = t0 := ⟨_, rfl⟩
            rw [ht0] at b3 b4 hft hit ⊢
            have hpm : p * m.many = m.many ∨ p * m.many = 2 * m.many := by rcases HP.out with h | h <;> rw [h] <;> omega
            obtain ⟨q, hq⟩ : ∃ q, p * m.many = q := ⟨_, rfl⟩
            have x0 : IntKind.i64.wrap (p * m.many) = q := by rw [hq]; exact wrap_ok (by omega)
            have x1 : IntKind.i64.wrap (q + 1) = q + 1 := wrap_ok (by omega)
            have hfq : fac p m = q + 1 := by unfold fac; rw [hq]
            rw [hfq] at b3 b4 hft
            have x2 : IntKind.i64.wrap (t0 * (q + 1)) = t0 * (q + 1) := wrap_ok (by omega)
            have Hft := hid hft
            have Hit := hid hit
            clear hft hit ht0 hm b3 b4 b5 b6 hpm hq hfq hbv
            go_wp2
            exact ⟨⟨k + 1, by omega, by go_num, by rw [Hft.out], by rw [Hit.out], trivial⟩, by simp [intOf]; omega⟩
        · obtain rfl : k = n := by omega
          rw [List.take_of_length_le (by rw [hlen.out]; exact Nat.le_refl _), HZ.out, Q1.out]
          go_wp2_with (fail)
          refine (refSum_any _ _ _ _ ks (HR.out.below (by repeat' (first | with_reducible assumption | with_reducible exact Below.refl _ _ | refine Below.alloc ?_ ?_ _ | refine Below.setCell ?_ ?_ _ | refine Below.drew ?_ | refine below_drewN ?_ _ | (simp; done) | (simp; omega) | omega)) (by first | (simp; done) | (simp; omega) | omega)) (by omega) hsm.out).mono ?_
          rw [HS.out]
          rintro e W1 ⟨rfl, hb⟩
          have hst : Below W0.heap.size W0 W1 := Below.trans (by repeat' (first | with_reducible assumption | with_reducible exact Below.refl _ _ | refine Below.alloc ?_ ?_ _ | refine Below.setCell ?_ ?_ _ | refine Below.drew ?_ | refine below_drewN ?_ _ | (simp; done) | (simp; omega) | omega)) (hb.mono (by first | (simp; done) | (simp; omega) | omega))
          replace hbel := hbel.trans (hst.mono hsz)
          replace hsz := hbel.size
          replace HR := hid (HR.out.below hst hst.size)
          replace HX := hid (HX.out.below hst hst.size)
          clear hb hst
          obtain ⟨W0, rfl⟩ : ∃ W0 : World, W0 = W1 := ⟨_, rfl⟩
          go_wp2_with (fail)
          refine (upto_any _ _ _ _ ks p (HR.out.below (by repeat' (first | with_reducible assumption | with_reducible exact Below.refl _ _ | refine Below.alloc ?_ ?_ _ | refine Below.setCell ?_ ?_ _ | refine Below.drew ?_ | refine below_drewN ?_ _ | (simp; done) | (simp; omega) | omega)) (by first | (simp; done) | (simp; omega) | omega)) hn).mono ?_
          rw [Q4.out, hop.out]
          rintro e W1 ⟨rfl, hb⟩
          have hst : Below W0.heap.size W0 W1 := Below.trans (by repeat' (first | with_reducible assumption | with_reducible exact Below.refl _ _ | refine Below.alloc ?_ ?_ _ | refine Below.setCell ?_ ?_ _ | refine Below.drew ?_ | refine below_drewN ?_ _ | (simp; done) | (simp; omega) | omega)) (hb.mono (by first | (simp; done) | (simp; omega) | omega))
          replace hbel := hbel.trans (hst.mono hsz)
          replace hsz := hbel.size
          replace HR := hid (HR.out.below hst hst.size)
          replace HX := hid (HX.out.below hst hst.size)
          clear hb hst
          obtain ⟨W0, rfl⟩ : ∃ W0 : World, W0 = W1 := ⟨_, rfl⟩
          go_wp2_with (fail)
          refine (waysL_any _ _ _ _ ks p a (HR.out.below (by repeat' (first | with_reducible assumption | with_reducible exact Below.refl _ _ | refine Below.alloc ?_ ?_ _ | refine Below.setCell ?_ ?_ _ | refine Below.drew ?_ | refine below_drewN ?_ _ | (simp; done) | (simp; omega) | omega)) (by first | (simp; done) | (simp; omega) | omega)) H0.out HP.out HAB.out).mono ?_
          rw [Q6.out]
          rintro e W1 ⟨rfl, hb⟩
          have hst : Below W0.heap.size W0 W1 := Below.trans (by repeat' (first | with_reducible assumption | with_reducible exact Below.refl _ _ | refine Below.alloc ?_ ?_ _ | refine Below.setCell ?_ ?_ _ | refine Below.drew ?_ | refine below_drewN ?_ _ | (simp; done) | (simp; omega) | omega)) (hb.mono (by first | (simp; done) | (simp; omega) | omega))
          replace hbel := hbel.trans (hst.mono hsz)
          replace hsz := hbel.size
          replace HR := hid (HR.out.below hst hst.size)
          replace HX := hid (HX.out.below hst hst.size)
          clear hb hst
          obtain ⟨W0, rfl⟩ : ∃ W0 : World, W0 = W1 := ⟨_, rfl⟩
          go_wp2_with (fail)
          refine (factorsOf_any _ _ _ _ ks p (HR.out.below (by repeat' (first | with_reducible assumption | with_reducible exact Below.refl _ _ | refine Below.alloc ?_ ?_ _ | refine Below.setCell ?_ ?_ _ | refine Below.drew ?_ | refine below_drewN ?_ _ | (simp; done) | (simp; omega) | omega)) (by first | (simp; done) | (simp; omega) | omega)) hok HP.out hn).mono ?_
          rintro e W1 ⟨v2, rfl, ho2, hb⟩
          obtain ⟨A2, c2, hv2, hs2⟩ := sl_of_owns ho2
          subst hv2
          clear ho2
          have hst : Below W0.heap.size W0 W1 := Below.trans (by repeat' (first | with_reducible assumption | with_reducible exact Below.refl _ _ | refine Below.alloc ?_ ?_ _ | refine Below.setCell ?_ ?_ _ | refine Below.drew ?_ | refine below_drewN ?_ _ | (simp; done) | (simp; omega) | omega)) (hb.mono (by first | (simp; done) | (simp; omega) | omega))
          replace hbel := hbel.trans (hst.mono hsz)
          replace hsz := hbel.size
          replace HR := hid (HR.out.below hst hst.size)
          replace HX := hid (HX.out.below hst hst.size)
          have HY := hid (show InS W1 W1.heap.size A2 _ (factsL p ks) from hs2)
          clear hb hst
          obtain ⟨W0, rfl⟩ : ∃ W0 : World, W0 = W1 := ⟨_, rfl⟩
          clear hs2
          go_wp2_with (fail)
          refine (longs_any _ _ _ _ _ _ _ (factsL p ks) (factsL p ks) (HX.out.below (by repeat' (first | with_reducible assumption | with_reducible exact Below.refl _ _ | refine Below.alloc ?_ ?_ _ | refine Below.setCell ?_ ?_ _ | refine Below.drew ?_ | refine below_drewN ?_ _ | (simp; done) | (simp; omega) | omega)) (by first | (simp; done) | (simp; omega) | omega)) (HY.out.below (by repeat' (first | with_reducible assumption | with_reducible exact Below.refl _ _ | refine Below.alloc ?_ ?_ _ | refine Below.setCell ?_ ?_ _ | refine Below.drew ?_ | refine below_drewN ?_ _ | (simp; done) | (simp; omega) | omega)) (by first | (simp; done) | (simp; omega) | omega)) (by omega)).mono ?_
          rw [heq.out]
          rintro e W1 ⟨rfl, hb⟩
          have hst : Below W0.heap.size W0 W1 := Below.trans (by repeat' (first | with_reducible assumption | with_reducible exact Below.refl _ _ | refine Below.alloc ?_ ?_ _ | refine Below.setCell ?_ ?_ _ | refine Below.drew ?_ | refine below_drewN ?_ _ | (simp; done) | (simp; omega) | omega)) (hb.mono (by first | (simp; done) | (simp; omega) | omega))
          replace hbel := hbel.trans (hst.mono hsz)
          replace hsz := hbel.size
          replace HR := hid (HR.out.below hst hst.size)
          replace HX := hid (HX.out.below hst hst.size)
          replace HY := hid (HY.out.below hst hst.size)
          clear hb hst
          obtain ⟨W0, rfl⟩ : ∃ W0 : World, W0 = W1 := ⟨_, rfl⟩
          go_wp2_with (fail)
          refine (works_any _).mono ?_
          rintro e W1 ⟨rfl, hb⟩
          have hst : Below W0.heap.size W0 W1 := Below.trans (by repeat' (first | with_reducible assumption | with_reducible exact Below.refl _ _ | refine Below.alloc ?_ ?_ _ | refine Below.setCell ?_ ?_ _ | refine Below.drew ?_ | refine below_drewN ?_ _ | (simp; done) | (simp; omega) | omega)) (hb.mono (by first | (simp; done) | (simp; omega) | omega))
          replace hbel := hbel.trans (hst.mono hsz)
          replace hsz := hbel.size
          replace HR := hid (HR.out.below hst hst.size)
          replace HX := hid (HX.out.below hst hst.size)
          replace HY := hid (HY.out.below hst hst.size)
          clear hb hst
          obtain ⟨W0, rfl⟩ : ∃ W0 : World, W0 = W1 := ⟨_, rfl⟩
          go_wp2
          go_ret
          exact ⟨rfl, hbel⟩
    · obtain ⟨z, hz⟩ : ∃ z, perfV p ks = z := ⟨_, rfl⟩
      rw [hz] at q3 q4 q5
      rw [HS.out] at q4
      have hmin : min z (S : Int) = z := by omega
      have hmax : max 0 z = z := by omega
      have Q1 := hid q1
      have Q2 := hid q2
      have Q3 := hid hz
      obtain ⟨u, hu⟩ : ∃ u, ways p ks z = u := ⟨_, rfl⟩
      rw [hu] at q5
      have d5 : (u != 1) = true := by simpa using q5
      have HU := hid hu
      clear hz hu q1 q2 q5
      go_enter Try.func10, Try.ntmps10
      go_wp2_with (fail)
      refine (fine_any _ _ _ _ _ (HR.out.below (by repeat' (first | with_reducible assumption | with_reducible exact Below.refl _ _ | refine Below.alloc ?_ ?_ _ | refine Below.setCell ?_ ?_ _ | refine Below.drew ?_ | refine below_drewN ?_ _ | (simp; done) | (simp; omega) | omega)) (by first | (simp; done) | (simp; omega) | omega))).mono ?_
      rw [Hf.out]
      rintro e W1 ⟨rfl, hb⟩
      have hst : Below W0.heap.size W0 W1 := Below.trans (by repeat' (first | with_reducible assumption | with_reducible exact Below.refl _ _ | refine Below.alloc ?_ ?_ _ | refine Below.setCell ?_ ?_ _ | refine Below.drew ?_ | refine below_drewN ?_ _ | (simp; done) | (simp; omega) | omega)) (hb.mono (by first | (simp; done) | (simp; omega) | omega))
      replace hbel := hbel.trans (hst.mono hsz)
      replace hsz := hbel.size
      replace HR := hid (HR.out.below hst hst.size)
      clear hb hst
      obtain ⟨W0, rfl⟩ : ∃ W0 : World, W0 = W1 := ⟨_, rfl⟩
      go_wp2_with (fail)
      refine (pans_any _ _).mono ?_
      rw [Hp.out]
      rintro e W1 ⟨rfl, hb⟩
      have hst : Below W0.heap.size W0 W1 := Below.trans (by repeat' (first | with_reducible assumption | with_reducible exact Below.refl _ _ | refine Below.alloc ?_ ?_ _ | refine Below.setCell ?_ ?_ _ | refine Below.drew ?_ | refine below_drewN ?_ _ | (simp; done) | (simp; omega) | omega)) (hb.mono (by first | (simp; done) | (simp; omega) | omega))
      replace hbel := hbel.trans (hst.mono hsz)
      replace hsz := hbel.size
      replace HR := hid (HR.out.below hst hst.size)
      clear hb hst
      obtain ⟨W0, rfl⟩ : ∃ W0 : World, W0 = W1 := ⟨_, rfl⟩
      go_wp2_with (fail)
      refine (perfect_any _ _ _ _ ks p (HR.out.below (by repeat' (first | with_reducible assumption | with_reducible exact Below.refl _ _ | refine Below.alloc ?_ ?_ _ | refine Below.setCell ?_ ?_ _ | refine Below.drew ?_ | refine below_drewN ?_ _ | (simp; done) | (simp; omega) | omega)) (by first | (simp; done) | (simp; omega) | omega)) hn).mono ?_
      rw [Q2.out, Q3.out]
      rintro e W1 ⟨rfl, hb⟩
      have hst : Below W0.heap.size W0 W1 := Below.trans (by repeat' (first | with_reducible assumption | with_reducible exact Below.refl _ _ | refine Below.alloc ?_ ?_ _ | refine Below.setCell ?_ ?_ _ | refine Below.drew ?_ | refine below_drewN ?_ _ | (simp; done) | (simp; omega) | omega)) (hb.mono (by first | (simp; done) | (simp; omega) | omega))
      replace hbel := hbel.trans (hst.mono hsz)
      replace hsz := hbel.size
      replace HR := hid (HR.out.below hst hst.size)
      clear hb hst
      obtain ⟨W0, rfl⟩ : ∃ W0 : World, W0 = W1 := ⟨_, rfl⟩
      go_wp2_with (fail)
      refine (factors_any _ _ _ _ ks p (HR.out.below (by repeat' (first | with_reducible assumption | with_reducible exact Below.refl _ _ | refine Below.alloc ?_ ?_ _ | refine Below.setCell ?_ ?_ _ | refine Below.drew ?_ | refine below_drewN ?_ _ | (simp; done) | (simp; omega) | omega)) (by first | (simp; done) | (simp; omega) | omega)) hn).mono ?_
      rw [Q2.out]
      rintro e W1 ⟨v1, rfl, ho1, hb⟩
      rw [if_neg (by omega)] at ho1
      obtain ⟨A1, c1, hv1, hs1⟩ := sl_of_owns ho1
      subst hv1
      clear ho1
      have hst : Below W0.heap.size W0 W1 := Below.trans (by repeat' (first | with_reducible assumption | with_reducible exact Below.refl _ _ | refine Below.alloc ?_ ?_ _ | refine Below.setCell ?_ ?_ _ | refine Below.drew ?_ | refine below_drewN ?_ _ | (simp; done) | (simp; omega) | omega)) (hb.mono (by first | (simp; done) | (simp; omega) | omega))
      replace hbel := hbel.trans (hst.mono hsz)
      replace hsz := hbel.size
      replace HR := hid (HR.out.below hst hst.size)
      have HX := hid (show InS W1 W1.heap.size A1 0 [] from hs1)
      clear hb hst
      obtain ⟨W0, rfl⟩ : ∃ W0 : World, W0 = W1 := ⟨_, rfl⟩
      clear hs1
      go_wp2_with (fail)
      go_loopw [12, 13, 14] (fun nx b i wr => ∃ k : Nat, k ≤ n ∧ i = .int .i64 k ∧ nx = .int .i64 (facP p (ks.take k)) ∧ b = .bool (isPf p 1 (ks.take k)) ∧ W0 = wr) (fun _ _ i _ => n - (intOf i).toNat)
      case atStart => exact ⟨0, by omega, rfl, rfl, rfl, rfl⟩
      case round =>
        obtain ⟨k, hk, rfl, rfl, rfl, rfl⟩ := hrel
        by_cases hlt : k < n
        · obtain ⟨bv, hbv⟩ : ∃ bv, isPf p 1 (ks.take k) = bv := ⟨_, rfl⟩
          rw [hbv]
          cases bv
          · obtain ⟨t0, ht0⟩ : ∃ t0, facP p (ks.take k) = t0 := ⟨_, rfl⟩
            rw [ht0]
            clear ht0 hbv
            go_wp2_with (fail)
            refine (refSum_any _ _ _ _ ks (HR.out.below (by repeat' (first | with_reducible assumption | with_reducible exact Below.refl _ _ | refine Below.alloc ?_ ?_ _ | refine Below.setCell ?_ ?_ _ | refine Below.drew ?_ | refine below_drewN ?_ _ | (simp; done) | (simp; omega) | omega)) (by first | (simp; done) | (simp; omega) | omega)) (by omega) hsm.out).mono ?_
            rw [HS.out]
            rintro e W1 ⟨rfl, hb⟩
            have hst : Below W0.heap.size W0 W1 := Below.trans (by repeat' (first | with_reducible assumption | with_reducible exact Below.refl _ _ | refine Below.alloc ?_ ?_ _ | refine Below.setCell ?_ ?_ _ | refine Below.drew ?_ | refine below_drewN ?_ _ | (simp; done) | (simp; omega) | omega)) (hb.mono (by first | (simp; done) | (simp; omega) | omega))
            replace hbel := hbel.trans (hst.mono hsz)
            replace hsz := hbel.size
            replace HR := hid (HR.out.below hst hst.size)
            replace HX := hid (HX.out.below hst hst.size)
            clear hb hst
            obtain ⟨W0, rfl⟩ : ∃ W0 : World, W0 = W1 := ⟨_, rfl⟩
            go_wp2_with (fail)
            refine (waysL_any _ _ _ _ ks p z (HR.out.below (by repeat' (first | with_reducible assumption | with_reducible exact Below.refl _ _ | refine Below.alloc ?_ ?_ _ | refine Below.setCell ?_ ?_ _ | refine Below.drew ?_ | refine below_drewN ?_ _ | (simp; done) | (simp; omega) | omega)) (by first | (simp; done) | (simp; omega) | omega)) H0.out HP.out ⟨by omega, by omega⟩).mono ?_
            rw [HU.out]
            rintro e W1 ⟨rfl, hb⟩
            have hst : Below W0.heap.size W0 W1 := Below.trans (by repeat' (first | with_reducible assumption | with_reducible exact Below.refl _ _ | refine Below.alloc ?_ ?_ _ | refine Below.setCell ?_ ?_ _ | refine Below.drew ?_ | refine below_drewN ?_ _ | (simp; done) | (simp; omega) | omega)) (hb.mono (by first | (simp; done) | (simp; omega) | omega))
            replace hbel := hbel.trans (hst.mono hsz)
            replace hsz := hbel.size
            replace HR := hid (HR.out.below hst hst.size)
            replace HX := hid (HX.out.below hst hst.size)
            clear hb hst
            obtain ⟨W0, rfl⟩ : ∃ W0 : World, W0 = W1 := ⟨_, rfl⟩
            go_wp2_with (fail)
            refine (works_any _).mono ?_
            rintro e W1 ⟨rfl, hb⟩
            have hst : Below W0.heap.size W0 W1 := Below.trans (by repeat' (first | with_reducible assumption | with_reducible exact Below.refl _ _ | refine Below.alloc ?_ ?_ _ | refine Below.setCell ?_ ?_ _ | refine Below.drew ?_ | refine below_drewN ?_ _ | (simp; done) | (simp; omega) | omega)) (hb.mono (by first | (simp; done) | (simp; omega) | omega))
            replace hbel := hbel.trans (hst.mono hsz)
            replace hsz := hbel.size
            replace HR := hid (HR.out.below hst hst.size)
            replace HX := hid (HX.out.below hst hst.size)
            clear hb hst
            obtain ⟨W0, rfl⟩ : ∃ W0 : World, W0 = W1 := ⟨_, rfl⟩
            go_wp2
            go_ret
            exact ⟨rfl, hbel⟩
          · obtain ⟨b, off, m, rfl, hbq, hm, c0, c1'⟩ := HR.out.at_ hlt
            obtain ⟨m1, m2, m3, m4⟩ := okK_le (hok.out m (List.mem_of_getElem? hm))
            have hft := facP_take (p := p) hm
            have hit := isPf_take (p := p) hm
            rw [hbv, Bool.true_and] at hit
            obtain ⟨b3, b4⟩ := facP_valid HP.out H0.out (k + 1)
            obtain ⟨b5, b6⟩ := facP_valid HP.out H0.out k
            rw [hft] at b3 b4
            obtain ⟨t0, ht0⟩ : ∃ t0, facP p (ks.take k) = t0 := ⟨_, rfl⟩
            rw [ht0] at b3 b4 hft hit ⊢
            have hpm : p * m.many = m.many ∨ p * m.many = 2 * m.many := by rcases HP.out with h | h <;> rw [h] <;> omega
            obtain ⟨q, hq⟩ : ∃ q, p * m.many = q := ⟨_, rfl⟩
            have x0 : IntKind.i64.wrap (p * m.many) = q := by rw [hq]; exact wrap_ok (by omega)
            have x1 : IntKind.i64.wrap (q + 1) = q + 1 := wrap_ok (by omega)
            have hfq : fac p m = q + 1 := by unfold fac; rw [hq]
            rw [hfq] at b3 b4 hft
            have x2 : IntKind.i64.wrap (t0 * (q + 1)) = t0 * (q + 1) := wrap_ok (by omega)
            have Hft := hid hft
            have Hit := hid hit
            clear hft hit ht0 hm b3 b4 b5 b6 hpm hq hfq hbv
            go_wp2
            exact ⟨⟨k + 1, by omega, by go_num, by rw [Hft.out], by rw [Hit.out], trivial⟩, by simp [intOf]; omega⟩
        · obtain rfl : k = n := by omega
          rw [List.take_of_length_le (by rw [hlen.out]; exact Nat.le_refl _), Q1.out]
          obtain ⟨t0, ht0⟩ : ∃ t0, facP p ks = t0 := ⟨_, rfl⟩
          rw [ht0]
          clear ht0
          go_wp2_with (fail)
          refine (refSum_any _ _ _ _ ks (HR.out.below (by repeat' (first | with_reducible assumption | with_reducible exact Below.refl _ _ | refine Below.alloc ?_ ?_ _ | refine Below.setCell ?_ ?_ _ | refine Below.drew ?_ | refine below_drewN ?_ _ | (simp; done) | (simp; omega) | omega)) (by first | (simp; done) | (simp; omega) | omega)) (by omega) hsm.out).mono ?_
          rw [HS.out]
          rintro e W1 ⟨rfl, hb⟩
          have hst : Below W0.heap.size W0 W1 := Below.trans (by repeat' (first | with_reducible assumption | with_reducible exact Below.refl _ _ | refine Below.alloc ?_ ?_ _ | refine Below.setCell ?_ ?_ _ | refine Below.drew ?_ | refine below_drewN ?_ _ | (simp; done) | (simp; omega) | omega)) (hb.mono (by first | (simp; done) | (simp; omega) | omega))
          replace hbel := hbel.trans (hst.mono hsz)
          replace hsz := hbel.size
          replace HR := hid (HR.out.below hst hst.size)
          replace HX := hid (HX.out.below hst hst.size)
          clear hb hst
          obtain ⟨W0, rfl⟩ : ∃ W0 : World, W0 = W1 := ⟨_, rfl⟩
          go_wp2_with (fail)
          refine (waysL_any _ _ _ _ ks p z (HR.out.below (by repeat' (first | with_reducible assumption | with_reducible exact Below.refl _ _ | refine Below.alloc ?_ ?_ _ | refine Below.setCell ?_ ?_ _ | refine Below.drew ?_ | refine below_drewN ?_ _ | (simp; done) | (simp; omega) | omega)) (by first | (simp; done) | (simp; omega) | omega)) H0.out HP.out ⟨by omega, by omega⟩).mono ?_
          rw [HU.out]
          rintro e W1 ⟨rfl, hb⟩
          have hst : Below W0.heap.size W0 W1 := Below.trans (by repeat' (first | with_reducible assumption | with_reducible exact Below.refl _ _ | refine Below.alloc ?_ ?_ _ | refine Below.setCell ?_ ?_ _ | refine Below.drew ?_ | refine below_drewN ?_ _ | (simp; done) | (simp; omega) | omega)) (hb.mono (by first | (simp; done) | (simp; omega) | omega))
          replace hbel := hbel.trans (hst.mono hsz)
          replace hsz := hbel.size
          replace HR := hid (HR.out.below hst hst.size)
          replace HX := hid (HX.out.below hst hst.size)
          clear hb hst
          obtain ⟨W0, rfl⟩ : ∃ W0 : World, W0 = W1 := ⟨_, rfl⟩
          go_wp2_with (fail)
          refine (works_any _).mono ?_
          rintro e W1 ⟨rfl, hb⟩
          have hst : Below W0.heap.size W0 W1 := Below.trans (by repeat' (first | with_reducible assumption | with_reducible exact Below.refl _ _ | refine Below.alloc ?_ ?_ _ | refine Below.setCell ?_ ?_ _ | refine Below.drew ?_ | refine below_drewN ?_ _ | (simp; done) | (simp; omega) | omega)) (hb.mono (by first | (simp; done) | (simp; omega) | omega))
          replace hbel := hbel.trans (hst.mono hsz)
          replace hsz := hbel.size
          replace HR := hid (HR.out.below hst hst.size)
          replace HX := hid (HX.out.below hst hst.size)
          clear hb hst
          obtain ⟨W0, rfl⟩ : ∃ W0 : World, W0 = W1 := ⟨_, rfl⟩
          go_wp2
          go_ret
          exact ⟨rfl, hbel⟩

section
open Go.ChangeShapes Go.WideShapes Go.ChangeAt Go.RowKit
set_option maxRecDepth 100000 in
theorem stonePerfect_lifted (os : Os) (started : os.Started) (H : Type) (enc : TypeId × Value → H) :
    ReturnsInHanded {} Try.checked os 10 .any (Rows.stonePerfectSpec.pre6 enc Try.prog Try.f10 Rows.stonePerfectRow.domain false) (Rows.stonePerfectSpec.post enc Try.prog Try.f10 false true false false) := by
  refine returnsInHanded_of_change (C := Try.checked) ownKx started (by kernel_rfl) Try.func10
    (ChangeSpec.witness6 (enc := enc) (C := Try.checked) false ⟨#[], #[.slice none 0 0, .bool false, .int .u16 0], []⟩ 8 (by kernel_rfl) (by kernel_rfl) (by kernel_rfl) (by kernel_rfl)) ?_
  intro W base args ds gs before hval0 hW hcnd _
  have hval : ∀ (j : Nat) t v, Try.f10.params[j]? = some t → args[j]? = some v → Value.okWide Try.prog W .any base t v := hval0
  have hW' := hW
  obtain ⟨p, q, hA0, hV, rfl, hfz, hnd⟩ := hW
  have hA : DataW.TrodAll enc Try.prog W 0 (fun _ => true) true Try.f10.params.toList args.toList ds p := hA0
  have hlt : ∀ x ∈ p, x.block < W.heap.size := fun x hx => hW'.lt x (List.mem_append_left _ hx)
  have hAll : ∀ W', Below W.heap.size W W' → DataW.TrodAll enc Try.prog W' 0 (fun b => decide (b < W.heap.size)) true Try.f10.params.toList args.toList ds p := fun W' hb => all_below laidOut hb (readable_of (by kernel_rfl)) hlt hA
  rw [Try.params10] at hA hval
  obtain ⟨v0, v1, v2, d0, d1, d2, p0, p1, p2, rfl, rfl, rfl, h0, h1, h2⟩ := trodAll_three hA
  obtain ⟨rfl, rfl⟩ := trodVars_none hV
  clear hA0 hval0
  obtain ⟨A0, n0, c0, rfl⟩ := okWide_slice Try.underlying22 (hval 0 22 v0 rfl rfl)
  obtain ⟨hc0, l0, hl0, hr0⟩ := open_kds h0
  obtain ⟨x1, rfl, rfl, rfl⟩ := open_bool Try.underlying4 (hval 1 4 v1 rfl rfl) h1
  obtain ⟨x2, rfl, rfl, rfl, wx2⟩ := open_int Try.underlying50 (hval 2 50 v2 rfl rfl) h2
  refine (perfectS_walk W A0 n0 c0 l0 x1 x2 (u16_bd wx2) hr0).mono fun e W' ⟨he, hb⟩ => ?_
  subst he
  exact ⟨_, rfl, ⟨_, _, _, [], _, [], hW', trodAll_cons_mk (shut_bool Try.underlying4 _) trodAll_mk0, hAll W' hb, rfl, hb.frame _, fun h => by cases h⟩⟩
/-- The law: whatever the input, it returns true, and the input reads as it did. -/
theorem stonePerfect_holds : Rows.StonePerfectSaid :=
  OpenClaim.holds_of_wide 10 Try.f10 rfl rfl rfl rfl rfl rfl rfl ⟨rfl, rfl, rfl, rfl, rfl⟩ rfl rfl rfl rfl rfl (by kernel_rfl) Try.func10 (by kernel_rfl)
    (of_decide_eq_true (by kernel_rfl)) (by unfold Func.isWrapper; first | (rw [if_pos (by decide +kernel)]; kernel_rfl) | (rw [if_neg (by decide +kernel)]; exact ⟨rfl, rfl⟩))
    (fun os started H enc _ => stonePerfect_lifted os started H enc)
end
end Go.Proofs.Ytolghmhodaphfaa

