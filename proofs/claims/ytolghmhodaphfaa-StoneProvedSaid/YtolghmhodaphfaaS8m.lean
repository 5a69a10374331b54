/- The statement StoneProved holds: whatever the arguments, the law returns true and leaves its arguments as they were. -/
import Derived.Test.YtolghmhodaphfaaMq
namespace Go.Proofs.Ytolghmhodaphfaa
open Go.RowKit Go.Shelf
attribute [local go_sem] Oper.semAt_some
set_option maxRecDepth 100000 in
set_option maxHeartbeats 4000000 in
theorem proved_walk (w : World) (A : Option Addr) (n c : Nat) (ks : List Kd) (bo : Bool) (A' : Option Addr) (n' c' : Nat) (l : List Int) (x : Int) (hx0 : 0 ≤ x ∧ x ≤ 65535) (hr : KdS w w.heap.size A n ks) (hl : InS w w.heap.size A' n' l) :
    Calls Try.prog 8 #[.slice A n c, .bool bo, .slice A' n' c', .int .u16 x] w fun e w' => e = .returned (.bool true) ∧ Below w.heap.size w w' := by
  obtain ⟨W0, hW0⟩ : ∃ W0 : World, W0 = w := ⟨_, rfl⟩
  rw [← hW0] at hr hl ⊢
  clear hW0
  have HR := hid hr
  have HL := hid hl
  clear hr hl
  have hbel : Below W0.heap.size W0 W0 := Below.refl _ _
  have hsz := hbel.size
  cases hf : fineB ks
  · have Hf := hid hf
    clear hf
    go_enter Try.func8, Try.ntmps8
    go_wp2_with (fail)
    refine (fine_any _ _ _ _ _ (HR.out.below (by repeat' (first | with_reducible assumption | with_reducible exact Below.refl _ _ | refine Below.alloc ?_ ?_ _ | refine Below.setCell ?_ ?_ _ | refine Below.drew ?_ | refine below_drewN ?_ _ | (simp; done) | (simp; omega) | omega)) (by first | (simp; done) | (simp; omega) | omega))).mono ?_
    rw [Hf.out]
    rintro e W1 ⟨rfl, hb⟩
    have hst : Below W0.heap.size W0 W1 := Below.trans (by repeat' (first | with_reducible assumption | with_reducible exact Below.refl _ _ | refine Below.alloc ?_ ?_ _ | refine Below.setCell ?_ ?_ _ | refine Below.drew ?_ | refine below_drewN ?_ _ | (simp; done) | (simp; omega) | omega)) (hb.mono (by first | (simp; done) | (simp; omega) | omega))
    replace hbel := hbel.trans (hst.mono hsz)
    replace hsz := hbel.size
    replace HR := hid (HR.out.below hst hst.size)
    replace HL := hid (HL.out.below hst hst.size)
    clear hb hst
    obtain ⟨W0, rfl⟩ : ∃ W0 : World, W0 = W1 := ⟨_, rfl⟩
    go_wp2_with (fail)
    refine (works_any _).mono ?_
    rintro e W1 ⟨rfl, hb⟩
    have hst : Below W0.heap.size W0 W1 := Below.trans (by repeat' (first | with_reducible assumption | with_reducible exact Below.refl _ _ | refine Below.alloc ?_ ?_ _ | refine Below.setCell ?_ ?_ _ | refine Below.drew ?_ | refine below_drewN ?_ _ | (simp; done) | (simp; omega) | omega)) (hb.mono (by first | (simp; done) | (simp; omega) | omega))
    replace hbel := hbel.trans (hst.mono hsz)
    replace hsz := hbel.size
    replace HR := hid (HR.out.below hst hst.size)
    replace HL := hid (HL.out.below hst hst.size)
    clear hb hst
    obtain ⟨W0, rfl⟩ : ∃ W0 : World, W0 = W1 := ⟨_, rfl⟩
    go_wp2
    go_ret
    exact ⟨rfl, hbel⟩
  · have Hf := hid hf
    obtain ⟨h0, h8⟩ := fineB_good hf
    have hn : n ≤ 12 := by have := HR.out.len; omega
    have H0 := hid h0
    clear hf h0 h8
    by_cases hg2 : 12 < n'
    · have Hg2 := hid (decide_eq_true hg2)
      clear hg2
      go_enter Try.func8, Try.ntmps8
      go_wp2_with (fail)
      refine (fine_any _ _ _ _ _ (HR.out.below (by repeat' (first | with_reducible assumption | with_reducible exact Below.refl _ _ | refine Below.alloc ?_ ?_ _ | refine Below.setCell ?_ ?_ _ | refine Below.drew ?_ | refine below_drewN ?_ _ | (simp; done) | (simp; omega) | omega)) (by first | (simp; done) | (simp; omega) | omega))).mono ?_
      rw [Hf.out]
      rintro e W1 ⟨rfl, hb⟩
      have hst : Below W0.heap.size W0 W1 := Below.trans (by repeat' (first | with_reducible assumption | with_reducible exact Below.refl _ _ | refine Below.alloc ?_ ?_ _ | refine Below.setCell ?_ ?_ _ | refine Below.drew ?_ | refine below_drewN ?_ _ | (simp; done) | (simp; omega) | omega)) (hb.mono (by first | (simp; done) | (simp; omega) | omega))
      replace hbel := hbel.trans (hst.mono hsz)
      replace hsz := hbel.size
      replace HR := hid (HR.out.below hst hst.size)
      replace HL := hid (HL.out.below hst hst.size)
      clear hb hst
      obtain ⟨W0, rfl⟩ : ∃ W0 : World, W0 = W1 := ⟨_, rfl⟩
      go_wp2_with (fail)
      refine (long_any _ _ _ _).mono ?_
      rw [Hg2.out]
      rintro e W1 ⟨rfl, hb⟩
      have hst : Below W0.heap.size W0 W1 := Below.trans (by repeat' (first | with_reducible assumption | with_reducible exact Below.refl _ _ | refine Below.alloc ?_ ?_ _ | refine Below.setCell ?_ ?_ _ | refine Below.drew ?_ | refine below_drewN ?_ _ | (simp; done) | (simp; omega) | omega)) (hb.mono (by first | (simp; done) | (simp; omega) | omega))
      replace hbel := hbel.trans (hst.mono hsz)
      replace hsz := hbel.size
      replace HR := hid (HR.out.below hst hst.size)
      replace HL := hid (HL.out.below hst hst.size)
      clear hb hst
      obtain ⟨W0, rfl⟩ : ∃ W0 : World, W0 = W1 := ⟨_, rfl⟩
      go_wp2_with (fail)
      refine (works_any _).mono ?_
      rintro e W1 ⟨rfl, hb⟩
      have hst : Below W0.heap.size W0 W1 := Below.trans (by repeat' (first | with_reducible assumption | with_reducible exact Below.refl _ _ | refine Below.alloc ?_ ?_ _ | refine Below.setCell ?_ ?_ _ | refine Below.drew ?_ | refine below_drewN ?_ _ | (simp; done) | (simp; omega) | omega)) (hb.mono (by first | (simp; done) | (simp; omega) | omega))
      replace hbel := hbel.trans (hst.mono hsz)
      replace hsz := hbel.size
      replace HR := hid (HR.out.below hst hst.size)
      replace HL := hid (HL.out.below hst hst.size)
      clear hb hst
      obtain ⟨W0, rfl⟩ : ∃ W0 : World, W0 = W1 := ⟨_, rfl⟩
      go_wp2
      go_ret
      exact ⟨rfl, hbel⟩
    · have Hg2 := hid (decide_eq_false hg2)
      clear hg2
      obtain ⟨p, hp⟩ : ∃ p, pansOf bo = p := ⟨_, rfl⟩
      have HP := hid (pansOf_or bo)
      rw [hp] at HP
      have Hp := hid hp
      clear hp
      obtain ⟨hx1, hx2⟩ := hx0
      have z1 : IntKind.i64.wrap x = x := wrap_ok (by omega)
      obtain ⟨a, ha⟩ : ∃ a, x % 301 = a := ⟨_, rfl⟩
      have ha0 := Int.emod_nonneg x (b := 301) (by omega)
      have ha1 := Int.emod_lt_of_pos x (b := 301) (by omega)
      rw [ha] at ha0 ha1
      have z2 : x.tmod 301 = a := by rw [Int.tmod_eq_emod_of_nonneg hx1]; exact ha
      have z3 : IntKind.i64.wrap a = a := wrap_ok (by omega)
      have hab : 0 ≤ a ∧ a ≤ 300 := ⟨ha0, by omega⟩
      have HAB := hid hab
      clear ha hab ha0 ha1
      obtain ⟨z, hz⟩ : ∃ z, ways p ks a = z := ⟨_, rfl⟩
      obtain ⟨f1, hf1⟩ : ∃ f1, fI p ks a = f1 := ⟨_, rfl⟩
      have hb1 := fB_ways p ks a
      rw [hz] at hb1
      have HZ := hid hz
      have HF1 := hid hf1
      have HB1 := hid hb1
      clear hz hf1 hb1
      obtain ⟨WL, hWL⟩ : ∃ WL, weighsL p ks = WL := ⟨_, rfl⟩
      have hwg := weighsL_good H0.out HP.out
      rw [hWL] at hwg
      have HWL := hid hWL
      have hwl := hwg.1
      have hin := hid (hwg.2 a HAB.out.1)
      rw [HB1.out] at hin
      have hop : Hid (openE ks p = 0) := hid (openE_ok H0.out (by rcases HP.out with h | h <;> rw [h] <;> rfl))
      clear hWL hwg
      obtain ⟨hq1, hq2⟩ := pans_facts H0.out a
      obtain ⟨w1, hw1⟩ : ∃ w1, ways 1 ks a = w1 := ⟨_, rfl⟩
      obtain ⟨w2, hw2⟩ : ∃ w2, ways 2 ks a = w2 := ⟨_, rfl⟩
      obtain ⟨i1, hi1⟩ : ∃ i1, fI 1 ks a = i1 := ⟨_, rfl⟩
      obtain ⟨i2, hi2⟩ : ∃ i2, fI 2 ks a = i2 := ⟨_, rfl⟩
      obtain ⟨s1, hs1⟩ : ∃ s1, fB 1 ks a = s1 := ⟨_, rfl⟩
      obtain ⟨s2, hs2⟩ : ∃ s2, fB 2 ks a = s2 := ⟨_, rfl⟩
      rw [hw1, hw2] at hq1
      rw [hi1, hi2, hs1, hs2] at hq2
      have hq3 : ¬ w2 < w1 := by omega
      have HW1 := hid hw1
      have HW2 := hid hw2
      have HI1 := hid hi1
      have HI2 := hid hi2
      have HS1 := hid hs1
      have HS2 := hid hs2
      have HQ2 := hid hq2
      clear hw1 hw2 hi1 hi2 hs1 hs2 hq1 hq2
      obtain ⟨ra, rm, re, hlay⟩ : ∃ a m e : Int, layR ks p l = .tuple #[.int .i64 a, .int .i64 m, .int .i64 e] := by unfold layR; split <;> exact ⟨_, _, _, rfl⟩
      have HLAY := hid hlay
      have hlf : Hid (re = 0 → fB p ks ra = true ∧ fI p ks ra ≤ rm) := hid (fun h => by
        unfold layR at hlay
        split at hlay
        · rename_i h1
          have h2 := lay_facts h1
          injection hlay with h3
          simp only [Array.mk.injEq, List.cons.injEq, Value.int.injEq, true_and, and_true] at h3
          obtain ⟨rfl, rfl, -⟩ := h3
          exact ⟨h2.2.2.1, h2.2.2.2⟩
        · rename_i h1
          injection hlay with h3
          simp only [Array.mk.injEq, List.cons.injEq, Value.int.injEq, true_and, and_true] at h3
          omega)
      clear hlay
      go_enter Try.func8, Try.ntmps8
      go_wp2_with (fail)
      refine (fine_any _ _ _ _ _ (HR.out.below (by repeat' (first | with_reducible assumption | with_reducible exact Below.refl _ _ | refine Below.alloc ?_ ?_ _ | refine Below.setCell ?_ ?_ _ | refine Below.drew ?_ | refine below_drewN ?_ _ | (simp; done) | (simp; omega) | omega)) (by first | (simp; done) | (simp; omega) | omega))).mono ?_
      rw [Hf.out]
      rintro e W1 ⟨rfl, hb⟩
      have hst : Below W0.heap.size W0 W1 := Below.trans (by repeat' (first | with_reducible assumption | with_reducible exact Below.refl _ _ | refine Below.alloc ?_ ?_ _ | refine Below.setCell ?_ ?_ _ | refine Below.drew ?_ | refine below_drewN ?_ _ | (simp; done) | (simp; omega) | omega)) (hb.mono (by first | (simp; done) | (simp; omega) | omega))
      replace hbel := hbel.trans (hst.mono hsz)
      replace hsz := hbel.size
      replace HR := hid (HR.out.below hst hst.size)
      replace HL := hid (HL.out.below hst hst.size)
      clear hb hst
      obtain ⟨W0, rfl⟩ : ∃ W0 : World, W0 = W1 := ⟨_, rfl⟩
      go_wp2_with (fail)
      refine (long_any _ _ _ _).mono ?_
      rw [Hg2.out]
      rintro e W1 ⟨rfl, hb⟩
      have hst : Below W0.heap.size W0 W1 := Below.trans (by repeat' (first | with_reducible assumption | with_reducible exact Below.refl _ _ | refine Below.alloc ?_ ?_ _ | refine Below.setCell ?_ ?_ _ | refine Below.drew ?_ | refine below_drewN ?_ _ | (simp; done) | (simp; omega) | omega)) (hb.mono (by first | (simp; done) | (simp; omega) | omega))
      replace hbel := hbel.trans (hst.mono hsz)
      replace hsz := hbel.size
      replace HR := hid (HR.out.below hst hst.size)
      replace HL := hid (HL.out.below hst hst.size)
      clear hb hst
      obtain ⟨W0, rfl⟩ : ∃ W0 : World, W0 = W1 := ⟨_, rfl⟩
      go_wp2_with (fail)
      refine (pans_any _ _).mono ?_
      rw [Hp.out]
      rintro e W1 ⟨rfl, hb⟩
      have hst : Below W0.heap.size W0 W1 := Below.trans (by repeat' (first | with_reducible assumption | with_reducible exact Below.refl _ _ | refine Below.alloc ?_ ?_ _ | refine Below.setCell ?_ ?_ _ | refine Below.drew ?_ | refine below_drewN ?_ _ | (simp; done) | (simp; omega) | omega)) (hb.mono (by first | (simp; done) | (simp; omega) | omega))
      replace hbel := hbel.trans (hst.mono hsz)
      replace hsz := hbel.size
      replace HR := hid (HR.out.below hst hst.size)
      replace HL := hid (HL.out.below hst hst.size)
      clear hb hst
      obtain ⟨W0, rfl⟩ : ∃ W0 : World, W0 = W1 := ⟨_, rfl⟩
      go_wp2_with (fail)
      refine (waysL_any _ _ _ _ ks p a (HR.out.below (by repeat' (first | with_reducible assumption | with_reducible exact Below.refl _ _ | refine Below.alloc ?_ ?_ _ | refine Below.setCell ?_ ?_ _ | refine Below.drew ?_ | refine below_drewN ?_ _ | (simp; done) | (simp; omega) | omega)) (by first | (simp; done) | (simp; omega) | omega)) H0.out HP.out HAB.out).mono ?_
      rw [HZ.out]
      rintro e W1 ⟨rfl, hb⟩
      have hst : Below W0.heap.size W0 W1 := Below.trans (by repeat' (first | with_reducible assumption | with_reducible exact Below.refl _ _ | refine Below.alloc ?_ ?_ _ | refine Below.setCell ?_ ?_ _ | refine Below.drew ?_ | refine below_drewN ?_ _ | (simp; done) | (simp; omega) | omega)) (hb.mono (by first | (simp; done) | (simp; omega) | omega))
      replace hbel := hbel.trans (hst.mono hsz)
      replace hsz := hbel.size
      replace HR := hid (HR.out.below hst hst.size)
      replace HL := hid (HL.out.below hst hst.size)
      clear hb hst
      obtain ⟨W0, rfl⟩ : ∃ W0 : World, W0 = W1 := ⟨_, rfl⟩
      go_wp2_with (fail)
      refine (fewL_any _ _ _ _ ks p a (HR.out.below (by repeat' (first | with_reducible assumption | with_reducible exact Below.refl _ _ | refine Below.alloc ?_ ?_ _ | refine Below.setCell ?_ ?_ _ | refine Below.drew ?_ | refine below_drewN ?_ _ | (simp; done) | (simp; omega) | omega)) (by first | (simp; done) | (simp; omega) | omega)) H0.out HP.out HAB.out).mono ?_
      rw [fewR_eq, HF1.out, HB1.out]
      rintro e W1 ⟨rfl, hb⟩
      have hst : Below W0.heap.size W0 W1 := Below.trans (by repeat' (first | with_reducible assumption | with_reducible exact Below.refl _ _ | refine Below.alloc ?_ ?_ _ | refine Below.setCell ?_ ?_ _ | refine Below.drew ?_ | refine below_drewN ?_ _ | (simp; done) | (simp; omega) | omega)) (hb.mono (by first | (simp; done) | (simp; omega) | omega))
      replace hbel := hbel.trans (hst.mono hsz)
      replace hsz := hbel.size
      replace HR := hid (HR.out.below hst hst.size)
      replace HL := hid (HL.out.below hst hst.size)
      clear hb hst
      obtain ⟨W0, rfl⟩ : ∃ W0 : World, W0 = W1 := ⟨_, rfl⟩
      go_wp2_with (fail)
      refine (weighs_walk _ _ _ _ ks p (HR.out.below (by repeat' (first | with_reducible assumption | with_reducible exact Below.refl _ _ | refine Below.alloc ?_ ?_ _ | refine Below.setCell ?_ ?_ _ | refine Below.drew ?_ | refine below_drewN ?_ _ | (simp; done) | (simp; omega) | omega)) (by first | (simp; done) | (simp; omega) | omega)) hn).mono ?_
      rw [HWL.out, hop.out]
      rintro e W1 ⟨Aw, mw, cw, rfl, hw, hb⟩
      have hst : Below W0.heap.size W0 W1 := Below.trans (by repeat' (first | with_reducible assumption | with_reducible exact Below.refl _ _ | refine Below.alloc ?_ ?_ _ | refine Below.setCell ?_ ?_ _ | refine Below.drew ?_ | refine below_drewN ?_ _ | (simp; done) | (simp; omega) | omega)) (hb.mono (by first | (simp; done) | (simp; omega) | omega))
      replace hbel := hbel.trans (hst.mono hsz)
      replace hsz := hbel.size
      replace HR := hid (HR.out.below hst hst.size)
      replace HL := hid (HL.out.below hst hst.size)
      have hmw : mw = WL.length := hw.len.symm
      have hmw2 : ¬ 300 < mw := by omega
      have HX := hid hw
      clear hw
      clear hb hst
      obtain ⟨W0, rfl⟩ : ∃ W0 : World, W0 = W1 := ⟨_, rfl⟩
      subst hmw
      have hmi : ¬ (300 : Int) < WL.length := by omega
      go_wp2_with (fail)
      go_loopw [18, 19] (fun v i wr => ∃ k : Nat, k ≤ WL.length ∧ i = .int .i64 k ∧ v = .bool (decide (a = 0) || (WL.take k).any (· == a)) ∧ W0 = wr) (fun _ i _ => WL.length - (intOf i).toNat)
      case atStart => exact ⟨0, by omega, rfl, by simp; rfl, rfl⟩
      case round =>
        obtain ⟨k, hk, rfl, rfl, rfl⟩ := hrel
        by_cases hlt : k < WL.length
        · obtain ⟨b, off, y, rfl, hbq, hm, c0⟩ := HX.out.at_ hlt
          have hti : (WL.take (k + 1)).any (· == a) = ((WL.take k).any (· == a) || (y == a)) := by rw [List.take_add_one, hm, List.any_append]; simp
          obtain ⟨bv, hbv⟩ : ∃ bv, (decide (a = 0) || (WL.take k).any (· == a)) = bv := ⟨_, rfl⟩
          have hnew : Hid ((decide (a = 0) || (WL.take (k + 1)).any (· == a)) = (bv || (y == a))) := hid (by rw [hti, ← Bool.or_assoc, hbv])
          rw [hbv]
          clear hti hbv hm
          cases bv
          · cases hya : (y == a)
            all_goals
              rw [hya] at hnew
              go_wp2
              refine ⟨⟨k + 1, by omega, by go_num, by rw [hnew.out]; rfl, trivial⟩, by simp [intOf]; omega⟩
          · go_wp2
            refine ⟨⟨k + 1, by omega, by go_num, by rw [hnew.out]; rfl, trivial⟩, by simp [intOf]; omega⟩
        · obtain rfl : k = WL.length := by omega
          rw [List.take_length, hin.out]
          clear HX
          go_wp2_with (fail)
          refine (waysL_any _ _ _ _ ks 1 a (HR.out.below (by repeat' (first | with_reducible assumption | with_reducible exact Below.refl _ _ | refine Below.alloc ?_ ?_ _ | refine Below.setCell ?_ ?_ _ | refine Below.drew ?_ | refine below_drewN ?_ _ | (simp; done) | (simp; omega) | omega)) (by first | (simp; done) | (simp; omega) | omega)) H0.out (.inl rfl) HAB.out).mono ?_
          rw [HW1.out]
          rintro e W1 ⟨rfl, hb⟩
          have hst : Below W0.heap.size W0 W1 := Below.trans (by repeat' (first | with_reducible assumption | with_reducible exact Below.refl _ _ | refine Below.alloc ?_ ?_ _ | refine Below.setCell ?_ ?_ _ | refine Below.drew ?_ | refine below_drewN ?_ _ | (simp; done) | (simp; omega) | omega)) (hb.mono (by first | (simp; done) | (simp; omega) | omega))
          replace hbel := hbel.trans (hst.mono hsz)
          replace hsz := hbel.size
          replace HR := hid (HR.out.below hst hst.size)
          replace HL := hid (HL.out.below hst hst.size)
          clear hb hst
          obtain ⟨W0, rfl⟩ : ∃ W0 : World, W0 = W1 := ⟨_, rfl⟩
          go_wp2_with (fail)
          refine (waysL_any _ _ _ _ ks 2 a (HR.out.below (by repeat' (first | with_reducible assumption | with_reducible exact Below.refl _ _ | refine Below.alloc ?_ ?_ _ | refine Below.setCell ?_ ?_ _ | refine Below.drew ?_ | refine below_drewN ?_ _ | (simp; done) | (simp; omega) | omega)) (by first | (simp; done) | (simp; omega) | omega)) H0.out (.inr rfl) HAB.out).mono ?_
          rw [HW2.out]
          rintro e W1 ⟨rfl, hb⟩
          have hst : Below W0.heap.size W0 W1 := Below.trans (by repeat' (first | with_reducible assumption | with_reducible exact Below.refl _ _ | refine Below.alloc ?_ ?_ _ | refine Below.setCell ?_ ?_ _ | refine Below.drew ?_ | refine below_drewN ?_ _ | (simp; done) | (simp; omega) | omega)) (hb.mono (by first | (simp; done) | (simp; omega) | omega))
          replace hbel := hbel.trans (hst.mono hsz)
          replace hsz := hbel.size
          replace HR := hid (HR.out.below hst hst.size)
          replace HL := hid (HL.out.below hst hst.size)
          clear hb hst
          obtain ⟨W0, rfl⟩ : ∃ W0 : World, W0 = W1 := ⟨_, rfl⟩
          go_wp2_with (fail)
          refine (fewL_any _ _ _ _ ks 1 a (HR.out.below (by repeat' (first | with_reducible assumption | with_reducible exact Below.refl _ _ | refine Below.alloc ?_ ?_ _ | refine Below.setCell ?_ ?_ _ | refine Below.drew ?_ | refine below_drewN ?_ _ | (simp; done) | (simp; omega) | omega)) (by first | (simp; done) | (simp; omega) | omega)) H0.out (.inl rfl) HAB.out).mono ?_
          rw [fewR_eq, HI1.out, HS1.out]
          rintro e W1 ⟨rfl, hb⟩
          have hst : Below W0.heap.size W0 W1 := Below.trans (by repeat' (first | with_reducible assumption | with_reducible exact Below.refl _ _ | refine Below.alloc ?_ ?_ _ | refine Below.setCell ?_ ?_ _ | refine Below.drew ?_ | refine below_drewN ?_ _ | (simp; done) | (simp; omega) | omega)) (hb.mono (by first | (simp; done) | (simp; omega) | omega))
          replace hbel := hbel.trans (hst.mono hsz)
          replace hsz := hbel.size
          replace HR := hid (HR.out.below hst hst.size)
          replace HL := hid (HL.out.below hst hst.size)
          clear hb hst
          obtain ⟨W0, rfl⟩ : ∃ W0 : World, W0 = W1 := ⟨_, rfl⟩
          go_wp2_with (fail)
          refine (fewL_any _ _ _ _ ks 2 a (HR.out.below (by repeat' (first | with_reducible assumption | with_reducible exact Below.refl _ _ | refine Below.alloc ?_ ?_ _ | refine Below.setCell ?_ ?_ _ | refine Below.drew ?_ | refine below_drewN ?_ _ | (simp; done) | (simp; omega) | omega)) (by first | (simp; done) | (simp; omega) | omega)) H0.out (.inr rfl) HAB.out).mono ?_
          rw [fewR_eq, HI2.out, HS2.out]
          rintro e W1 ⟨rfl, hb⟩
          have hst : Below W0.heap.size W0 W1 := Below.trans (by repeat' (first | with_reducible assumption | with_reducible exact Below.refl _ _ | refine Below.alloc ?_ ?_ _ | refine Below.setCell ?_ ?_ _ | refine Below.drew ?_ | refine below_drewN ?_ _ | (simp; done) | (simp; omega) | omega)) (hb.mono (by first | (simp; done) | (simp; omega) | omega))
          replace hbel := hbel.trans (hst.mono hsz)
          replace hsz := hbel.size
          replace HR := hid (HR.out.below hst hst.size)
          replace HL := hid (HL.out.below hst hst.size)
          clear hb hst
          obtain ⟨W0, rfl⟩ : ∃ W0 : World, W0 = W1 := ⟨_, rfl⟩
          have hq2 := HQ2.out
          clear HQ2
          cases s1
          · clear hq2
            go_wp2_with (fail)
            refine (checkLay_any _ _ _ _ _ _ _ ks l p (HR.out.below (by repeat' (first | with_reducible assumption | with_reducible exact Below.refl _ _ | refine Below.alloc ?_ ?_ _ | refine Below.setCell ?_ ?_ _ | refine Below.drew ?_ | refine below_drewN ?_ _ | (simp; done) | (simp; omega) | omega)) (by first | (simp; done) | (simp; omega) | omega)) (HL.out.below (by repeat' (first | with_reducible assumption | with_reducible exact Below.refl _ _ | refine Below.alloc ?_ ?_ _ | refine Below.setCell ?_ ?_ _ | refine Below.drew ?_ | refine below_drewN ?_ _ | (simp; done) | (simp; omega) | omega)) (by first | (simp; done) | (simp; omega) | omega)) hn).mono ?_
            rw [HLAY.out]
            rintro e W1 ⟨rfl, hb⟩
            have hst : Below W0.heap.size W0 W1 := Below.trans (by repeat' (first | with_reducible assumption | with_reducible exact Below.refl _ _ | refine Below.alloc ?_ ?_ _ | refine Below.setCell ?_ ?_ _ | refine Below.drew ?_ | refine below_drewN ?_ _ | (simp; done) | (simp; omega) | omega)) (hb.mono (by first | (simp; done) | (simp; omega) | omega))
            replace hbel := hbel.trans (hst.mono hsz)
            replace hsz := hbel.size
            replace HR := hid (HR.out.below hst hst.size)
            replace HL := hid (HL.out.below hst hst.size)
            clear hb hst
            obtain ⟨W0, rfl⟩ : ∃ W0 : World, W0 = W1 := ⟨_, rfl⟩
            by_cases hre : re = 0
            · subst hre
              obtain ⟨hl1, hl2⟩ := hlf.out rfl
              by_cases hra : ra < 0
              · have d1 : decide (ra < 0) = true := decide_eq_true hra
                go_wp2_with (fail)
                refine (works_any _).mono ?_
                rintro e W1 ⟨rfl, hb⟩
                have hst : Below W0.heap.size W0 W1 := Below.trans (by repeat' (first | with_reducible assumption | with_reducible exact Below.refl _ _ | refine Below.alloc ?_ ?_ _ | refine Below.setCell ?_ ?_ _ | refine Below.drew ?_ | refine below_drewN ?_ _ | (simp; done) | (simp; omega) | omega)) (hb.mono (by first | (simp; done) | (simp; omega) | omega))
                replace hbel := hbel.trans (hst.mono hsz)
                replace hsz := hbel.size
                replace HR := hid (HR.out.below hst hst.size)
                replace HL := hid (HL.out.below hst hst.size)
                clear hb hst
                obtain ⟨W0, rfl⟩ : ∃ W0 : World, W0 = W1 := ⟨_, rfl⟩
                go_wp2
                go_ret
                exact ⟨rfl, hbel⟩
              · have d1 : decide (ra < 0) = false := decide_eq_false hra
                by_cases hrb : 300 < ra
                · have d2 : decide (300 < ra) = true := decide_eq_true hrb
                  go_wp2_with (fail)
                  refine (works_any _).mono ?_
                  rintro e W1 ⟨rfl, hb⟩
                  have hst : Below W0.heap.size W0 W1 := Below.trans (by repeat' (first | with_reducible assumption | with_reducible exact Below.refl _ _ | refine Below.alloc ?_ ?_ _ | refine Below.setCell ?_ ?_ _ | refine Below.drew ?_ | refine below_drewN ?_ _ | (simp; done) | (simp; omega) | omega)) (hb.mono (by first | (simp; done) | (simp; omega) | omega))
                  replace hbel := hbel.trans (hst.mono hsz)
                  replace hsz := hbel.size
                  replace HR := hid (HR.out.below hst hst.size)
                  replace HL := hid (HL.out.below hst hst.size)
                  clear hb hst
                  obtain ⟨W0, rfl⟩ : ∃ W0 : World, W0 = W1 := ⟨_, rfl⟩
                  go_wp2
                  go_ret
                  exact ⟨rfl, hbel⟩
                · have d2 : decide (300 < ra) = false := decide_eq_false hrb
                  obtain ⟨fr, hfr⟩ : ∃ fr, fI p ks ra = fr := ⟨_, rfl⟩
                  rw [hfr] at hl2
                  have HFR := hid hfr
                  have HL1 := hid hl1
                  have d3 : decide (fr ≤ rm) = true := decide_eq_true hl2
                  clear hfr hl1
                  go_wp2_with (fail)
                  refine (fewL_any _ _ _ _ ks p ra (HR.out.below (by repeat' (first | with_reducible assumption | with_reducible exact Below.refl _ _ | refine Below.alloc ?_ ?_ _ | refine Below.setCell ?_ ?_ _ | refine Below.drew ?_ | refine below_drewN ?_ _ | (simp; done) | (simp; omega) | omega)) (by first | (simp; done) | (simp; omega) | omega)) H0.out HP.out ⟨by omega, by omega⟩).mono ?_
                  rw [fewR_eq, HFR.out, HL1.out]
                  rintro e W1 ⟨rfl, hb⟩
                  have hst : Below W0.heap.size W0 W1 := Below.trans (by repeat' (first | with_reducible assumption | with_reducible exact Below.refl _ _ | refine Below.alloc ?_ ?_ _ | refine Below.setCell ?_ ?_ _ | refine Below.drew ?_ | refine below_drewN ?_ _ | (simp; done) | (simp; omega) | omega)) (hb.mono (by first | (simp; done) | (simp; omega) | omega))
                  replace hbel := hbel.trans (hst.mono hsz)
                  replace hsz := hbel.size
                  replace HR := hid (HR.out.below hst hst.size)
                  replace HL := hid (HL.out.below hst hst.size)
                  clear hb hst
                  obtain ⟨W0, rfl⟩ : ∃ W0 : World, W0 = W1 := ⟨_, rfl⟩
                  go_wp2_with (fail)
                  refine (works_any _).mono ?_
                  rintro e W1 ⟨rfl, hb⟩
                  have hst : Below W0.heap.size W0 W1 := Below.trans (by repeat' (first | with_reducible assumption | with_reducible exact Below.refl _ _ | refine Below.alloc ?_ ?_ _ | refine Below.setCell ?_ ?_ _ | refine Below.drew ?_ | refine below_drewN ?_ _ | (simp; done) | (simp; omega) | omega)) (hb.mono (by first | (simp; done) | (simp; omega) | omega))
                  replace hbel := hbel.trans (hst.mono hsz)
                  replace hsz := hbel.size
                  replace HR := hid (HR.out.below hst hst.size)
                  replace HL := hid (HL.out.below hst hst.size)
                  clear hb hst
                  obtain ⟨W0, rfl⟩ : ∃ W0 : World, W0 = W1 := ⟨_, rfl⟩
                  go_wp2
                  go_ret
                  exact ⟨rfl, hbel⟩
            · have dre : (re != 0) = true := by simpa using hre
              go_wp2_with (fail)
              refine (works_any _).mono ?_
              rintro e W1 ⟨rfl, hb⟩
              have hst : Below W0.heap.size W0 W1 := Below.trans (by repeat' (first | with_reducible assumption | with_reducible exact Below.refl _ _ | refine Below.alloc ?_ ?_ _ | refine Below.setCell ?_ ?_ _ | refine Below.drew ?_ | refine below_drewN ?_ _ | (simp; done) | (simp; omega) | omega)) (hb.mono (by first | (simp; done) | (simp; omega) | omega))
              replace hbel := hbel.trans (hst.mono hsz)
              replace hsz := hbel.size
              replace HR := hid (HR.out.below hst hst.size)
              replace HL := hid (HL.out.below hst hst.size)
              clear hb hst
              obtain ⟨W0, rfl⟩ : ∃ W0 : World, W0 = W1 := ⟨_, rfl⟩
              go_wp2
              go_ret
              exact ⟨rfl, hbel⟩
          · obtain ⟨hsa, hsb⟩ := hq2 rfl
            subst hsa
            have d0 : ¬ i1 < i2 := by omega
            go_wp2_with (fail)
            refine (checkLay_any _ _ _ _ _ _ _ ks l p (HR.out.below (by repeat' (first | with_reducible assumption | with_reducible exact Below.refl _ _ | refine Below.alloc ?_ ?_ _ | refine Below.setCell ?_ ?_ _ | refine Below.drew ?_ | refine below_drewN ?_ _ | (simp; done) | (simp; omega) | omega)) (by first | (simp; done) | (simp; omega) | omega)) (HL.out.below (by repeat' (first | with_reducible assumption | with_reducible exact Below.refl _ _ | refine Below.alloc ?_ ?_ _ | refine Below.setCell ?_ ?_ _ | refine Below.drew ?_ | refine below_drewN ?_ _ | (simp; done) | (simp; omega) | omega)) (by first | (simp; done) | (simp; omega) | omega)) hn).mono ?_
            rw [HLAY.out]
            rintro e W1 ⟨rfl, hb⟩
            have hst : Below W0.heap.size W0 W1 := Below.trans (by repeat' (first | with_reducible assumption | with_reducible exact Below.refl _ _ | refine Below.alloc ?_ ?_ _ | refine Below.setCell ?_ ?_ _ | refine Below.drew ?_ | refine below_drewN ?_ _ | (simp; done) | (simp; omega) | omega)) (hb.mono (by first | (simp; done) | (simp; omega) | omega))
            replace hbel := hbel.trans (hst.mono hsz)
            replace hsz := hbel.size
            replace HR := hid (HR.out.below hst hst.size)
            replace HL := hid (HL.out.below hst hst.size)
            clear hb hst
            obtain ⟨W0, rfl⟩ : ∃ W0 : World, W0 = W1 := ⟨_, rfl⟩
            by_cases hre : re = 0
            · subst hre
              obtain ⟨hl1, hl2⟩ := hlf.out rfl
              by_cases hra : ra < 0
              · have d1 : decide (ra < 0) = true := decide_eq_true hra
                go_wp2_with (fail)
                refine (works_any _).mono ?_
                rintro e W1 ⟨rfl, hb⟩
                have hst : Below W0.heap.size W0 W1 := Below.trans (by repeat' (first | with_reducible assumption | with_reducible exact Below.refl _ _ | refine Below.alloc ?_ ?_ _ | refine Below.setCell ?_ ?_ _ | refine Below.drew ?_ | refine below_drewN ?_ _ | (simp; done) | (simp; omega) | omega)) (hb.mono (by first | (simp; done) | (simp; omega) | omega))
                replace hbel := hbel.trans (hst.mono hsz)
                replace hsz := hbel.size
                replace HR := hid (HR.out.below hst hst.size)
                replace HL := hid (HL.out.below hst hst.size)
                clear hb hst
                obtain ⟨W0, rfl⟩ : ∃ W0 : World, W0 = W1 := ⟨_, rfl⟩
                go_wp2
                go_ret
                exact ⟨rfl, hbel⟩
              · have d1 : decide (ra < 0) = false := decide_eq_false hra
                by_cases hrb : 300 < ra
                · have d2 : decide (300 < ra) = true := decide_eq_true hrb
                  go_wp2_with (fail)
                  refine (works_any _).mono ?_
                  rintro e W1 ⟨rfl, hb⟩
                  have hst : Below W0.heap.size W0 W1 := Below.trans (by repeat' (first | with_reducible assumption | with_reducible exact Below.refl _ _ | refine Below.alloc ?_ ?_ _ | refine Below.setCell ?_ ?_ _ | refine Below.drew ?_ | refine below_drewN ?_ _ | (simp; done) | (simp; omega) | omega)) (hb.mono (by first | (simp; done) | (simp; omega) | omega))
                  replace hbel := hbel.trans (hst.mono hsz)
                  replace hsz := hbel.size
                  replace HR := hid (HR.out.below hst hst.size)
                  replace HL := hid (HL.out.below hst hst.size)
                  clear hb hst
                  obtain ⟨W0, rfl⟩ : ∃ W0 : World, W0 = W1 := ⟨_, rfl⟩
                  go_wp2
                  go_ret
                  exact ⟨rfl, hbel⟩
                · have d2 : decide (300 < ra) = false := decide_eq_false hrb
                  obtain ⟨fr, hfr⟩ : ∃ fr, fI p ks ra = fr := ⟨_, rfl⟩
                  rw [hfr] at hl2
                  have HFR := hid hfr
                  have HL1 := hid hl1
                  have d3 : decide (fr ≤ rm) = true := decide_eq_true hl2
                  clear hfr hl1
                  go_wp2_with (fail)
                  refine (fewL_any _ _ _ _ ks p ra (HR.out.below (by repeat' (first | with_reducible assumption | with_reducible exact Below.refl _ _ | refine Below.alloc ?_ ?_ _ | refine Below.setCell ?_ ?_ _ | refine Below.drew ?_ | refine below_drewN ?_ _ | (simp; done) | (simp; omega) | omega)) (by first | (simp; done) | (simp; omega) | omega)) H0.out HP.out ⟨by omega, by omega⟩).mono ?_
                  rw [fewR_eq, HFR.out, HL1.out]
                  rintro e W1 ⟨rfl, hb⟩
                  have hst : Below W0.heap.size W0 W1 := Below.trans (by repeat' (first | with_reducible assumption | with_reducible exact Below.refl _ _ | refine Below.alloc ?_ ?_ _ | refine Below.setCell ?_ ?_ _ | refine Below.drew ?_ | refine below_drewN ?_ _ | (simp; done) | (simp; omega) | omega)) (hb.mono (by first | (simp; done) | (simp; omega) | omega))
                  replace hbel := hbel.trans (hst.mono hsz)
                  replace hsz := hbel.size
                  replace HR := hid (HR.out.below hst hst.size)
                  replace HL := hid (HL.out.below hst hst.size)
                  clear hb hst
                  obtain ⟨W0, rfl⟩ : ∃ W0 : World, W0 = W1 := ⟨_, rfl⟩
                  go_wp2_with (fail)
                  refine (works_any _).mono ?_
                  rintro e W1 ⟨rfl, hb⟩
                  have hst : Below W0.heap.size W0 W1 := Below.trans (by repeat' (first | with_reducible assumption | with_reducible exact Below.refl _ _ | refine Below.alloc ?_ ?_ _ | refine Below.setCell ?_ ?_ _ | refine Below.drew ?_ | refine below_drewN ?_ _ | (simp; done) | (simp; omega) | omega)) (hb.mono (by first | (simp; done) | (simp; omega) | omega))
                  replace hbel := hbel.trans (hst.mono hsz)
                  replace hsz := hbel.size
                  replace HR := hid (HR.out.below hst hst.size)
                  replace HL := hid (HL.out.below hst hst.size)
                  clear hb hst
                  obtain ⟨W0, rfl⟩ : ∃ W0 : World, W0 = W1 := ⟨_, rfl⟩
                  go_wp2
                  go_ret
                  exact ⟨rfl, hbel⟩
            · have dre : (re != 0) = true := by simpa using hre
              go_wp2_with (fail)
              refine (works_any _).mono ?_
              rintro e W1 ⟨rfl, hb⟩
              have hst : Below W0.heap.size W0 W1 := Below.trans (by repeat' (first | with_reducible assumption | with_reducible exact Below.refl _ _ | refine Below.alloc ?_ ?_ _ | refine Below.setCell ?_ ?_ _ | refine Below.drew ?_ | refine below_drewN ?_ _ | (simp; done) | (simp; omega) | omega)) (hb.mono (by first | (simp; done) | (simp; omega) | omega))
              replace hbel := hbel.trans (hst.mono hsz)
              replace hsz := hbel.size
              replace HR := hid (HR.out.below hst hst.size)
              replace HL := hid (HL.out.below hst hst.size)
              clear hb hst
              obtain ⟨W0, rfl⟩ : ∃ W0 : World, W0 = W1 := ⟨_, rfl⟩
              go_wp2
              go_ret
              exact ⟨rfl, hbel⟩

section
open Go.ChangeShapes Go.WideShapes Go.ChangeAt Go.RowKit
set_option maxRecDepth 100000 in
theorem stoneProved_lifted (os : Os) (started : os.Started) (H : Type) (enc : TypeId × Value → H) :
    ReturnsInHanded {} Try.checked os 8 .any (Rows.stoneProvedSpec.pre6 enc Try.prog Try.f8 Rows.stoneProvedRow.domain false) (Rows.stoneProvedSpec.post enc Try.prog Try.f8 false true false false) := by
  refine returnsInHanded_of_change (C := Try.checked) ownKx started (by kernel_rfl) Try.func8
    (ChangeSpec.witness6 (enc := enc) (C := Try.checked) false ⟨#[], #[.slice none 0 0, .bool false, .slice none 0 0, .int .u16 0], []⟩ 8 (by kernel_rfl) (by kernel_rfl) (by kernel_rfl) (by kernel_rfl)) ?_
  intro W base args ds gs before hval0 hW hcnd _
  have hval : ∀ (j : Nat) t v, Try.f8.params[j]? = some t → args[j]? = some v → Value.okWide Try.prog W .any base t v := hval0
  have hW' := hW
  obtain ⟨p, q, hA0, hV, rfl, hfz, hnd⟩ := hW
  have hA : DataW.TrodAll enc Try.prog W 0 (fun _ => true) true Try.f8.params.toList args.toList ds p := hA0
  have hlt : ∀ x ∈ p, x.block < W.heap.size := fun x hx => hW'.lt x (List.mem_append_left _ hx)
  have hAll : ∀ W', Below W.heap.size W W' → DataW.TrodAll enc Try.prog W' 0 (fun b => decide (b < W.heap.size)) true Try.f8.params.toList args.toList ds p := fun W' hb => all_below laidOut hb (readable_of (by kernel_rfl)) hlt hA
  rw [Try.params8] at hA hval
  obtain ⟨v0, v1, v2, v3, d0, d1, d2, d3, p0, p1, p2, p3, rfl, rfl, rfl, h0, h1, h2, h3⟩ := trodAll_four hA
  obtain ⟨rfl, rfl⟩ := trodVars_none hV
  clear hA0 hval0
  obtain ⟨A0, n0, c0, rfl⟩ := okWide_slice Try.underlying22 (hval 0 22 v0 rfl rfl)
  obtain ⟨hc0, l0, hl0, hr0⟩ := open_kds h0
  obtain ⟨x1, rfl, rfl, rfl⟩ := open_bool Try.underlying4 (hval 1 4 v1 rfl rfl) h1
  obtain ⟨A2, n2, c2, rfl⟩ := okWide_slice Try.underlying23 (hval 2 23 v2 rfl rfl)
  obtain ⟨hc2, l2, hl2, hr2⟩ := open_ins Try.underlying23 Try.underlying2 (by kernel_rfl) h2
  obtain ⟨x3, rfl, rfl, rfl, wx3⟩ := open_int Try.underlying50 (hval 3 50 v3 rfl rfl) h3
  refine (proved_walk W A0 n0 c0 l0 x1 A2 n2 c2 l2 x3 (u16_bd wx3) hr0 hr2).mono fun e W' ⟨he, hb⟩ => ?_
  subst he
  exact ⟨_, rfl, ⟨_, _, _, [], _, [], hW', trodAll_cons_mk (shut_bool Try.underlying4 _) trodAll_mk0, hAll W' hb, rfl, hb.frame _, fun h => by cases h⟩⟩
/-- The law: whatever the input, it returns true, and the input reads as it did. -/
theorem stoneProved_holds : Rows.StoneProvedSaid :=
  OpenClaim.holds_of_wide 8 Try.f8 rfl rfl rfl rfl rfl rfl rfl ⟨rfl, rfl, rfl, rfl, rfl⟩ rfl rfl rfl rfl rfl (by kernel_rfl) Try.func8 (by kernel_rfl)
    (of_decide_eq_true (by kernel_rfl)) (by unfold Func.isWrapper; first | (rw [if_pos (by decide +kernel)]; kernel_rfl) | (rw [if_neg (by decide +kernel)]; exact ⟨rfl, rfl⟩))
    (fun os started H enc _ => stoneProved_lifted os started H enc)
end
end Go.Proofs.Ytolghmhodaphfaa

