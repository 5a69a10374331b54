/- The statement StoneMore holds: whatever the arguments, the law returns true and leaves its arguments as they were. -/
import Derived.Test.YtolghmhodaphfaaMr
import Derived.Test.YtolghmhodaphfaaMp
namespace Go.Proofs.Ytolghmhodaphfaa
open Go.RowKit Go.Shelf
attribute [local go_sem] Oper.semAt_some
set_option maxRecDepth 100000 in
set_option maxHeartbeats 4000000 in
theorem more_walk (w : World) (A : Option Addr) (n c : Nat) (ks : List Kd) (bo : Bool) (y x : Int) (hy0 : 0 ≤ y ∧ y ≤ 255) (hx0 : 0 ≤ x ∧ x ≤ 65535) (hAc : A = none → n = 0 ∧ c = 0) (hr : KdS w w.heap.size A n ks) :
    Calls Try.prog 14 #[.slice A n c, .bool bo, .int .u8 y, .int .u16 x] w fun e w' => e = .returned (.bool true) ∧ Below w.heap.size w w' := by
  obtain ⟨W0, hW0⟩ : ∃ W0 : World, W0 = w := ⟨_, rfl⟩
  rw [← hW0] at hr ⊢
  clear hW0
  have HR := hid hr
  clear hr
  have hbel : Below W0.heap.size W0 W0 := Below.refl _ _
  have hsz := hbel.size
  cases hf : fineB ks
  · have Hf := hid hf
    clear hf
    go_enter Try.func14, Try.ntmps14
    go_wp2_with (fail)
    refine (fine_any _ _ _ _ _ (HR.out.below (by repeat' (first | with_reducible assumption | with_reducible exact Below.refl _ _ | refine Below.alloc ?_ ?_ _ | refine Below.setCell ?_ ?_ _ | refine Below.drew ?_ | refine below_drewN ?_ _ | (simp; done) | (simp; omega) | omega)) (by first | (simp; done) | (simp; omega) | omega))).mono ?_
    rw [Hf.out]
    rintro e W1 ⟨rfl, hb⟩
    have hst : Below W0.heap.size W0 W1 := Below.trans (by repeat' (first | with_reducible assumption | with_reducible exact Below.refl _ _ | refine Below.alloc ?_ ?_ _ | refine Below.setCell ?_ ?_ _ | refine Below.drew ?_ | refine below_drewN ?_ _ | (simp; done) | (simp; omega) | omega)) (hb.mono (by first | (simp; done) | (simp; omega) | omega))
    replace hbel := hbel.trans (hst.mono hsz)
    replace hsz := hbel.size
    replace HR := hid (HR.out.below hst hst.size)
    clear hb hst
    obtain ⟨W0, rfl⟩ : ∃ W0 : World, W0 = W1 := ⟨_, rfl⟩
    go_wp2_with (fail)
    refine (works_any _).mono ?_
    rintro e W1 ⟨rfl, hb⟩
    have hst : Below W0.heap.size W0 W1 := Below.trans (by repeat' (first | with_reducible assumption | with_reducible exact Below.refl _ _ | refine Below.alloc ?_ ?_ _ | refine Below.setCell ?_ ?_ _ | refine Below.drew ?_ | refine below_drewN ?_ _ | (simp; done) | (simp; omega) | omega)) (hb.mono (by first | (simp; done) | (simp; omega) | omega))
    replace hbel := hbel.trans (hst.mono hsz)
    replace hsz := hbel.size
    replace HR := hid (HR.out.below hst hst.size)
    clear hb hst
    obtain ⟨W0, rfl⟩ : ∃ W0 : World, W0 = W1 := ⟨_, rfl⟩
    go_wp2
    go_ret
    exact ⟨rfl, hbel⟩
  · have Hf := hid hf
    obtain ⟨h0, h8⟩ := fineB_good hf
    have hlen := hid HR.out.len
    have hn : n ≤ 8 := by have := hlen.out; omega
    have hn1 : 1 ≤ n := by have := hlen.out; have := (checkSet_good h0).1; omega
    have H0 := hid h0
    have hok := hid (fun k (hk : k ∈ ks) => okK_le (List.all_eq_true.1 (checkSet_good h0).2.2.1 k hk))
    have hpos := hid (posK_of (checkSet_good h0).2.2.1)
    have HA := hid hAc
    clear hf h0 h8 hAc
    obtain ⟨i0, hi0, hi1, hi2, hi3⟩ := info_parts' info61
    have I0 := hid hi0; have I1 := hid hi1; have I2 := hid hi2; have I3 := hid hi3
    clear hi0 hi1 hi2 hi3
    obtain ⟨p, hp⟩ : ∃ p, pansOf bo = p := ⟨_, rfl⟩
    have HP := hid (pansOf_or bo)
    rw [hp] at HP
    have Hp := hid hp
    clear hp
    have hop : Hid (openE ks p = 0) := hid (openE_ok H0.out (by rcases HP.out with h | h <;> rw [h] <;> rfl))
    obtain ⟨hy1, hy2⟩ := hy0
    have y1 : IntKind.i64.wrap y = y := wrap_ok (by omega)
    obtain ⟨j, hj0⟩ : ∃ j : Nat, y % (n : Int) = j := ⟨(y % (n : Int)).toNat, by have := Int.emod_nonneg y (b := (n : Int)) (by omega); omega⟩
    have hj1 := Int.emod_lt_of_pos y (b := (n : Int)) (by omega)
    rw [hj0] at hj1
    have hjn : j < n := by omega
    have y2 : y.tmod (n : Int) = (j : Int) := by rw [Int.tmod_eq_emod_of_nonneg hy1]; exact hj0
    have y3 : IntKind.i64.wrap (j : Int) = (j : Int) := wrap_ok (by omega)
    have y4 : ¬ (n : Int) = 0 := by omega
    have y4' : ¬ n = 0 := by omega
    have hj2 : (0 : Int) ≤ j := by omega
    obtain ⟨m, hm⟩ : ∃ m, ks[j]? = some m := ⟨_, List.getElem?_eq_getElem (by have := hlen.out; omega)⟩
    obtain ⟨m1, m2, m3, m4⟩ := hok.out m (List.mem_of_getElem? hm)
    have y5 : IntKind.i64.wrap (m.many + 1) = m.many + 1 := wrap_ok (by omega)
    obtain ⟨xs, hxs⟩ : ∃ xs, ks.set j ⟨m.wt, m.many + 1⟩ = xs := ⟨_, rfl⟩
    have hmore := hid (show MoreK ks xs by rw [← hxs]; exact more_set hpos.out hm)
    have hxl : Hid (xs.length = n) := hid (by rw [← hxs, List.length_set]; exact hlen.out)
    have hfs := hid (show (ks.flatMap cK).set (j * 2 + 1) (.int .i64 (m.many + 1)) = xs.flatMap cK by rw [← hxs]; exact flat_set hm)
    have hcm0 := hid (show (ks.flatMap cK)[j * 2 + 1]? = some (.int .i64 m.many) by rw [flat_at (f := cK) (s := 2) (fun _ => rfl) ks j 1 m hm (by omega)]; rfl)
    obtain ⟨hx1, hx2⟩ := hx0
    have z1 : IntKind.i64.wrap x = x := wrap_ok (by omega)
    obtain ⟨a, ha⟩ : ∃ a, x % 301 = a := ⟨_, rfl⟩
    have ha0 := Int.emod_nonneg x (b := 301) (by omega)
    have ha1 := Int.emod_lt_of_pos x (b := 301) (by omega)
    rw [ha] at ha0 ha1
    have z2 : x.tmod 301 = a := by rw [Int.tmod_eq_emod_of_nonneg hx1]; exact ha
    have z3 : IntKind.i64.wrap a = a := wrap_ok (by omega)
    have HAB : Hid (0 ≤ a ∧ a ≤ 300) := hid ⟨ha0, by omega⟩
    clear ha ha0 ha1 hj0 hj1 hm hxs
    go_enter Try.func14, Try.ntmps14
    go_wp2_with (fail)
    refine (fine_any _ _ _ _ _ (HR.out.below (by repeat' (first | with_reducible assumption | with_reducible exact Below.refl _ _ | refine Below.alloc ?_ ?_ _ | refine Below.setCell ?_ ?_ _ | refine Below.drew ?_ | refine below_drewN ?_ _ | (simp; done) | (simp; omega) | omega)) (by first | (simp; done) | (simp; omega) | omega))).mono ?_
    rw [Hf.out]
    rintro e W1 ⟨rfl, hb⟩
    have hst : Below W0.heap.size W0 W1 := Below.trans (by repeat' (first | with_reducible assumption | with_reducible exact Below.refl _ _ | refine Below.alloc ?_ ?_ _ | refine Below.setCell ?_ ?_ _ | refine Below.drew ?_ | refine below_drewN ?_ _ | (simp; done) | (simp; omega) | omega)) (hb.mono (by first | (simp; done) | (simp; omega) | omega))
    replace hbel := hbel.trans (hst.mono hsz)
    replace hsz := hbel.size
    replace HR := hid (HR.out.below hst hst.size)
    clear hb hst
    obtain ⟨W0, rfl⟩ : ∃ W0 : World, W0 = W1 := ⟨_, rfl⟩
    go_wp2_with (fail)
    refine (pans_any _ _).mono ?_
    rw [Hp.out]
    rintro e W1 ⟨rfl, hb⟩
    have hst : Below W0.heap.size W0 W1 := Below.trans (by repeat' (first | with_reducible assumption | with_reducible exact Below.refl _ _ | refine Below.alloc ?_ ?_ _ | refine Below.setCell ?_ ?_ _ | refine Below.drew ?_ | refine below_drewN ?_ _ | (simp; done) | (simp; omega) | omega)) (hb.mono (by first | (simp; done) | (simp; omega) | omega))
    replace hbel := hbel.trans (hst.mono hsz)
    replace hsz := hbel.size
    replace HR := hid (HR.out.below hst hst.size)
    clear hb hst
    obtain ⟨W0, rfl⟩ : ∃ W0 : World, W0 = W1 := ⟨_, rfl⟩
    go_wp2_with (first | (at_builtin; refine wpList_append_src rfl _ _ 22 rfl W0.heap.size 61 i0 _ 2 16 under22 I0.out I1.out I2.out I3.out rfl (by decide) _ 0 [] rfl (own_full (n := 0) W0 (cur := #[]) (Nat.le_refl _) (by unfold maxLen; omega) rfl rfl) A n c (ks.flatMap cK) rfl W0.heap.size (Sl.alloc HR.out (Nat.le_refl _) _) HA.out (one_cKs _) (by unfold maxLen; omega) (by omega) (by simp) ?_; intro v3 w3 ho3 hg3 _ hat3; rw [List.nil_append, Nat.zero_add] at ho3; obtain ⟨g, cap, hv3, hgl, hgr⟩ := World.ownsRow.form ho3 hn1; subst hv3; have hb3 : Below W0.heap.size W0 w3 := ((Below.refl _ _).alloc (Nat.le_refl _) _).grown hg3 (by simp) (fun r hr => by cases hr; exact Nat.le_refl _); have hz3 := hb3.size; have q0 := own_cell ho3 hcm0.out; have hown3 := hid ho3; have qf : w3.frozen? ⟨g, j * 2 + 1, none⟩ = false := (by obtain ⟨_, h | ⟨g', cap', cur, e1, h1, h2, h3⟩⟩ := ho3; (· cases h.1); cases e1; exact Blk.frozen h2 _); clear ho3))
    have hb4 : Below W0.heap.size W0 (w3.setCell ⟨g, j * 2 + 1, none⟩ (.int .i64 (m.many + 1))) := hb3.setCell hgl _
    have ho4 := own_put hown3.out (j * 2 + 1) (.int .i64 (m.many + 1))
    rw [hfs.out] at ho4
    have HX := hid (show KdS _ _ (some ⟨g, 0, none⟩) n xs from Sl.of_own ho4)
    replace HR := hid (HR.out.below hb4 hb4.size)
    replace hbel := hbel.trans (hb4.mono hsz)
    replace hsz := hbel.size
    clear ho4 hown3 hb4 hb3 hg3 hat3 q0 qf
    generalize w3.setCell ⟨g, j * 2 + 1, none⟩ (.int .i64 (m.many + 1)) = W5 at *
    obtain ⟨W0, rfl⟩ : ∃ W0 : World, W0 = W5 := ⟨_, rfl⟩
    cases hfx : fineB xs
    · have Hfx := hid hfx
      clear hfx
      refine (fine_any _ _ _ _ _ (HX.out.below (by repeat' (first | with_reducible assumption | with_reducible exact Below.refl _ _ | refine Below.alloc ?_ ?_ _ | refine Below.setCell ?_ ?_ _ | refine Below.drew ?_ | refine below_drewN ?_ _ | (simp; done) | (simp; omega) | omega)) (by first | (simp; done) | (simp; omega) | omega))).mono ?_
      rw [Hfx.out]
      rintro e W1 ⟨rfl, hb⟩
      have hst : Below W0.heap.size W0 W1 := Below.trans (by repeat' (first | with_reducible assumption | with_reducible exact Below.refl _ _ | refine Below.alloc ?_ ?_ _ | refine Below.setCell ?_ ?_ _ | refine Below.drew ?_ | refine below_drewN ?_ _ | (simp; done) | (simp; omega) | omega)) (hb.mono (by first | (simp; done) | (simp; omega) | omega))
      replace hbel := hbel.trans (hst.mono hsz)
      replace hsz := hbel.size
      replace HR := hid (HR.out.below hst hst.size)
      replace HX := hid (HX.out.below hst hst.size)
      clear hb hst
      obtain ⟨W0, rfl⟩ : ∃ W0 : World, W0 = W1 := ⟨_, rfl⟩
      go_wp2_with (fail)
      refine (works_any _).mono ?_
      rintro e W1 ⟨rfl, hb⟩
      have hst : Below W0.heap.size W0 W1 := Below.trans (by repeat' (first | with_reducible assumption | with_reducible exact Below.refl _ _ | refine Below.alloc ?_ ?_ _ | refine Below.setCell ?_ ?_ _ | refine Below.drew ?_ | refine below_drewN ?_ _ | (simp; done) | (simp; omega) | omega)) (hb.mono (by first | (simp; done) | (simp; omega) | omega))
      replace hbel := hbel.trans (hst.mono hsz)
      replace hsz := hbel.size
      replace HR := hid (HR.out.below hst hst.size)
      replace HX := hid (HX.out.below hst hst.size)
      clear hb hst
      obtain ⟨W0, rfl⟩ : ∃ W0 : World, W0 = W1 := ⟨_, rfl⟩
      go_wp2
      go_ret
      exact ⟨rfl, hbel⟩
    · have Hfx := hid hfx
      have H0x := hid (fineB_good hfx).1
      obtain ⟨g1, g2, g3⟩ := more_facts HP.out H0.out H0x.out hmore.out a
      have hopx : Hid (openE xs p = 0) := hid (openE_ok H0x.out (by rcases HP.out with h | h <;> rw [h] <;> rfl))
      obtain ⟨za, hza⟩ : ∃ z, ways p ks a = z := ⟨_, rfl⟩
      obtain ⟨zb, hzb⟩ : ∃ z, ways p xs a = z := ⟨_, rfl⟩
      obtain ⟨fa, hfa⟩ : ∃ z, fI p ks a = z := ⟨_, rfl⟩
      obtain ⟨fb, hfb⟩ : ∃ z, fI p xs a = z := ⟨_, rfl⟩
      obtain ⟨ba, hba⟩ : ∃ z, fB p ks a = z := ⟨_, rfl⟩
      obtain ⟨bb, hbb⟩ : ∃ z, fB p xs a = z := ⟨_, rfl⟩
      obtain ⟨ua, hua⟩ : ∃ z, uptoV p ks = z := ⟨_, rfl⟩
      obtain ⟨ub, hub⟩ : ∃ z, uptoV p xs = z := ⟨_, rfl⟩
      rw [hza, hzb] at g1
      rw [hfa, hfb, hba, hbb] at g2
      rw [hua, hub] at g3
      have d1 : decide (za ≤ zb) = true := decide_eq_true g1
      have d2 : decide (ua ≤ ub) = true := decide_eq_true g3
      have ZA := hid hza
      have ZB := hid hzb
      have FA := hid hfa
      have FB := hid hfb
      have BA := hid hba
      have BB := hid hbb
      have UA := hid hua
      have UB := hid hub
      have G2 := hid g2
      clear hfx hza hzb hfa hfb hba hbb hua hub g1 g2 g3
      refine (fine_any _ _ _ _ _ (HX.out.below (by repeat' (first | with_reducible assumption | with_reducible exact Below.refl _ _ | refine Below.alloc ?_ ?_ _ | refine Below.setCell ?_ ?_ _ | refine Below.drew ?_ | refine below_drewN ?_ _ | (simp; done) | (simp; omega) | omega)) (by first | (simp; done) | (simp; omega) | omega))).mono ?_
      rw [Hfx.out]
      rintro e W1 ⟨rfl, hb⟩
      have hst : Below W0.heap.size W0 W1 := Below.trans (by repeat' (first | with_reducible assumption | with_reducible exact Below.refl _ _ | refine Below.alloc ?_ ?_ _ | refine Below.setCell ?_ ?_ _ | refine Below.drew ?_ | refine below_drewN ?_ _ | (simp; done) | (simp; omega) | omega)) (hb.mono (by first | (simp; done) | (simp; omega) | omega))
      replace hbel := hbel.trans (hst.mono hsz)
      replace hsz := hbel.size
      replace HR := hid (HR.out.below hst hst.size)
      replace HX := hid (HX.out.below hst hst.size)
      clear hb hst
      obtain ⟨W0, rfl⟩ : ∃ W0 : World, W0 = W1 := ⟨_, rfl⟩
      go_wp2_with (fail)
      refine (waysL_any _ _ _ _ ks p a (HR.out.below (by repeat' (first | with_reducible assumption | with_reducible exact Below.refl _ _ | refine Below.alloc ?_ ?_ _ | refine Below.setCell ?_ ?_ _ | refine Below.drew ?_ | refine below_drewN ?_ _ | (simp; done) | (simp; omega) | omega)) (by first | (simp; done) | (simp; omega) | omega)) H0.out HP.out HAB.out).mono ?_
      rw [ZA.out]
      rintro e W1 ⟨rfl, hb⟩
      have hst : Below W0.heap.size W0 W1 := Below.trans (by repeat' (first | with_reducible assumption | with_reducible exact Below.refl _ _ | refine Below.alloc ?_ ?_ _ | refine Below.setCell ?_ ?_ _ | refine Below.drew ?_ | refine below_drewN ?_ _ | (simp; done) | (simp; omega) | omega)) (hb.mono (by first | (simp; done) | (simp; omega) | omega))
      replace hbel := hbel.trans (hst.mono hsz)
      replace hsz := hbel.size
      replace HR := hid (HR.out.below hst hst.size)
      replace HX := hid (HX.out.below hst hst.size)
      clear hb hst
      obtain ⟨W0, rfl⟩ : ∃ W0 : World, W0 = W1 := ⟨_, rfl⟩
      go_wp2_with (fail)
      refine (waysL_any _ _ _ _ xs p a (HX.out.below (by repeat' (first | with_reducible assumption | with_reducible exact Below.refl _ _ | refine Below.alloc ?_ ?_ _ | refine Below.setCell ?_ ?_ _ | refine Below.drew ?_ | refine below_drewN ?_ _ | (simp; done) | (simp; omega) | omega)) (by first | (simp; done) | (simp; omega) | omega)) H0x.out HP.out HAB.out).mono ?_
      rw [ZB.out]
      rintro e W1 ⟨rfl, hb⟩
      have hst : Below W0.heap.size W0 W1 := Below.trans (by repeat' (first | with_reducible assumption | with_reducible exact Below.refl _ _ | refine Below.alloc ?_ ?_ _ | refine Below.setCell ?_ ?_ _ | refine Below.drew ?_ | refine below_drewN ?_ _ | (simp; done) | (simp; omega) | omega)) (hb.mono (by first | (simp; done) | (simp; omega) | omega))
      replace hbel := hbel.trans (hst.mono hsz)
      replace hsz := hbel.size
      replace HR := hid (HR.out.below hst hst.size)
      replace HX := hid (HX.out.below hst hst.size)
      clear hb hst
      obtain ⟨W0, rfl⟩ : ∃ W0 : World, W0 = W1 := ⟨_, rfl⟩
      go_wp2_with (fail)
      refine (fewL_any _ _ _ _ ks p a (HR.out.below (by repeat' (first | with_reducible assumption | with_reducible exact Below.refl _ _ | refine Below.alloc ?_ ?_ _ | refine Below.setCell ?_ ?_ _ | refine Below.drew ?_ | refine below_drewN ?_ _ | (simp; done) | (simp; omega) | omega)) (by first | (simp; done) | (simp; omega) | omega)) H0.out HP.out HAB.out).mono ?_
      rw [fewR_eq, FA.out, BA.out]
      rintro e W1 ⟨rfl, hb⟩
      have hst : Below W0.heap.size W0 W1 := Below.trans (by repeat' (first | with_reducible assumption | with_reducible exact Below.refl _ _ | refine Below.alloc ?_ ?_ _ | refine Below.setCell ?_ ?_ _ | refine Below.drew ?_ | refine below_drewN ?_ _ | (simp; done) | (simp; omega) | omega)) (hb.mono (by first | (simp; done) | (simp; omega) | omega))
      replace hbel := hbel.trans (hst.mono hsz)
      replace hsz := hbel.size
      replace HR := hid (HR.out.below hst hst.size)
      replace HX := hid (HX.out.below hst hst.size)
      clear hb hst
      obtain ⟨W0, rfl⟩ : ∃ W0 : World, W0 = W1 := ⟨_, rfl⟩
      go_wp2_with (fail)
      refine (fewL_any _ _ _ _ xs p a (HX.out.below (by repeat' (first | with_reducible assumption | with_reducible exact Below.refl _ _ | refine Below.alloc ?_ ?_ _ | refine Below.setCell ?_ ?_ _ | refine Below.drew ?_ | refine below_drewN ?_ _ | (simp; done) | (simp; omega) | omega)) (by first | (simp; done) | (simp; omega) | omega)) H0x.out HP.out HAB.out).mono ?_
      rw [fewR_eq, FB.out, BB.out]
      rintro e W1 ⟨rfl, hb⟩
      have hst : Below W0.heap.size W0 W1 := Below.trans (by repeat' (first | with_reducible assumption | with_reducible exact Below.refl _ _ | refine Below.alloc ?_ ?_ _ | refine Below.setCell ?_ ?_ _ | refine Below.drew ?_ | refine below_drewN ?_ _ | (simp; done) | (simp; omega) | omega)) (hb.mono (by first | (simp; done) | (simp; omega) | omega))
      replace hbel := hbel.trans (hst.mono hsz)
      replace hsz := hbel.size
      replace HR := hid (HR.out.below hst hst.size)
      replace HX := hid (HX.out.below hst hst.size)
      clear hb hst
      obtain ⟨W0, rfl⟩ : ∃ W0 : World, W0 = W1 := ⟨_, rfl⟩
      go_wp2_with (fail)
      refine (upto_any _ _ _ _ ks p (HR.out.below (by repeat' (first | with_reducible assumption | with_reducible exact Below.refl _ _ | refine Below.alloc ?_ ?_ _ | refine Below.setCell ?_ ?_ _ | refine Below.drew ?_ | refine below_drewN ?_ _ | (simp; done) | (simp; omega) | omega)) (by first | (simp; done) | (simp; omega) | omega)) (by omega)).mono ?_
      rw [UA.out, hop.out]
      rintro e W1 ⟨rfl, hb⟩
      have hst : Below W0.heap.size W0 W1 := Below.trans (by repeat' (first | with_reducible assumption | with_reducible exact Below.refl _ _ | refine Below.alloc ?_ ?_ _ | refine Below.setCell ?_ ?_ _ | refine Below.drew ?_ | refine below_drewN ?_ _ | (simp; done) | (simp; omega) | omega)) (hb.mono (by first | (simp; done) | (simp; omega) | omega))
      replace hbel := hbel.trans (hst.mono hsz)
      replace hsz := hbel.size
      replace HR := hid (HR.out.below hst hst.size)
      replace HX := hid (HX.out.below hst hst.size)
      clear hb hst
      obtain ⟨W0, rfl⟩ : ∃ W0 : World, W0 = W1 := ⟨_, rfl⟩
      go_wp2_with (fail)
      refine (upto_any _ _ _ _ xs p (HX.out.below (by repeat' (first | with_reducible assumption | with_reducible exact Below.refl _ _ | refine Below.alloc ?_ ?_ _ | refine Below.setCell ?_ ?_ _ | refine Below.drew ?_ | refine below_drewN ?_ _ | (simp; done) | (simp; omega) | omega)) (by first | (simp; done) | (simp; omega) | omega)) (by omega)).mono ?_
      rw [UB.out, hopx.out]
      rintro e W1 ⟨rfl, hb⟩
      have hst : Below W0.heap.size W0 W1 := Below.trans (by repeat' (first | with_reducible assumption | with_reducible exact Below.refl _ _ | refine Below.alloc ?_ ?_ _ | refine Below.setCell ?_ ?_ _ | refine Below.drew ?_ | refine below_drewN ?_ _ | (simp; done) | (simp; omega) | omega)) (hb.mono (by first | (simp; done) | (simp; omega) | omega))
      replace hbel := hbel.trans (hst.mono hsz)
      replace hsz := hbel.size
      replace HR := hid (HR.out.below hst hst.size)
      replace HX := hid (HX.out.below hst hst.size)
      clear hb hst
      obtain ⟨W0, rfl⟩ : ∃ W0 : World, W0 = W1 := ⟨_, rfl⟩
      have hg2 := G2.out
      cases ba
      · clear hg2 G2
        go_wp2_with (fail)
        refine (works_any _).mono ?_
        rintro e W1 ⟨rfl, hb⟩
        have hst : Below W0.heap.size W0 W1 := Below.trans (by repeat' (first | with_reducible assumption | with_reducible exact Below.refl _ _ | refine Below.alloc ?_ ?_ _ | refine Below.setCell ?_ ?_ _ | refine Below.drew ?_ | refine below_drewN ?_ _ | (simp; done) | (simp; omega) | omega)) (hb.mono (by first | (simp; done) | (simp; omega) | omega))
        replace hbel := hbel.trans (hst.mono hsz)
        replace hsz := hbel.size
        replace HR := hid (HR.out.below hst hst.size)
        replace HX := hid (HX.out.below hst hst.size)
        clear hb hst
        obtain ⟨W0, rfl⟩ : ∃ W0 : World, W0 = W1 := ⟨_, rfl⟩
        go_wp2
        go_ret
        exact ⟨rfl, hbel⟩
      · obtain ⟨hsa, hsb⟩ := hg2 rfl
        subst hsa
        have d0 : decide (fb ≤ fa) = true := decide_eq_true hsb
        clear G2 hg2
        go_wp2_with (fail)
        refine (works_any _).mono ?_
        rintro e W1 ⟨rfl, hb⟩
        have hst : Below W0.heap.size W0 W1 := Below.trans (by repeat' (first | with_reducible assumption | with_reducible exact Below.refl _ _ | refine Below.alloc ?_ ?_ _ | refine Below.setCell ?_ ?_ _ | refine Below.drew ?_ | refine below_drewN ?_ _ | (simp; done) | (simp; omega) | omega)) (hb.mono (by first | (simp; done) | (simp; omega) | omega))
        replace hbel := hbel.trans (hst.mono hsz)
        replace hsz := hbel.size
        replace HR := hid (HR.out.below hst hst.size)
        replace HX := hid (HX.out.below hst hst.size)
        clear hb hst
        obtain ⟨W0, rfl⟩ : ∃ W0 : World, W0 = W1 := ⟨_, rfl⟩
        go_wp2
        go_ret
        exact ⟨rfl, hbel⟩

section
open Go.ChangeShapes Go.WideShapes Go.ChangeAt Go.RowKit
set_option maxRecDepth 100000 in
theorem stoneMore_lifted (os : Os) (started : os.Started) (H : Type) (enc : TypeId × Value → H) :
    ReturnsInHanded {} Try.checked os 14 .any (Rows.stoneMoreSpec.pre6 enc Try.prog Try.f14 Rows.stoneMoreRow.domain false) (Rows.stoneMoreSpec.post enc Try.prog Try.f14 false true false false) := by
  refine returnsInHanded_of_change (C := Try.checked) ownKx started (by kernel_rfl) Try.func14
    (ChangeSpec.witness6 (enc := enc) (C := Try.checked) false ⟨#[], #[.slice none 0 0, .bool false, .int .u8 0, .int .u16 0], []⟩ 8 (by kernel_rfl) (by kernel_rfl) (by kernel_rfl) (by kernel_rfl)) ?_
  intro W base args ds gs before hval0 hW hcnd _
  have hval : ∀ (j : Nat) t v, Try.f14.params[j]? = some t → args[j]? = some v → Value.okWide Try.prog W .any base t v := hval0
  have hW' := hW
  obtain ⟨p, q, hA0, hV, rfl, hfz, hnd⟩ := hW
  have hA : DataW.TrodAll enc Try.prog W 0 (fun _ => true) true Try.f14.params.toList args.toList ds p := hA0
  have hlt : ∀ x ∈ p, x.block < W.heap.size := fun x hx => hW'.lt x (List.mem_append_left _ hx)
  have hAll : ∀ W', Below W.heap.size W W' → DataW.TrodAll enc Try.prog W' 0 (fun b => decide (b < W.heap.size)) true Try.f14.params.toList args.toList ds p := fun W' hb => all_below laidOut hb (readable_of (by kernel_rfl)) hlt hA
  rw [Try.params14] at hA hval
  obtain ⟨v0, v1, v2, v3, d0, d1, d2, d3, p0, p1, p2, p3, rfl, rfl, rfl, h0, h1, h2, h3⟩ := trodAll_four hA
  obtain ⟨rfl, rfl⟩ := trodVars_none hV
  clear hA0 hval0
  obtain ⟨A0, n0, c0, rfl⟩ := okWide_slice Try.underlying22 (hval 0 22 v0 rfl rfl)
  obtain ⟨hc0, l0, hl0, hr0⟩ := open_kds h0
  obtain ⟨x1, rfl, rfl, rfl⟩ := open_bool Try.underlying4 (hval 1 4 v1 rfl rfl) h1
  obtain ⟨x2, rfl, rfl, rfl, wx2⟩ := open_int Try.underlying5 (hval 2 5 v2 rfl rfl) h2
  obtain ⟨x3, rfl, rfl, rfl, wx3⟩ := open_int Try.underlying50 (hval 3 50 v3 rfl rfl) h3
  refine (more_walk W A0 n0 c0 l0 x1 x2 x3 (u8_bd wx2) (u16_bd wx3) (open_nil Try.underlying22 h0) hr0).mono fun e W' ⟨he, hb⟩ => ?_
  subst he
  exact ⟨_, rfl, ⟨_, _, _, [], _, [], hW', trodAll_cons_mk (shut_bool Try.underlying4 _) trodAll_mk0, hAll W' hb, rfl, hb.frame _, fun h => by cases h⟩⟩
/-- The law: whatever the input, it returns true, and the input reads as it did. -/
theorem stoneMore_holds : Rows.StoneMoreSaid :=
  OpenClaim.holds_of_wide 14 Try.f14 rfl rfl rfl rfl rfl rfl rfl ⟨rfl, rfl, rfl, rfl, rfl⟩ rfl rfl rfl rfl rfl (by kernel_rfl) Try.func14 (by kernel_rfl)
    (of_decide_eq_true (by kernel_rfl)) (by unfold Func.isWrapper; first | (rw [if_pos (by decide +kernel)]; kernel_rfl) | (rw [if_neg (by decide +kernel)]; exact ⟨rfl, rfl⟩))
    (fun os started H enc _ => stoneMore_lifted os started H enc)
end
end Go.Proofs.Ytolghmhodaphfaa

