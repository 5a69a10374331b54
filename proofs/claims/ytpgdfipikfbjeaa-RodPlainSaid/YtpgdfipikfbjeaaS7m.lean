/- The statement RodPlain holds: whatever the arguments, the law returns true and leaves its arguments as they were. -/
import Derived.Test.YtpgdfipikfbjeaaMp
set_option linter.unusedSimpArgs false
set_option linter.unusedVariables false
namespace Go.Proofs.Ytpgdfipikfbjeaa
open Go.RowKit Go.Shelf
attribute [local go_sem] Oper.semAt_some
set_option maxRecDepth 100000 in
set_option maxHeartbeats 40000000 in
theorem rodPlain_walk (w : World) (P M : Int) (A : Option Addr) (n c : Nat) (pl : List (List Int)) (x : Int) (hx : 0 ≤ x ∧ x ≤ 255) (hp : LiS w w.heap.size A n pl) :
    Calls Try.prog 7 #[.agg #[.int .i64 P, .int .i64 M], .slice A n c, .int .u8 x] w fun e w' => e = .returned (.bool true) ∧ Below w.heap.size w w' := by
  have la := hid hp.1
  obtain ⟨W0, hWb⟩ : ∃ W0, w.alloc (.cells #[.int .i64 P, .int .i64 M] 23) = W0 := ⟨_, rfl⟩
  have bB : Blk W0 w.heap.size 23 #[.int .i64 P, .int .i64 M] := by rw [← hWb]; exact Blk.new' rfl
  have hbel : Below w.heap.size w W0 := by rw [← hWb]; exact (Below.refl _ _).alloc (Nat.le_refl _) _
  have hsz := hbel.size
  have lB := bB.lt
  have p0 := bB.cell 0
  have p1 := bB.cell 1
  have HP := hid (hp.below hbel hsz)
  clear hp
  obtain ⟨xn, rfl⟩ : ∃ k : Nat, x = k := ⟨x.toNat, by omega⟩
  cases hf : fineB P M pl
  · have Hf := hid hf
    clear hf
    go_enter Try.func7, Try.ntmps7
    go_wp2_with (fail)
    refine (fineW_any A n c pl P M _ (HP.out.below (by repeat' (first | with_reducible assumption | with_reducible exact Below.refl _ _ | refine Below.alloc ?_ ?_ _ | refine Below.setCell ?_ ?_ _ | refine Below.drew ?_ | refine below_drewN ?_ _ | (simp; done) | (simp; omega) | omega)) (by first | (simp; done) | (simp; omega) | omega))).mono ?_
    rw [Hf.out]
    rintro e W1 ⟨rfl, hb⟩
    have hst : Below W0.heap.size W0 W1 := Below.trans (by repeat' (first | with_reducible assumption | with_reducible exact Below.refl _ _ | refine Below.alloc ?_ ?_ _ | refine Below.setCell ?_ ?_ _ | refine Below.drew ?_ | refine below_drewN ?_ _ | (simp; done) | (simp; omega) | omega)) (hb.mono (by first | (simp; done) | (simp; omega) | omega))
    replace hbel := hbel.trans (hst.mono hsz)
    replace hsz := hbel.size
    replace bB := bB.below hst bB.lt
    clear p0 p1 lB
    have p0 := bB.cell 0
    have p1 := bB.cell 1
    have lB := bB.lt
    try clear hWb
    replace HP := hid (HP.out.below hst hst.size)
    clear hb hst
    obtain ⟨W0, rfl⟩ : ∃ W0 : World, W0 = W1 := ⟨_, rfl⟩
    go_wp2_with (fail)
    refine (works_any _).mono ?_
    rintro e W1 ⟨rfl, hb⟩
    have hst : Below W0.heap.size W0 W1 := Below.trans (by repeat' (first | with_reducible assumption | with_reducible exact Below.refl _ _ | refine Below.alloc ?_ ?_ _ | refine Below.setCell ?_ ?_ _ | refine Below.drew ?_ | refine below_drewN ?_ _ | (simp; done) | (simp; omega) | omega)) (hb.mono (by first | (simp; done) | (simp; omega) | omega))
    replace hbel := hbel.trans (hst.mono hsz)
    replace hsz := hbel.size
    replace bB := bB.below hst bB.lt
    clear p0 p1 lB
    have p0 := bB.cell 0
    have p1 := bB.cell 1
    have lB := bB.lt
    try clear hWb
    replace HP := hid (HP.out.below hst hst.size)
    clear hb hst
    obtain ⟨W0, rfl⟩ : ∃ W0 : World, W0 = W1 := ⟨_, rfl⟩
    go_wp2
    go_ret
    exact ⟨rfl, hbel⟩
  · have Hf := hid hf
    obtain ⟨k1, k2, hc0⟩ := fine_good hf
    obtain ⟨p, m0, rfl, rfl, hp1, hp8, hm2, hpl8, hisl⟩ := plan_nat hc0
    have hn : n ≤ 8 := by rw [← la.out]; exact hpl8
    have Hc := hid hc0
    have K2 := hid k2
    have Hisl := hid hisl
    clear hf k1 k2 hc0 hisl
    obtain ⟨cc, hcc⟩ : ∃ cc, atC p m0 xn = cc := ⟨_, rfl⟩
    have hcm : cc ∈ casesL p m0 := by rw [← hcc]; exact at_mem p m0 xn
    have Hcc := hid hcc
    have hcl := (cases_isL hp8 hm2 cc hcm).2
    obtain ⟨rl, hrl⟩ : ∃ rl, resL pl cc = rl := ⟨_, rfl⟩
    have Hre := hid (resE_case hp8 hm2 Hc.out hcm)
    have Hrv := hid ((resV_case hp8 hm2 Hc.out hcm).trans hrl)
    have hrn : rl.length = n := by rw [← hrl, resL_len]; exact la.out
    have Hse : Hid (errR p m0 pl rl = 0) := hid (by rw [← hrl]; exact errR_case Hc.out cc)
    obtain ⟨sv, hsv⟩ : ∃ sv, susL pl rl p = sv := ⟨_, rfl⟩
    have Hsv : Hid (susV p m0 pl rl = sv) := hid (by rw [susV_zero Hse.out, hsv])
    have Hte : Hid (toldE p m0 pl rl = 0) := hid (by rw [← hrl]; exact toldE_case Hc.out hcm)
    obtain ⟨tv, htv⟩ : ∃ tv, toldL p m0 pl rl = tv := ⟨_, rfl⟩
    have Htv : Hid (toldV p m0 pl rl = tv) := hid (by rw [toldV_zero Hte.out, htv])
    have Hs2 : Hid (∀ d ∈ tv, ∀ y ∈ d, has sv y = true) := hid (fun d hd y hy => by rw [← hsv]; exact sus_sup hp8 hm2 (M := m0) (by rw [htv]; exact hd) hy)
    have Hs1 : Hid (∀ y ∈ cc, has sv y = true) := hid (fun y hy => Hs2.out cc (by rw [← htv]; exact told_mem.2 ⟨hcm, hrl⟩) y hy)
    have Htl : Hid (tv.length ≤ 37) := hid (by rw [← htv]; exact toldL_len hp8 pl rl)
    have Hts : Hid (∀ d ∈ tv, d.length ≤ 2) := hid (fun d hd => by rw [← htv] at hd; have := (cases_isL hp8 hm2 d (told_mem.1 hd).1).2; omega)
    have Hsl : Hid (sv.length ≤ 8) := hid (by rw [← hsv]; have := sus_len pl rl p; omega)
    have hpq : PlainP p m0 pl → sv = cc := fun h => by rw [← hsv, ← hrl]; exact plain_sus hp8 hm2 h hcm
    rcases cov_cases Hc.out with ⟨hq, hcv, hpe⟩ | ⟨hq, hpe, xv, px, hcv, hxm, hpx, hcov⟩
    · have hsc := hpq hq
      have Hcv := hid hcv
      have Hpe := hid hpe
      have Htt := hid ((tells_iff hp8 hm2 Hc.out).2 (plain_tells hp8 hm2 hq))
      have E1 : Hid (eqI sv cc = true) := hid (eqI_t.2 hsc)
      clear hcc hcm hrl hsv htv hpq hq hcv hpe hsc
      go_enter Try.func7, Try.ntmps7
      go_wp2_with (fail)
      refine (fineW_any A n c pl _ _ _ (HP.out.below (by repeat' (first | with_reducible assumption | with_reducible exact Below.refl _ _ | refine Below.alloc ?_ ?_ _ | refine Below.setCell ?_ ?_ _ | refine Below.drew ?_ | refine below_drewN ?_ _ | (simp; done) | (simp; omega) | omega)) (by first | (simp; done) | (simp; omega) | omega))).mono ?_
      rw [Hf.out]
      rintro e W1 ⟨rfl, hb⟩
      have hst : Below W0.heap.size W0 W1 := Below.trans (by repeat' (first | with_reducible assumption | with_reducible exact Below.refl _ _ | refine Below.alloc ?_ ?_ _ | refine Below.setCell ?_ ?_ _ | refine Below.drew ?_ | refine below_drewN ?_ _ | (simp; done) | (simp; omega) | omega)) (hb.mono (by first | (simp; done) | (simp; omega) | omega))
      replace hbel := hbel.trans (hst.mono hsz)
      replace hsz := hbel.size
      replace bB := bB.below hst bB.lt
      clear p0 p1 lB
      have p0 := bB.cell 0
      have p1 := bB.cell 1
      have lB := bB.lt
      try clear hWb
      replace HP := hid (HP.out.below hst hst.size)
      clear hb hst
      obtain ⟨W0, rfl⟩ : ∃ W0 : World, W0 = W1 := ⟨_, rfl⟩
      go_wp2_with (fail)
      refine (at_any p m0 xn _ hp8 hm2 (by omega)).mono ?_
      rw [Hcc.out]
      rintro e W1 ⟨Ac, mc, cq, rfl, h1, -, hb⟩
      have hst : Below W0.heap.size W0 W1 := Below.trans (by repeat' (first | with_reducible assumption | with_reducible exact Below.refl _ _ | refine Below.alloc ?_ ?_ _ | refine Below.setCell ?_ ?_ _ | refine Below.drew ?_ | refine below_drewN ?_ _ | (simp; done) | (simp; omega) | omega)) (hb.mono (by first | (simp; done) | (simp; omega) | omega))
      replace hbel := hbel.trans (hst.mono hsz)
      replace hsz := hbel.size
      replace bB := bB.below hst bB.lt
      clear p0 p1 lB
      have p0 := bB.cell 0
      have p1 := bB.cell 1
      have lB := bB.lt
      try clear hWb
      replace HP := hid (HP.out.below hst hst.size)
      have HC := hid h1
      clear h1
      clear hb hst
      obtain ⟨W0, rfl⟩ : ∃ W0 : World, W0 = W1 := ⟨_, rfl⟩
      go_wp2_with (fail)
      refine wp_region_hd_all (fun W => Below W0.heap.size W0 W) (by kernel_rfl) (by kernel_rfl) ((Below.refl _ _).drew) ?_
      (refine wpHd_val (v := ?_) (by rfl) (fun W hW => ?_) ?_; rotate_left; (· obtain ⟨hcW, hfW⟩ := bcell hW; go_simp; with_reducible rfl); simp only [Act.put, List.setIfInBounds_toArray, List.set_cons_zero, List.set_cons_succ])
      (refine wpHd_val (v := ?_) (by rfl) (fun W hW => ?_) ?_; rotate_left; (· obtain ⟨hcW, hfW⟩ := bcell hW; go_simp; with_reducible rfl); simp only [Act.put, List.setIfInBounds_toArray, List.set_cons_zero, List.set_cons_succ])
      (refine wpHd_callB (v := ?_) (f := ?_) (args := ?_) (by rfl) (fun W hW => ?_) (fun W hW => ?_) ?_; rotate_left 3; (· have := checkPlain_any A n c pl p m0 W (HP.out.below hW hW.size) (by omega) K2.out; rw [Hpe.out] at this; exact this); (· obtain ⟨hcW, hfW⟩ := bcell hW; go_simp); simp only [Act.put, List.setIfInBounds_toArray, List.set_cons_zero, List.set_cons_succ])
      (refine wpHd_val (v := ?_) (by rfl) (fun W hW => ?_) ?_; rotate_left; (· obtain ⟨hcW, hfW⟩ := bcell hW; go_simp; with_reducible rfl); simp only [Act.put, List.setIfInBounds_toArray, List.set_cons_zero, List.set_cons_succ])
      (refine wpHd_val (v := ?_) (by rfl) (fun W hW => ?_) ?_; rotate_left; (· obtain ⟨hcW, hfW⟩ := bcell hW; go_simp; with_reducible rfl); simp only [Act.put, List.setIfInBounds_toArray, List.set_cons_zero, List.set_cons_succ])
      (refine wpHd_callB (v := ?_) (f := ?_) (args := ?_) (by rfl) (fun W hW => ?_) (fun W hW => ?_) ?_; rotate_left 3; (· have := checkTells_any A n c pl p m0 W (HP.out.below hW hW.size) (by omega) K2.out; rw [Htt.out] at this; exact this); (· obtain ⟨hcW, hfW⟩ := bcell hW; go_simp); simp only [Act.put, List.setIfInBounds_toArray, List.set_cons_zero, List.set_cons_succ])
      (refine wpHd_val (v := ?_) (by rfl) (fun W hW => ?_) ?_; rotate_left; (· obtain ⟨hcW, hfW⟩ := bcell hW; go_simp; with_reducible rfl); simp only [Act.put, List.setIfInBounds_toArray, List.set_cons_zero, List.set_cons_succ])
      (refine wpHd_val (v := ?_) (by rfl) (fun W hW => ?_) ?_; rotate_left; (· obtain ⟨hcW, hfW⟩ := bcell hW; go_simp; with_reducible rfl); simp only [Act.put, List.setIfInBounds_toArray, List.set_cons_zero, List.set_cons_succ])
      refine wpHd_nil ?_
      intro W1 hb
      replace hbel := hbel.trans (hb.mono hsz)
      replace hsz := hbel.size
      replace bB := bB.below hb bB.lt
      clear p0 p1 lB
      have p0 := bB.cell 0
      have p1 := bB.cell 1
      have lB := bB.lt
      replace HP := hid (HP.out.below hb hb.size)
      replace HC := hid (HC.out.below hb hb.size)
      clear hb
      try clear hWb
      obtain ⟨W0, rfl⟩ : ∃ W0 : World, W0 = W1 := ⟨_, rfl⟩
      go_wp2_with (fail)
      refine (covered_any A n c pl _ _ _ (HP.out.below (by repeat' (first | with_reducible assumption | with_reducible exact Below.refl _ _ | refine Below.alloc ?_ ?_ _ | refine Below.setCell ?_ ?_ _ | refine Below.drew ?_ | refine below_drewN ?_ _ | (simp; done) | (simp; omega) | omega)) (by first | (simp; done) | (simp; omega) | omega)) (by omega) K2.out).mono ?_
      rw [Hcv.out]
      rintro e W1 ⟨A1, m1, c1, rfl, h1, hb⟩
      have hst : Below W0.heap.size W0 W1 := Below.trans (by repeat' (first | with_reducible assumption | with_reducible exact Below.refl _ _ | refine Below.alloc ?_ ?_ _ | refine Below.setCell ?_ ?_ _ | refine Below.drew ?_ | refine below_drewN ?_ _ | (simp; done) | (simp; omega) | omega)) (hb.mono (by first | (simp; done) | (simp; omega) | omega))
      replace hbel := hbel.trans (hst.mono hsz)
      replace hsz := hbel.size
      replace bB := bB.below hst bB.lt
      clear p0 p1 lB
      have p0 := bB.cell 0
      have p1 := bB.cell 1
      have lB := bB.lt
      try clear hWb
      replace HP := hid (HP.out.below hst hst.size)
      replace HC := hid (HC.out.below hst hst.size)
      have H1 := hid (show InS W1 W1.heap.size A1 m1 [] from h1)
      clear hb hst
      obtain ⟨W0, rfl⟩ : ∃ W0 : World, W0 = W1 := ⟨_, rfl⟩
      clear h1
      go_wp2_with (fail)
      refine (resultsF_any A Ac n c mc cq pl cc _ _ _ (HP.out.below (by repeat' (first | with_reducible assumption | with_reducible exact Below.refl _ _ | refine Below.alloc ?_ ?_ _ | refine Below.setCell ?_ ?_ _ | refine Below.drew ?_ | refine below_drewN ?_ _ | (simp; done) | (simp; omega) | omega)) (by first | (simp; done) | (simp; omega) | omega)) (HC.out.below (by repeat' (first | with_reducible assumption | with_reducible exact Below.refl _ _ | refine Below.alloc ?_ ?_ _ | refine Below.setCell ?_ ?_ _ | refine Below.drew ?_ | refine below_drewN ?_ _ | (simp; done) | (simp; omega) | omega)) (by first | (simp; done) | (simp; omega) | omega)) (by omega) K2.out (by have := HC.out.len; omega)).mono ?_
      rw [Hrv.out, Hre.out]
      rintro e W1 ⟨Ar, mr, cr, rfl, h1, hb⟩
      have hst : Below W0.heap.size W0 W1 := Below.trans (by repeat' (first | with_reducible assumption | with_reducible exact Below.refl _ _ | refine Below.alloc ?_ ?_ _ | refine Below.setCell ?_ ?_ _ | refine Below.drew ?_ | refine below_drewN ?_ _ | (simp; done) | (simp; omega) | omega)) (hb.mono (by first | (simp; done) | (simp; omega) | omega))
      replace hbel := hbel.trans (hst.mono hsz)
      replace hsz := hbel.size
      replace bB := bB.below hst bB.lt
      clear p0 p1 lB
      have p0 := bB.cell 0
      have p1 := bB.cell 1
      have lB := bB.lt
      try clear hWb
      replace HP := hid (HP.out.below hst hst.size)
      replace HC := hid (HC.out.below hst hst.size)
      replace H1 := hid (H1.out.below hst hst.size)
      have HR := hid h1
      clear h1
      clear hb hst
      obtain ⟨W0, rfl⟩ : ∃ W0 : World, W0 = W1 := ⟨_, rfl⟩
      go_wp2_with (fail)
      refine (suspects_any A Ar n c mr cr pl rl _ _ _ (HP.out.below (by repeat' (first | with_reducible assumption | with_reducible exact Below.refl _ _ | refine Below.alloc ?_ ?_ _ | refine Below.setCell ?_ ?_ _ | refine Below.drew ?_ | refine below_drewN ?_ _ | (simp; done) | (simp; omega) | omega)) (by first | (simp; done) | (simp; omega) | omega)) (HR.out.below (by repeat' (first | with_reducible assumption | with_reducible exact Below.refl _ _ | refine Below.alloc ?_ ?_ _ | refine Below.setCell ?_ ?_ _ | refine Below.drew ?_ | refine below_drewN ?_ _ | (simp; done) | (simp; omega) | omega)) (by first | (simp; done) | (simp; omega) | omega)) (by omega) K2.out).mono ?_
      rw [Hsv.out, Hse.out]
      rintro e W1 ⟨As, ms, cs, rfl, h1, hb⟩
      have hst : Below W0.heap.size W0 W1 := Below.trans (by repeat' (first | with_reducible assumption | with_reducible exact Below.refl _ _ | refine Below.alloc ?_ ?_ _ | refine Below.setCell ?_ ?_ _ | refine Below.drew ?_ | refine below_drewN ?_ _ | (simp; done) | (simp; omega) | omega)) (hb.mono (by first | (simp; done) | (simp; omega) | omega))
      replace hbel := hbel.trans (hst.mono hsz)
      replace hsz := hbel.size
      replace bB := bB.below hst bB.lt
      clear p0 p1 lB
      have p0 := bB.cell 0
      have p1 := bB.cell 1
      have lB := bB.lt
      try clear hWb
      replace HP := hid (HP.out.below hst hst.size)
      replace HC := hid (HC.out.below hst hst.size)
      replace H1 := hid (H1.out.below hst hst.size)
      replace HR := hid (HR.out.below hst hst.size)
      have HS := hid h1
      clear h1
      clear hb hst
      obtain ⟨W0, rfl⟩ : ∃ W0 : World, W0 = W1 := ⟨_, rfl⟩
      go_wp2_with (fail)
      refine (toldF_any A Ar n c mr cr pl rl _ _ _ (HP.out.below (by repeat' (first | with_reducible assumption | with_reducible exact Below.refl _ _ | refine Below.alloc ?_ ?_ _ | refine Below.setCell ?_ ?_ _ | refine Below.drew ?_ | refine below_drewN ?_ _ | (simp; done) | (simp; omega) | omega)) (by first | (simp; done) | (simp; omega) | omega)) (HR.out.below (by repeat' (first | with_reducible assumption | with_reducible exact Below.refl _ _ | refine Below.alloc ?_ ?_ _ | refine Below.setCell ?_ ?_ _ | refine Below.drew ?_ | refine below_drewN ?_ _ | (simp; done) | (simp; omega) | omega)) (by first | (simp; done) | (simp; omega) | omega)) (by omega) K2.out).mono ?_
      rw [Htv.out, Hte.out]
      rintro e W1 ⟨At, mt, ct, rfl, h1, hb⟩
      have hst : Below W0.heap.size W0 W1 := Below.trans (by repeat' (first | with_reducible assumption | with_reducible exact Below.refl _ _ | refine Below.alloc ?_ ?_ _ | refine Below.setCell ?_ ?_ _ | refine Below.drew ?_ | refine below_drewN ?_ _ | (simp; done) | (simp; omega) | omega)) (hb.mono (by first | (simp; done) | (simp; omega) | omega))
      replace hbel := hbel.trans (hst.mono hsz)
      replace hsz := hbel.size
      replace bB := bB.below hst bB.lt
      clear p0 p1 lB
      have p0 := bB.cell 0
      have p1 := bB.cell 1
      have lB := bB.lt
      try clear hWb
      replace HP := hid (HP.out.below hst hst.size)
      replace HC := hid (HC.out.below hst hst.size)
      replace H1 := hid (H1.out.below hst hst.size)
      replace HR := hid (HR.out.below hst hst.size)
      replace HS := hid (HS.out.below hst hst.size)
      have HT := hid h1.1
      clear hb hst
      obtain ⟨W0, rfl⟩ : ∃ W0 : World, W0 = W1 := ⟨_, rfl⟩
      clear h1
      have hms : ms ≤ 1000000 := by have := HS.out.len; have := Hsl.out; omega
      have hmc : mc ≤ 2 := by have := HC.out.len; omega
      have hmt : mt ≤ 37 := by have := HT.out.1; have := Htl.out; omega
      go_wp2_with (fail)
      refine (ints_any _ As Ac ms cs mc cq sv cc (HS.out.below (by repeat' (first | with_reducible assumption | with_reducible exact Below.refl _ _ | refine Below.alloc ?_ ?_ _ | refine Below.setCell ?_ ?_ _ | refine Below.drew ?_ | refine below_drewN ?_ _ | (simp; done) | (simp; omega) | omega)) (by first | (simp; done) | (simp; omega) | omega)) (HC.out.below (by repeat' (first | with_reducible assumption | with_reducible exact Below.refl _ _ | refine Below.alloc ?_ ?_ _ | refine Below.setCell ?_ ?_ _ | refine Below.drew ?_ | refine below_drewN ?_ _ | (simp; done) | (simp; omega) | omega)) (by first | (simp; done) | (simp; omega) | omega)) hms).mono ?_
      rw [E1.out]
      rintro e W1 ⟨rfl, hb⟩
      have hst : Below W0.heap.size W0 W1 := Below.trans (by repeat' (first | with_reducible assumption | with_reducible exact Below.refl _ _ | refine Below.alloc ?_ ?_ _ | refine Below.setCell ?_ ?_ _ | refine Below.drew ?_ | refine below_drewN ?_ _ | (simp; done) | (simp; omega) | omega)) (hb.mono (by first | (simp; done) | (simp; omega) | omega))
      replace hbel := hbel.trans (hst.mono hsz)
      replace hsz := hbel.size
      replace bB := bB.below hst bB.lt
      clear p0 p1 lB
      have p0 := bB.cell 0
      have p1 := bB.cell 1
      have lB := bB.lt
      try clear hWb
      replace HP := hid (HP.out.below hst hst.size)
      replace HC := hid (HC.out.below hst hst.size)
      replace H1 := hid (H1.out.below hst hst.size)
      replace HR := hid (HR.out.below hst hst.size)
      replace HS := hid (HS.out.below hst hst.size)
      replace HT := hid (HT.out.below hst hst.size)
      clear hb hst
      obtain ⟨W0, rfl⟩ : ∃ W0 : World, W0 = W1 := ⟨_, rfl⟩
      go_wp2_with (fail)
      go_loopw [19] (fun i wr => ∃ k : Nat, k ≤ mc ∧ i = .int .i64 k ∧ W0 = wr) (fun i _ => mc - (intOf i).toNat)
      case atStart => exact ⟨0, by omega, rfl, rfl⟩
      case round =>
        obtain ⟨k, hk, rfl, rfl⟩ := hrel
        by_cases hlt : k < mc
        · obtain ⟨b, off, y, rfl, hbq, hm, c0⟩ := HC.out.at_ hlt
          have hlti : (k : Int) < mc := by omega
          have Hy := hid (Hs1.out y (List.mem_of_getElem? hm))
          clear hm
          go_wp2_with (go_at_call 43; refine (has_any As ms cs sv y _ HS.out hms).mono ?_; rw [Hy.out]; rintro e W2 ⟨rfl, rfl⟩)
          exact ⟨⟨k + 1, by omega, by go_num, trivial⟩, by simp [intOf]; omega⟩
        · obtain rfl : k = mc := by omega
          go_wp2_with (fail)
          go_loopw [20] (fun i wr => ∃ k : Nat, k ≤ mt ∧ i = .int .i64 k ∧ W0 = wr) (fun i _ => mt - (intOf i).toNat)
          case atStart => exact ⟨0, by omega, rfl, rfl⟩
          case round =>
            obtain ⟨j, hj, rfl, rfl⟩ := hrel
            by_cases hlt : j < mt
            · obtain ⟨bt, ot, d, A7, m7, c7, rfl, hbt, hd, ct7, hin7⟩ := HT.out.at_ hlt
              have hlti : (j : Int) < mt := by omega
              have Hd := hid (Hs2.out d (List.mem_of_getElem? hd))
              have HIN := hid hin7
              have hm72 : m7 ≤ 2 := by have := hin7.len; have := Hts.out d (List.mem_of_getElem? hd); omega
              clear hd hin7
              go_wp2_with (fail)
              go_loopw [21] (fun i wr => ∃ q : Nat, q ≤ m7 ∧ i = .int .i64 q ∧ W0 = wr) (fun i _ => m7 - (intOf i).toNat)
              case atStart => exact ⟨0, by omega, rfl, rfl⟩
              case round =>
                obtain ⟨q, hq, rfl, rfl⟩ := hrel
                by_cases hlq : q < m7
                · obtain ⟨b7, o7, y, rfl, hb7, hm7, c7y⟩ := HIN.out.at_ hlq
                  have hlqi : (q : Int) < m7 := by omega
                  have Hy := hid (Hd.out y (List.mem_of_getElem? hm7))
                  clear hm7
                  go_wp2_with (go_at_call 43; refine (has_any As ms cs sv y _ HS.out hms).mono ?_; rw [Hy.out]; rintro e W2 ⟨rfl, rfl⟩)
                  exact ⟨⟨q + 1, by omega, by go_num, trivial⟩, by simp [intOf]; omega⟩
                · obtain rfl : q = m7 := by omega
                  go_wp2
                  exact ⟨⟨j + 1, by omega, by go_num, trivial⟩, by simp [intOf]; omega⟩
            · obtain rfl : j = mt := by omega
              go_wp2_with (fail)
              refine (works_any _).mono ?_
              rintro e W1 ⟨rfl, hb⟩
              have hst : Below W0.heap.size W0 W1 := Below.trans (by repeat' (first | with_reducible assumption | with_reducible exact Below.refl _ _ | refine Below.alloc ?_ ?_ _ | refine Below.setCell ?_ ?_ _ | refine Below.drew ?_ | refine below_drewN ?_ _ | (simp; done) | (simp; omega) | omega)) (hb.mono (by first | (simp; done) | (simp; omega) | omega))
              replace hbel := hbel.trans (hst.mono hsz)
              replace hsz := hbel.size
              replace bB := bB.below hst bB.lt
              clear p0 p1 lB
              have p0 := bB.cell 0
              have p1 := bB.cell 1
              have lB := bB.lt
              try clear hWb
              replace HP := hid (HP.out.below hst hst.size)
              replace HC := hid (HC.out.below hst hst.size)
              replace H1 := hid (H1.out.below hst hst.size)
              replace HR := hid (HR.out.below hst hst.size)
              replace HS := hid (HS.out.below hst hst.size)
              replace HT := hid (HT.out.below hst hst.size)
              clear hb hst
              obtain ⟨W0, rfl⟩ : ∃ W0 : World, W0 = W1 := ⟨_, rfl⟩
              go_wp2
              go_ret
              exact ⟨rfl, hbel⟩
    · obtain ⟨hx1, hx2⟩ := cases_isL hp8 hm2 xv hxm
      have Hx1 := hid hx1
      have Hx2 := hid hx2
      have Hx3 := hid hcov
      have Hcv := hid hcv
      have Hpe := hid hpe
      obtain ⟨tt, htt⟩ : ∃ tt, tellsE p m0 pl = tt := ⟨_, rfl⟩
      have Htt := hid htt
      clear hcc hcm hrl hsv htv hpq hq hcv hpe htt hx1 hx2 hcov hxm
      go_enter Try.func7, Try.ntmps7
      go_wp2_with (fail)
      refine (fineW_any A n c pl _ _ _ (HP.out.below (by repeat' (first | with_reducible assumption | with_reducible exact Below.refl _ _ | refine Below.alloc ?_ ?_ _ | refine Below.setCell ?_ ?_ _ | refine Below.drew ?_ | refine below_drewN ?_ _ | (simp; done) | (simp; omega) | omega)) (by first | (simp; done) | (simp; omega) | omega))).mono ?_
      rw [Hf.out]
      rintro e W1 ⟨rfl, hb⟩
      have hst : Below W0.heap.size W0 W1 := Below.trans (by repeat' (first | with_reducible assumption | with_reducible exact Below.refl _ _ | refine Below.alloc ?_ ?_ _ | refine Below.setCell ?_ ?_ _ | refine Below.drew ?_ | refine below_drewN ?_ _ | (simp; done) | (simp; omega) | omega)) (hb.mono (by first | (simp; done) | (simp; omega) | omega))
      replace hbel := hbel.trans (hst.mono hsz)
      replace hsz := hbel.size
      replace bB := bB.below hst bB.lt
      clear p0 p1 lB
      have p0 := bB.cell 0
      have p1 := bB.cell 1
      have lB := bB.lt
      try clear hWb
      replace HP := hid (HP.out.below hst hst.size)
      clear hb hst
      obtain ⟨W0, rfl⟩ : ∃ W0 : World, W0 = W1 := ⟨_, rfl⟩
      go_wp2_with (fail)
      refine (at_any p m0 xn _ hp8 hm2 (by omega)).mono ?_
      rw [Hcc.out]
      rintro e W1 ⟨Ac, mc, cq, rfl, h1, -, hb⟩
      have hst : Below W0.heap.size W0 W1 := Below.trans (by repeat' (first | with_reducible assumption | with_reducible exact Below.refl _ _ | refine Below.alloc ?_ ?_ _ | refine Below.setCell ?_ ?_ _ | refine Below.drew ?_ | refine below_drewN ?_ _ | (simp; done) | (simp; omega) | omega)) (hb.mono (by first | (simp; done) | (simp; omega) | omega))
      replace hbel := hbel.trans (hst.mono hsz)
      replace hsz := hbel.size
      replace bB := bB.below hst bB.lt
      clear p0 p1 lB
      have p0 := bB.cell 0
      have p1 := bB.cell 1
      have lB := bB.lt
      try clear hWb
      replace HP := hid (HP.out.below hst hst.size)
      have HC := hid h1
      clear h1
      clear hb hst
      obtain ⟨W0, rfl⟩ : ∃ W0 : World, W0 = W1 := ⟨_, rfl⟩
      go_wp2_with (fail)
      refine wp_region_hd_all (fun W => Below W0.heap.size W0 W) (by kernel_rfl) (by kernel_rfl) ((Below.refl _ _).drew) ?_
      (refine wpHd_val (v := ?_) (by rfl) (fun W hW => ?_) ?_; rotate_left; (· obtain ⟨hcW, hfW⟩ := bcell hW; go_simp; with_reducible rfl); simp only [Act.put, List.setIfInBounds_toArray, List.set_cons_zero, List.set_cons_succ])
      (refine wpHd_val (v := ?_) (by rfl) (fun W hW => ?_) ?_; rotate_left; (· obtain ⟨hcW, hfW⟩ := bcell hW; go_simp; with_reducible rfl); simp only [Act.put, List.setIfInBounds_toArray, List.set_cons_zero, List.set_cons_succ])
      (refine wpHd_callB (v := ?_) (f := ?_) (args := ?_) (by rfl) (fun W hW => ?_) (fun W hW => ?_) ?_; rotate_left 3; (· have := checkPlain_any A n c pl p m0 W (HP.out.below hW hW.size) (by omega) K2.out; rw [Hpe.out] at this; exact this); (· obtain ⟨hcW, hfW⟩ := bcell hW; go_simp); simp only [Act.put, List.setIfInBounds_toArray, List.set_cons_zero, List.set_cons_succ])
      (refine wpHd_val (v := ?_) (by rfl) (fun W hW => ?_) ?_; rotate_left; (· obtain ⟨hcW, hfW⟩ := bcell hW; go_simp; with_reducible rfl); simp only [Act.put, List.setIfInBounds_toArray, List.set_cons_zero, List.set_cons_succ])
      (refine wpHd_val (v := ?_) (by rfl) (fun W hW => ?_) ?_; rotate_left; (· obtain ⟨hcW, hfW⟩ := bcell hW; go_simp; with_reducible rfl); simp only [Act.put, List.setIfInBounds_toArray, List.set_cons_zero, List.set_cons_succ])
      (refine wpHd_callB (v := ?_) (f := ?_) (args := ?_) (by rfl) (fun W hW => ?_) (fun W hW => ?_) ?_; rotate_left 3; (· have := checkTells_any A n c pl p m0 W (HP.out.below hW hW.size) (by omega) K2.out; rw [Htt.out] at this; exact this); (· obtain ⟨hcW, hfW⟩ := bcell hW; go_simp); simp only [Act.put, List.setIfInBounds_toArray, List.set_cons_zero, List.set_cons_succ])
      (refine wpHd_val (v := ?_) (by rfl) (fun W hW => ?_) ?_; rotate_left; (· obtain ⟨hcW, hfW⟩ := bcell hW; go_simp; with_reducible rfl); simp only [Act.put, List.setIfInBounds_toArray, List.set_cons_zero, List.set_cons_succ])
      (refine wpHd_val (v := ?_) (by rfl) (fun W hW => ?_) ?_; rotate_left; (· obtain ⟨hcW, hfW⟩ := bcell hW; go_simp; with_reducible rfl); simp only [Act.put, List.setIfInBounds_toArray, List.set_cons_zero, List.set_cons_succ])
      refine wpHd_nil ?_
      intro W1 hb
      replace hbel := hbel.trans (hb.mono hsz)
      replace hsz := hbel.size
      replace bB := bB.below hb bB.lt
      clear p0 p1 lB
      have p0 := bB.cell 0
      have p1 := bB.cell 1
      have lB := bB.lt
      replace HP := hid (HP.out.below hb hb.size)
      replace HC := hid (HC.out.below hb hb.size)
      clear hb
      try clear hWb
      obtain ⟨W0, rfl⟩ : ∃ W0 : World, W0 = W1 := ⟨_, rfl⟩
      go_wp2_with (fail)
      refine (covered_any A n c pl _ _ _ (HP.out.below (by repeat' (first | with_reducible assumption | with_reducible exact Below.refl _ _ | refine Below.alloc ?_ ?_ _ | refine Below.setCell ?_ ?_ _ | refine Below.drew ?_ | refine below_drewN ?_ _ | (simp; done) | (simp; omega) | omega)) (by first | (simp; done) | (simp; omega) | omega)) (by omega) K2.out).mono ?_
      rw [Hcv.out]
      rintro e W1 ⟨A1, m1, c1, rfl, h1, hb⟩
      have hst : Below W0.heap.size W0 W1 := Below.trans (by repeat' (first | with_reducible assumption | with_reducible exact Below.refl _ _ | refine Below.alloc ?_ ?_ _ | refine Below.setCell ?_ ?_ _ | refine Below.drew ?_ | refine below_drewN ?_ _ | (simp; done) | (simp; omega) | omega)) (hb.mono (by first | (simp; done) | (simp; omega) | omega))
      replace hbel := hbel.trans (hst.mono hsz)
      replace hsz := hbel.size
      replace bB := bB.below hst bB.lt
      clear p0 p1 lB
      have p0 := bB.cell 0
      have p1 := bB.cell 1
      have lB := bB.lt
      try clear hWb
      replace HP := hid (HP.out.below hst hst.size)
      replace HC := hid (HC.out.below hst hst.size)
      have H1 := hid (show InS W1 W1.heap.size A1 m1 xv from h1)
      clear hb hst
      obtain ⟨W0, rfl⟩ : ∃ W0 : World, W0 = W1 := ⟨_, rfl⟩
      clear h1
      go_wp2_with (fail)
      refine (resultsF_any A Ac n c mc cq pl cc _ _ _ (HP.out.below (by repeat' (first | with_reducible assumption | with_reducible exact Below.refl _ _ | refine Below.alloc ?_ ?_ _ | refine Below.setCell ?_ ?_ _ | refine Below.drew ?_ | refine below_drewN ?_ _ | (simp; done) | (simp; omega) | omega)) (by first | (simp; done) | (simp; omega) | omega)) (HC.out.below (by repeat' (first | with_reducible assumption | with_reducible exact Below.refl _ _ | refine Below.alloc ?_ ?_ _ | refine Below.setCell ?_ ?_ _ | refine Below.drew ?_ | refine below_drewN ?_ _ | (simp; done) | (simp; omega) | omega)) (by first | (simp; done) | (simp; omega) | omega)) (by omega) K2.out (by have := HC.out.len; omega)).mono ?_
      rw [Hrv.out, Hre.out]
      rintro e W1 ⟨Ar, mr, cr, rfl, h1, hb⟩
      have hst : Below W0.heap.size W0 W1 := Below.trans (by repeat' (first | with_reducible assumption | with_reducible exact Below.refl _ _ | refine Below.alloc ?_ ?_ _ | refine Below.setCell ?_ ?_ _ | refine Below.drew ?_ | refine below_drewN ?_ _ | (simp; done) | (simp; omega) | omega)) (hb.mono (by first | (simp; done) | (simp; omega) | omega))
      replace hbel := hbel.trans (hst.mono hsz)
      replace hsz := hbel.size
      replace bB := bB.below hst bB.lt
      clear p0 p1 lB
      have p0 := bB.cell 0
      have p1 := bB.cell 1
      have lB := bB.lt
      try clear hWb
      replace HP := hid (HP.out.below hst hst.size)
      replace HC := hid (HC.out.below hst hst.size)
      replace H1 := hid (H1.out.below hst hst.size)
      have HR := hid h1
      clear h1
      clear hb hst
      obtain ⟨W0, rfl⟩ : ∃ W0 : World, W0 = W1 := ⟨_, rfl⟩
      go_wp2_with (fail)
      refine (suspects_any A Ar n c mr cr pl rl _ _ _ (HP.out.below (by repeat' (first | with_reducible assumption | with_reducible exact Below.refl _ _ | refine Below.alloc ?_ ?_ _ | refine Below.setCell ?_ ?_ _ | refine Below.drew ?_ | refine below_drewN ?_ _ | (simp; done) | (simp; omega) | omega)) (by first | (simp; done) | (simp; omega) | omega)) (HR.out.below (by repeat' (first | with_reducible assumption | with_reducible exact Below.refl _ _ | refine Below.alloc ?_ ?_ _ | refine Below.setCell ?_ ?_ _ | refine Below.drew ?_ | refine below_drewN ?_ _ | (simp; done) | (simp; omega) | omega)) (by first | (simp; done) | (simp; omega) | omega)) (by omega) K2.out).mono ?_
      rw [Hsv.out, Hse.out]
      rintro e W1 ⟨As, ms, cs, rfl, h1, hb⟩
      have hst : Below W0.heap.size W0 W1 := Below.trans (by repeat' (first | with_reducible assumption | with_reducible exact Below.refl _ _ | refine Below.alloc ?_ ?_ _ | refine Below.setCell ?_ ?_ _ | refine Below.drew ?_ | refine below_drewN ?_ _ | (simp; done) | (simp; omega) | omega)) (hb.mono (by first | (simp; done) | (simp; omega) | omega))
      replace hbel := hbel.trans (hst.mono hsz)
      replace hsz := hbel.size
      replace bB := bB.below hst bB.lt
      clear p0 p1 lB
      have p0 := bB.cell 0
      have p1 := bB.cell 1
      have lB := bB.lt
      try clear hWb
      replace HP := hid (HP.out.below hst hst.size)
      replace HC := hid (HC.out.below hst hst.size)
      replace H1 := hid (H1.out.below hst hst.size)
      replace HR := hid (HR.out.below hst hst.size)
      have HS := hid h1
      clear h1
      clear hb hst
      obtain ⟨W0, rfl⟩ : ∃ W0 : World, W0 = W1 := ⟨_, rfl⟩
      go_wp2_with (fail)
      refine (toldF_any A Ar n c mr cr pl rl _ _ _ (HP.out.below (by repeat' (first | with_reducible assumption | with_reducible exact Below.refl _ _ | refine Below.alloc ?_ ?_ _ | refine Below.setCell ?_ ?_ _ | refine Below.drew ?_ | refine below_drewN ?_ _ | (simp; done) | (simp; omega) | omega)) (by first | (simp; done) | (simp; omega) | omega)) (HR.out.below (by repeat' (first | with_reducible assumption | with_reducible exact Below.refl _ _ | refine Below.alloc ?_ ?_ _ | refine Below.setCell ?_ ?_ _ | refine Below.drew ?_ | refine below_drewN ?_ _ | (simp; done) | (simp; omega) | omega)) (by first | (simp; done) | (simp; omega) | omega)) (by omega) K2.out).mono ?_
      rw [Htv.out, Hte.out]
      rintro e W1 ⟨At, mt, ct, rfl, h1, hb⟩
      have hst : Below W0.heap.size W0 W1 := Below.trans (by repeat' (first | with_reducible assumption | with_reducible exact Below.refl _ _ | refine Below.alloc ?_ ?_ _ | refine Below.setCell ?_ ?_ _ | refine Below.drew ?_ | refine below_drewN ?_ _ | (simp; done) | (simp; omega) | omega)) (hb.mono (by first | (simp; done) | (simp; omega) | omega))
      replace hbel := hbel.trans (hst.mono hsz)
      replace hsz := hbel.size
      replace bB := bB.below hst bB.lt
      clear p0 p1 lB
      have p0 := bB.cell 0
      have p1 := bB.cell 1
      have lB := bB.lt
      try clear hWb
      replace HP := hid (HP.out.below hst hst.size)
      replace HC := hid (HC.out.below hst hst.size)
      replace H1 := hid (H1.out.below hst hst.size)
      replace HR := hid (HR.out.below hst hst.size)
      replace HS := hid (HS.out.below hst hst.size)
      have HT := hid h1.1
      clear hb hst
      obtain ⟨W0, rfl⟩ : ∃ W0 : World, W0 = W1 := ⟨_, rfl⟩
      clear h1
      have hms : ms ≤ 1000000 := by have := HS.out.len; have := Hsl.out; omega
      have hmc : mc ≤ 2 := by have := HC.out.len; omega
      have hmt : mt ≤ 37 := by have := HT.out.1; have := Htl.out; omega
      go_wp2_with (fail)
      go_loopw [19] (fun i wr => ∃ k : Nat, k ≤ mc ∧ i = .int .i64 k ∧ W0 = wr) (fun i _ => mc - (intOf i).toNat)
      case atStart => exact ⟨0, by omega, rfl, rfl⟩
      case round =>
        obtain ⟨k, hk, rfl, rfl⟩ := hrel
        by_cases hlt : k < mc
        · obtain ⟨b, off, y, rfl, hbq, hm, c0⟩ := HC.out.at_ hlt
          have hlti : (k : Int) < mc := by omega
          have Hy := hid (Hs1.out y (List.mem_of_getElem? hm))
          clear hm
          go_wp2_with (go_at_call 43; refine (has_any As ms cs sv y _ HS.out hms).mono ?_; rw [Hy.out]; rintro e W2 ⟨rfl, rfl⟩)
          exact ⟨⟨k + 1, by omega, by go_num, trivial⟩, by simp [intOf]; omega⟩
        · obtain rfl : k = mc := by omega
          go_wp2_with (fail)
          go_loopw [20] (fun i wr => ∃ k : Nat, k ≤ mt ∧ i = .int .i64 k ∧ W0 = wr) (fun i _ => mt - (intOf i).toNat)
          case atStart => exact ⟨0, by omega, rfl, rfl⟩
          case round =>
            obtain ⟨j, hj, rfl, rfl⟩ := hrel
            by_cases hlt : j < mt
            · obtain ⟨bt, ot, d, A7, m7, c7, rfl, hbt, hd, ct7, hin7⟩ := HT.out.at_ hlt
              have hlti : (j : Int) < mt := by omega
              have Hd := hid (Hs2.out d (List.mem_of_getElem? hd))
              have HIN := hid hin7
              have hm72 : m7 ≤ 2 := by have := hin7.len; have := Hts.out d (List.mem_of_getElem? hd); omega
              clear hd hin7
              go_wp2_with (fail)
              go_loopw [21] (fun i wr => ∃ q : Nat, q ≤ m7 ∧ i = .int .i64 q ∧ W0 = wr) (fun i _ => m7 - (intOf i).toNat)
              case atStart => exact ⟨0, by omega, rfl, rfl⟩
              case round =>
                obtain ⟨q, hq, rfl, rfl⟩ := hrel
                by_cases hlq : q < m7
                · obtain ⟨b7, o7, y, rfl, hb7, hm7, c7y⟩ := HIN.out.at_ hlq
                  have hlqi : (q : Int) < m7 := by omega
                  have Hy := hid (Hd.out y (List.mem_of_getElem? hm7))
                  clear hm7
                  go_wp2_with (go_at_call 43; refine (has_any As ms cs sv y _ HS.out hms).mono ?_; rw [Hy.out]; rintro e W2 ⟨rfl, rfl⟩)
                  exact ⟨⟨q + 1, by omega, by go_num, trivial⟩, by simp [intOf]; omega⟩
                · obtain rfl : q = m7 := by omega
                  go_wp2
                  exact ⟨⟨j + 1, by omega, by go_num, trivial⟩, by simp [intOf]; omega⟩
            · obtain rfl : j = mt := by omega
              have g1 : ((m1 : Nat) : Int) ≤ (m0 : Int) := by have := H1.out.len; have := Hx2.out; omega
              have g2 : (px : Int) < (p : Int) := by omega
              have g3 : (0 : Int) ≤ (px : Int) := by omega
              go_wp2_with (fail)
              refine (isList_any A1 m1 c1 xv _ _ (H1.out.below (by repeat' (first | with_reducible assumption | with_reducible exact Below.refl _ _ | refine Below.alloc ?_ ?_ _ | refine Below.setCell ?_ ?_ _ | refine Below.drew ?_ | refine below_drewN ?_ _ | (simp; done) | (simp; omega) | omega)) (by first | (simp; done) | (simp; omega) | omega)) (by omega)).mono ?_
              rw [Hx1.out]
              rintro e W1 ⟨rfl, hb⟩
              have hst : Below W0.heap.size W0 W1 := Below.trans (by repeat' (first | with_reducible assumption | with_reducible exact Below.refl _ _ | refine Below.alloc ?_ ?_ _ | refine Below.setCell ?_ ?_ _ | refine Below.drew ?_ | refine below_drewN ?_ _ | (simp; done) | (simp; omega) | omega)) (hb.mono (by first | (simp; done) | (simp; omega) | omega))
              replace hbel := hbel.trans (hst.mono hsz)
              replace hsz := hbel.size
              replace bB := bB.below hst bB.lt
              clear p0 p1 lB
              have p0 := bB.cell 0
              have p1 := bB.cell 1
              have lB := bB.lt
              try clear hWb
              replace HP := hid (HP.out.below hst hst.size)
              replace HC := hid (HC.out.below hst hst.size)
              replace H1 := hid (H1.out.below hst hst.size)
              replace HR := hid (HR.out.below hst hst.size)
              replace HS := hid (HS.out.below hst hst.size)
              replace HT := hid (HT.out.below hst hst.size)
              clear hb hst
              obtain ⟨W0, rfl⟩ : ∃ W0 : World, W0 = W1 := ⟨_, rfl⟩
              go_wp2_with (fail)
              refine (covers_any A A1 n c m1 c1 pl xv _ _ (HP.out.below (by repeat' (first | with_reducible assumption | with_reducible exact Below.refl _ _ | refine Below.alloc ?_ ?_ _ | refine Below.setCell ?_ ?_ _ | refine Below.drew ?_ | refine below_drewN ?_ _ | (simp; done) | (simp; omega) | omega)) (by first | (simp; done) | (simp; omega) | omega)) (H1.out.below (by repeat' (first | with_reducible assumption | with_reducible exact Below.refl _ _ | refine Below.alloc ?_ ?_ _ | refine Below.setCell ?_ ?_ _ | refine Below.drew ?_ | refine below_drewN ?_ _ | (simp; done) | (simp; omega) | omega)) (by first | (simp; done) | (simp; omega) | omega)) (by omega) K2.out (by omega)).mono ?_
              rw [Hx3.out]
              rintro e W1 ⟨rfl, rfl⟩
              go_wp2_with (fail)
              refine (works_any _).mono ?_
              rintro e W1 ⟨rfl, hb⟩
              have hst : Below W0.heap.size W0 W1 := Below.trans (by repeat' (first | with_reducible assumption | with_reducible exact Below.refl _ _ | refine Below.alloc ?_ ?_ _ | refine Below.setCell ?_ ?_ _ | refine Below.drew ?_ | refine below_drewN ?_ _ | (simp; done) | (simp; omega) | omega)) (hb.mono (by first | (simp; done) | (simp; omega) | omega))
              replace hbel := hbel.trans (hst.mono hsz)
              replace hsz := hbel.size
              replace bB := bB.below hst bB.lt
              clear p0 p1 lB
              have p0 := bB.cell 0
              have p1 := bB.cell 1
              have lB := bB.lt
              try clear hWb
              replace HP := hid (HP.out.below hst hst.size)
              replace HC := hid (HC.out.below hst hst.size)
              replace H1 := hid (H1.out.below hst hst.size)
              replace HR := hid (HR.out.below hst hst.size)
              replace HS := hid (HS.out.below hst hst.size)
              replace HT := hid (HT.out.below hst hst.size)
              clear hb hst
              obtain ⟨W0, rfl⟩ : ∃ W0 : World, W0 = W1 := ⟨_, rfl⟩
              go_wp2
              go_ret
              exact ⟨rfl, hbel⟩

section
open Go.ChangeShapes Go.WideShapes Go.ChangeAt Go.RowKit
set_option maxRecDepth 100000 in
theorem rodPlain_lifted (os : Os) (started : os.Started) (H : Type) (enc : TypeId × Value → H) :
    ReturnsInHanded {} Try.checked os 7 .any (Rows.rodPlainSpec.pre6 enc Try.prog Try.f7 Rows.rodPlainRow.domain false) (Rows.rodPlainSpec.post enc Try.prog Try.f7 false true false false) := by
  refine returnsInHanded_of_change (C := Try.checked) ownKx started (by kernel_rfl) Try.func7
    (ChangeSpec.witness6 (enc := enc) (C := Try.checked) false ⟨#[], #[.agg #[.int .i64 0, .int .i64 0], .slice none 0 0, .int .u8 0], []⟩ 8 (by kernel_rfl) (by kernel_rfl) (by kernel_rfl) (by kernel_rfl)) ?_
  intro W base args ds gs before hval0 hW hcnd _
  have hval : ∀ (j : Nat) t v, Try.f7.params[j]? = some t → args[j]? = some v → Value.okWide Try.prog W .any base t v := hval0
  have hW' := hW
  obtain ⟨p, q, hA0, hV, rfl, hfz, hnd⟩ := hW
  have hA : DataW.TrodAll enc Try.prog W 0 (fun _ => true) true Try.f7.params.toList args.toList ds p := hA0
  have hlt : ∀ x ∈ p, x.block < W.heap.size := fun x hx => hW'.lt x (List.mem_append_left _ hx)
  have hAll : ∀ W', Below W.heap.size W W' → DataW.TrodAll enc Try.prog W' 0 (fun b => decide (b < W.heap.size)) true Try.f7.params.toList args.toList ds p := fun W' hb => all_below laidOut hb (readable_of (by kernel_rfl)) hlt hA
  rw [Try.params7] at hA hval
  obtain ⟨v0, v1, v2, d0, d1, d2, p0, p1, p2, rfl, rfl, rfl, h0, h1, h2⟩ := trodAll_three hA
  obtain ⟨rfl, rfl⟩ := trodVars_none hV
  clear hA0 hval0
  obtain ⟨x0, rfl⟩ := open_book (hval 0 23 v0 rfl rfl) h0
  obtain ⟨A1, n1, c1, rfl⟩ := okWide_slice Try.underlying24 (hval 1 24 v1 rfl rfl)
  obtain ⟨hc1, l1, hl1, hr1⟩ := open_lis h1
  obtain ⟨x2, rfl, rfl, rfl, wx2⟩ := open_int Try.underlying5 (hval 2 5 v2 rfl rfl) h2
  refine (rodPlain_walk W x0.P x0.M A1 n1 c1 l1 x2 (u8_bd wx2) hr1).mono fun e W' ⟨he, hb⟩ => ?_
  subst he
  exact ⟨_, rfl, ⟨_, _, _, [], _, [], hW', trodAll_cons_mk (shut_bool Try.underlying4 _) trodAll_mk0, hAll W' hb, rfl, hb.frame _, fun h => by cases h⟩⟩
/-- The law: whatever the input, it returns true, and the input reads as it did. -/
theorem rodPlain_holds : Rows.RodPlainSaid :=
  OpenClaim.holds_of_wide 7 Try.f7 rfl rfl rfl rfl rfl rfl rfl ⟨rfl, rfl, rfl, rfl, rfl⟩ rfl rfl rfl rfl rfl (by kernel_rfl) Try.func7 (by kernel_rfl)
    (of_decide_eq_true (by kernel_rfl)) (by unfold Func.isWrapper; first | (rw [if_pos (by decide +kernel)]; kernel_rfl) | (rw [if_neg (by decide +kernel)]; exact ⟨rfl, rfl⟩))
    (fun os started H enc _ => rodPlain_lifted os started H enc)
end
end Go.Proofs.Ytpgdfipikfbjeaa

