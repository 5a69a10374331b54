/- The statement RodPlayed holds: whatever the arguments, the law returns true and leaves its arguments as they were. -/
import Derived.Test.YtpgdfipikfbjeaaMu
set_option linter.unusedSimpArgs false
set_option linter.unusedVariables false
namespace Go.Proofs.Ytpgdfipikfbjeaa
open Go.RowKit Go.Shelf
attribute [local go_sem] Oper.semAt_some
set_option maxRecDepth 100000 in
set_option maxHeartbeats 40000000 in
theorem rodPlayed_walk (w : World) (P M : Int) (x : Int) (hx : 0 ≤ x ∧ x ≤ 255) :
    Calls Try.prog 9 #[.agg #[.int .i64 P, .int .i64 M], .int .u8 x] w fun e w' => e = .returned (.bool true) ∧ Below w.heap.size w w' := by
  obtain ⟨xn, rfl⟩ : ∃ k : Nat, x = k := ⟨x.toNat, by omega⟩
  obtain ⟨i0, hi0, hi1, hi2, hi3⟩ := info_parts' info25
  have I0 := hid hi0; have I1 := hid hi1; have I2 := hid hi2; have I3 := hid hi3
  obtain ⟨j0, hj0, hj1, hj2, hj3⟩ := info_parts' info3
  have J0 := hid hj0; have J1 := hid hj1; have J2 := hid hj2; have J3 := hid hj3
  clear hi0 hi1 hi2 hi3 hj0 hj1 hj2 hj3
  obtain ⟨W0, hWb⟩ : ∃ W0, w.alloc (.cells #[.int .i64 P, .int .i64 M] 23) = W0 := ⟨_, rfl⟩
  have bB : Blk W0 w.heap.size 23 #[.int .i64 P, .int .i64 M] := by rw [← hWb]; exact Blk.new' rfl
  have hbel : Below w.heap.size w W0 := by rw [← hWb]; exact (Below.refl _ _).alloc (Nat.le_refl _) _
  have hsz := hbel.size
  have lB := bB.lt
  have p0 := bB.cell 0
  have p1 := bB.cell 1
  by_cases hc : checkBook P M ≠ 0
  · have Hc := hid hc
    have hc1 : (checkBook P M == 0) = false := by simpa using hc
    have hc2 : (checkBook P M != 0) = true := by simpa using hc
    have hc3 : ¬ checkBook P M = 0 := hc
    clear hc
    go_enter Try.func9, Try.ntmps9
    go_wp2_with (fail)
    refine (refCheckBook_any _ _ _).mono ?_
    rintro e W1 ⟨rfl, hb⟩
    have hst : Below W0.heap.size W0 W1 := Below.trans (by repeat' (first | with_reducible assumption | with_reducible exact Below.refl _ _ | refine Below.alloc ?_ ?_ _ | refine Below.setCell ?_ ?_ _ | refine Below.drew ?_ | refine below_drewN ?_ _ | (simp; done) | (simp; omega) | omega)) (hb.mono (by first | (simp; done) | (simp; omega) | omega))
    replace hbel := hbel.trans (hst.mono hsz)
    replace hsz := hbel.size
    replace bB := bB.below hst bB.lt
    clear p0 p1 lB
    have p0 := bB.cell 0
    have p1 := bB.cell 1
    have lB := bB.lt
    try clear hWb
    clear hb hst
    obtain ⟨W0, rfl⟩ : ∃ W0 : World, W0 = W1 := ⟨_, rfl⟩
    go_wp2_with (fail)
    refine (works_any _).mono ?_
    rintro e W1 ⟨rfl, hb⟩
    have hst : Below W0.heap.size W0 W1 := Below.trans (by repeat' (first | with_reducible assumption | with_reducible exact Below.refl _ _ | refine Below.alloc ?_ ?_ _ | refine Below.setCell ?_ ?_ _ | refine Below.drew ?_ | refine below_drewN ?_ _ | (simp; done) | (simp; omega) | omega)) (hb.mono (by first | (simp; done) | (simp; omega) | omega))
    replace hbel := hbel.trans (hst.mono hsz)
    replace hsz := hbel.size
    replace bB := bB.below hst bB.lt
    clear p0 p1 lB
    have p0 := bB.cell 0
    have p1 := bB.cell 1
    have lB := bB.lt
    try clear hWb
    clear hb hst
    obtain ⟨W0, rfl⟩ : ∃ W0 : World, W0 = W1 := ⟨_, rfl⟩
    go_wp2
    go_ret
    exact ⟨rfl, hbel⟩
  have hc0 : checkBook P M = 0 := by omega
  obtain ⟨g4, g5, g6, g7⟩ := book_good hc0
  obtain ⟨p, rfl⟩ : ∃ k : Nat, P = k := ⟨P.toNat, by omega⟩
  obtain ⟨m0, rfl⟩ : ∃ k : Nat, M = k := ⟨M.toNat, by omega⟩
  have hp1 : 1 ≤ p := by omega
  have hp8 : p ≤ 8 := by omega
  have hm2 : m0 ≤ 2 := by omega
  have Hbk := hid hc0
  clear hc hc0 g4 g5 g6 g7
  by_cases hp5 : 5 < p
  · have h5i : (5 : Int) < p := by omega
    go_enter Try.func9, Try.ntmps9
    go_wp2_with (fail)
    refine (refCheckBook_any _ _ _).mono ?_
    rw [Hbk.out]
    rintro e W1 ⟨rfl, hb⟩
    have hst : Below W0.heap.size W0 W1 := Below.trans (by repeat' (first | with_reducible assumption | with_reducible exact Below.refl _ _ | refine Below.alloc ?_ ?_ _ | refine Below.setCell ?_ ?_ _ | refine Below.drew ?_ | refine below_drewN ?_ _ | (simp; done) | (simp; omega) | omega)) (hb.mono (by first | (simp; done) | (simp; omega) | omega))
    replace hbel := hbel.trans (hst.mono hsz)
    replace hsz := hbel.size
    replace bB := bB.below hst bB.lt
    clear p0 p1 lB
    have p0 := bB.cell 0
    have p1 := bB.cell 1
    have lB := bB.lt
    try clear hWb
    clear hb hst
    obtain ⟨W0, rfl⟩ : ∃ W0 : World, W0 = W1 := ⟨_, rfl⟩
    go_wp2_with (fail)
    refine (works_any _).mono ?_
    rintro e W1 ⟨rfl, hb⟩
    have hst : Below W0.heap.size W0 W1 := Below.trans (by repeat' (first | with_reducible assumption | with_reducible exact Below.refl _ _ | refine Below.alloc ?_ ?_ _ | refine Below.setCell ?_ ?_ _ | refine Below.drew ?_ | refine below_drewN ?_ _ | (simp; done) | (simp; omega) | omega)) (hb.mono (by first | (simp; done) | (simp; omega) | omega))
    replace hbel := hbel.trans (hst.mono hsz)
    replace hsz := hbel.size
    replace bB := bB.below hst bB.lt
    clear p0 p1 lB
    have p0 := bB.cell 0
    have p1 := bB.cell 1
    have lB := bB.lt
    try clear hWb
    clear hb hst
    obtain ⟨W0, rfl⟩ : ∃ W0 : World, W0 = W1 := ⟨_, rfl⟩
    go_wp2
    go_ret
    exact ⟨rfl, hbel⟩
  have h5i : ¬ (5 : Int) < p := by omega
  obtain ⟨cc, hcc⟩ : ∃ cc, atC p m0 xn = cc := ⟨_, rfl⟩
  have hcm : cc ∈ casesL p m0 := by rw [← hcc]; exact at_mem p m0 xn
  have Hcc := hid hcc
  have Hcm := hid hcm
  have hcl := (cases_isL hp8 hm2 cc hcm).2
  obtain ⟨nv, hnv⟩ : ∃ v, needOf p m0 (casesL p m0) = v := ⟨_, rfl⟩
  have hce : checkPlan p m0 [] = 0 := plan_ok hp1 hp8 hm2 (by simp) (by simp)
  have htd : toldL p m0 [] [] = casesL p m0 := told_nil p m0
  have HLE : Hid (leftE p m0 [] [] = 0) := hid (leftE_case (cc := cc) hce (by omega) hcm)
  have HNV : Hid (needV p m0 [] [] = (nv : Int)) := hid (by rw [← hnv, ← htd]; exact needV_case (cc := cc) hce (by omega) hcm)
  have hnp : nv ≤ p := by rw [← hnv, ← htd]; exact need_few hp8 hm2 [] []
  have Hn0 : Hid (needOf p m0 (toldL p m0 [] (resL [] cc)) ≤ nv) := hid (by show needOf p m0 (toldL p m0 [] []) ≤ nv; rw [htd, hnv]; exact Nat.le_refl _)
  clear hcc hcm hnv hce htd
  go_enter Try.func9, Try.ntmps9
  go_wp2_with (fail)
  refine (refCheckBook_any _ _ _).mono ?_
  rw [Hbk.out]
  rintro e W1 ⟨rfl, hb⟩
  have hst : Below W0.heap.size W0 W1 := Below.trans (by repeat' (first | with_reducible assumption | with_reducible exact Below.refl _ _ | refine Below.alloc ?_ ?_ _ | refine Below.setCell ?_ ?_ _ | refine Below.drew ?_ | refine below_drewN ?_ _ | (simp; done) | (simp; omega) | omega)) (hb.mono (by first | (simp; done) | (simp; omega) | omega))
  replace hbel := hbel.trans (hst.mono hsz)
  replace hsz := hbel.size
  replace bB := bB.below hst bB.lt
  clear p0 p1 lB
  have p0 := bB.cell 0
  have p1 := bB.cell 1
  have lB := bB.lt
  try clear hWb
  clear hb hst
  obtain ⟨W0, rfl⟩ : ∃ W0 : World, W0 = W1 := ⟨_, rfl⟩
  go_wp2_with (fail)
  refine (at_any p m0 xn _ hp8 hm2 (by omega)).mono ?_
  rw [Hcc.out]
  rintro e W1 ⟨Ac, mc, cq, rfl, h1, -, hb⟩
  have hst : Below W0.heap.size W0 W1 := Below.trans (by repeat' (first | with_reducible assumption | with_reducible exact Below.refl _ _ | refine Below.alloc ?_ ?_ _ | refine Below.setCell ?_ ?_ _ | refine Below.drew ?_ | refine below_drewN ?_ _ | (simp; done) | (simp; omega) | omega)) (hb.mono (by first | (simp; done) | (simp; omega) | omega))
  replace hbel := hbel.trans (hst.mono hsz)
  replace hsz := hbel.size
  replace bB := bB.below hst bB.lt
  clear p0 p1 lB
  have p0 := bB.cell 0
  have p1 := bB.cell 1
  have lB := bB.lt
  try clear hWb
  have HC := hid h1
  clear h1
  clear hb hst
  obtain ⟨W0, rfl⟩ : ∃ W0 : World, W0 = W1 := ⟨_, rfl⟩
  go_wp2_with (fail)
  refine (neededF_any none none 0 0 0 0 [] [] _ _ _ (LiS.nil_ _ _) Sl.none_ (by decide) (by simp)).mono ?_
  rw [HNV.out, HLE.out]
  rintro e W1 ⟨rfl, hb⟩
  have hst : Below W0.heap.size W0 W1 := Below.trans (by repeat' (first | with_reducible assumption | with_reducible exact Below.refl _ _ | refine Below.alloc ?_ ?_ _ | refine Below.setCell ?_ ?_ _ | refine Below.drew ?_ | refine below_drewN ?_ _ | (simp; done) | (simp; omega) | omega)) (hb.mono (by first | (simp; done) | (simp; omega) | omega))
  replace hbel := hbel.trans (hst.mono hsz)
  replace hsz := hbel.size
  replace bB := bB.below hst bB.lt
  clear p0 p1 lB
  have p0 := bB.cell 0
  have p1 := bB.cell 1
  have lB := bB.lt
  try clear hWb
  replace HC := hid (HC.out.below hst hst.size)
  clear hb hst
  obtain ⟨W0, rfl⟩ : ∃ W0 : World, W0 = W1 := ⟨_, rfl⟩
  have hmc : mc ≤ 2 := by have := HC.out.len; omega
  have g0 : ¬ (nv : Int) < 0 := by omega
  have g8 : ¬ (8 : Int) < nv := by omega
  go_wp2_with (fail)
  go_loopw [8, 9, 10] (fun vl vr i wr => ∃ (k : Nat) (pl : List (List Int)) (A8 : Option Addr) (c8 : Nat) (A9 : Option Addr) (c9 : Nat), k ≤ nv ∧ i = .int .i64 k ∧ vl = .slice A8 k c8 ∧ vr = .slice A9 k c9 ∧ Below w.heap.size w wr ∧ Hid (Blk wr w.heap.size 23 #[.int .i64 (p : Int), .int .i64 (m0 : Int)]) ∧ Hid (InS wr wr.heap.size Ac mc cc) ∧ Hid (LiS wr wr.heap.size A8 k pl) ∧ Hid (A8 = none → k = 0 ∧ c8 = 0) ∧ Hid (InS wr wr.heap.size A9 k (resL pl cc)) ∧ Hid (∀ r ∈ pl, isL p 0 r = true ∧ r.length ≤ 8) ∧ Hid (needOf p m0 (toldL p m0 pl (resL pl cc)) ≤ nv - k)) (fun _ _ i _ => nv - (intOf i).toNat)
  case atStart => exact ⟨0, [], none, 0, none, 0, by omega, rfl, rfl, rfl, hbel, hid bB, HC, hid (LiS.nil_ _ _), hid (fun _ => ⟨rfl, rfl⟩), hid Sl.none_, hid (by simp), hid (by have := Hn0.out; omega)⟩
  case round =>
    obtain ⟨k, pl, A8, c8, A9, c9, hk, rfl, rfl, rfl, hbel2, hB2, HC2, HP, HA8, HR, Hpl, Hnd⟩ := hrel
    have hki : (k : Int) ≤ nv := by omega
    have hpln := HP.out.1
    have hcp : checkPlan p m0 pl = 0 := plan_ok hp1 hp8 hm2 (by omega) (fun r hr => (Hpl.out r hr).1)
    obtain ⟨rl, hrl⟩ : ∃ rl, resL pl cc = rl := ⟨_, rfl⟩
    have hte := toldE_case hcp Hcm.out
    have htv := toldV_zero hte
    have hle := leftE_case hcp (by omega) Hcm.out
    have hnv := needV_case hcp (by omega) Hcm.out
    have hne := nextE_case hcp (by omega) Hcm.out
    have hone := told_one_of (P := p) (M := m0) (pl := pl) Hcm.out
    have hmore := told_more_of (P := p) (M := m0) (pl := pl) (cc := cc)
    have hst := play_step (P := p) (M := m0) (pl := pl) (o := nextV p m0 pl (resL pl cc)) Hcm.out
    have hgd := next_goodN (p := p) (m := m0) (pl := pl) (r := resL pl cc)
    have K2 : Hid (∀ r ∈ pl, r.length ≤ 12) := hid (fun r hr => by have := (Hpl.out r hr).2; omega)
    have hrs : ∀ o, resL (pl ++ [o]) cc = resL pl cc ++ [if meet o cc then 1 else 0] := fun o => resL_snoc pl o cc
    obtain ⟨tl, htl⟩ : ∃ tl, toldL p m0 pl (resL pl cc) = tl := ⟨_, rfl⟩
    obtain ⟨kk, hkk⟩ : ∃ kk, needOf p m0 tl = kk := ⟨_, rfl⟩
    obtain ⟨ov, hov⟩ : ∃ o, nextV p m0 pl (resL pl cc) = o := ⟨_, rfl⟩
    have hnd := Hnd.out
    have hrl0 : rl.length = k := by rw [← hrl, resL_len]; exact hpln
    have Htl37 : Hid (tl.length ≤ 37) := hid (by rw [← htl]; exact toldL_len hp8 pl _)
    rw [htl] at htv hnv hne hone hmore hst hgd hnd
    rw [hkk] at hnv hne hone hmore hst hnd
    rw [hov] at hst hgd
    rw [hrl] at hte htv hle hnv hne hgd hrs hov
    have HR' := hid HR.out
    rw [hrl] at HR'
    clear HR
    have hkn : ¬ ((nv : Int) - (k : Int) < (kk : Int)) := by omega
    have Hte := hid hte
    have Htv := hid htv
    have Hle := hid hle
    have Hov := hid hov
    have Hcp := hid hcp
    have Hhrl := hid hrl
    have Hrl0 := hid hrl0
    clear hte htv hle hov hcp hrl htl hkk hpln hnd hrl0 Hnd
    clear HNV HLE Hn0 HC bB p0 p1 lB hsz hbel
    have hbel := hbel2
    have hsz := hbel.size
    have bB := hB2.out
    have lB := bB.lt
    have p0 := bB.cell 0
    have p1 := bB.cell 1
    have HC := HC2
    clear hbel2 hB2 HC2
    obtain ⟨W0, rfl⟩ : ∃ W0 : World, W0 = wr := ⟨_, rfl⟩
    by_cases hkz : kk = 0
    · rw [if_pos hkz] at hne
      have Hne := hid hne
      have Hnv : Hid (needV p m0 pl rl = 0) := hid (by rw [hnv]; omega)
      have Htl1 := hid (hone hkz)
      clear hne hnv hone hmore hst hgd hrs hkn hkz
      have hkn : ¬ ((nv : Int) - (k : Int) < 0) := by omega
      go_wp2_with (fail)
      refine (toldF_any A8 A9 k c8 k c9 pl rl _ _ _ (HP.out.below (by repeat' (first | with_reducible assumption | with_reducible exact Below.refl _ _ | refine Below.alloc ?_ ?_ _ | refine Below.setCell ?_ ?_ _ | refine Below.drew ?_ | refine below_drewN ?_ _ | (simp; done) | (simp; omega) | omega)) (by first | (simp; done) | (simp; omega) | omega)) (HR'.out.below (by repeat' (first | with_reducible assumption | with_reducible exact Below.refl _ _ | refine Below.alloc ?_ ?_ _ | refine Below.setCell ?_ ?_ _ | refine Below.drew ?_ | refine below_drewN ?_ _ | (simp; done) | (simp; omega) | omega)) (by first | (simp; done) | (simp; omega) | omega)) (by omega) K2.out).mono ?_
      rw [Htv.out, Hte.out]
      rintro e W1 ⟨At, mt, ct, rfl, h1, hb⟩
      have hst : Below W0.heap.size W0 W1 := Below.trans (by repeat' (first | with_reducible assumption | with_reducible exact Below.refl _ _ | refine Below.alloc ?_ ?_ _ | refine Below.setCell ?_ ?_ _ | refine Below.drew ?_ | refine below_drewN ?_ _ | (simp; done) | (simp; omega) | omega)) (hb.mono (by first | (simp; done) | (simp; omega) | omega))
      replace hbel := hbel.trans (hst.mono hsz)
      replace hsz := hbel.size
      replace bB := bB.below hst bB.lt
      clear p0 p1 lB
      have p0 := bB.cell 0
      have p1 := bB.cell 1
      have lB := bB.lt
      try clear hWb
      replace HC := hid (HC.out.below hst hst.size)
      replace HP := hid (HP.out.below hst hst.size)
      replace HR' := hid (HR'.out.below hst hst.size)
      have HT := hid h1.1
      clear hb hst
      obtain ⟨W0, rfl⟩ : ∃ W0 : World, W0 = W1 := ⟨_, rfl⟩
      clear h1
      go_wp2_with (fail)
      refine (neededF_any A8 A9 k c8 k c9 pl rl _ _ _ (HP.out.below (by repeat' (first | with_reducible assumption | with_reducible exact Below.refl _ _ | refine Below.alloc ?_ ?_ _ | refine Below.setCell ?_ ?_ _ | refine Below.drew ?_ | refine below_drewN ?_ _ | (simp; done) | (simp; omega) | omega)) (by first | (simp; done) | (simp; omega) | omega)) (HR'.out.below (by repeat' (first | with_reducible assumption | with_reducible exact Below.refl _ _ | refine Below.alloc ?_ ?_ _ | refine Below.setCell ?_ ?_ _ | refine Below.drew ?_ | refine below_drewN ?_ _ | (simp; done) | (simp; omega) | omega)) (by first | (simp; done) | (simp; omega) | omega)) (by omega) K2.out).mono ?_
      rw [Hnv.out, Hle.out]
      rintro e W1 ⟨rfl, hb⟩
      have hst : Below W0.heap.size W0 W1 := Below.trans (by repeat' (first | with_reducible assumption | with_reducible exact Below.refl _ _ | refine Below.alloc ?_ ?_ _ | refine Below.setCell ?_ ?_ _ | refine Below.drew ?_ | refine below_drewN ?_ _ | (simp; done) | (simp; omega) | omega)) (hb.mono (by first | (simp; done) | (simp; omega) | omega))
      replace hbel := hbel.trans (hst.mono hsz)
      replace hsz := hbel.size
      replace bB := bB.below hst bB.lt
      clear p0 p1 lB
      have p0 := bB.cell 0
      have p1 := bB.cell 1
      have lB := bB.lt
      try clear hWb
      replace HC := hid (HC.out.below hst hst.size)
      replace HP := hid (HP.out.below hst hst.size)
      replace HR' := hid (HR'.out.below hst hst.size)
      replace HT := hid (HT.out.below hst hst.size)
      clear hb hst
      obtain ⟨W0, rfl⟩ : ∃ W0 : World, W0 = W1 := ⟨_, rfl⟩
      go_wp2_with (fail)
      refine (nextF_any A8 A9 k c8 k c9 pl rl _ _ _ (HP.out.below (by repeat' (first | with_reducible assumption | with_reducible exact Below.refl _ _ | refine Below.alloc ?_ ?_ _ | refine Below.setCell ?_ ?_ _ | refine Below.drew ?_ | refine below_drewN ?_ _ | (simp; done) | (simp; omega) | omega)) (by first | (simp; done) | (simp; omega) | omega)) (HR'.out.below (by repeat' (first | with_reducible assumption | with_reducible exact Below.refl _ _ | refine Below.alloc ?_ ?_ _ | refine Below.setCell ?_ ?_ _ | refine Below.drew ?_ | refine below_drewN ?_ _ | (simp; done) | (simp; omega) | omega)) (by first | (simp; done) | (simp; omega) | omega)) (by omega) K2.out).mono ?_
      rw [Hov.out, Hne.out]
      rintro e W1 ⟨Ao, mo, co, rfl, h1, hb⟩
      have hst : Below W0.heap.size W0 W1 := Below.trans (by repeat' (first | with_reducible assumption | with_reducible exact Below.refl _ _ | refine Below.alloc ?_ ?_ _ | refine Below.setCell ?_ ?_ _ | refine Below.drew ?_ | refine below_drewN ?_ _ | (simp; done) | (simp; omega) | omega)) (hb.mono (by first | (simp; done) | (simp; omega) | omega))
      replace hbel := hbel.trans (hst.mono hsz)
      replace hsz := hbel.size
      replace bB := bB.below hst bB.lt
      clear p0 p1 lB
      have p0 := bB.cell 0
      have p1 := bB.cell 1
      have lB := bB.lt
      try clear hWb
      replace HC := hid (HC.out.below hst hst.size)
      replace HP := hid (HP.out.below hst hst.size)
      replace HR' := hid (HR'.out.below hst hst.size)
      replace HT := hid (HT.out.below hst hst.size)
      have HO := hid h1
      clear h1
      clear hb hst
      obtain ⟨W0, rfl⟩ : ∃ W0 : World, W0 = W1 := ⟨_, rfl⟩
      have Hm1 : Hid (mt = 1) := hid (by have := HT.out.1; rw [Htl1.out] at this; exact this.symm)
      obtain ⟨bt, ot, d, A7, m7, c7, hAt, hbt, hd, ct7, hin7⟩ := HT.out.at_ (k := 0) (by have := Hm1.out; omega)
      subst hAt
      rw [Htl1.out] at hd
      obtain rfl : cc = d := by simpa using hd
      have HIN := hid hin7
      have E1 : Hid (eqI cc cc = true) := hid (eqI_t.2 rfl)
      have hm7 : m7 ≤ 2 := by have := hin7.len; omega
      have ct0 : W0.cell? ⟨bt, ot, none⟩ = some (.slice A7 m7 c7) := ct7
      clear hd hin7 ct7
      have gm : (mt : Int) = 1 := by have := Hm1.out; omega
      have gm0 : (0 : Int) < mt := by omega
      have gmn : 0 < mt := by omega
      go_wp2_with (fail)
      refine (ints_any _ A7 Ac m7 c7 mc cq cc cc (HIN.out.below (by repeat' (first | with_reducible assumption | with_reducible exact Below.refl _ _ | refine Below.alloc ?_ ?_ _ | refine Below.setCell ?_ ?_ _ | refine Below.drew ?_ | refine below_drewN ?_ _ | (simp; done) | (simp; omega) | omega)) (by first | (simp; done) | (simp; omega) | omega)) (HC.out.below (by repeat' (first | with_reducible assumption | with_reducible exact Below.refl _ _ | refine Below.alloc ?_ ?_ _ | refine Below.setCell ?_ ?_ _ | refine Below.drew ?_ | refine below_drewN ?_ _ | (simp; done) | (simp; omega) | omega)) (by first | (simp; done) | (simp; omega) | omega)) (by omega)).mono ?_
      rw [E1.out]
      rintro e W1 ⟨rfl, hb⟩
      have hst : Below W0.heap.size W0 W1 := Below.trans (by repeat' (first | with_reducible assumption | with_reducible exact Below.refl _ _ | refine Below.alloc ?_ ?_ _ | refine Below.setCell ?_ ?_ _ | refine Below.drew ?_ | refine below_drewN ?_ _ | (simp; done) | (simp; omega) | omega)) (hb.mono (by first | (simp; done) | (simp; omega) | omega))
      replace hbel := hbel.trans (hst.mono hsz)
      replace hsz := hbel.size
      replace bB := bB.below hst bB.lt
      clear p0 p1 lB
      have p0 := bB.cell 0
      have p1 := bB.cell 1
      have lB := bB.lt
      try clear hWb
      replace HC := hid (HC.out.below hst hst.size)
      replace HP := hid (HP.out.below hst hst.size)
      replace HR' := hid (HR'.out.below hst hst.size)
      replace HT := hid (HT.out.below hst hst.size)
      replace HO := hid (HO.out.below hst hst.size)
      replace HIN := hid (HIN.out.below hst hst.size)
      clear hb hst
      obtain ⟨W0, rfl⟩ : ∃ W0 : World, W0 = W1 := ⟨_, rfl⟩
      go_wp2_with (fail)
      refine (works_any _).mono ?_
      rintro e W1 ⟨rfl, hb⟩
      have hst : Below W0.heap.size W0 W1 := Below.trans (by repeat' (first | with_reducible assumption | with_reducible exact Below.refl _ _ | refine Below.alloc ?_ ?_ _ | refine Below.setCell ?_ ?_ _ | refine Below.drew ?_ | refine below_drewN ?_ _ | (simp; done) | (simp; omega) | omega)) (hb.mono (by first | (simp; done) | (simp; omega) | omega))
      replace hbel := hbel.trans (hst.mono hsz)
      replace hsz := hbel.size
      replace bB := bB.below hst bB.lt
      clear p0 p1 lB
      have p0 := bB.cell 0
      have p1 := bB.cell 1
      have lB := bB.lt
      try clear hWb
      replace HC := hid (HC.out.below hst hst.size)
      replace HP := hid (HP.out.below hst hst.size)
      replace HR' := hid (HR'.out.below hst hst.size)
      replace HT := hid (HT.out.below hst hst.size)
      replace HO := hid (HO.out.below hst hst.size)
      replace HIN := hid (HIN.out.below hst hst.size)
      clear hb hst
      obtain ⟨W0, rfl⟩ : ∃ W0 : World, W0 = W1 := ⟨_, rfl⟩
      go_wp2
      go_ret
      exact ⟨rfl, hbel⟩
    · rw [if_neg hkz] at hne
      have Hne := hid hne
      have Hnv := hid hnv
      have Hm2 := hid (hmore hkz)
      obtain ⟨hoi, ho8, hdv⟩ := hgd hne
      have hst2 := hst hdv
      have Hoi := hid hoi
      have Ho8 := hid ho8
      have gk0 : ¬ (kk : Int) = 0 := by omega
      have hkk1 : k + 1 ≤ nv := by omega
      have hlt1 : needOf p m0 (toldL p m0 (pl ++ [ov]) (resL (pl ++ [ov]) cc)) ≤ nv - (k + 1) := by omega
      have Hlt1 := hid hlt1
      obtain ⟨bit, hbit⟩ : ∃ z : Int, (if meet ov cc then (1 : Int) else 0) = z := ⟨_, rfl⟩
      have hb01 : bit = 0 ∨ bit = 1 := by rw [← hbit]; split; exact .inr rfl; exact .inl rfl
      have hrx := hrs ov
      rw [hbit] at hrx
      have Hrx := hid hrx
      have hpl2 : Hid (∀ r ∈ pl ++ [ov], isL p 0 r = true ∧ r.length ≤ 8) := hid (fun r hr => by
        rcases List.mem_append.1 hr with h | h
        · exact Hpl.out r h
        · rw [List.mem_singleton.1 h]; exact ⟨hoi, ho8⟩)
      have Hpln := hid HP.out.1
      have Hcp2 : Hid (checkPlan p m0 (pl ++ [ov]) = 0) := hid (plan_ok hp1 hp8 hm2 (by rw [List.length_append, Hpln.out]; simp; omega) (fun r hr => (hpl2.out r hr).1))
      have Kx : Hid (∀ r ∈ pl ++ [ov], r.length ≤ 12) := hid (fun r hr => by have := (hpl2.out r hr).2; omega)
      have Hre2 := hid (resE_case hp8 hm2 Hcp2.out Hcm.out)
      have Hrv2 := hid (resV_case hp8 hm2 Hcp2.out Hcm.out)
      clear hne hnv hone hmore hst hgd hrs hkz hdv hst2 hoi ho8 hlt1 hbit hrx
      go_wp2_with (fail)
      refine (toldF_any A8 A9 k c8 k c9 pl rl _ _ _ (HP.out.below (by repeat' (first | with_reducible assumption | with_reducible exact Below.refl _ _ | refine Below.alloc ?_ ?_ _ | refine Below.setCell ?_ ?_ _ | refine Below.drew ?_ | refine below_drewN ?_ _ | (simp; done) | (simp; omega) | omega)) (by first | (simp; done) | (simp; omega) | omega)) (HR'.out.below (by repeat' (first | with_reducible assumption | with_reducible exact Below.refl _ _ | refine Below.alloc ?_ ?_ _ | refine Below.setCell ?_ ?_ _ | refine Below.drew ?_ | refine below_drewN ?_ _ | (simp; done) | (simp; omega) | omega)) (by first | (simp; done) | (simp; omega) | omega)) (by omega) K2.out).mono ?_
      rw [Htv.out, Hte.out]
      rintro e W1 ⟨At, mt, ct, rfl, h1, hb⟩
      have hst : Below W0.heap.size W0 W1 := Below.trans (by repeat' (first | with_reducible assumption | with_reducible exact Below.refl _ _ | refine Below.alloc ?_ ?_ _ | refine Below.setCell ?_ ?_ _ | refine Below.drew ?_ | refine below_drewN ?_ _ | (simp; done) | (simp; omega) | omega)) (hb.mono (by first | (simp; done) | (simp; omega) | omega))
      replace hbel := hbel.trans (hst.mono hsz)
      replace hsz := hbel.size
      replace bB := bB.below hst bB.lt
      clear p0 p1 lB
      have p0 := bB.cell 0
      have p1 := bB.cell 1
      have lB := bB.lt
      try clear hWb
      replace HC := hid (HC.out.below hst hst.size)
      replace HP := hid (HP.out.below hst hst.size)
      replace HR' := hid (HR'.out.below hst hst.size)
      have HT := hid h1.1
      clear hb hst
      obtain ⟨W0, rfl⟩ : ∃ W0 : World, W0 = W1 := ⟨_, rfl⟩
      clear h1
      go_wp2_with (fail)
      refine (neededF_any A8 A9 k c8 k c9 pl rl _ _ _ (HP.out.below (by repeat' (first | with_reducible assumption | with_reducible exact Below.refl _ _ | refine Below.alloc ?_ ?_ _ | refine Below.setCell ?_ ?_ _ | refine Below.drew ?_ | refine below_drewN ?_ _ | (simp; done) | (simp; omega) | omega)) (by first | (simp; done) | (simp; omega) | omega)) (HR'.out.below (by repeat' (first | with_reducible assumption | with_reducible exact Below.refl _ _ | refine Below.alloc ?_ ?_ _ | refine Below.setCell ?_ ?_ _ | refine Below.drew ?_ | refine below_drewN ?_ _ | (simp; done) | (simp; omega) | omega)) (by first | (simp; done) | (simp; omega) | omega)) (by omega) K2.out).mono ?_
      rw [Hnv.out, Hle.out]
      rintro e W1 ⟨rfl, hb⟩
      have hst : Below W0.heap.size W0 W1 := Below.trans (by repeat' (first | with_reducible assumption | with_reducible exact Below.refl _ _ | refine Below.alloc ?_ ?_ _ | refine Below.setCell ?_ ?_ _ | refine Below.drew ?_ | refine below_drewN ?_ _ | (simp; done) | (simp; omega) | omega)) (hb.mono (by first | (simp; done) | (simp; omega) | omega))
      replace hbel := hbel.trans (hst.mono hsz)
      replace hsz := hbel.size
      replace bB := bB.below hst bB.lt
      clear p0 p1 lB
      have p0 := bB.cell 0
      have p1 := bB.cell 1
      have lB := bB.lt
      try clear hWb
      replace HC := hid (HC.out.below hst hst.size)
      replace HP := hid (HP.out.below hst hst.size)
      replace HR' := hid (HR'.out.below hst hst.size)
      replace HT := hid (HT.out.below hst hst.size)
      clear hb hst
      obtain ⟨W0, rfl⟩ : ∃ W0 : World, W0 = W1 := ⟨_, rfl⟩
      go_wp2_with (fail)
      refine (nextF_any A8 A9 k c8 k c9 pl rl _ _ _ (HP.out.below (by repeat' (first | with_reducible assumption | with_reducible exact Below.refl _ _ | refine Below.alloc ?_ ?_ _ | refine Below.setCell ?_ ?_ _ | refine Below.drew ?_ | refine below_drewN ?_ _ | (simp; done) | (simp; omega) | omega)) (by first | (simp; done) | (simp; omega) | omega)) (HR'.out.below (by repeat' (first | with_reducible assumption | with_reducible exact Below.refl _ _ | refine Below.alloc ?_ ?_ _ | refine Below.setCell ?_ ?_ _ | refine Below.drew ?_ | refine below_drewN ?_ _ | (simp; done) | (simp; omega) | omega)) (by first | (simp; done) | (simp; omega) | omega)) (by omega) K2.out).mono ?_
      rw [Hov.out, Hne.out]
      rintro e W1 ⟨Ao, mo, co, rfl, h1, hb⟩
      have hst : Below W0.heap.size W0 W1 := Below.trans (by repeat' (first | with_reducible assumption | with_reducible exact Below.refl _ _ | refine Below.alloc ?_ ?_ _ | refine Below.setCell ?_ ?_ _ | refine Below.drew ?_ | refine below_drewN ?_ _ | (simp; done) | (simp; omega) | omega)) (hb.mono (by first | (simp; done) | (simp; omega) | omega))
      replace hbel := hbel.trans (hst.mono hsz)
      replace hsz := hbel.size
      replace bB := bB.below hst bB.lt
      clear p0 p1 lB
      have p0 := bB.cell 0
      have p1 := bB.cell 1
      have lB := bB.lt
      try clear hWb
      replace HC := hid (HC.out.below hst hst.size)
      replace HP := hid (HP.out.below hst hst.size)
      replace HR' := hid (HR'.out.below hst hst.size)
      replace HT := hid (HT.out.below hst hst.size)
      have HO := hid h1
      clear h1
      clear hb hst
      obtain ⟨W0, rfl⟩ : ∃ W0 : World, W0 = W1 := ⟨_, rfl⟩
      have gm : ((mt : Int) == 1) = false := by have := HT.out.1; have := Hm2.out; simp; omega
      have gk1 : ((kk : Int) == 0) = false := by simp; omega
      clear HT
      have q2 := hid (decide_eq_false (show ¬ 12 < mo by have := HO.out.len; have := Ho8.out; omega))
      go_wp2_with (fail)
      refine (great_any Ao mo co _).mono ?_
      rw [q2.out]
      rintro e W1 ⟨rfl, hb⟩
      have hst : Below W0.heap.size W0 W1 := Below.trans (by repeat' (first | with_reducible assumption | with_reducible exact Below.refl _ _ | refine Below.alloc ?_ ?_ _ | refine Below.setCell ?_ ?_ _ | refine Below.drew ?_ | refine below_drewN ?_ _ | (simp; done) | (simp; omega) | omega)) (hb.mono (by first | (simp; done) | (simp; omega) | omega))
      replace hbel := hbel.trans (hst.mono hsz)
      replace hsz := hbel.size
      replace bB := bB.below hst bB.lt
      clear p0 p1 lB
      have p0 := bB.cell 0
      have p1 := bB.cell 1
      have lB := bB.lt
      try clear hWb
      replace HC := hid (HC.out.below hst hst.size)
      replace HP := hid (HP.out.below hst hst.size)
      replace HR' := hid (HR'.out.below hst hst.size)
      replace HO := hid (HO.out.below hst hst.size)
      clear hb hst
      obtain ⟨W0, rfl⟩ : ∃ W0 : World, W0 = W1 := ⟨_, rfl⟩
      go_wp2_with (fail)
      refine (isList_any Ao mo co ov _ _ (HO.out.below (by repeat' (first | with_reducible assumption | with_reducible exact Below.refl _ _ | refine Below.alloc ?_ ?_ _ | refine Below.setCell ?_ ?_ _ | refine Below.drew ?_ | refine below_drewN ?_ _ | (simp; done) | (simp; omega) | omega)) (by first | (simp; done) | (simp; omega) | omega)) (by have := HO.out.len; have := Ho8.out; omega)).mono ?_
      rw [Hoi.out]
      rintro e W1 ⟨rfl, hb⟩
      have hst : Below W0.heap.size W0 W1 := Below.trans (by repeat' (first | with_reducible assumption | with_reducible exact Below.refl _ _ | refine Below.alloc ?_ ?_ _ | refine Below.setCell ?_ ?_ _ | refine Below.drew ?_ | refine below_drewN ?_ _ | (simp; done) | (simp; omega) | omega)) (hb.mono (by first | (simp; done) | (simp; omega) | omega))
      replace hbel := hbel.trans (hst.mono hsz)
      replace hsz := hbel.size
      replace bB := bB.below hst bB.lt
      clear p0 p1 lB
      have p0 := bB.cell 0
      have p1 := bB.cell 1
      have lB := bB.lt
      try clear hWb
      replace HC := hid (HC.out.below hst hst.size)
      replace HP := hid (HP.out.below hst hst.size)
      replace HR' := hid (HR'.out.below hst hst.size)
      replace HO := hid (HO.out.below hst hst.size)
      clear hb hst
      obtain ⟨W0, rfl⟩ : ∃ W0 : World, W0 = W1 := ⟨_, rfl⟩
      obtain ⟨vs, hvs, hcs⟩ := HP.out.cells
      have Hvs := hid hvs
      have Hcs := hid hcs
      have Hone := hid hcs.one
      clear hvs hcs
      have hb7 : Below W0.heap.size W0 (W0.alloc (.cells #[] 25)) := (Below.refl _ _).alloc (Nat.le_refl _) _
      go_wp2_with (at_builtin; refine wpList_append_srcG (by rfl) _ _ 24 rfl W0.heap.size 25 i0 _ 1 24 under24 I0.out I1.out I2.out I3.out rfl (by decide) _ 0 [] rfl (own_full (n := 0) W0 (cur := #[]) (Nat.le_refl _) (by unfold maxLen; omega) rfl rfl) A8 k c8 vs rfl W0.heap.size (Sl.alloc Hvs.out (Nat.le_refl _) _) HA8.out Hone.out (by unfold maxLen; omega) (by omega) (by simp) ?_; intro v2 w2 ho2 hg2 _ hat2; rw [Nat.zero_add, List.nil_append] at ho2; have hs2 : Below W0.heap.size W0 w2 := hb7.grown hg2 (by simp) (fun r hr => by cases hr; exact Nat.le_refl _); have hz2 := hs2.size; have Ho2 := hid ho2; clear ho2 hg2 hat2; have b8 : Blk (w2.alloc (.cells #[.slice Ao mo co] 25)) w2.heap.size 25 #[.slice Ao mo co] := Blk.new' rfl; go_wp2_with (at_builtin; refine wpList_append_srcG (by rfl) _ _ 24 rfl W0.heap.size 25 i0 _ 1 24 under24 I0.out I1.out I2.out I3.out rfl (by decide) v2 k vs rfl (Ho2.out.alloc (.cells #[.slice Ao mo co] 25)) (some ⟨w2.heap.size, 0, none⟩) 1 1 [.slice Ao mo co] rfl (w2.heap.size + 1) ⟨rfl, fun _ => ⟨w2.heap.size, 0, rfl, by omega, fun j u hu => by rw [b8.cell, Nat.zero_add]; simpa using hu⟩⟩ (fun h => by cases h) (fun u hu => by rw [List.mem_singleton.1 hu]; rfl) (by unfold maxLen; omega) (by omega) (by simp; omega) ?_; intro v3 w3 ho3 hg3 _ hat3; have hs3 : Below W0.heap.size W0 w3 := (hs2.alloc hz2 _).grown hg3 (by simp; omega) (fun r hr => (World.ownsRow.lt Ho2.out r hr).1); obtain ⟨A10, c10, rfl, hl10, hn10⟩ := ((Hcs.out.below hs3 hs3.size).snoc (m := mo) (c := co) (HO.out.below hs3 hs3.size)).lis ho3; have HX := hid hl10; have HN10 := hid hn10; clear hl10 hn10 ho3 hg3; have q0 := (bB.below hs3 lB).cell 0; have q1 := (bB.below hs3 lB).cell 1; have q2 := (bB.below hs3 lB).lt))
      clear q0 q1 q2 Ho2 b8 hs2 hz2 hb7 Hvs Hcs Hone
      clear HO
      clear HP
      replace hbel := hbel.trans (hs3.mono hsz)
      replace hsz := hbel.size
      replace bB := bB.below hs3 bB.lt
      clear p0 p1 lB
      have p0 := bB.cell 0
      have p1 := bB.cell 1
      have lB := bB.lt
      replace HC := hid (HC.out.below hs3 hs3.size)
      replace HR' := hid (HR'.out.below hs3 hs3.size)
      clear hs3
      try clear hWb
      obtain ⟨W0, rfl⟩ : ∃ W0 : World, W0 = w3 := ⟨_, rfl⟩
      go_wp2_with (fail)
      refine (resultsC_any A10 Ac (k + 1) c10 mc cq (pl ++ [ov]) cc _ _ _ (HX.out.below (by repeat' (first | with_reducible assumption | with_reducible exact Below.refl _ _ | refine Below.alloc ?_ ?_ _ | refine Below.setCell ?_ ?_ _ | refine Below.drew ?_ | refine below_drewN ?_ _ | (simp; done) | (simp; omega) | omega)) (by first | (simp; done) | (simp; omega) | omega)) (HC.out.below (by repeat' (first | with_reducible assumption | with_reducible exact Below.refl _ _ | refine Below.alloc ?_ ?_ _ | refine Below.setCell ?_ ?_ _ | refine Below.drew ?_ | refine below_drewN ?_ _ | (simp; done) | (simp; omega) | omega)) (by first | (simp; done) | (simp; omega) | omega)) (by omega) Kx.out (by have := HC.out.len; omega)).mono ?_
      rw [Hrv2.out, Hrx.out, Hre2.out]
      rintro e W1 ⟨A11, m11, c11, rfl, h1, hcap, hb⟩
      have hst : Below W0.heap.size W0 W1 := Below.trans (by repeat' (first | with_reducible assumption | with_reducible exact Below.refl _ _ | refine Below.alloc ?_ ?_ _ | refine Below.setCell ?_ ?_ _ | refine Below.drew ?_ | refine below_drewN ?_ _ | (simp; done) | (simp; omega) | omega)) (hb.mono (by first | (simp; done) | (simp; omega) | omega))
      replace hbel := hbel.trans (hst.mono hsz)
      replace hsz := hbel.size
      replace bB := bB.below hst bB.lt
      clear p0 p1 lB
      have p0 := bB.cell 0
      have p1 := bB.cell 1
      have lB := bB.lt
      try clear hWb
      replace HC := hid (HC.out.below hst hst.size)
      replace HR' := hid (HR'.out.below hst hst.size)
      replace HX := hid (HX.out.below hst hst.size)
      have HY := hid h1
      clear h1
      clear hb hst
      obtain ⟨W0, rfl⟩ : ∃ W0 : World, W0 = W1 := ⟨_, rfl⟩
      obtain rfl : m11 = k + 1 := by have := HY.out.len; rw [List.length_append, Hrl0.out] at this; simpa using this.symm
      obtain ⟨b, off, y, hA11, hby, hym, cy⟩ := HY.out.at_ (k := k) (by omega)
      subst hA11
      have hyb : bit = y := by rw [List.getElem?_append_right (by rw [Hrl0.out]; exact Nat.le_refl _), Hrl0.out, Nat.sub_self] at hym; simpa using hym
      subst hyb
      have HZ := hid (ins_take2 HY.out Hrl0.out)
      have E1 : Hid (eqI rl rl = true) := hid (eqI_t.2 rfl)
      have hk1 : k ≤ c11 := by omega
      have hk2 : (k : Int) ≤ c11 := by omega
      have hk3 : (k : Int) < (k : Int) + 1 := by omega
      have hk4 : (k : Int) < ((k + 1 : Nat) : Int) := by omega
      clear hym
      have hone2 : ∀ u ∈ (rl ++ [bit]).flatMap cI, u.oneCell' = true := one_flatL _
      have Hone2 := hid hone2
      clear hone2
      rcases hb01 with rfl | rfl
      · skip
        go_wp2_with (fail)
        refine (ints_any _ (some ⟨b, off, none⟩) A9 k c11 k c9 rl rl (HZ.out.below (by repeat' (first | with_reducible assumption | with_reducible exact Below.refl _ _ | refine Below.alloc ?_ ?_ _ | refine Below.setCell ?_ ?_ _ | refine Below.drew ?_ | refine below_drewN ?_ _ | (simp; done) | (simp; omega) | omega)) (by first | (simp; done) | (simp; omega) | omega)) (HR'.out.below (by repeat' (first | with_reducible assumption | with_reducible exact Below.refl _ _ | refine Below.alloc ?_ ?_ _ | refine Below.setCell ?_ ?_ _ | refine Below.drew ?_ | refine below_drewN ?_ _ | (simp; done) | (simp; omega) | omega)) (by first | (simp; done) | (simp; omega) | omega)) (by omega)).mono ?_
        rw [E1.out]
        rintro e W1 ⟨rfl, hb⟩
        have hst : Below W0.heap.size W0 W1 := Below.trans (by repeat' (first | with_reducible assumption | with_reducible exact Below.refl _ _ | refine Below.alloc ?_ ?_ _ | refine Below.setCell ?_ ?_ _ | refine Below.drew ?_ | refine below_drewN ?_ _ | (simp; done) | (simp; omega) | omega)) (hb.mono (by first | (simp; done) | (simp; omega) | omega))
        replace hbel := hbel.trans (hst.mono hsz)
        replace hsz := hbel.size
        replace bB := bB.below hst bB.lt
        clear p0 p1 lB
        have p0 := bB.cell 0
        have p1 := bB.cell 1
        have lB := bB.lt
        try clear hWb
        replace HC := hid (HC.out.below hst hst.size)
        replace HR' := hid (HR'.out.below hst hst.size)
        replace HX := hid (HX.out.below hst hst.size)
        replace HY := hid (HY.out.below hst hst.size)
        replace HZ := hid (HZ.out.below hst hst.size)
        clear hb hst
        obtain ⟨W0, rfl⟩ : ∃ W0 : World, W0 = W1 := ⟨_, rfl⟩
        go_wp2_with (at_builtin; refine wpList_append_srcG (by rfl) _ _ 25 rfl W0.heap.size 3 j0 _ 1 8 under25 J0.out J1.out J2.out J3.out rfl (by decide) _ 0 [] rfl (own_full (n := 0) W0 (cur := #[]) (Nat.le_refl _) (by unfold maxLen; omega) rfl rfl) (some ⟨b, off, none⟩) (k + 1) c11 _ rfl W0.heap.size (Sl.alloc HY.out (Nat.le_refl _) _) (fun h => by cases h) Hone2.out (by unfold maxLen; omega) (by omega) (by simp) ?_; intro v5 w5 ho5 hg5 _ hat5; rw [Nat.zero_add, List.nil_append] at ho5; obtain ⟨A12, c12, rfl, hs12, hn12⟩ := own_src ho5)
        have hs5 : Below W0.heap.size W0 w5 := ((Below.refl _ _).alloc (Nat.le_refl _) (.cells #[] 3)).grown hg5 (by simp) (fun r hr => by cases hr; exact Nat.le_refl _)
        have hz5 := hs5.size
        exact ⟨⟨k + 1, pl ++ [ov], A10, c10, A12, c12, by omega, by go_num, rfl, rfl, hbel.trans (hs5.mono hsz), hid (bB.below hs5 lB), hid (HC.out.below hs5 hz5), hid (HX.out.below hs5 hz5), HN10, hid (by rw [Hrx.out]; exact hs12), hpl2, Hlt1⟩, by simp [intOf]; omega⟩
      · skip
        go_wp2_with (fail)
        refine (ints_any _ (some ⟨b, off, none⟩) A9 k c11 k c9 rl rl (HZ.out.below (by repeat' (first | with_reducible assumption | with_reducible exact Below.refl _ _ | refine Below.alloc ?_ ?_ _ | refine Below.setCell ?_ ?_ _ | refine Below.drew ?_ | refine below_drewN ?_ _ | (simp; done) | (simp; omega) | omega)) (by first | (simp; done) | (simp; omega) | omega)) (HR'.out.below (by repeat' (first | with_reducible assumption | with_reducible exact Below.refl _ _ | refine Below.alloc ?_ ?_ _ | refine Below.setCell ?_ ?_ _ | refine Below.drew ?_ | refine below_drewN ?_ _ | (simp; done) | (simp; omega) | omega)) (by first | (simp; done) | (simp; omega) | omega)) (by omega)).mono ?_
        rw [E1.out]
        rintro e W1 ⟨rfl, hb⟩
        have hst : Below W0.heap.size W0 W1 := Below.trans (by repeat' (first | with_reducible assumption | with_reducible exact Below.refl _ _ | refine Below.alloc ?_ ?_ _ | refine Below.setCell ?_ ?_ _ | refine Below.drew ?_ | refine below_drewN ?_ _ | (simp; done) | (simp; omega) | omega)) (hb.mono (by first | (simp; done) | (simp; omega) | omega))
        replace hbel := hbel.trans (hst.mono hsz)
        replace hsz := hbel.size
        replace bB := bB.below hst bB.lt
        clear p0 p1 lB
        have p0 := bB.cell 0
        have p1 := bB.cell 1
        have lB := bB.lt
        try clear hWb
        replace HC := hid (HC.out.below hst hst.size)
        replace HR' := hid (HR'.out.below hst hst.size)
        replace HX := hid (HX.out.below hst hst.size)
        replace HY := hid (HY.out.below hst hst.size)
        replace HZ := hid (HZ.out.below hst hst.size)
        clear hb hst
        obtain ⟨W0, rfl⟩ : ∃ W0 : World, W0 = W1 := ⟨_, rfl⟩
        go_wp2_with (at_builtin; refine wpList_append_srcG (by rfl) _ _ 25 rfl W0.heap.size 3 j0 _ 1 8 under25 J0.out J1.out J2.out J3.out rfl (by decide) _ 0 [] rfl (own_full (n := 0) W0 (cur := #[]) (Nat.le_refl _) (by unfold maxLen; omega) rfl rfl) (some ⟨b, off, none⟩) (k + 1) c11 _ rfl W0.heap.size (Sl.alloc HY.out (Nat.le_refl _) _) (fun h => by cases h) Hone2.out (by unfold maxLen; omega) (by omega) (by simp) ?_; intro v5 w5 ho5 hg5 _ hat5; rw [Nat.zero_add, List.nil_append] at ho5; obtain ⟨A12, c12, rfl, hs12, hn12⟩ := own_src ho5)
        have hs5 : Below W0.heap.size W0 w5 := ((Below.refl _ _).alloc (Nat.le_refl _) (.cells #[] 3)).grown hg5 (by simp) (fun r hr => by cases hr; exact Nat.le_refl _)
        have hz5 := hs5.size
        exact ⟨⟨k + 1, pl ++ [ov], A10, c10, A12, c12, by omega, by go_num, rfl, rfl, hbel.trans (hs5.mono hsz), hid (bB.below hs5 lB), hid (HC.out.below hs5 hz5), hid (HX.out.below hs5 hz5), HN10, hid (by rw [Hrx.out]; exact hs12), hpl2, Hlt1⟩, by simp [intOf]; omega⟩

section
open Go.ChangeShapes Go.WideShapes Go.ChangeAt Go.RowKit
set_option maxRecDepth 100000 in
theorem rodPlayed_lifted (os : Os) (started : os.Started) (H : Type) (enc : TypeId × Value → H) :
    ReturnsInHanded {} Try.checked os 9 .any (Rows.rodPlayedSpec.pre6 enc Try.prog Try.f9 Rows.rodPlayedRow.domain false) (Rows.rodPlayedSpec.post enc Try.prog Try.f9 false true false false) := by
  refine returnsInHanded_of_change (C := Try.checked) ownKx started (by kernel_rfl) Try.func9
    (ChangeSpec.witness6 (enc := enc) (C := Try.checked) false ⟨#[], #[.agg #[.int .i64 0, .int .i64 0], .int .u8 0], []⟩ 8 (by kernel_rfl) (by kernel_rfl) (by kernel_rfl) (by kernel_rfl)) ?_
  intro W base args ds gs before hval0 hW hcnd _
  have hval : ∀ (j : Nat) t v, Try.f9.params[j]? = some t → args[j]? = some v → Value.okWide Try.prog W .any base t v := hval0
  have hW' := hW
  obtain ⟨p, q, hA0, hV, rfl, hfz, hnd⟩ := hW
  have hA : DataW.TrodAll enc Try.prog W 0 (fun _ => true) true Try.f9.params.toList args.toList ds p := hA0
  have hlt : ∀ x ∈ p, x.block < W.heap.size := fun x hx => hW'.lt x (List.mem_append_left _ hx)
  have hAll : ∀ W', Below W.heap.size W W' → DataW.TrodAll enc Try.prog W' 0 (fun b => decide (b < W.heap.size)) true Try.f9.params.toList args.toList ds p := fun W' hb => all_below laidOut hb (readable_of (by kernel_rfl)) hlt hA
  rw [Try.params9] at hA hval
  obtain ⟨v0, v1, d0, d1, p0, p1, rfl, rfl, rfl, h0, h1⟩ := trodAll_two hA
  obtain ⟨rfl, rfl⟩ := trodVars_none hV
  clear hA0 hval0
  obtain ⟨x0, rfl⟩ := open_book (hval 0 23 v0 rfl rfl) h0
  obtain ⟨x1, rfl, rfl, rfl, wx1⟩ := open_int Try.underlying5 (hval 1 5 v1 rfl rfl) h1
  refine (rodPlayed_walk W x0.P x0.M x1 (u8_bd wx1)).mono fun e W' ⟨he, hb⟩ => ?_
  subst he
  exact ⟨_, rfl, ⟨_, _, _, [], _, [], hW', trodAll_cons_mk (shut_bool Try.underlying4 _) trodAll_mk0, hAll W' hb, rfl, hb.frame _, fun h => by cases h⟩⟩
/-- The law: whatever the input, it returns true, and the input reads as it did. -/
theorem rodPlayed_holds : Rows.RodPlayedSaid :=
  OpenClaim.holds_of_wide 9 Try.f9 rfl rfl rfl rfl rfl rfl rfl ⟨rfl, rfl, rfl, rfl, rfl⟩ rfl rfl rfl rfl rfl (by kernel_rfl) Try.func9 (by kernel_rfl)
    (of_decide_eq_true (by kernel_rfl)) (by unfold Func.isWrapper; first | (rw [if_pos (by decide +kernel)]; kernel_rfl) | (rw [if_neg (by decide +kernel)]; exact ⟨rfl, rfl⟩))
    (fun os started H enc _ => rodPlayed_lifted os started H enc)
end
end Go.Proofs.Ytpgdfipikfbjeaa

