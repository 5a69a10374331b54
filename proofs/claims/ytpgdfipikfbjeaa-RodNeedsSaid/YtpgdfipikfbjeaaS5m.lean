/- The statement RodNeeds holds: whatever the arguments, the law returns true and leaves its arguments as they were. -/
import Derived.Test.YtpgdfipikfbjeaaMp
set_option linter.unusedSimpArgs false
set_option linter.unusedVariables false
namespace Go.Proofs.Ytpgdfipikfbjeaa
open Go.RowKit Go.Shelf
attribute [local go_sem] Oper.semAt_some
set_option maxRecDepth 100000 in
set_option maxHeartbeats 4000000 in
theorem rodNeeds_walk (w : World) (P M : Int) (A : Option Addr) (n c : Nat) (pl : List (List Int)) (B : Option Addr) (m d : Nat) (r : List Int) (hp : LiS w w.heap.size A n pl) (hr : InS w w.heap.size B m r) :
    Calls Try.prog 5 #[.agg #[.int .i64 P, .int .i64 M], .slice A n c, .slice B m d] w fun e w' => e = .returned (.bool true) ∧ Below w.heap.size w w' := by
  have la := hid hp.1
  obtain ⟨W0, hWb⟩ : ∃ W0, w.alloc (.cells #[.int .i64 P, .int .i64 M] 23) = W0 := ⟨_, rfl⟩
  have bB : Blk W0 w.heap.size 23 #[.int .i64 P, .int .i64 M] := by rw [← hWb]; exact Blk.new' rfl
  have hbel : Below w.heap.size w W0 := by rw [← hWb]; exact (Below.refl _ _).alloc (Nat.le_refl _) _
  have hsz := hbel.size
  have lB := bB.lt
  have p0 := bB.cell 0
  have p1 := bB.cell 1
  have HP := hid (hp.below hbel hsz)
  clear hp
  have HR := hid (hr.below hbel hsz)
  clear hr
  cases hwd : wideL pl
  · obtain ⟨k1, k2⟩ := wide_off hwd
    have hn : n ≤ 12 := by rw [← la.out]; exact k1
    have Hwd := hid hwd
    have K2 := hid k2
    clear hwd k2
    by_cases hm : 12 < m
    · have Hg := hid (decide_eq_true hm)
      clear hm
      go_enter Try.func5, Try.ntmps5
      go_wp2_with (fail)
      refine (wideW_any A n c pl _ (HP.out.below (by repeat' (first | with_reducible assumption | with_reducible exact Below.refl _ _ | refine Below.alloc ?_ ?_ _ | refine Below.setCell ?_ ?_ _ | refine Below.drew ?_ | refine below_drewN ?_ _ | (simp; done) | (simp; omega) | omega)) (by first | (simp; done) | (simp; omega) | omega))).mono ?_
      rw [Hwd.out]
      rintro e W1 ⟨rfl, hb⟩
      have hst : Below W0.heap.size W0 W1 := Below.trans (by repeat' (first | with_reducible assumption | with_reducible exact Below.refl _ _ | refine Below.alloc ?_ ?_ _ | refine Below.setCell ?_ ?_ _ | refine Below.drew ?_ | refine below_drewN ?_ _ | (simp; done) | (simp; omega) | omega)) (hb.mono (by first | (simp; done) | (simp; omega) | omega))
      replace hbel := hbel.trans (hst.mono hsz)
      replace hsz := hbel.size
      replace bB := bB.below hst bB.lt
      clear p0 p1 lB
      have p0 := bB.cell 0
      have p1 := bB.cell 1
      have lB := bB.lt
      try clear hWb
      replace HP := hid (HP.out.below hst hst.size)
      replace HR := hid (HR.out.below hst hst.size)
      clear hb hst
      obtain ⟨W0, rfl⟩ : ∃ W0 : World, W0 = W1 := ⟨_, rfl⟩
      go_wp2_with (fail)
      refine (great_any _ _ _ _).mono ?_
      rw [Hg.out]
      rintro e W1 ⟨rfl, hb⟩
      have hst : Below W0.heap.size W0 W1 := Below.trans (by repeat' (first | with_reducible assumption | with_reducible exact Below.refl _ _ | refine Below.alloc ?_ ?_ _ | refine Below.setCell ?_ ?_ _ | refine Below.drew ?_ | refine below_drewN ?_ _ | (simp; done) | (simp; omega) | omega)) (hb.mono (by first | (simp; done) | (simp; omega) | omega))
      replace hbel := hbel.trans (hst.mono hsz)
      replace hsz := hbel.size
      replace bB := bB.below hst bB.lt
      clear p0 p1 lB
      have p0 := bB.cell 0
      have p1 := bB.cell 1
      have lB := bB.lt
      try clear hWb
      replace HP := hid (HP.out.below hst hst.size)
      replace HR := hid (HR.out.below hst hst.size)
      clear hb hst
      obtain ⟨W0, rfl⟩ : ∃ W0 : World, W0 = W1 := ⟨_, rfl⟩
      go_wp2_with (fail)
      refine (works_any _).mono ?_
      rintro e W1 ⟨rfl, hb⟩
      have hst : Below W0.heap.size W0 W1 := Below.trans (by repeat' (first | with_reducible assumption | with_reducible exact Below.refl _ _ | refine Below.alloc ?_ ?_ _ | refine Below.setCell ?_ ?_ _ | refine Below.drew ?_ | refine below_drewN ?_ _ | (simp; done) | (simp; omega) | omega)) (hb.mono (by first | (simp; done) | (simp; omega) | omega))
      replace hbel := hbel.trans (hst.mono hsz)
      replace hsz := hbel.size
      replace bB := bB.below hst bB.lt
      clear p0 p1 lB
      have p0 := bB.cell 0
      have p1 := bB.cell 1
      have lB := bB.lt
      try clear hWb
      replace HP := hid (HP.out.below hst hst.size)
      replace HR := hid (HR.out.below hst hst.size)
      clear hb hst
      obtain ⟨W0, rfl⟩ : ∃ W0 : World, W0 = W1 := ⟨_, rfl⟩
      go_wp2
      go_ret
      exact ⟨rfl, hbel⟩
    · have Hg := hid (decide_eq_false hm)
      have hm2 : m ≤ 12 := by omega
      clear hm
      obtain ⟨nv, hnv⟩ : ∃ v, needV P M pl r = v := ⟨_, rfl⟩
      have Hnv := hid hnv
      obtain ⟨le, hle⟩ : ∃ v, leftE P M pl r = v := ⟨_, rfl⟩
      have Hle := hid hle
      obtain ⟨xv, hxv⟩ : ∃ v, nextV P M pl r = v := ⟨_, rfl⟩
      have Hxv := hid hxv
      clear hnv hle hxv
      cases hne : (nextE P M pl r != 0)
      · have hne0 : nextE P M pl r = 0 := by simpa using hne
        obtain ⟨p, m0, rfl, rfl, hp5, hm0, hxl, hx8, hdv⟩ := next_good hne0
        rw [Hxv.out] at hxl hx8 hdv
        have Hne := hid hne0
        have Hxl := hid hxl
        have Hdv := hid hdv
        have Hx8 := hid hx8
        have Htl := hid (toldL_len (P := p) (M := m0) (by omega) pl r)
        have Hts : Hid (∀ x ∈ toldL p m0 pl r, x.length ≤ 12) := hid (fun x hx => by have := (cases_isL (by omega) hm0 x (told_mem.1 hx).1).2; omega)
        clear hne hne0 hxl hx8 hdv
        go_enter Try.func5, Try.ntmps5
        go_wp2_with (fail)
        refine (wideW_any A n c pl _ (HP.out.below (by repeat' (first | with_reducible assumption | with_reducible exact Below.refl _ _ | refine Below.alloc ?_ ?_ _ | refine Below.setCell ?_ ?_ _ | refine Below.drew ?_ | refine below_drewN ?_ _ | (simp; done) | (simp; omega) | omega)) (by first | (simp; done) | (simp; omega) | omega))).mono ?_
        rw [Hwd.out]
        rintro e W1 ⟨rfl, hb⟩
        have hst : Below W0.heap.size W0 W1 := Below.trans (by repeat' (first | with_reducible assumption | with_reducible exact Below.refl _ _ | refine Below.alloc ?_ ?_ _ | refine Below.setCell ?_ ?_ _ | refine Below.drew ?_ | refine below_drewN ?_ _ | (simp; done) | (simp; omega) | omega)) (hb.mono (by first | (simp; done) | (simp; omega) | omega))
        replace hbel := hbel.trans (hst.mono hsz)
        replace hsz := hbel.size
        replace bB := bB.below hst bB.lt
        clear p0 p1 lB
        have p0 := bB.cell 0
        have p1 := bB.cell 1
        have lB := bB.lt
        try clear hWb
        replace HP := hid (HP.out.below hst hst.size)
        replace HR := hid (HR.out.below hst hst.size)
        clear hb hst
        obtain ⟨W0, rfl⟩ : ∃ W0 : World, W0 = W1 := ⟨_, rfl⟩
        go_wp2_with (fail)
        refine (great_any _ _ _ _).mono ?_
        rw [Hg.out]
        rintro e W1 ⟨rfl, hb⟩
        have hst : Below W0.heap.size W0 W1 := Below.trans (by repeat' (first | with_reducible assumption | with_reducible exact Below.refl _ _ | refine Below.alloc ?_ ?_ _ | refine Below.setCell ?_ ?_ _ | refine Below.drew ?_ | refine below_drewN ?_ _ | (simp; done) | (simp; omega) | omega)) (hb.mono (by first | (simp; done) | (simp; omega) | omega))
        replace hbel := hbel.trans (hst.mono hsz)
        replace hsz := hbel.size
        replace bB := bB.below hst bB.lt
        clear p0 p1 lB
        have p0 := bB.cell 0
        have p1 := bB.cell 1
        have lB := bB.lt
        try clear hWb
        replace HP := hid (HP.out.below hst hst.size)
        replace HR := hid (HR.out.below hst hst.size)
        clear hb hst
        obtain ⟨W0, rfl⟩ : ∃ W0 : World, W0 = W1 := ⟨_, rfl⟩
        go_wp2_with (fail)
        refine (neededF_any A B n c m d pl r _ _ _ (HP.out.below (by repeat' (first | with_reducible assumption | with_reducible exact Below.refl _ _ | refine Below.alloc ?_ ?_ _ | refine Below.setCell ?_ ?_ _ | refine Below.drew ?_ | refine below_drewN ?_ _ | (simp; done) | (simp; omega) | omega)) (by first | (simp; done) | (simp; omega) | omega)) (HR.out.below (by repeat' (first | with_reducible assumption | with_reducible exact Below.refl _ _ | refine Below.alloc ?_ ?_ _ | refine Below.setCell ?_ ?_ _ | refine Below.drew ?_ | refine below_drewN ?_ _ | (simp; done) | (simp; omega) | omega)) (by first | (simp; done) | (simp; omega) | omega)) hn K2.out).mono ?_
        rw [Hnv.out, Hle.out]
        rintro e W1 ⟨rfl, hb⟩
        have hst : Below W0.heap.size W0 W1 := Below.trans (by repeat' (first | with_reducible assumption | with_reducible exact Below.refl _ _ | refine Below.alloc ?_ ?_ _ | refine Below.setCell ?_ ?_ _ | refine Below.drew ?_ | refine below_drewN ?_ _ | (simp; done) | (simp; omega) | omega)) (hb.mono (by first | (simp; done) | (simp; omega) | omega))
        replace hbel := hbel.trans (hst.mono hsz)
        replace hsz := hbel.size
        replace bB := bB.below hst bB.lt
        clear p0 p1 lB
        have p0 := bB.cell 0
        have p1 := bB.cell 1
        have lB := bB.lt
        try clear hWb
        replace HP := hid (HP.out.below hst hst.size)
        replace HR := hid (HR.out.below hst hst.size)
        clear hb hst
        obtain ⟨W0, rfl⟩ : ∃ W0 : World, W0 = W1 := ⟨_, rfl⟩
        go_wp2_with (fail)
        refine (refNeeded_any A B n c m d pl r _ _ _ (HP.out.below (by repeat' (first | with_reducible assumption | with_reducible exact Below.refl _ _ | refine Below.alloc ?_ ?_ _ | refine Below.setCell ?_ ?_ _ | refine Below.drew ?_ | refine below_drewN ?_ _ | (simp; done) | (simp; omega) | omega)) (by first | (simp; done) | (simp; omega) | omega)) (HR.out.below (by repeat' (first | with_reducible assumption | with_reducible exact Below.refl _ _ | refine Below.alloc ?_ ?_ _ | refine Below.setCell ?_ ?_ _ | refine Below.drew ?_ | refine below_drewN ?_ _ | (simp; done) | (simp; omega) | omega)) (by first | (simp; done) | (simp; omega) | omega)) hn K2.out).mono ?_
        rw [Hnv.out, Hle.out]
        rintro e W1 ⟨rfl, hb⟩
        have hst : Below W0.heap.size W0 W1 := Below.trans (by repeat' (first | with_reducible assumption | with_reducible exact Below.refl _ _ | refine Below.alloc ?_ ?_ _ | refine Below.setCell ?_ ?_ _ | refine Below.drew ?_ | refine below_drewN ?_ _ | (simp; done) | (simp; omega) | omega)) (hb.mono (by first | (simp; done) | (simp; omega) | omega))
        replace hbel := hbel.trans (hst.mono hsz)
        replace hsz := hbel.size
        replace bB := bB.below hst bB.lt
        clear p0 p1 lB
        have p0 := bB.cell 0
        have p1 := bB.cell 1
        have lB := bB.lt
        try clear hWb
        replace HP := hid (HP.out.below hst hst.size)
        replace HR := hid (HR.out.below hst hst.size)
        clear hb hst
        obtain ⟨W0, rfl⟩ : ∃ W0 : World, W0 = W1 := ⟨_, rfl⟩
        go_wp2_with (fail)
        refine (nextF_any A B n c m d pl r _ _ _ (HP.out.below (by repeat' (first | with_reducible assumption | with_reducible exact Below.refl _ _ | refine Below.alloc ?_ ?_ _ | refine Below.setCell ?_ ?_ _ | refine Below.drew ?_ | refine below_drewN ?_ _ | (simp; done) | (simp; omega) | omega)) (by first | (simp; done) | (simp; omega) | omega)) (HR.out.below (by repeat' (first | with_reducible assumption | with_reducible exact Below.refl _ _ | refine Below.alloc ?_ ?_ _ | refine Below.setCell ?_ ?_ _ | refine Below.drew ?_ | refine below_drewN ?_ _ | (simp; done) | (simp; omega) | omega)) (by first | (simp; done) | (simp; omega) | omega)) hn K2.out).mono ?_
        rw [Hne.out, Hxv.out]
        rintro e W1 ⟨A1, m1, c1, rfl, h1, hb⟩
        have hst : Below W0.heap.size W0 W1 := Below.trans (by repeat' (first | with_reducible assumption | with_reducible exact Below.refl _ _ | refine Below.alloc ?_ ?_ _ | refine Below.setCell ?_ ?_ _ | refine Below.drew ?_ | refine below_drewN ?_ _ | (simp; done) | (simp; omega) | omega)) (hb.mono (by first | (simp; done) | (simp; omega) | omega))
        replace hbel := hbel.trans (hst.mono hsz)
        replace hsz := hbel.size
        replace bB := bB.below hst bB.lt
        clear p0 p1 lB
        have p0 := bB.cell 0
        have p1 := bB.cell 1
        have lB := bB.lt
        try clear hWb
        replace HP := hid (HP.out.below hst hst.size)
        replace HR := hid (HR.out.below hst hst.size)
        have H1 := hid h1
        clear h1
        clear hb hst
        obtain ⟨W0, rfl⟩ : ∃ W0 : World, W0 = W1 := ⟨_, rfl⟩
        go_wp2_with (fail)
        refine (nextErr_any A B n c m d pl r _ _ _ (HP.out.below (by repeat' (first | with_reducible assumption | with_reducible exact Below.refl _ _ | refine Below.alloc ?_ ?_ _ | refine Below.setCell ?_ ?_ _ | refine Below.drew ?_ | refine below_drewN ?_ _ | (simp; done) | (simp; omega) | omega)) (by first | (simp; done) | (simp; omega) | omega)) (HR.out.below (by repeat' (first | with_reducible assumption | with_reducible exact Below.refl _ _ | refine Below.alloc ?_ ?_ _ | refine Below.setCell ?_ ?_ _ | refine Below.drew ?_ | refine below_drewN ?_ _ | (simp; done) | (simp; omega) | omega)) (by first | (simp; done) | (simp; omega) | omega)) hn K2.out).mono ?_
        rw [Hne.out]
        rintro e W1 ⟨rfl, hb⟩
        have hst : Below W0.heap.size W0 W1 := Below.trans (by repeat' (first | with_reducible assumption | with_reducible exact Below.refl _ _ | refine Below.alloc ?_ ?_ _ | refine Below.setCell ?_ ?_ _ | refine Below.drew ?_ | refine below_drewN ?_ _ | (simp; done) | (simp; omega) | omega)) (hb.mono (by first | (simp; done) | (simp; omega) | omega))
        replace hbel := hbel.trans (hst.mono hsz)
        replace hsz := hbel.size
        replace bB := bB.below hst bB.lt
        clear p0 p1 lB
        have p0 := bB.cell 0
        have p1 := bB.cell 1
        have lB := bB.lt
        try clear hWb
        replace HP := hid (HP.out.below hst hst.size)
        replace HR := hid (HR.out.below hst hst.size)
        replace H1 := hid (H1.out.below hst hst.size)
        clear hb hst
        obtain ⟨W0, rfl⟩ : ∃ W0 : World, W0 = W1 := ⟨_, rfl⟩
        have q1 : m1 ≤ 12 := by have := H1.out.len; have := Hx8.out; omega
        have q2 := hid (decide_eq_false (show ¬ 12 < m1 by omega))
        go_wp2_with (fail)
        refine Sx.wp_region_el (fun W => Below W0.heap.size W0 W) (hSb W0) [0, 1, 2, 3, 4, 5, 6, 7, 8, 9, 10, 11, 12, 13, 15] 7 (by kernel_rfl) (by kernel_rfl) ((Below.refl _ _).drew) ?_
        simp only [pick, List.getElem?_toArray, List.getElem?_cons_zero, List.getElem?_cons_succ]
        (refine Sx.wpE_val (v := ?_) (by rfl) (fun W hW => ?_) ?_; rotate_left; (· have f0 := (bB.below hW lB).cell 0; have f1 := (bB.below hW lB).cell 1; have f2 := (bB.below hW lB).lt; go_simp; with_reducible rfl); simp only [Act.put, List.setIfInBounds_toArray, List.set_cons_zero, List.set_cons_succ])
        refine Sx.wpE_call (v := ?_) (f := ?_) (args := ?_) (by rfl) (fun W hW => ?_) (fun W hW => ?_) ?_
        rotate_left 3
        · have := great_any A1 m1 c1 W
          rw [q2.out] at this
          exact this
        · go_simp
        simp only [Act.put, List.setIfInBounds_toArray, List.set_cons_zero, List.set_cons_succ]
        (refine Sx.wpE_val (v := ?_) (by rfl) (fun W hW => ?_) ?_; rotate_left; (· have f0 := (bB.below hW lB).cell 0; have f1 := (bB.below hW lB).cell 1; have f2 := (bB.below hW lB).lt; go_simp; with_reducible rfl); simp only [Act.put, List.setIfInBounds_toArray, List.set_cons_zero, List.set_cons_succ])
        (refine Sx.wpE_val (v := ?_) (by rfl) (fun W hW => ?_) ?_; rotate_left; (· have f0 := (bB.below hW lB).cell 0; have f1 := (bB.below hW lB).cell 1; have f2 := (bB.below hW lB).lt; go_simp; with_reducible rfl); simp only [Act.put, List.setIfInBounds_toArray, List.set_cons_zero, List.set_cons_succ])
        (refine Sx.wpE_val (v := ?_) (by rfl) (fun W hW => ?_) ?_; rotate_left; (· have f0 := (bB.below hW lB).cell 0; have f1 := (bB.below hW lB).cell 1; have f2 := (bB.below hW lB).lt; go_simp; with_reducible rfl); simp only [Act.put, List.setIfInBounds_toArray, List.set_cons_zero, List.set_cons_succ])
        (refine Sx.wpE_val (v := ?_) (by rfl) (fun W hW => ?_) ?_; rotate_left; (· have f0 := (bB.below hW lB).cell 0; have f1 := (bB.below hW lB).cell 1; have f2 := (bB.below hW lB).lt; go_simp; with_reducible rfl); simp only [Act.put, List.setIfInBounds_toArray, List.set_cons_zero, List.set_cons_succ])
        (refine Sx.wpE_val (v := ?_) (by rfl) (fun W hW => ?_) ?_; rotate_left; (· have f0 := (bB.below hW lB).cell 0; have f1 := (bB.below hW lB).cell 1; have f2 := (bB.below hW lB).lt; go_simp; with_reducible rfl); simp only [Act.put, List.setIfInBounds_toArray, List.set_cons_zero, List.set_cons_succ])
        refine Sx.wpE_call (v := ?_) (f := ?_) (args := ?_) (by rfl) (fun W hW => ?_) (fun W hW => ?_) ?_
        rotate_left 3
        · have := isList_any A1 m1 c1 xv (p : Int) W (H1.out.below hW hW.size) (by omega)
          rw [Hxl.out] at this
          exact this
        · go_simp
        simp only [Act.put, List.setIfInBounds_toArray, List.set_cons_zero, List.set_cons_succ]
        (refine Sx.wpE_val (v := ?_) (by rfl) (fun W hW => ?_) ?_; rotate_left; (· have f0 := (bB.below hW lB).cell 0; have f1 := (bB.below hW lB).cell 1; have f2 := (bB.below hW lB).lt; go_simp; with_reducible rfl); simp only [Act.put, List.setIfInBounds_toArray, List.set_cons_zero, List.set_cons_succ])
        (refine Sx.wpE_val (v := ?_) (by rfl) (fun W hW => ?_) ?_; rotate_left; (· have f0 := (bB.below hW lB).cell 0; have f1 := (bB.below hW lB).cell 1; have f2 := (bB.below hW lB).lt; go_simp; with_reducible rfl); simp only [Act.put, List.setIfInBounds_toArray, List.set_cons_zero, List.set_cons_succ])
        (refine Sx.wpE_val (v := ?_) (by rfl) (fun W hW => ?_) ?_; rotate_left; (· have f0 := (bB.below hW lB).cell 0; have f1 := (bB.below hW lB).cell 1; have f2 := (bB.below hW lB).lt; go_simp; with_reducible rfl); simp only [Act.put, List.setIfInBounds_toArray, List.set_cons_zero, List.set_cons_succ])
        (refine Sx.wpE_val (v := ?_) (by rfl) (fun W hW => ?_) ?_; rotate_left; (· have f0 := (bB.below hW lB).cell 0; have f1 := (bB.below hW lB).cell 1; have f2 := (bB.below hW lB).lt; go_simp; with_reducible rfl); simp only [Act.put, List.setIfInBounds_toArray, List.set_cons_zero, List.set_cons_succ])
        (refine Sx.wpE_val (v := ?_) (by rfl) (fun W hW => ?_) ?_; rotate_left; (· have f0 := (bB.below hW lB).cell 0; have f1 := (bB.below hW lB).cell 1; have f2 := (bB.below hW lB).lt; go_simp; with_reducible rfl); simp only [Act.put, List.setIfInBounds_toArray, List.set_cons_zero, List.set_cons_succ])
        (refine Sx.wpE_val (v := ?_) (by rfl) (fun W hW => ?_) ?_; rotate_left; (· have f0 := (bB.below hW lB).cell 0; have f1 := (bB.below hW lB).cell 1; have f2 := (bB.below hW lB).lt; go_simp; with_reducible rfl); simp only [Act.put, List.setIfInBounds_toArray, List.set_cons_zero, List.set_cons_succ])
        (refine Sx.wpE_val (v := ?_) (by rfl) (fun W hW => ?_) ?_; rotate_left; (· have f0 := (bB.below hW lB).cell 0; have f1 := (bB.below hW lB).cell 1; have f2 := (bB.below hW lB).lt; go_simp; with_reducible rfl); simp only [Act.put, List.setIfInBounds_toArray, List.set_cons_zero, List.set_cons_succ])
        simp only [Sx.wpE]
        (refine Sx.wpM_one 14 _ (by simp only [List.getElem?_toArray, List.getElem?_cons_zero, List.getElem?_cons_succ]; rfl) (by kernel_rfl) (by rfl) ?_)
        intro U huU hsU
        (go_simp; simp only [LUpon, Act.put]; try simp only [List.setIfInBounds_toArray, List.set_cons_zero, List.set_cons_succ])
        refine (toldOf_any A B n c m d pl r p m0 U (by omega) hm0 (HP.out.below hsU hsU.size) (HR.out.below hsU hsU.size) hn K2.out).mono ?_
        rintro e Uq ⟨v, rfl, hn1, hb⟩
        have htU : Below W0.heap.size W0 Uq := hsU.trans (hb.mono hsU.size)
        refine ⟨_, rfl, htU, ?_⟩
        obtain ⟨A2, c2, rfl, hlt⟩ := hn1.lit
        have HT := hid hlt
        clear hlt hn1
        clear hb
        try simp only [Act.put, List.setIfInBounds_toArray, List.set_cons_zero, List.set_cons_succ]
        (refine Sx.wpM_one 16 _ (by simp only [List.getElem?_toArray, List.getElem?_cons_zero, List.getElem?_cons_succ]; rfl) (by kernel_rfl) (by rfl) ?_)
        intro V huV hsV
        (go_simp; simp only [LUpon, Act.put]; try simp only [List.setIfInBounds_toArray, List.set_cons_zero, List.set_cons_succ])
        refine (divides_any A2 A1 _ c2 m1 c1 p m0 (toldL p m0 pl r) xv V (by omega) hm0 (HT.out.below huV huV.size) (H1.out.below hsV hsV.size) (by have := Htl.out; omega) Hts.out (by omega)).mono ?_
        rw [Hdv.out]
        rintro e Vq ⟨rfl, hb⟩
        have htV : Below W0.heap.size W0 Vq := hsV.trans (hb.mono hsV.size)
        refine ⟨_, rfl, htV, ?_⟩
        clear hb
        try simp only [Act.put, List.setIfInBounds_toArray, List.set_cons_zero, List.set_cons_succ]
        refine Sx.wpM_early (hSb W0) (by kernel_rfl) [17, 18, 19, 20, 21] 0 _ _ (by kernel_rfl) ?_
        simp only [pick, List.getElem?_toArray, List.getElem?_cons_zero, List.getElem?_cons_succ]
        (refine Sx.wpE_val (v := ?_) (by rfl) (fun W hW => ?_) ?_; rotate_left; (· have f0 := (bB.below hW lB).cell 0; have f1 := (bB.below hW lB).cell 1; have f2 := (bB.below hW lB).lt; go_simp; with_reducible rfl); simp only [Act.put, List.setIfInBounds_toArray, List.set_cons_zero, List.set_cons_succ])
        (refine Sx.wpE_val (v := ?_) (by rfl) (fun W hW => ?_) ?_; rotate_left; (· have f0 := (bB.below hW lB).cell 0; have f1 := (bB.below hW lB).cell 1; have f2 := (bB.below hW lB).lt; go_simp; with_reducible rfl); simp only [Act.put, List.setIfInBounds_toArray, List.set_cons_zero, List.set_cons_succ])
        refine Sx.wpE_call (v := ?_) (f := ?_) (args := ?_) (by rfl) (fun W hW => ?_) (fun W hW => ?_) ?_
        rotate_left 3
        · have := works_any W
          skip
          exact this
        · go_simp
        simp only [Act.put, List.setIfInBounds_toArray, List.set_cons_zero, List.set_cons_succ]
        (refine Sx.wpE_val (v := ?_) (by rfl) (fun W hW => ?_) ?_; rotate_left; (· have f0 := (bB.below hW lB).cell 0; have f1 := (bB.below hW lB).cell 1; have f2 := (bB.below hW lB).lt; go_simp; with_reducible rfl); simp only [Act.put, List.setIfInBounds_toArray, List.set_cons_zero, List.set_cons_succ])
        (refine Sx.wpE_val (v := ?_) (by rfl) (fun W hW => ?_) ?_; rotate_left; (· have f0 := (bB.below hW lB).cell 0; have f1 := (bB.below hW lB).cell 1; have f2 := (bB.below hW lB).lt; go_simp; with_reducible rfl); simp only [Act.put, List.setIfInBounds_toArray, List.set_cons_zero, List.set_cons_succ])
        simp only [Sx.wpE]
        refine Sx.wpM_end (by kernel_rfl) ?_
        intro W1 hvz hb
        replace hbel := hbel.trans (hb.mono hsz)
        replace hsz := hbel.size
        clear hb
        try clear hWb
        obtain ⟨W0, rfl⟩ : ∃ W0 : World, W0 = W1 := ⟨_, rfl⟩
        go_wp2
        go_ret
        exact ⟨rfl, hbel⟩
      · have hne0 : nextE P M pl r ≠ 0 := by simpa using hne
        obtain ⟨ne, hnee⟩ : ∃ v, nextE P M pl r = v := ⟨_, rfl⟩
        have Hne := hid hnee
        rw [hnee] at hne hne0
        have hx0 : xv = [] := by rw [← Hxv.out]; unfold nextV; rw [if_pos (by rw [hnee]; exact hne0)]
        subst hx0
        clear hnee hne0
        go_enter Try.func5, Try.ntmps5
        go_wp2_with (fail)
        refine (wideW_any A n c pl _ (HP.out.below (by repeat' (first | with_reducible assumption | with_reducible exact Below.refl _ _ | refine Below.alloc ?_ ?_ _ | refine Below.setCell ?_ ?_ _ | refine Below.drew ?_ | refine below_drewN ?_ _ | (simp; done) | (simp; omega) | omega)) (by first | (simp; done) | (simp; omega) | omega))).mono ?_
        rw [Hwd.out]
        rintro e W1 ⟨rfl, hb⟩
        have hst : Below W0.heap.size W0 W1 := Below.trans (by repeat' (first | with_reducible assumption | with_reducible exact Below.refl _ _ | refine Below.alloc ?_ ?_ _ | refine Below.setCell ?_ ?_ _ | refine Below.drew ?_ | refine below_drewN ?_ _ | (simp; done) | (simp; omega) | omega)) (hb.mono (by first | (simp; done) | (simp; omega) | omega))
        replace hbel := hbel.trans (hst.mono hsz)
        replace hsz := hbel.size
        replace bB := bB.below hst bB.lt
        clear p0 p1 lB
        have p0 := bB.cell 0
        have p1 := bB.cell 1
        have lB := bB.lt
        try clear hWb
        replace HP := hid (HP.out.below hst hst.size)
        replace HR := hid (HR.out.below hst hst.size)
        clear hb hst
        obtain ⟨W0, rfl⟩ : ∃ W0 : World, W0 = W1 := ⟨_, rfl⟩
        go_wp2_with (fail)
        refine (great_any _ _ _ _).mono ?_
        rw [Hg.out]
        rintro e W1 ⟨rfl, hb⟩
        have hst : Below W0.heap.size W0 W1 := Below.trans (by repeat' (first | with_reducible assumption | with_reducible exact Below.refl _ _ | refine Below.alloc ?_ ?_ _ | refine Below.setCell ?_ ?_ _ | refine Below.drew ?_ | refine below_drewN ?_ _ | (simp; done) | (simp; omega) | omega)) (hb.mono (by first | (simp; done) | (simp; omega) | omega))
        replace hbel := hbel.trans (hst.mono hsz)
        replace hsz := hbel.size
        replace bB := bB.below hst bB.lt
        clear p0 p1 lB
        have p0 := bB.cell 0
        have p1 := bB.cell 1
        have lB := bB.lt
        try clear hWb
        replace HP := hid (HP.out.below hst hst.size)
        replace HR := hid (HR.out.below hst hst.size)
        clear hb hst
        obtain ⟨W0, rfl⟩ : ∃ W0 : World, W0 = W1 := ⟨_, rfl⟩
        go_wp2_with (fail)
        refine (neededF_any A B n c m d pl r _ _ _ (HP.out.below (by repeat' (first | with_reducible assumption | with_reducible exact Below.refl _ _ | refine Below.alloc ?_ ?_ _ | refine Below.setCell ?_ ?_ _ | refine Below.drew ?_ | refine below_drewN ?_ _ | (simp; done) | (simp; omega) | omega)) (by first | (simp; done) | (simp; omega) | omega)) (HR.out.below (by repeat' (first | with_reducible assumption | with_reducible exact Below.refl _ _ | refine Below.alloc ?_ ?_ _ | refine Below.setCell ?_ ?_ _ | refine Below.drew ?_ | refine below_drewN ?_ _ | (simp; done) | (simp; omega) | omega)) (by first | (simp; done) | (simp; omega) | omega)) hn K2.out).mono ?_
        rw [Hnv.out, Hle.out]
        rintro e W1 ⟨rfl, hb⟩
        have hst : Below W0.heap.size W0 W1 := Below.trans (by repeat' (first | with_reducible assumption | with_reducible exact Below.refl _ _ | refine Below.alloc ?_ ?_ _ | refine Below.setCell ?_ ?_ _ | refine Below.drew ?_ | refine below_drewN ?_ _ | (simp; done) | (simp; omega) | omega)) (hb.mono (by first | (simp; done) | (simp; omega) | omega))
        replace hbel := hbel.trans (hst.mono hsz)
        replace hsz := hbel.size
        replace bB := bB.below hst bB.lt
        clear p0 p1 lB
        have p0 := bB.cell 0
        have p1 := bB.cell 1
        have lB := bB.lt
        try clear hWb
        replace HP := hid (HP.out.below hst hst.size)
        replace HR := hid (HR.out.below hst hst.size)
        clear hb hst
        obtain ⟨W0, rfl⟩ : ∃ W0 : World, W0 = W1 := ⟨_, rfl⟩
        go_wp2_with (fail)
        refine (refNeeded_any A B n c m d pl r _ _ _ (HP.out.below (by repeat' (first | with_reducible assumption | with_reducible exact Below.refl _ _ | refine Below.alloc ?_ ?_ _ | refine Below.setCell ?_ ?_ _ | refine Below.drew ?_ | refine below_drewN ?_ _ | (simp; done) | (simp; omega) | omega)) (by first | (simp; done) | (simp; omega) | omega)) (HR.out.below (by repeat' (first | with_reducible assumption | with_reducible exact Below.refl _ _ | refine Below.alloc ?_ ?_ _ | refine Below.setCell ?_ ?_ _ | refine Below.drew ?_ | refine below_drewN ?_ _ | (simp; done) | (simp; omega) | omega)) (by first | (simp; done) | (simp; omega) | omega)) hn K2.out).mono ?_
        rw [Hnv.out, Hle.out]
        rintro e W1 ⟨rfl, hb⟩
        have hst : Below W0.heap.size W0 W1 := Below.trans (by repeat' (first | with_reducible assumption | with_reducible exact Below.refl _ _ | refine Below.alloc ?_ ?_ _ | refine Below.setCell ?_ ?_ _ | refine Below.drew ?_ | refine below_drewN ?_ _ | (simp; done) | (simp; omega) | omega)) (hb.mono (by first | (simp; done) | (simp; omega) | omega))
        replace hbel := hbel.trans (hst.mono hsz)
        replace hsz := hbel.size
        replace bB := bB.below hst bB.lt
        clear p0 p1 lB
        have p0 := bB.cell 0
        have p1 := bB.cell 1
        have lB := bB.lt
        try clear hWb
        replace HP := hid (HP.out.below hst hst.size)
        replace HR := hid (HR.out.below hst hst.size)
        clear hb hst
        obtain ⟨W0, rfl⟩ : ∃ W0 : World, W0 = W1 := ⟨_, rfl⟩
        go_wp2_with (fail)
        refine (nextF_any A B n c m d pl r _ _ _ (HP.out.below (by repeat' (first | with_reducible assumption | with_reducible exact Below.refl _ _ | refine Below.alloc ?_ ?_ _ | refine Below.setCell ?_ ?_ _ | refine Below.drew ?_ | refine below_drewN ?_ _ | (simp; done) | (simp; omega) | omega)) (by first | (simp; done) | (simp; omega) | omega)) (HR.out.below (by repeat' (first | with_reducible assumption | with_reducible exact Below.refl _ _ | refine Below.alloc ?_ ?_ _ | refine Below.setCell ?_ ?_ _ | refine Below.drew ?_ | refine below_drewN ?_ _ | (simp; done) | (simp; omega) | omega)) (by first | (simp; done) | (simp; omega) | omega)) hn K2.out).mono ?_
        rw [Hne.out, Hxv.out]
        rintro e W1 ⟨A1, m1, c1, rfl, h1, hb⟩
        have hst : Below W0.heap.size W0 W1 := Below.trans (by repeat' (first | with_reducible assumption | with_reducible exact Below.refl _ _ | refine Below.alloc ?_ ?_ _ | refine Below.setCell ?_ ?_ _ | refine Below.drew ?_ | refine below_drewN ?_ _ | (simp; done) | (simp; omega) | omega)) (hb.mono (by first | (simp; done) | (simp; omega) | omega))
        replace hbel := hbel.trans (hst.mono hsz)
        replace hsz := hbel.size
        replace bB := bB.below hst bB.lt
        clear p0 p1 lB
        have p0 := bB.cell 0
        have p1 := bB.cell 1
        have lB := bB.lt
        try clear hWb
        replace HP := hid (HP.out.below hst hst.size)
        replace HR := hid (HR.out.below hst hst.size)
        have H1 := hid h1
        clear h1
        clear hb hst
        obtain ⟨W0, rfl⟩ : ∃ W0 : World, W0 = W1 := ⟨_, rfl⟩
        go_wp2_with (fail)
        refine (nextErr_any A B n c m d pl r _ _ _ (HP.out.below (by repeat' (first | with_reducible assumption | with_reducible exact Below.refl _ _ | refine Below.alloc ?_ ?_ _ | refine Below.setCell ?_ ?_ _ | refine Below.drew ?_ | refine below_drewN ?_ _ | (simp; done) | (simp; omega) | omega)) (by first | (simp; done) | (simp; omega) | omega)) (HR.out.below (by repeat' (first | with_reducible assumption | with_reducible exact Below.refl _ _ | refine Below.alloc ?_ ?_ _ | refine Below.setCell ?_ ?_ _ | refine Below.drew ?_ | refine below_drewN ?_ _ | (simp; done) | (simp; omega) | omega)) (by first | (simp; done) | (simp; omega) | omega)) hn K2.out).mono ?_
        rw [Hne.out]
        rintro e W1 ⟨rfl, hb⟩
        have hst : Below W0.heap.size W0 W1 := Below.trans (by repeat' (first | with_reducible assumption | with_reducible exact Below.refl _ _ | refine Below.alloc ?_ ?_ _ | refine Below.setCell ?_ ?_ _ | refine Below.drew ?_ | refine below_drewN ?_ _ | (simp; done) | (simp; omega) | omega)) (hb.mono (by first | (simp; done) | (simp; omega) | omega))
        replace hbel := hbel.trans (hst.mono hsz)
        replace hsz := hbel.size
        replace bB := bB.below hst bB.lt
        clear p0 p1 lB
        have p0 := bB.cell 0
        have p1 := bB.cell 1
        have lB := bB.lt
        try clear hWb
        replace HP := hid (HP.out.below hst hst.size)
        replace HR := hid (HR.out.below hst hst.size)
        replace H1 := hid (H1.out.below hst hst.size)
        clear hb hst
        obtain ⟨W0, rfl⟩ : ∃ W0 : World, W0 = W1 := ⟨_, rfl⟩
        obtain rfl : m1 = 0 := by have := H1.out.len; simpa using this.symm
        go_wp2_with (fail)
        refine (works_any _).mono ?_
        rintro e W1 ⟨rfl, hb⟩
        have hst : Below W0.heap.size W0 W1 := Below.trans (by repeat' (first | with_reducible assumption | with_reducible exact Below.refl _ _ | refine Below.alloc ?_ ?_ _ | refine Below.setCell ?_ ?_ _ | refine Below.drew ?_ | refine below_drewN ?_ _ | (simp; done) | (simp; omega) | omega)) (hb.mono (by first | (simp; done) | (simp; omega) | omega))
        replace hbel := hbel.trans (hst.mono hsz)
        replace hsz := hbel.size
        replace bB := bB.below hst bB.lt
        clear p0 p1 lB
        have p0 := bB.cell 0
        have p1 := bB.cell 1
        have lB := bB.lt
        try clear hWb
        replace HP := hid (HP.out.below hst hst.size)
        replace HR := hid (HR.out.below hst hst.size)
        replace H1 := hid (H1.out.below hst hst.size)
        clear hb hst
        obtain ⟨W0, rfl⟩ : ∃ W0 : World, W0 = W1 := ⟨_, rfl⟩
        go_wp2
        go_ret
        exact ⟨rfl, hbel⟩
  · have Hwd := hid hwd
    clear hwd
    go_enter Try.func5, Try.ntmps5
    go_wp2_with (fail)
    refine (wideW_any A n c pl _ (HP.out.below (by repeat' (first | with_reducible assumption | with_reducible exact Below.refl _ _ | refine Below.alloc ?_ ?_ _ | refine Below.setCell ?_ ?_ _ | refine Below.drew ?_ | refine below_drewN ?_ _ | (simp; done) | (simp; omega) | omega)) (by first | (simp; done) | (simp; omega) | omega))).mono ?_
    rw [Hwd.out]
    rintro e W1 ⟨rfl, hb⟩
    have hst : Below W0.heap.size W0 W1 := Below.trans (by repeat' (first | with_reducible assumption | with_reducible exact Below.refl _ _ | refine Below.alloc ?_ ?_ _ | refine Below.setCell ?_ ?_ _ | refine Below.drew ?_ | refine below_drewN ?_ _ | (simp; done) | (simp; omega) | omega)) (hb.mono (by first | (simp; done) | (simp; omega) | omega))
    replace hbel := hbel.trans (hst.mono hsz)
    replace hsz := hbel.size
    replace bB := bB.below hst bB.lt
    clear p0 p1 lB
    have p0 := bB.cell 0
    have p1 := bB.cell 1
    have lB := bB.lt
    try clear hWb
    replace HP := hid (HP.out.below hst hst.size)
    replace HR := hid (HR.out.below hst hst.size)
    clear hb hst
    obtain ⟨W0, rfl⟩ : ∃ W0 : World, W0 = W1 := ⟨_, rfl⟩
    go_wp2_with (fail)
    refine (works_any _).mono ?_
    rintro e W1 ⟨rfl, hb⟩
    have hst : Below W0.heap.size W0 W1 := Below.trans (by repeat' (first | with_reducible assumption | with_reducible exact Below.refl _ _ | refine Below.alloc ?_ ?_ _ | refine Below.setCell ?_ ?_ _ | refine Below.drew ?_ | refine below_drewN ?_ _ | (simp; done) | (simp; omega) | omega)) (hb.mono (by first | (simp; done) | (simp; omega) | omega))
    replace hbel := hbel.trans (hst.mono hsz)
    replace hsz := hbel.size
    replace bB := bB.below hst bB.lt
    clear p0 p1 lB
    have p0 := bB.cell 0
    have p1 := bB.cell 1
    have lB := bB.lt
    try clear hWb
    replace HP := hid (HP.out.below hst hst.size)
    replace HR := hid (HR.out.below hst hst.size)
    clear hb hst
    obtain ⟨W0, rfl⟩ : ∃ W0 : World, W0 = W1 := ⟨_, rfl⟩
    go_wp2
    go_ret
    exact ⟨rfl, hbel⟩

section
open Go.ChangeShapes Go.WideShapes Go.ChangeAt Go.RowKit
set_option maxRecDepth 100000 in
theorem rodNeeds_lifted (os : Os) (started : os.Started) (H : Type) (enc : TypeId × Value → H) :
    ReturnsInHanded {} Try.checked os 5 .any (Rows.rodNeedsSpec.pre6 enc Try.prog Try.f5 Rows.rodNeedsRow.domain false) (Rows.rodNeedsSpec.post enc Try.prog Try.f5 false true false false) := by
  refine returnsInHanded_of_change (C := Try.checked) ownKx started (by kernel_rfl) Try.func5
    (ChangeSpec.witness6 (enc := enc) (C := Try.checked) false ⟨#[], #[.agg #[.int .i64 0, .int .i64 0], .slice none 0 0, .slice none 0 0], []⟩ 8 (by kernel_rfl) (by kernel_rfl) (by kernel_rfl) (by kernel_rfl)) ?_
  intro W base args ds gs before hval0 hW hcnd _
  have hval : ∀ (j : Nat) t v, Try.f5.params[j]? = some t → args[j]? = some v → Value.okWide Try.prog W .any base t v := hval0
  have hW' := hW
  obtain ⟨p, q, hA0, hV, rfl, hfz, hnd⟩ := hW
  have hA : DataW.TrodAll enc Try.prog W 0 (fun _ => true) true Try.f5.params.toList args.toList ds p := hA0
  have hlt : ∀ x ∈ p, x.block < W.heap.size := fun x hx => hW'.lt x (List.mem_append_left _ hx)
  have hAll : ∀ W', Below W.heap.size W W' → DataW.TrodAll enc Try.prog W' 0 (fun b => decide (b < W.heap.size)) true Try.f5.params.toList args.toList ds p := fun W' hb => all_below laidOut hb (readable_of (by kernel_rfl)) hlt hA
  rw [Try.params5] at hA hval
  obtain ⟨v0, v1, v2, d0, d1, d2, p0, p1, p2, rfl, rfl, rfl, h0, h1, h2⟩ := trodAll_three hA
  obtain ⟨rfl, rfl⟩ := trodVars_none hV
  clear hA0 hval0
  obtain ⟨x0, rfl⟩ := open_book (hval 0 23 v0 rfl rfl) h0
  obtain ⟨A1, n1, c1, rfl⟩ := okWide_slice Try.underlying24 (hval 1 24 v1 rfl rfl)
  obtain ⟨hc1, l1, hl1, hr1⟩ := open_lis h1
  obtain ⟨A2, n2, c2, rfl⟩ := okWide_slice Try.underlying25 (hval 2 25 v2 rfl rfl)
  obtain ⟨hc2, l2, hl2, hr2⟩ := open_ins Try.underlying25 Try.underlying3 (by kernel_rfl) h2
  refine (rodNeeds_walk W x0.P x0.M A1 n1 c1 l1 A2 n2 c2 l2 hr1 hr2).mono fun e W' ⟨he, hb⟩ => ?_
  subst he
  exact ⟨_, rfl, ⟨_, _, _, [], _, [], hW', trodAll_cons_mk (shut_bool Try.underlying4 _) trodAll_mk0, hAll W' hb, rfl, hb.frame _, fun h => by cases h⟩⟩
/-- The law: whatever the input, it returns true, and the input reads as it did. -/
theorem rodNeeds_holds : Rows.RodNeedsSaid :=
  OpenClaim.holds_of_wide 5 Try.f5 rfl rfl rfl rfl rfl rfl rfl ⟨rfl, rfl, rfl, rfl, rfl⟩ rfl rfl rfl rfl rfl (by kernel_rfl) Try.func5 (by kernel_rfl)
    (of_decide_eq_true (by kernel_rfl)) (by unfold Func.isWrapper; first | (rw [if_pos (by decide +kernel)]; kernel_rfl) | (rw [if_neg (by decide +kernel)]; exact ⟨rfl, rfl⟩))
    (fun os started H enc _ => rodNeeds_lifted os started H enc)
end
end Go.Proofs.Ytpgdfipikfbjeaa

