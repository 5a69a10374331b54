/- Texts of the proof, laid together by program. -/
import Derived.Test.YtpgdfipikfbjeaaMb
import Derived.Test.YtpgdfipikfbjeaaMa
import Derived.Laws.CopyRow
set_option linter.unusedSimpArgs false
set_option linter.unusedVariables false
/- Walks: the reference's Cases, Results, errors of results. -/
namespace Go.Proofs.Ytpgdfipikfbjeaa
open Go.RowKit
attribute [local go_sem] Oper.semAt_some
def caseV (P M : Int) : List (List Int) := if checkBook P M = 0 then casesL P.toNat M.toNat else []
set_option maxHeartbeats 800000 in
theorem refCases_any (P M : Int) (w : World) : Calls Try.prog 54 #[.agg #[.int .i64 P, .int .i64 M]] w fun e w' => ∃ v, e = .returned (.tuple #[v, .int .i64 (checkBook P M)]) ∧ NewLi w' w.heap.size v (caseV P M) ∧ Below w.heap.size w w' := by
  obtain ⟨W0, hWb⟩ : ∃ W0, w.alloc (.cells #[.int .i64 P, .int .i64 M] 23) = W0 := ⟨_, rfl⟩
  have bB : Blk W0 w.heap.size 23 #[.int .i64 P, .int .i64 M] := by rw [← hWb]; exact Blk.new' rfl
  have hbel : Below w.heap.size w W0 := by rw [← hWb]; exact (Below.refl _ _).alloc (Nat.le_refl _) _
  have hsz := hbel.size
  have lB := bB.lt
  have p0 := bB.cell 0
  have p1 := bB.cell 1
  cases hc : (checkBook P M != 0)
  · have hc0 : checkBook P M = 0 := by simpa using hc
    obtain ⟨g1, g2, g3, g4⟩ := book_good hc0
    have Hc := hid hc0
    have hv : Hid (caseV P M = casesL P.toNat M.toNat) := hid (if_pos hc0)
    obtain ⟨Pn, rfl⟩ : ∃ Pn : Nat, P = Pn := ⟨P.toNat, by omega⟩
    obtain ⟨Mn, rfl⟩ : ∃ Mn : Nat, M = Mn := ⟨M.toNat, by omega⟩
    rw [Int.toNat_natCast, Int.toNat_natCast] at hv
    clear hc hc0
    go_enter Try.func54, Try.ntmps54
    go_wp2_with (fail)
    refine (refCheckBook_any _ _ _).mono ?_
    rw [Hc.out]
    rintro e W1 ⟨rfl, hb⟩
    have hst : Below W0.heap.size W0 W1 := Below.trans (by repeat' (first | with_reducible assumption | with_reducible exact Below.refl _ _ | refine Below.alloc ?_ ?_ _ | refine Below.setCell ?_ ?_ _ | refine Below.drew ?_ | refine below_drewN ?_ _ | (simp; done) | (simp; omega) | omega)) (hb.mono (by first | (simp; done) | (simp; omega) | omega))
    replace hbel := hbel.trans (hst.mono hsz)
    replace hsz := hbel.size
    replace bB := bB.below hst bB.lt
    clear p0 p1 lB
    have p0 := bB.cell 0
    have p1 := bB.cell 1
    have lB := bB.lt
    try clear hWb
    clear hb hst
    obtain ⟨W0, rfl⟩ : ∃ W0 : World, W0 = W1 := ⟨_, rfl⟩
    obtain ⟨B5, hB5⟩ : ∃ B, W0.heap.size = B := ⟨_, rfl⟩
    go_wp2_with (fail)
    refine (casesOf_any Pn Mn _ (by omega) (by omega)).mono ?_
    rintro e W1 ⟨v1, rfl, hn, hb⟩
    have hnn := hid (NewLi.mono hn hsz)
    clear hn
    have hst : Below W0.heap.size W0 W1 := Below.trans (by repeat' (first | with_reducible assumption | with_reducible exact Below.refl _ _ | refine Below.alloc ?_ ?_ _ | refine Below.setCell ?_ ?_ _ | refine Below.drew ?_ | refine below_drewN ?_ _ | (simp; done) | (simp; omega) | omega)) (hb.mono (by first | (simp; done) | (simp; omega) | omega))
    replace hbel := hbel.trans (hst.mono hsz)
    replace hsz := hbel.size
    replace bB := bB.below hst bB.lt
    clear p0 p1 lB
    have p0 := bB.cell 0
    have p1 := bB.cell 1
    have lB := bB.lt
    try clear hWb
    clear hb hst
    obtain ⟨W0, rfl⟩ : ∃ W0 : World, W0 = W1 := ⟨_, rfl⟩
    go_wp2
    refine bodyPost_ret (v := .tuple #[v1, .int .i64 0]) (by first | (simp [results, Try.results54, go_sem]; done) | (simp [results, Try.results54, go_sem, *]; done) | (simp [results, Try.results54, go_sem, World.cell?_setCell_same', *]; done) | (simp [results, Try.results54, go_sem]; first | exact ⟨rfl, rfl⟩ | rfl)) rfl ⟨v1, by rw [Hc.out], by rw [hv.out]; exact hnn.out, hbel⟩
  · have hc0 : checkBook P M ≠ 0 := by simpa using hc
    have Hc := hid hc
    have hv : Hid (caseV P M = []) := hid (if_neg hc0)
    have hcc := hc
    clear hc hc0
    go_enter Try.func54, Try.ntmps54
    go_wp2_with (fail)
    refine (refCheckBook_any _ _ _).mono ?_
    rintro e W1 ⟨rfl, hb⟩
    have hst : Below W0.heap.size W0 W1 := Below.trans (by repeat' (first | with_reducible assumption | with_reducible exact Below.refl _ _ | refine Below.alloc ?_ ?_ _ | refine Below.setCell ?_ ?_ _ | refine Below.drew ?_ | refine below_drewN ?_ _ | (simp; done) | (simp; omega) | omega)) (hb.mono (by first | (simp; done) | (simp; omega) | omega))
    replace hbel := hbel.trans (hst.mono hsz)
    replace hsz := hbel.size
    replace bB := bB.below hst bB.lt
    clear p0 p1 lB
    have p0 := bB.cell 0
    have p1 := bB.cell 1
    have lB := bB.lt
    try clear hWb
    clear hb hst
    obtain ⟨W0, rfl⟩ : ∃ W0 : World, W0 = W1 := ⟨_, rfl⟩
    go_wp2_with (fail)
    refine (refCheckBook_any _ _ _).mono ?_
    rintro e W1 ⟨rfl, hb⟩
    have hst : Below W0.heap.size W0 W1 := Below.trans (by repeat' (first | with_reducible assumption | with_reducible exact Below.refl _ _ | refine Below.alloc ?_ ?_ _ | refine Below.setCell ?_ ?_ _ | refine Below.drew ?_ | refine below_drewN ?_ _ | (simp; done) | (simp; omega) | omega)) (hb.mono (by first | (simp; done) | (simp; omega) | omega))
    replace hbel := hbel.trans (hst.mono hsz)
    replace hsz := hbel.size
    replace bB := bB.below hst bB.lt
    clear p0 p1 lB
    have p0 := bB.cell 0
    have p1 := bB.cell 1
    have lB := bB.lt
    try clear hWb
    clear hb hst
    obtain ⟨W0, rfl⟩ : ∃ W0 : World, W0 = W1 := ⟨_, rfl⟩
    go_wp2
    refine bodyPost_ret (v := .tuple #[.slice none 0 0, .int .i64 (checkBook P M)]) (by first | (simp [results, Try.results54, go_sem]; done) | (simp [results, Try.results54, go_sem, *]; done) | (simp [results, Try.results54, go_sem, World.cell?_setCell_same', *]; done) | (simp [results, Try.results54, go_sem]; first | exact ⟨rfl, rfl⟩ | rfl)) rfl ⟨.slice none 0 0, rfl, by rw [hv.out]; exact NewLi.nil _ _, hbel⟩
def resE (P M : Int) (pl : List (List Int)) (bad : List Int) : Int := if checkPlan P M pl ≠ 0 then checkPlan P M pl else if isL P 0 bad = false ∨ M < bad.length then 2 else 0
def resV (P M : Int) (pl : List (List Int)) (bad : List Int) : List Int := if resE P M pl bad = 0 then resL pl bad else []
set_option maxRecDepth 10000 in
set_option maxHeartbeats 1600000 in
theorem refResults_any (A B : Option Addr) (n c m d : Nat) (pl : List (List Int)) (bad : List Int) (P M : Int) (w : World) (hp : LiS w w.heap.size A n pl) (hb : InS w w.heap.size B m bad) (hn : n ≤ 12) (hw : ∀ l ∈ pl, l.length ≤ 12) (hm : m ≤ 1000000) :
    Calls Try.prog 56 #[.agg #[.int .i64 P, .int .i64 M], .slice A n c, .slice B m d] w fun e w' => ∃ A' m' c', e = .returned (.tuple #[.slice A' m' c', .int .i64 (resE P M pl bad)]) ∧ InS w' w'.heap.size A' m' (resV P M pl bad) ∧ Below w.heap.size w w' := by
  have hlen := hid hp.1
  have hblen := hid hb.len
  obtain ⟨W0, hWb⟩ : ∃ W0, w.alloc (.cells #[.int .i64 P, .int .i64 M] 23) = W0 := ⟨_, rfl⟩
  have bB : Blk W0 w.heap.size 23 #[.int .i64 P, .int .i64 M] := by rw [← hWb]; exact Blk.new' rfl
  have hbel : Below w.heap.size w W0 := by rw [← hWb]; exact (Below.refl _ _).alloc (Nat.le_refl _) _
  have hsz := hbel.size
  have lB := bB.lt
  have p0 := bB.cell 0
  have p1 := bB.cell 1
  have HP := hid (hp.below hbel hsz)
  clear hp
  have HB := hid (hb.below hbel hsz)
  clear hb
  cases hc : (checkPlan P M pl != 0)
  · have hc0 : checkPlan P M pl = 0 := by simpa using hc
    obtain ⟨g1, g2, g3⟩ := plan_good hc0
    obtain ⟨g4, g5, g6, g7⟩ := book_good g1
    have Hc := hid hc0
    have hE : Hid (resE P M pl bad = if isL P 0 bad = false ∨ M < bad.length then 2 else 0) := hid (if_neg (by omega))
    obtain ⟨bv, hbv⟩ : ∃ bv, isL P 0 bad = bv := ⟨_, rfl⟩
    have Hbv := hid hbv
    clear hc hc0 hbv
    cases bv
    · have hE2 : Hid (resE P M pl bad = 2) := hid (by rw [hE.out, if_pos (.inl Hbv.out)])
      have hV : Hid (resV P M pl bad = []) := hid (if_neg (by rw [hE2.out]; decide))
      go_enter Try.func56, Try.ntmps56
      go_wp2_with (fail)
      refine (refCheckPlan_any A n c pl P M _ (HP.out.below (by repeat' (first | with_reducible assumption | with_reducible exact Below.refl _ _ | refine Below.alloc ?_ ?_ _ | refine Below.setCell ?_ ?_ _ | refine Below.drew ?_ | refine below_drewN ?_ _ | (simp; done) | (simp; omega) | omega)) (by first | (simp; done) | (simp; omega) | omega)) hn hw).mono ?_
      rw [Hc.out]
      rintro e W1 ⟨rfl, hb⟩
      have hst : Below W0.heap.size W0 W1 := Below.trans (by repeat' (first | with_reducible assumption | with_reducible exact Below.refl _ _ | refine Below.alloc ?_ ?_ _ | refine Below.setCell ?_ ?_ _ | refine Below.drew ?_ | refine below_drewN ?_ _ | (simp; done) | (simp; omega) | omega)) (hb.mono (by first | (simp; done) | (simp; omega) | omega))
      replace hbel := hbel.trans (hst.mono hsz)
      replace hsz := hbel.size
      replace bB := bB.below hst bB.lt
      clear p0 p1 lB
      have p0 := bB.cell 0
      have p1 := bB.cell 1
      have lB := bB.lt
      try clear hWb
      replace HP := hid (HP.out.below hst hst.size)
      replace HB := hid (HB.out.below hst hst.size)
      clear hb hst
      obtain ⟨W0, rfl⟩ : ∃ W0 : World, W0 = W1 := ⟨_, rfl⟩
      go_wp2_with (fail)
      refine (isList_any B m d bad P _ (HB.out.below (by repeat' (first | with_reducible assumption | with_reducible exact Below.refl _ _ | refine Below.alloc ?_ ?_ _ | refine Below.setCell ?_ ?_ _ | refine Below.drew ?_ | refine below_drewN ?_ _ | (simp; done) | (simp; omega) | omega)) (by first | (simp; done) | (simp; omega) | omega)) hm).mono ?_
      rw [Hbv.out]
      rintro e W1 ⟨rfl, hb⟩
      have hst : Below W0.heap.size W0 W1 := Below.trans (by repeat' (first | with_reducible assumption | with_reducible exact Below.refl _ _ | refine Below.alloc ?_ ?_ _ | refine Below.setCell ?_ ?_ _ | refine Below.drew ?_ | refine below_drewN ?_ _ | (simp; done) | (simp; omega) | omega)) (hb.mono (by first | (simp; done) | (simp; omega) | omega))
      replace hbel := hbel.trans (hst.mono hsz)
      replace hsz := hbel.size
      replace bB := bB.below hst bB.lt
      clear p0 p1 lB
      have p0 := bB.cell 0
      have p1 := bB.cell 1
      have lB := bB.lt
      try clear hWb
      replace HP := hid (HP.out.below hst hst.size)
      replace HB := hid (HB.out.below hst hst.size)
      clear hb hst
      obtain ⟨W0, rfl⟩ : ∃ W0 : World, W0 = W1 := ⟨_, rfl⟩
      go_wp2
      refine bodyPost_ret (v := .tuple #[.slice none 0 0, .int .i64 2]) (by first | (simp [results, Try.results56, go_sem]; done) | (simp [results, Try.results56, go_sem, *]; done) | (simp [results, Try.results56, go_sem, World.cell?_setCell_same', *]; done) | (simp [results, Try.results56, go_sem]; first | exact ⟨rfl, rfl⟩ | rfl)) rfl ⟨none, 0, 0, by rw [hE2.out], by rw [hV.out]; exact Sl.none_, hbel⟩
    · by_cases hMm : M < m
      · have dM : decide (M < (m : Int)) = true := decide_eq_true hMm
        have hE2 : Hid (resE P M pl bad = 2) := hid (by rw [hE.out, if_pos (.inr (by rw [hblen.out]; exact hMm))])
        have hV : Hid (resV P M pl bad = []) := hid (if_neg (by rw [hE2.out]; decide))
        go_enter Try.func56, Try.ntmps56
        go_wp2_with (fail)
        refine (refCheckPlan_any A n c pl P M _ (HP.out.below (by repeat' (first | with_reducible assumption | with_reducible exact Below.refl _ _ | refine Below.alloc ?_ ?_ _ | refine Below.setCell ?_ ?_ _ | refine Below.drew ?_ | refine below_drewN ?_ _ | (simp; done) | (simp; omega) | omega)) (by first | (simp; done) | (simp; omega) | omega)) hn hw).mono ?_
        rw [Hc.out]
        rintro e W1 ⟨rfl, hb⟩
        have hst : Below W0.heap.size W0 W1 := Below.trans (by repeat' (first | with_reducible assumption | with_reducible exact Below.refl _ _ | refine Below.alloc ?_ ?_ _ | refine Below.setCell ?_ ?_ _ | refine Below.drew ?_ | refine below_drewN ?_ _ | (simp; done) | (simp; omega) | omega)) (hb.mono (by first | (simp; done) | (simp; omega) | omega))
        replace hbel := hbel.trans (hst.mono hsz)
        replace hsz := hbel.size
        replace bB := bB.below hst bB.lt
        clear p0 p1 lB
        have p0 := bB.cell 0
        have p1 := bB.cell 1
        have lB := bB.lt
        try clear hWb
        replace HP := hid (HP.out.below hst hst.size)
        replace HB := hid (HB.out.below hst hst.size)
        clear hb hst
        obtain ⟨W0, rfl⟩ : ∃ W0 : World, W0 = W1 := ⟨_, rfl⟩
        go_wp2_with (fail)
        refine (isList_any B m d bad P _ (HB.out.below (by repeat' (first | with_reducible assumption | with_reducible exact Below.refl _ _ | refine Below.alloc ?_ ?_ _ | refine Below.setCell ?_ ?_ _ | refine Below.drew ?_ | refine below_drewN ?_ _ | (simp; done) | (simp; omega) | omega)) (by first | (simp; done) | (simp; omega) | omega)) hm).mono ?_
        rw [Hbv.out]
        rintro e W1 ⟨rfl, hb⟩
        have hst : Below W0.heap.size W0 W1 := Below.trans (by repeat' (first | with_reducible assumption | with_reducible exact Below.refl _ _ | refine Below.alloc ?_ ?_ _ | refine Below.setCell ?_ ?_ _ | refine Below.drew ?_ | refine below_drewN ?_ _ | (simp; done) | (simp; omega) | omega)) (hb.mono (by first | (simp; done) | (simp; omega) | omega))
        replace hbel := hbel.trans (hst.mono hsz)
        replace hsz := hbel.size
        replace bB := bB.below hst bB.lt
        clear p0 p1 lB
        have p0 := bB.cell 0
        have p1 := bB.cell 1
        have lB := bB.lt
        try clear hWb
        replace HP := hid (HP.out.below hst hst.size)
        replace HB := hid (HB.out.below hst hst.size)
        clear hb hst
        obtain ⟨W0, rfl⟩ : ∃ W0 : World, W0 = W1 := ⟨_, rfl⟩
        go_wp2
        refine bodyPost_ret (v := .tuple #[.slice none 0 0, .int .i64 2]) (by first | (simp [results, Try.results56, go_sem]; done) | (simp [results, Try.results56, go_sem, *]; done) | (simp [results, Try.results56, go_sem, World.cell?_setCell_same', *]; done) | (simp [results, Try.results56, go_sem]; first | exact ⟨rfl, rfl⟩ | rfl)) rfl ⟨none, 0, 0, by rw [hE2.out], by rw [hV.out]; exact Sl.none_, hbel⟩
      · have dM : decide (M < (m : Int)) = false := decide_eq_false hMm
        have hE2 : Hid (resE P M pl bad = 0) := hid (by rw [hE.out, if_neg]; rintro (h | h); (· rw [Hbv.out] at h; cases h); rw [hblen.out] at h; exact hMm h)
        have hV : Hid (resV P M pl bad = resL pl bad) := hid (if_pos hE2.out)
        have hrl : Hid ((resL pl bad).length = n) := hid (by unfold resL; rw [List.length_map]; exact hlen.out)
        go_enter Try.func56, Try.ntmps56
        go_wp2_with (fail)
        refine (refCheckPlan_any A n c pl P M _ (HP.out.below (by repeat' (first | with_reducible assumption | with_reducible exact Below.refl _ _ | refine Below.alloc ?_ ?_ _ | refine Below.setCell ?_ ?_ _ | refine Below.drew ?_ | refine below_drewN ?_ _ | (simp; done) | (simp; omega) | omega)) (by first | (simp; done) | (simp; omega) | omega)) hn hw).mono ?_
        rw [Hc.out]
        rintro e W1 ⟨rfl, hb⟩
        have hst : Below W0.heap.size W0 W1 := Below.trans (by repeat' (first | with_reducible assumption | with_reducible exact Below.refl _ _ | refine Below.alloc ?_ ?_ _ | refine Below.setCell ?_ ?_ _ | refine Below.drew ?_ | refine below_drewN ?_ _ | (simp; done) | (simp; omega) | omega)) (hb.mono (by first | (simp; done) | (simp; omega) | omega))
        replace hbel := hbel.trans (hst.mono hsz)
        replace hsz := hbel.size
        replace bB := bB.below hst bB.lt
        clear p0 p1 lB
        have p0 := bB.cell 0
        have p1 := bB.cell 1
        have lB := bB.lt
        try clear hWb
        replace HP := hid (HP.out.below hst hst.size)
        replace HB := hid (HB.out.below hst hst.size)
        clear hb hst
        obtain ⟨W0, rfl⟩ : ∃ W0 : World, W0 = W1 := ⟨_, rfl⟩
        go_wp2_with (fail)
        refine (isList_any B m d bad P _ (HB.out.below (by repeat' (first | with_reducible assumption | with_reducible exact Below.refl _ _ | refine Below.alloc ?_ ?_ _ | refine Below.setCell ?_ ?_ _ | refine Below.drew ?_ | refine below_drewN ?_ _ | (simp; done) | (simp; omega) | omega)) (by first | (simp; done) | (simp; omega) | omega)) hm).mono ?_
        rw [Hbv.out]
        rintro e W1 ⟨rfl, hb⟩
        have hst : Below W0.heap.size W0 W1 := Below.trans (by repeat' (first | with_reducible assumption | with_reducible exact Below.refl _ _ | refine Below.alloc ?_ ?_ _ | refine Below.setCell ?_ ?_ _ | refine Below.drew ?_ | refine below_drewN ?_ _ | (simp; done) | (simp; omega) | omega)) (hb.mono (by first | (simp; done) | (simp; omega) | omega))
        replace hbel := hbel.trans (hst.mono hsz)
        replace hsz := hbel.size
        replace bB := bB.below hst bB.lt
        clear p0 p1 lB
        have p0 := bB.cell 0
        have p1 := bB.cell 1
        have lB := bB.lt
        try clear hWb
        replace HP := hid (HP.out.below hst hst.size)
        replace HB := hid (HB.out.below hst hst.size)
        clear hb hst
        obtain ⟨W0, rfl⟩ : ∃ W0 : World, W0 = W1 := ⟨_, rfl⟩
        go_wp2_with (fail)
        refine (resultsOf_any A B n c m d pl bad _ (HP.out.below (by repeat' (first | with_reducible assumption | with_reducible exact Below.refl _ _ | refine Below.alloc ?_ ?_ _ | refine Below.setCell ?_ ?_ _ | refine Below.drew ?_ | refine below_drewN ?_ _ | (simp; done) | (simp; omega) | omega)) (by first | (simp; done) | (simp; omega) | omega)) (HB.out.below (by repeat' (first | with_reducible assumption | with_reducible exact Below.refl _ _ | refine Below.alloc ?_ ?_ _ | refine Below.setCell ?_ ?_ _ | refine Below.drew ?_ | refine below_drewN ?_ _ | (simp; done) | (simp; omega) | omega)) (by first | (simp; done) | (simp; omega) | omega)) hn hw hm).mono ?_
        rintro e W1 ⟨v1, rfl, ho, hb⟩
        obtain ⟨A1, c1, hv1, hs1⟩ := sl_of_owns ho
        subst hv1
        have Hs1 := hid (show InS W1 W1.heap.size A1 n (resL pl bad) from hs1)
        clear ho hs1
        have hst : Below W0.heap.size W0 W1 := Below.trans (by repeat' (first | with_reducible assumption | with_reducible exact Below.refl _ _ | refine Below.alloc ?_ ?_ _ | refine Below.setCell ?_ ?_ _ | refine Below.drew ?_ | refine below_drewN ?_ _ | (simp; done) | (simp; omega) | omega)) (hb.mono (by first | (simp; done) | (simp; omega) | omega))
        replace hbel := hbel.trans (hst.mono hsz)
        replace hsz := hbel.size
        replace bB := bB.below hst bB.lt
        clear p0 p1 lB
        have p0 := bB.cell 0
        have p1 := bB.cell 1
        have lB := bB.lt
        try clear hWb
        replace HP := hid (HP.out.below hst hst.size)
        replace HB := hid (HB.out.below hst hst.size)
        clear hb hst
        obtain ⟨W0, rfl⟩ : ∃ W0 : World, W0 = W1 := ⟨_, rfl⟩
        go_wp2
        refine bodyPost_ret (v := .tuple #[.slice A1 n c1, .int .i64 0]) (by first | (simp [results, Try.results56, go_sem]; done) | (simp [results, Try.results56, go_sem, *]; done) | (simp [results, Try.results56, go_sem, World.cell?_setCell_same', *]; done) | (simp [results, Try.results56, go_sem]; first | exact ⟨rfl, rfl⟩ | rfl)) rfl ⟨A1, n, c1, by rw [hE2.out], by rw [hV.out]; exact Hs1.out, hbel⟩
  · have hc0 : checkPlan P M pl ≠ 0 := by simpa using hc
    have hE : Hid (resE P M pl bad = checkPlan P M pl) := hid (if_pos hc0)
    have hV : Hid (resV P M pl bad = []) := hid (if_neg (by rw [hE.out]; exact hc0))
    have Hc := hid hc
    have hcc := hc
    clear hc0 hc
    go_enter Try.func56, Try.ntmps56
    go_wp2_with (fail)
    refine (refCheckPlan_any A n c pl P M _ (HP.out.below (by repeat' (first | with_reducible assumption | with_reducible exact Below.refl _ _ | refine Below.alloc ?_ ?_ _ | refine Below.setCell ?_ ?_ _ | refine Below.drew ?_ | refine below_drewN ?_ _ | (simp; done) | (simp; omega) | omega)) (by first | (simp; done) | (simp; omega) | omega)) hn hw).mono ?_
    rintro e W1 ⟨rfl, hb⟩
    have hst : Below W0.heap.size W0 W1 := Below.trans (by repeat' (first | with_reducible assumption | with_reducible exact Below.refl _ _ | refine Below.alloc ?_ ?_ _ | refine Below.setCell ?_ ?_ _ | refine Below.drew ?_ | refine below_drewN ?_ _ | (simp; done) | (simp; omega) | omega)) (hb.mono (by first | (simp; done) | (simp; omega) | omega))
    replace hbel := hbel.trans (hst.mono hsz)
    replace hsz := hbel.size
    replace bB := bB.below hst bB.lt
    clear p0 p1 lB
    have p0 := bB.cell 0
    have p1 := bB.cell 1
    have lB := bB.lt
    try clear hWb
    replace HP := hid (HP.out.below hst hst.size)
    replace HB := hid (HB.out.below hst hst.size)
    clear hb hst
    obtain ⟨W0, rfl⟩ : ∃ W0 : World, W0 = W1 := ⟨_, rfl⟩
    go_wp2_with (fail)
    refine (refCheckPlan_any A n c pl P M _ (HP.out.below (by repeat' (first | with_reducible assumption | with_reducible exact Below.refl _ _ | refine Below.alloc ?_ ?_ _ | refine Below.setCell ?_ ?_ _ | refine Below.drew ?_ | refine below_drewN ?_ _ | (simp; done) | (simp; omega) | omega)) (by first | (simp; done) | (simp; omega) | omega)) hn hw).mono ?_
    rintro e W1 ⟨rfl, hb⟩
    have hst : Below W0.heap.size W0 W1 := Below.trans (by repeat' (first | with_reducible assumption | with_reducible exact Below.refl _ _ | refine Below.alloc ?_ ?_ _ | refine Below.setCell ?_ ?_ _ | refine Below.drew ?_ | refine below_drewN ?_ _ | (simp; done) | (simp; omega) | omega)) (hb.mono (by first | (simp; done) | (simp; omega) | omega))
    replace hbel := hbel.trans (hst.mono hsz)
    replace hsz := hbel.size
    replace bB := bB.below hst bB.lt
    clear p0 p1 lB
    have p0 := bB.cell 0
    have p1 := bB.cell 1
    have lB := bB.lt
    try clear hWb
    replace HP := hid (HP.out.below hst hst.size)
    replace HB := hid (HB.out.below hst hst.size)
    clear hb hst
    obtain ⟨W0, rfl⟩ : ∃ W0 : World, W0 = W1 := ⟨_, rfl⟩
    go_wp2
    refine bodyPost_ret (v := .tuple #[.slice none 0 0, .int .i64 (checkPlan P M pl)]) (by first | (simp [results, Try.results56, go_sem]; done) | (simp [results, Try.results56, go_sem, *]; done) | (simp [results, Try.results56, go_sem, World.cell?_setCell_same', *]; done) | (simp [results, Try.results56, go_sem]; first | exact ⟨rfl, rfl⟩ | rfl)) rfl ⟨none, 0, 0, by rw [hE.out], by rw [hV.out]; exact Sl.none_, hbel⟩
end Go.Proofs.Ytpgdfipikfbjeaa
/- Walks: the reference's errors of results, the cases that are told. -/
namespace Go.Proofs.Ytpgdfipikfbjeaa
open Go.RowKit
attribute [local go_sem] Oper.semAt_some
def errR (P M : Int) (pl : List (List Int)) (r : List Int) : Int := if checkPlan P M pl ≠ 0 then checkPlan P M pl else if r.length ≠ pl.length then 15 else if r.all (inR 0 1) = false then 3 else 0
theorem errR_zero {P M : Int} {pl : List (List Int)} {r : List Int} (h : errR P M pl r = 0) : checkPlan P M pl = 0 ∧ r.length = pl.length ∧ r.all (inR 0 1) = true := by
  unfold errR at h
  split at h
  · rename_i h1; exact absurd h h1
  · split at h
    · cases h
    · split at h
      · cases h
      · rename_i h1 h2 h3
        exact ⟨by simpa using h1, by simpa using h2, by simpa using h3⟩
set_option maxRecDepth 10000 in
set_option maxHeartbeats 1600000 in
theorem resErr_any (A B : Option Addr) (n c m d : Nat) (pl : List (List Int)) (r : List Int) (P M : Int) (w : World) (hp : LiS w w.heap.size A n pl) (hb : InS w w.heap.size B m r) (hn : n ≤ 12) (hw : ∀ l ∈ pl, l.length ≤ 12) :
    Calls Try.prog 72 #[.agg #[.int .i64 P, .int .i64 M], .slice A n c, .slice B m d] w fun e w' => e = .returned (.int .i64 (errR P M pl r)) ∧ Below w.heap.size w w' := by
  have hlen := hid hp.1
  have hblen := hid hb.len
  obtain ⟨W0, hWb⟩ : ∃ W0, w.alloc (.cells #[.int .i64 P, .int .i64 M] 23) = W0 := ⟨_, rfl⟩
  have bB : Blk W0 w.heap.size 23 #[.int .i64 P, .int .i64 M] := by rw [← hWb]; exact Blk.new' rfl
  have hbel : Below w.heap.size w W0 := by rw [← hWb]; exact (Below.refl _ _).alloc (Nat.le_refl _) _
  have hsz := hbel.size
  have lB := bB.lt
  have p0 := bB.cell 0
  have p1 := bB.cell 1
  have HP := hid (hp.below hbel hsz)
  clear hp
  have HB := hid (hb.below hbel hsz)
  clear hb
  cases hc : (checkPlan P M pl != 0)
  · have hc0 : checkPlan P M pl = 0 := by simpa using hc
    have Hc := hid hc0
    have hE : Hid (errR P M pl r = if r.length ≠ pl.length then 15 else if r.all (inR 0 1) = false then 3 else 0) := hid (if_neg (by omega))
    clear hc hc0
    by_cases hmn : m = n
    · have dmn : ((m : Int) != (n : Int)) = false := by simp; omega
      have hE2 : Hid (errR P M pl r = if r.all (inR 0 1) = false then 3 else 0) := hid (by rw [hE.out, if_neg (by rw [hblen.out, hlen.out, hmn]; simp)])
      go_enter Try.func72, Try.ntmps72
      go_wp2_with (fail)
      refine (refCheckPlan_any A n c pl P M _ (HP.out.below (by repeat' (first | with_reducible assumption | with_reducible exact Below.refl _ _ | refine Below.alloc ?_ ?_ _ | refine Below.setCell ?_ ?_ _ | refine Below.drew ?_ | refine below_drewN ?_ _ | (simp; done) | (simp; omega) | omega)) (by first | (simp; done) | (simp; omega) | omega)) hn hw).mono ?_
      rw [Hc.out]
      rintro e W1 ⟨rfl, hb⟩
      have hst : Below W0.heap.size W0 W1 := Below.trans (by repeat' (first | with_reducible assumption | with_reducible exact Below.refl _ _ | refine Below.alloc ?_ ?_ _ | refine Below.setCell ?_ ?_ _ | refine Below.drew ?_ | refine below_drewN ?_ _ | (simp; done) | (simp; omega) | omega)) (hb.mono (by first | (simp; done) | (simp; omega) | omega))
      replace hbel := hbel.trans (hst.mono hsz)
      replace hsz := hbel.size
      replace bB := bB.below hst bB.lt
      clear p0 p1 lB
      have p0 := bB.cell 0
      have p1 := bB.cell 1
      have lB := bB.lt
      try clear hWb
      replace HP := hid (HP.out.below hst hst.size)
      replace HB := hid (HB.out.below hst hst.size)
      clear hb hst
      obtain ⟨W0, rfl⟩ : ∃ W0 : World, W0 = W1 := ⟨_, rfl⟩
      go_wp2_with (fail)
      go_loopw [7] (fun i wr => ∃ k : Nat, k ≤ m ∧ i = .int .i64 k ∧ W0 = wr ∧ Hid ((r.take k).all (inR 0 1) = true)) (fun i _ => m - (intOf i).toNat)
      case atStart => exact ⟨0, by omega, rfl, rfl, hid rfl⟩
      case round =>
        obtain ⟨k, hk2, rfl, rfl, hok⟩ := hrel
        by_cases hlt : k < m
        · obtain ⟨b, off, x, rfl, hb1, hx, c0⟩ := HB.out.at_ hlt
          have Hx := hid hx
          have hlti : (k : Int) < m := by omega
          have hir : inR 0 1 x = decide (0 ≤ x ∧ x ≤ 1) := rfl
          clear hx
          cases d1 : decide (x < 0)
          · have e1 := of_decide_eq_false d1
            cases d2 : decide (1 < x)
            · have e2 := of_decide_eq_false d2
              have hs := hid (all_take_succ hok.out Hx.out (hir.trans (decide_eq_true (by omega))))
              clear hir
              go_wp2
              exact ⟨⟨k + 1, by omega, by go_num, trivial, hs⟩, by simp [intOf]; omega⟩
            · have e2 := of_decide_eq_true d2
              have hf : Hid (errR P M pl r = 3) := hid (by rw [hE2.out, if_pos]; exact all_false Hx.out (hir.trans (decide_eq_false (by omega))))
              clear hir
              go_wp2
              refine bodyPost_ret (v := .int .i64 3) (by first | (simp [results, Try.results72, go_sem]; done) | (simp [results, Try.results72, go_sem, *]; done) | (simp [results, Try.results72, go_sem, World.cell?_setCell_same', *]; done) | (simp [results, Try.results72, go_sem]; first | exact ⟨rfl, rfl⟩ | rfl)) rfl ⟨by rw [hf.out], hbel⟩
          · have e1 := of_decide_eq_true d1
            have hf : Hid (errR P M pl r = 3) := hid (by rw [hE2.out, if_pos]; exact all_false Hx.out (hir.trans (decide_eq_false (by omega))))
            clear hir
            go_wp2
            refine bodyPost_ret (v := .int .i64 3) (by first | (simp [results, Try.results72, go_sem]; done) | (simp [results, Try.results72, go_sem, *]; done) | (simp [results, Try.results72, go_sem, World.cell?_setCell_same', *]; done) | (simp [results, Try.results72, go_sem]; first | exact ⟨rfl, rfl⟩ | rfl)) rfl ⟨by rw [hf.out], hbel⟩
        · obtain rfl : m = k := by omega
          have hf : Hid (errR P M pl r = 0) := hid (by have := hok.out; rw [List.take_of_length_le (by rw [hblen.out]; exact Nat.le_refl _)] at this; rw [hE2.out, if_neg (by rw [this]; decide)])
          go_wp2
          refine bodyPost_ret (v := .int .i64 0) (by first | (simp [results, Try.results72, go_sem]; done) | (simp [results, Try.results72, go_sem, *]; done) | (simp [results, Try.results72, go_sem, World.cell?_setCell_same', *]; done) | (simp [results, Try.results72, go_sem]; first | exact ⟨rfl, rfl⟩ | rfl)) rfl ⟨by rw [hf.out], hbel⟩
    · have dmn : ((m : Int) != (n : Int)) = true := by simp; omega
      have hE2 : Hid (errR P M pl r = 15) := hid (by rw [hE.out, if_pos (by rw [hblen.out, hlen.out]; exact hmn)])
      go_enter Try.func72, Try.ntmps72
      go_wp2_with (fail)
      refine (refCheckPlan_any A n c pl P M _ (HP.out.below (by repeat' (first | with_reducible assumption | with_reducible exact Below.refl _ _ | refine Below.alloc ?_ ?_ _ | refine Below.setCell ?_ ?_ _ | refine Below.drew ?_ | refine below_drewN ?_ _ | (simp; done) | (simp; omega) | omega)) (by first | (simp; done) | (simp; omega) | omega)) hn hw).mono ?_
      rw [Hc.out]
      rintro e W1 ⟨rfl, hb⟩
      have hst : Below W0.heap.size W0 W1 := Below.trans (by repeat' (first | with_reducible assumption | with_reducible exact Below.refl _ _ | refine Below.alloc ?_ ?_ _ | refine Below.setCell ?_ ?_ _ | refine Below.drew ?_ | refine below_drewN ?_ _ | (simp; done) | (simp; omega) | omega)) (hb.mono (by first | (simp; done) | (simp; omega) | omega))
      replace hbel := hbel.trans (hst.mono hsz)
      replace hsz := hbel.size
      replace bB := bB.below hst bB.lt
      clear p0 p1 lB
      have p0 := bB.cell 0
      have p1 := bB.cell 1
      have lB := bB.lt
      try clear hWb
      replace HP := hid (HP.out.below hst hst.size)
      replace HB := hid (HB.out.below hst hst.size)
      clear hb hst
      obtain ⟨W0, rfl⟩ : ∃ W0 : World, W0 = W1 := ⟨_, rfl⟩
      go_wp2
      refine bodyPost_ret (v := .int .i64 15) (by first | (simp [results, Try.results72, go_sem]; done) | (simp [results, Try.results72, go_sem, *]; done) | (simp [results, Try.results72, go_sem, World.cell?_setCell_same', *]; done) | (simp [results, Try.results72, go_sem]; first | exact ⟨rfl, rfl⟩ | rfl)) rfl ⟨by rw [hE2.out], hbel⟩
  · have hc0 : checkPlan P M pl ≠ 0 := by simpa using hc
    have hE : Hid (errR P M pl r = checkPlan P M pl) := hid (if_pos hc0)
    have Hc := hid hc
    have hcc := hc
    clear hc0 hc
    go_enter Try.func72, Try.ntmps72
    go_wp2_with (fail)
    refine (refCheckPlan_any A n c pl P M _ (HP.out.below (by repeat' (first | with_reducible assumption | with_reducible exact Below.refl _ _ | refine Below.alloc ?_ ?_ _ | refine Below.setCell ?_ ?_ _ | refine Below.drew ?_ | refine below_drewN ?_ _ | (simp; done) | (simp; omega) | omega)) (by first | (simp; done) | (simp; omega) | omega)) hn hw).mono ?_
    rintro e W1 ⟨rfl, hb⟩
    have hst : Below W0.heap.size W0 W1 := Below.trans (by repeat' (first | with_reducible assumption | with_reducible exact Below.refl _ _ | refine Below.alloc ?_ ?_ _ | refine Below.setCell ?_ ?_ _ | refine Below.drew ?_ | refine below_drewN ?_ _ | (simp; done) | (simp; omega) | omega)) (hb.mono (by first | (simp; done) | (simp; omega) | omega))
    replace hbel := hbel.trans (hst.mono hsz)
    replace hsz := hbel.size
    replace bB := bB.below hst bB.lt
    clear p0 p1 lB
    have p0 := bB.cell 0
    have p1 := bB.cell 1
    have lB := bB.lt
    try clear hWb
    replace HP := hid (HP.out.below hst hst.size)
    replace HB := hid (HB.out.below hst hst.size)
    clear hb hst
    obtain ⟨W0, rfl⟩ : ∃ W0 : World, W0 = W1 := ⟨_, rfl⟩
    go_wp2_with (fail)
    refine (refCheckPlan_any A n c pl P M _ (HP.out.below (by repeat' (first | with_reducible assumption | with_reducible exact Below.refl _ _ | refine Below.alloc ?_ ?_ _ | refine Below.setCell ?_ ?_ _ | refine Below.drew ?_ | refine below_drewN ?_ _ | (simp; done) | (simp; omega) | omega)) (by first | (simp; done) | (simp; omega) | omega)) hn hw).mono ?_
    rintro e W1 ⟨rfl, hb⟩
    have hst : Below W0.heap.size W0 W1 := Below.trans (by repeat' (first | with_reducible assumption | with_reducible exact Below.refl _ _ | refine Below.alloc ?_ ?_ _ | refine Below.setCell ?_ ?_ _ | refine Below.drew ?_ | refine below_drewN ?_ _ | (simp; done) | (simp; omega) | omega)) (hb.mono (by first | (simp; done) | (simp; omega) | omega))
    replace hbel := hbel.trans (hst.mono hsz)
    replace hsz := hbel.size
    replace bB := bB.below hst bB.lt
    clear p0 p1 lB
    have p0 := bB.cell 0
    have p1 := bB.cell 1
    have lB := bB.lt
    try clear hWb
    replace HP := hid (HP.out.below hst hst.size)
    replace HB := hid (HB.out.below hst hst.size)
    clear hb hst
    obtain ⟨W0, rfl⟩ : ∃ W0 : World, W0 = W1 := ⟨_, rfl⟩
    go_wp2
    refine bodyPost_ret (v := .int .i64 (checkPlan P M pl)) (by first | (simp [results, Try.results72, go_sem]; done) | (simp [results, Try.results72, go_sem, *]; done) | (simp [results, Try.results72, go_sem, World.cell?_setCell_same', *]; done) | (simp [results, Try.results72, go_sem]; first | exact ⟨rfl, rfl⟩ | rfl)) rfl ⟨by rw [hE.out], hbel⟩
theorem NewLi.at_ {w : World} {base : Nat} {v : Value} {ls : List (List Int)} (h : NewLi w base v ls) {k : Nat} (hk : k < ls.length) : ∃ (g c0 : Nat) (l : List Int) (A : Option Addr) (m c : Nat), v = .slice (some ⟨g, 0, none⟩) ls.length c0 ∧ base ≤ g ∧ g < w.heap.size ∧ ls[k]? = some l ∧ w.cell? ⟨g, k, none⟩ = some (.slice A m c) ∧ InS w w.heap.size A m l ∧ ∀ b off, A = some ⟨b, off, none⟩ → b < w.heap.size := by
  obtain ⟨vs, h1, h2⟩ := h
  obtain ⟨g, c0, e, h3, h4⟩ := own_form2 h1 (by omega)
  have hl : ls[k]? = some ls[k] := List.getElem?_eq_getElem hk
  obtain ⟨A, m, c, h5, h6, h7⟩ := h2.2 k _ hl
  subst e
  exact ⟨g, c0, _, A, m, c, rfl, h3, h4, hl, own_cell h1 h5, h6, fun b off e => (h7 b off e).1⟩
def toldL (P M : Nat) (pl : List (List Int)) (r : List Int) : List (List Int) := (casesL P M).filter fun c => eqI (resL pl c) r
theorem told_take {ls : List (List Int)} {k : Nat} {x : List Int} {q : List Int → Bool} (h : ls[k]? = some x) : (ls.take (k + 1)).filter q = (ls.take k).filter q ++ (if q x then [x] else []) := by
  rw [List.take_add_one, h, List.filter_append]
  congr 1
  show [x].filter q = _
  rw [List.filter_cons, List.filter_nil]
set_option maxRecDepth 10000 in
set_option maxHeartbeats 1600000 in
theorem toldOf_any (A B : Option Addr) (n c m d : Nat) (pl : List (List Int)) (r : List Int) (P M : Nat) (w : World) (hP : P ≤ 8) (hM : M ≤ 2) (hp : LiS w w.heap.size A n pl) (hb : InS w w.heap.size B m r) (hn : n ≤ 12) (hw : ∀ l ∈ pl, l.length ≤ 12) :
    Calls Try.prog 38 #[.agg #[.int .i64 (P : Int), .int .i64 (M : Int)], .slice A n c, .slice B m d] w fun e w' => ∃ v, e = .returned v ∧ NewLi w' w.heap.size v (toldL P M pl r) ∧ Below w.heap.size w w' := by
  have hlen := hid hp.1
  obtain ⟨W0, hWb⟩ : ∃ W0, w.alloc (.cells #[.int .i64 (P : Int), .int .i64 (M : Int)] 23) = W0 := ⟨_, rfl⟩
  have bB : Blk W0 w.heap.size 23 #[.int .i64 (P : Int), .int .i64 (M : Int)] := by rw [← hWb]; exact Blk.new' rfl
  have hbel : Below w.heap.size w W0 := by rw [← hWb]; exact (Below.refl _ _).alloc (Nat.le_refl _) _
  have hsz := hbel.size
  have lB := bB.lt
  have p0 := bB.cell 0
  have p1 := bB.cell 1
  have HP := hid (hp.below hbel hsz)
  clear hp
  have HB := hid (hb.below hbel hsz)
  clear hb
  obtain ⟨CL, hCL⟩ : ∃ CL, casesL P M = CL := ⟨_, rfl⟩
  have hcl := cases_len (M := M) hP
  rw [hCL] at hcl
  have HCL := hid hCL
  have hcb : Hid (∀ x ∈ CL, x.length ≤ 2) := hid (by rw [← hCL]; exact cases_short P M)
  clear hCL
  go_enter Try.func38, Try.ntmps38
  go_wp2_with (fail)
  refine (casesOf_any P M _ hP hM).mono ?_
  rw [HCL.out]
  rintro e W1 ⟨v1, rfl, hn1, hb⟩
  have hst : Below W0.heap.size W0 W1 := Below.trans (by repeat' (first | with_reducible assumption | with_reducible exact Below.refl _ _ | refine Below.alloc ?_ ?_ _ | refine Below.setCell ?_ ?_ _ | refine Below.drew ?_ | refine below_drewN ?_ _ | (simp; done) | (simp; omega) | omega)) (hb.mono (by first | (simp; done) | (simp; omega) | omega))
  replace hbel := hbel.trans (hst.mono hsz)
  replace hsz := hbel.size
  replace bB := bB.below hst bB.lt
  clear p0 p1 lB
  have p0 := bB.cell 0
  have p1 := bB.cell 1
  have lB := bB.lt
  try clear hWb
  replace HP := hid (HP.out.below hst hst.size)
  replace HB := hid (HB.out.below hst hst.size)
  have HN := hid (NewLi.mono hn1 (Nat.zero_le _) : NewLi W1 0 v1 CL)
  clear hb hst
  obtain ⟨W0, rfl⟩ : ∃ W0 : World, W0 = W1 := ⟨_, rfl⟩
  clear hn1
  obtain ⟨A1, c1, hv1, -, -⟩ := HN.out.lis
  subst hv1
  have HNN := hid HN.out
  have HPP := hid HP.out
  have HBB := hid HB.out
  go_wp2_with (fail)
  go_loopw [8, 9] (fun v i wr => ∃ k : Nat, k ≤ CL.length ∧ i = .int .i64 k ∧ Below W0.heap.size W0 wr ∧ Hid (NewLi wr W0.heap.size v ((CL.take k).filter fun c => eqI (resL pl c) r))) (fun _ i _ => CL.length - (intOf i).toNat)
  case atStart => exact ⟨0, by omega, rfl, Below.refl _ _, hid (NewLi.nil _ _)⟩
  case round =>
    obtain ⟨k, hk2, rfl, hbw, hown⟩ := hrel
    have hszw := hbw.size
    by_cases hlt : k < CL.length
    · obtain ⟨g, c0, x, A2, m2, c2, hv2, -, hg2, hx, hcell, hin, hbd⟩ := HNN.out.at_ hlt
      cases hv2
      have q0 := ((bcell hbw).1 g k hg2).trans hcell
      have lg : g < wr.heap.size := by omega
      have hlti : (k : Int) < CL.length := by omega
      have hm2 : m2 ≤ 2 := by have := hin.len; have := hcb.out x (List.mem_of_getElem? hx); omega
      have hrl : Hid ((resL pl x).length = n) := hid (by unfold resL; rw [List.length_map]; exact hlen.out)
      have hst := hid (told_take (q := fun c => eqI (resL pl c) r) hx)
      have Hin := hid hin
      have Hbd := hid hbd
      have Hcell := hid hcell
      have hfl : Hid (((CL.take k).filter fun c => eqI (resL pl c) r).length ≤ 100) := hid (by
        have h1 := List.length_filter_le (fun c => eqI (resL pl c) r) (CL.take k)
        have h2 := List.length_take_le k CL
        omega)
      obtain ⟨bv, hbv⟩ : ∃ bv, eqI (resL pl x) r = bv := ⟨_, rfl⟩
      have Hbv := hid hbv
      simp only [hbv] at hst
      clear hx hin hbd hcell hbv
      cases bv
      · go_wp2_with (first | (go_at_call 42; refine (resultsOf_any A A2 n c m2 c2 pl x _ (HPP.out.below hbw hszw) (Hin.out.below hbw hszw) hn hw (by omega)).mono ?_; rintro e W2 ⟨v2, rfl, ho2, hb2⟩; obtain ⟨A3, c3, hv3, hs3⟩ := sl_of_owns ho2; subst hv3; have Hs3 := hid (show InS W2 W2.heap.size A3 n (resL pl x) from hs3); have hbw2 := hbw.trans (hb2.mono hszw); have hszw2 := hbw2.size; have q1 := ((bcell hbw2).1 g k hg2).trans Hcell.out; have lg2 : g < W2.heap.size := (by omega); clear ho2 hs3 q0 lg) | (go_at_call 69; refine (same_any _ A3 B n c3 m d (resL pl x) r Hs3.out (HBB.out.below hbw2 hszw2) (by omega)).mono ?_; rw [Hbv.out]; rintro e W3 ⟨rfl, hb3⟩))
        have hbw3 := hbw2.trans (hb3.mono hszw2)
        refine ⟨⟨k + 1, by omega, by go_num, hbw3, hid ?_⟩, by simp [intOf]; omega⟩
        rw [hst.out]
        simp only [Bool.false_eq_true, if_false, List.append_nil]
        exact (hown.out.below hb2).below hb3
      · go_wp2_with (first | (go_at_call 42; refine (resultsOf_any A A2 n c m2 c2 pl x _ (HPP.out.below hbw hszw) (Hin.out.below hbw hszw) hn hw (by omega)).mono ?_; rintro e W2 ⟨v2, rfl, ho2, hb2⟩; obtain ⟨A3, c3, hv3, hs3⟩ := sl_of_owns ho2; subst hv3; have Hs3 := hid (show InS W2 W2.heap.size A3 n (resL pl x) from hs3); have hbw2 := hbw.trans (hb2.mono hszw); have hszw2 := hbw2.size; have q1 := ((bcell hbw2).1 g k hg2).trans Hcell.out; have lg2 : g < W2.heap.size := (by omega); clear ho2 hs3 q0 lg) | (go_at_call 69; refine (same_any _ A3 B n c3 m d (resL pl x) r Hs3.out (HBB.out.below hbw2 hszw2) (by omega)).mono ?_; rw [Hbv.out]; rintro e W3 ⟨rfl, hb3⟩; have hbw3 := hbw2.trans (hb3.mono hszw2); have hszw3 := hbw3.size; have q2 := ((bcell hbw3).1 g k hg2).trans Hcell.out; have lg3 : g < W3.heap.size := (by omega); have hown3 := hid ((hown.out.below hb2).below hb3); clear q1 lg2) | (at_builtin; refine newLi_append rfl (by rfl) _ _ rfl W0.heap.size _ _ rfl (hown3.out.below ((Below.refl _ _).alloc (Nat.le_refl _) (.cells #[.slice A2 m2 c2] 25))) W3.heap.size A2 m2 c2 x rfl (Blk.new' rfl) ((Hin.out.below hbw3 hszw3).alloc' _) (fun b off e => ⟨(by have := Hbd.out b off e; simp; omega), fun e' => (by have := (hown3.out.own_lt b e').1; have := Hbd.out b off e; omega)⟩) (by have := hfl.out; omega) (by simp; omega) ?_; intro v4 w4 hn4 hg4 hat4; have hb4 : Below W0.heap.size W0 w4 := (hbw3.alloc hszw3 _).grown hg4 (by simp; omega) (fun r hr => (hown3.out.own_lt r hr).1)))
        have hn5 := hid (show NewLi w4 W0.heap.size v4 ((CL.take (k + 1)).filter fun c => eqI (resL pl c) r) by rw [hst.out]; simp only [if_true]; exact hn4)
        (first | exact ⟨⟨k + 1, by omega, by go_num, hb4, hn5⟩, (by first | (simp [intOf]; omega) | (simp [intOf]; done))⟩ | (refine ⟨?_, ?_⟩; (focus ((repeat apply Exists.intro); refine ⟨?_, rfl⟩; exact ⟨k + 1, by omega, by go_num, hb4, hn5⟩)); (first | (simp [intOf]; omega) | (simp [intOf]; done))))
    · obtain rfl : k = CL.length := by omega
      have hf : Hid (toldL P M pl r = (CL.take CL.length).filter fun c => eqI (resL pl c) r) := hid (by rw [List.take_length, ← HCL.out]; rfl)
      go_wp2
      refine bodyPost_ret (v := u8) (by first | (simp [results, Try.results38, go_sem]; done) | (simp [results, Try.results38, go_sem, *]; done) | (simp [results, Try.results38, go_sem, World.cell?_setCell_same', *]; done) | (simp [results, Try.results38, go_sem]; first | exact ⟨rfl, rfl⟩ | rfl)) rfl ⟨u8, rfl, NewLi.mono (base := W0.heap.size) (by rw [hf.out]; exact hown.out) hsz, hbel.trans (hbw.mono hsz)⟩
end Go.Proofs.Ytpgdfipikfbjeaa
/- Walks: the reference's Told, bounds, lists by bits. -/
namespace Go.Proofs.Ytpgdfipikfbjeaa
open Go.RowKit
attribute [local go_sem] Oper.semAt_some
def toldE (P M : Int) (pl : List (List Int)) (r : List Int) : Int := if errR P M pl r ≠ 0 then errR P M pl r else if (toldL P.toNat M.toNat pl r).length = 0 then 23 else 0
def toldV (P M : Int) (pl : List (List Int)) (r : List Int) : List (List Int) := if toldE P M pl r = 0 then toldL P.toNat M.toNat pl r else []
set_option maxRecDepth 10000 in
set_option maxHeartbeats 1600000 in
theorem refTold_any (A B : Option Addr) (n c m d : Nat) (pl : List (List Int)) (r : List Int) (P M : Int) (w : World) (hp : LiS w w.heap.size A n pl) (hb : InS w w.heap.size B m r) (hn : n ≤ 12) (hw : ∀ l ∈ pl, l.length ≤ 12) :
    Calls Try.prog 21 #[.agg #[.int .i64 P, .int .i64 M], .slice A n c, .slice B m d] w fun e w' => ∃ v, e = .returned (.tuple #[v, .int .i64 (toldE P M pl r)]) ∧ NewLi w' w.heap.size v (toldV P M pl r) ∧ Below w.heap.size w w' := by
  obtain ⟨W0, hWb⟩ : ∃ W0, w.alloc (.cells #[.int .i64 P, .int .i64 M] 23) = W0 := ⟨_, rfl⟩
  have bB : Blk W0 w.heap.size 23 #[.int .i64 P, .int .i64 M] := by rw [← hWb]; exact Blk.new' rfl
  have hbel : Below w.heap.size w W0 := by rw [← hWb]; exact (Below.refl _ _).alloc (Nat.le_refl _) _
  have hsz := hbel.size
  have lB := bB.lt
  have p0 := bB.cell 0
  have p1 := bB.cell 1
  have HP := hid (hp.below hbel hsz)
  clear hp
  have HB := hid (hb.below hbel hsz)
  clear hb
  cases hc : (errR P M pl r != 0)
  · have hc0 : errR P M pl r = 0 := by simpa using hc
    obtain ⟨g1, g2, g3⟩ := plan_good (errR_zero hc0).1
    obtain ⟨g4, g5, g6, g7⟩ := book_good g1
    have Hc := hid hc0
    have hE : Hid (toldE P M pl r = if (toldL P.toNat M.toNat pl r).length = 0 then 23 else 0) := hid (if_neg (by omega))
    have hV : Hid (toldV P M pl r = if toldE P M pl r = 0 then toldL P.toNat M.toNat pl r else []) := rfl
    obtain ⟨Pn, rfl⟩ : ∃ Pn : Nat, P = Pn := ⟨P.toNat, by omega⟩
    obtain ⟨Mn, rfl⟩ : ∃ Mn : Nat, M = Mn := ⟨M.toNat, by omega⟩
    rw [Int.toNat_natCast, Int.toNat_natCast] at hE hV
    obtain ⟨TL, hTL⟩ : ∃ TL, toldL Pn Mn pl r = TL := ⟨_, rfl⟩
    rw [hTL] at hE hV
    have HTL := hid hTL
    clear hc hc0 hTL
    by_cases h0 : TL.length = 0
    · have hE2 := hid (hE.out.trans (if_pos h0))
      have hV2 := hid (hV.out.trans (if_neg (by rw [hE2.out]; decide)))
      have d1 : TL = [] := List.eq_nil_of_length_eq_zero h0
      have d0 : ((TL.length : Int) == 0) = true := by rw [h0]; rfl
      go_enter Try.func21, Try.ntmps21
      go_wp2_with (fail)
      refine (resErr_any A B n c m d pl r _ _ _ (HP.out.below (by repeat' (first | with_reducible assumption | with_reducible exact Below.refl _ _ | refine Below.alloc ?_ ?_ _ | refine Below.setCell ?_ ?_ _ | refine Below.drew ?_ | refine below_drewN ?_ _ | (simp; done) | (simp; omega) | omega)) (by first | (simp; done) | (simp; omega) | omega)) (HB.out.below (by repeat' (first | with_reducible assumption | with_reducible exact Below.refl _ _ | refine Below.alloc ?_ ?_ _ | refine Below.setCell ?_ ?_ _ | refine Below.drew ?_ | refine below_drewN ?_ _ | (simp; done) | (simp; omega) | omega)) (by first | (simp; done) | (simp; omega) | omega)) hn hw).mono ?_
      rw [Hc.out]
      rintro e W1 ⟨rfl, hb⟩
      have hst : Below W0.heap.size W0 W1 := Below.trans (by repeat' (first | with_reducible assumption | with_reducible exact Below.refl _ _ | refine Below.alloc ?_ ?_ _ | refine Below.setCell ?_ ?_ _ | refine Below.drew ?_ | refine below_drewN ?_ _ | (simp; done) | (simp; omega) | omega)) (hb.mono (by first | (simp; done) | (simp; omega) | omega))
      replace hbel := hbel.trans (hst.mono hsz)
      replace hsz := hbel.size
      replace bB := bB.below hst bB.lt
      clear p0 p1 lB
      have p0 := bB.cell 0
      have p1 := bB.cell 1
      have lB := bB.lt
      try clear hWb
      replace HP := hid (HP.out.below hst hst.size)
      replace HB := hid (HB.out.below hst hst.size)
      clear hb hst
      obtain ⟨W0, rfl⟩ : ∃ W0 : World, W0 = W1 := ⟨_, rfl⟩
      go_wp2_with (fail)
      refine (toldOf_any A B n c m d pl r Pn Mn _ (by omega) (by omega) (HP.out.below (by repeat' (first | with_reducible assumption | with_reducible exact Below.refl _ _ | refine Below.alloc ?_ ?_ _ | refine Below.setCell ?_ ?_ _ | refine Below.drew ?_ | refine below_drewN ?_ _ | (simp; done) | (simp; omega) | omega)) (by first | (simp; done) | (simp; omega) | omega)) (HB.out.below (by repeat' (first | with_reducible assumption | with_reducible exact Below.refl _ _ | refine Below.alloc ?_ ?_ _ | refine Below.setCell ?_ ?_ _ | refine Below.drew ?_ | refine below_drewN ?_ _ | (simp; done) | (simp; omega) | omega)) (by first | (simp; done) | (simp; omega) | omega)) hn hw).mono ?_
      rw [HTL.out]
      rintro e W1 ⟨v1, rfl, hn1, hb⟩
      have hnn := hid (NewLi.mono hn1 hsz)
      clear hn1
      obtain ⟨A1, c1, hv1, -, -⟩ := hnn.out.lis
      subst hv1
      have hst : Below W0.heap.size W0 W1 := Below.trans (by repeat' (first | with_reducible assumption | with_reducible exact Below.refl _ _ | refine Below.alloc ?_ ?_ _ | refine Below.setCell ?_ ?_ _ | refine Below.drew ?_ | refine below_drewN ?_ _ | (simp; done) | (simp; omega) | omega)) (hb.mono (by first | (simp; done) | (simp; omega) | omega))
      replace hbel := hbel.trans (hst.mono hsz)
      replace hsz := hbel.size
      replace bB := bB.below hst bB.lt
      clear p0 p1 lB
      have p0 := bB.cell 0
      have p1 := bB.cell 1
      have lB := bB.lt
      try clear hWb
      replace HP := hid (HP.out.below hst hst.size)
      replace HB := hid (HB.out.below hst hst.size)
      clear hb hst
      obtain ⟨W0, rfl⟩ : ∃ W0 : World, W0 = W1 := ⟨_, rfl⟩
      go_wp2
      refine bodyPost_ret (v := .tuple #[.slice none 0 0, .int .i64 23]) (by first | (simp [results, Try.results21, go_sem]; done) | (simp [results, Try.results21, go_sem, *]; done) | (simp [results, Try.results21, go_sem, World.cell?_setCell_same', *]; done) | (simp [results, Try.results21, go_sem]; first | exact ⟨rfl, rfl⟩ | rfl)) rfl ⟨.slice none 0 0, by rw [hE2.out], by rw [hV2.out]; exact NewLi.nil _ _, hbel⟩
    · have hE2 := hid (hE.out.trans (if_neg h0))
      have hV2 := hid (hV.out.trans (if_pos hE2.out))
      have d0 : ((TL.length : Int) == 0) = false := by simp; intro e; rw [e] at h0; exact h0 rfl
      have d1 : ¬ TL = [] := by intro e; rw [e] at h0; exact h0 rfl
      go_enter Try.func21, Try.ntmps21
      go_wp2_with (fail)
      refine (resErr_any A B n c m d pl r _ _ _ (HP.out.below (by repeat' (first | with_reducible assumption | with_reducible exact Below.refl _ _ | refine Below.alloc ?_ ?_ _ | refine Below.setCell ?_ ?_ _ | refine Below.drew ?_ | refine below_drewN ?_ _ | (simp; done) | (simp; omega) | omega)) (by first | (simp; done) | (simp; omega) | omega)) (HB.out.below (by repeat' (first | with_reducible assumption | with_reducible exact Below.refl _ _ | refine Below.alloc ?_ ?_ _ | refine Below.setCell ?_ ?_ _ | refine Below.drew ?_ | refine below_drewN ?_ _ | (simp; done) | (simp; omega) | omega)) (by first | (simp; done) | (simp; omega) | omega)) hn hw).mono ?_
      rw [Hc.out]
      rintro e W1 ⟨rfl, hb⟩
      have hst : Below W0.heap.size W0 W1 := Below.trans (by repeat' (first | with_reducible assumption | with_reducible exact Below.refl _ _ | refine Below.alloc ?_ ?_ _ | refine Below.setCell ?_ ?_ _ | refine Below.drew ?_ | refine below_drewN ?_ _ | (simp; done) | (simp; omega) | omega)) (hb.mono (by first | (simp; done) | (simp; omega) | omega))
      replace hbel := hbel.trans (hst.mono hsz)
      replace hsz := hbel.size
      replace bB := bB.below hst bB.lt
      clear p0 p1 lB
      have p0 := bB.cell 0
      have p1 := bB.cell 1
      have lB := bB.lt
      try clear hWb
      replace HP := hid (HP.out.below hst hst.size)
      replace HB := hid (HB.out.below hst hst.size)
      clear hb hst
      obtain ⟨W0, rfl⟩ : ∃ W0 : World, W0 = W1 := ⟨_, rfl⟩
      go_wp2_with (fail)
      refine (toldOf_any A B n c m d pl r Pn Mn _ (by omega) (by omega) (HP.out.below (by repeat' (first | with_reducible assumption | with_reducible exact Below.refl _ _ | refine Below.alloc ?_ ?_ _ | refine Below.setCell ?_ ?_ _ | refine Below.drew ?_ | refine below_drewN ?_ _ | (simp; done) | (simp; omega) | omega)) (by first | (simp; done) | (simp; omega) | omega)) (HB.out.below (by repeat' (first | with_reducible assumption | with_reducible exact Below.refl _ _ | refine Below.alloc ?_ ?_ _ | refine Below.setCell ?_ ?_ _ | refine Below.drew ?_ | refine below_drewN ?_ _ | (simp; done) | (simp; omega) | omega)) (by first | (simp; done) | (simp; omega) | omega)) hn hw).mono ?_
      rw [HTL.out]
      rintro e W1 ⟨v1, rfl, hn1, hb⟩
      have hnn := hid (NewLi.mono hn1 hsz)
      clear hn1
      obtain ⟨A1, c1, hv1, -, -⟩ := hnn.out.lis
      subst hv1
      have hst : Below W0.heap.size W0 W1 := Below.trans (by repeat' (first | with_reducible assumption | with_reducible exact Below.refl _ _ | refine Below.alloc ?_ ?_ _ | refine Below.setCell ?_ ?_ _ | refine Below.drew ?_ | refine below_drewN ?_ _ | (simp; done) | (simp; omega) | omega)) (hb.mono (by first | (simp; done) | (simp; omega) | omega))
      replace hbel := hbel.trans (hst.mono hsz)
      replace hsz := hbel.size
      replace bB := bB.below hst bB.lt
      clear p0 p1 lB
      have p0 := bB.cell 0
      have p1 := bB.cell 1
      have lB := bB.lt
      try clear hWb
      replace HP := hid (HP.out.below hst hst.size)
      replace HB := hid (HB.out.below hst hst.size)
      clear hb hst
      obtain ⟨W0, rfl⟩ : ∃ W0 : World, W0 = W1 := ⟨_, rfl⟩
      go_wp2
      refine bodyPost_ret (v := .tuple #[.slice A1 TL.length c1, .int .i64 0]) (by first | (simp [results, Try.results21, go_sem]; done) | (simp [results, Try.results21, go_sem, *]; done) | (simp [results, Try.results21, go_sem, World.cell?_setCell_same', *]; done) | (simp [results, Try.results21, go_sem]; first | exact ⟨rfl, rfl⟩ | rfl)) rfl ⟨.slice A1 TL.length c1, by rw [hE2.out], by rw [hV2.out]; exact hnn.out, hbel⟩
  · have hc0 : errR P M pl r ≠ 0 := by simpa using hc
    have hE : Hid (toldE P M pl r = errR P M pl r) := hid (if_pos hc0)
    have hV : Hid (toldV P M pl r = []) := hid (if_neg (by rw [hE.out]; exact hc0))
    have Hc := hid hc
    have hcc := hc
    clear hc0 hc
    go_enter Try.func21, Try.ntmps21
    go_wp2_with (fail)
    refine (resErr_any A B n c m d pl r _ _ _ (HP.out.below (by repeat' (first | with_reducible assumption | with_reducible exact Below.refl _ _ | refine Below.alloc ?_ ?_ _ | refine Below.setCell ?_ ?_ _ | refine Below.drew ?_ | refine below_drewN ?_ _ | (simp; done) | (simp; omega) | omega)) (by first | (simp; done) | (simp; omega) | omega)) (HB.out.below (by repeat' (first | with_reducible assumption | with_reducible exact Below.refl _ _ | refine Below.alloc ?_ ?_ _ | refine Below.setCell ?_ ?_ _ | refine Below.drew ?_ | refine below_drewN ?_ _ | (simp; done) | (simp; omega) | omega)) (by first | (simp; done) | (simp; omega) | omega)) hn hw).mono ?_
    rintro e W1 ⟨rfl, hb⟩
    have hst : Below W0.heap.size W0 W1 := Below.trans (by repeat' (first | with_reducible assumption | with_reducible exact Below.refl _ _ | refine Below.alloc ?_ ?_ _ | refine Below.setCell ?_ ?_ _ | refine Below.drew ?_ | refine below_drewN ?_ _ | (simp; done) | (simp; omega) | omega)) (hb.mono (by first | (simp; done) | (simp; omega) | omega))
    replace hbel := hbel.trans (hst.mono hsz)
    replace hsz := hbel.size
    replace bB := bB.below hst bB.lt
    clear p0 p1 lB
    have p0 := bB.cell 0
    have p1 := bB.cell 1
    have lB := bB.lt
    try clear hWb
    replace HP := hid (HP.out.below hst hst.size)
    replace HB := hid (HB.out.below hst hst.size)
    clear hb hst
    obtain ⟨W0, rfl⟩ : ∃ W0 : World, W0 = W1 := ⟨_, rfl⟩
    go_wp2_with (fail)
    refine (resErr_any A B n c m d pl r _ _ _ (HP.out.below (by repeat' (first | with_reducible assumption | with_reducible exact Below.refl _ _ | refine Below.alloc ?_ ?_ _ | refine Below.setCell ?_ ?_ _ | refine Below.drew ?_ | refine below_drewN ?_ _ | (simp; done) | (simp; omega) | omega)) (by first | (simp; done) | (simp; omega) | omega)) (HB.out.below (by repeat' (first | with_reducible assumption | with_reducible exact Below.refl _ _ | refine Below.alloc ?_ ?_ _ | refine Below.setCell ?_ ?_ _ | refine Below.drew ?_ | refine below_drewN ?_ _ | (simp; done) | (simp; omega) | omega)) (by first | (simp; done) | (simp; omega) | omega)) hn hw).mono ?_
    rintro e W1 ⟨rfl, hb⟩
    have hst : Below W0.heap.size W0 W1 := Below.trans (by repeat' (first | with_reducible assumption | with_reducible exact Below.refl _ _ | refine Below.alloc ?_ ?_ _ | refine Below.setCell ?_ ?_ _ | refine Below.drew ?_ | refine below_drewN ?_ _ | (simp; done) | (simp; omega) | omega)) (hb.mono (by first | (simp; done) | (simp; omega) | omega))
    replace hbel := hbel.trans (hst.mono hsz)
    replace hsz := hbel.size
    replace bB := bB.below hst bB.lt
    clear p0 p1 lB
    have p0 := bB.cell 0
    have p1 := bB.cell 1
    have lB := bB.lt
    try clear hWb
    replace HP := hid (HP.out.below hst hst.size)
    replace HB := hid (HB.out.below hst hst.size)
    clear hb hst
    obtain ⟨W0, rfl⟩ : ∃ W0 : World, W0 = W1 := ⟨_, rfl⟩
    go_wp2
    refine bodyPost_ret (v := .tuple #[.slice none 0 0, .int .i64 (errR P M pl r)]) (by first | (simp [results, Try.results21, go_sem]; done) | (simp [results, Try.results21, go_sem, *]; done) | (simp [results, Try.results21, go_sem, World.cell?_setCell_same', *]; done) | (simp [results, Try.results21, go_sem]; first | exact ⟨rfl, rfl⟩ | rfl)) rfl ⟨.slice none 0 0, by rw [hE.out], by rw [hV.out]; exact NewLi.nil _ _, hbel⟩
/-- The least power of two that is as great. -/
def boundC (c : Nat) : Nat := ((List.range 7).find? fun w => decide (c ≤ 2 ^ w)).getD 7
theorem boundC_at {c k : Nat} (hk : k < 7) (h : c ≤ 2 ^ k) (hb : ∀ j, j < k → ¬ c ≤ 2 ^ j) : boundC c = k := by
  unfold boundC
  have : (List.range 7).find? (fun w => decide (c ≤ 2 ^ w)) = some k := by
    rw [List.find?_range_eq_some]
    exact ⟨decide_eq_true h, List.mem_range.2 hk, fun j hj => by simp [hb j hj]⟩
  rw [this]; rfl
set_option maxHeartbeats 800000 in
theorem boundOf_any (c : Nat) (w : World) (hc : c ≤ 64) : Calls Try.prog 89 #[.int .i64 (c : Int)] w fun e w' => e = .returned (.int .i64 (boundC c : Nat)) ∧ w = w' := by
  go_enter Try.func89, Try.ntmps89
  go_wp2
  go_loopw [3] (fun i wr => ∃ k : Nat, k < 7 ∧ i = .int .i64 k ∧ Hid (∀ j, j < k → ¬ c ≤ 2 ^ j) ∧ w = wr) (fun i _ => 7 - (intOf i).toNat)
  case atStart => exact ⟨0, by omega, rfl, hid (fun j hj => by omega), rfl⟩
  case round =>
    obtain ⟨k, hk, rfl, hbf, rfl⟩ := hrel
    have hp1 : 2 ^ k ≤ 2 ^ 6 := Nat.pow_le_pow_right (by omega) (by omega)
    have hp0 : 1 ≤ 2 ^ k := Nat.pow_pos (by omega)
    obtain ⟨q, hq⟩ : ∃ q : Nat, 2 ^ k = q := ⟨_, rfl⟩
    have hqi : (2 : Int) ^ k = q := by rw [← hq]; simp
    rw [hq] at hp0 hp1
    have z1 : IntKind.i64.wrap ((2 : Int) ^ k) = q := by rw [hqi]; exact IntWalk.i64_in _ (by omega)
    have hk6 : k < 6 ∨ c ≤ q := by
      rcases Nat.lt_or_ge k 6 with h | h
      · exact .inl h
      · obtain rfl : k = 6 := by omega
        right; rw [← hq]; exact hc
    have Hq := hid hq
    clear hq hqi
    by_cases hlt : q < c
    · have hlti : (q : Int) < c := by omega
      go_wp2
      refine ⟨⟨k + 1, by omega, by go_num, hid (fun j hj => ?_), trivial⟩, by simp [intOf]; omega⟩
      rcases Nat.lt_or_ge j k with h | h
      · exact hbf.out j h
      · obtain rfl : j = k := by omega
        rw [Hq.out]; omega
    · have hlti : ¬ (q : Int) < c := by omega
      have hf : Hid (boundC c = k) := hid (boundC_at (by omega) (by rw [Hq.out]; omega) hbf.out)
      go_wp2
      refine bodyPost_ret (v := .int .i64 k) (by first | (simp [results, Try.results89, go_sem]; done) | (simp [results, Try.results89, go_sem, *]; done) | (simp [results, Try.results89, go_sem, World.cell?_setCell_same', *]; done) | (simp [results, Try.results89, go_sem]; first | exact ⟨rfl, rfl⟩ | rfl)) rfl ⟨by rw [hf.out], rfl⟩
def boundV (P M : Int) : Int := if checkBook P M = 0 then ((boundC (casesL P.toNat M.toNat).length : Nat) : Int) else 0
set_option maxHeartbeats 800000 in
theorem refBound_any (P M : Int) (w : World) : Calls Try.prog 55 #[.agg #[.int .i64 P, .int .i64 M]] w fun e w' => e = .returned (.tuple #[.int .i64 (boundV P M), .int .i64 (checkBook P M)]) ∧ Below w.heap.size w w' := by
  obtain ⟨W0, hWb⟩ : ∃ W0, w.alloc (.cells #[.int .i64 P, .int .i64 M] 23) = W0 := ⟨_, rfl⟩
  have bB : Blk W0 w.heap.size 23 #[.int .i64 P, .int .i64 M] := by rw [← hWb]; exact Blk.new' rfl
  have hbel : Below w.heap.size w W0 := by rw [← hWb]; exact (Below.refl _ _).alloc (Nat.le_refl _) _
  have hsz := hbel.size
  have lB := bB.lt
  have p0 := bB.cell 0
  have p1 := bB.cell 1
  cases hc : (checkBook P M != 0)
  · have hc0 : checkBook P M = 0 := by simpa using hc
    obtain ⟨g1, g2, g3, g4⟩ := book_good hc0
    have Hc := hid hc0
    have hv : Hid (boundV P M = ((boundC (casesL P.toNat M.toNat).length : Nat) : Int)) := hid (if_pos hc0)
    obtain ⟨Pn, rfl⟩ : ∃ Pn : Nat, P = Pn := ⟨P.toNat, by omega⟩
    obtain ⟨Mn, rfl⟩ : ∃ Mn : Nat, M = Mn := ⟨M.toNat, by omega⟩
    rw [Int.toNat_natCast, Int.toNat_natCast] at hv
    obtain ⟨CL, hCL⟩ : ∃ CL, casesL Pn Mn = CL := ⟨_, rfl⟩
    have hcl := cases_len (P := Pn) (M := Mn) (by omega)
    rw [hCL] at hcl hv
    have HCL := hid hCL
    clear hc hc0 hCL
    go_enter Try.func55, Try.ntmps55
    go_wp2_with (fail)
    refine (refCheckBook_any _ _ _).mono ?_
    rw [Hc.out]
    rintro e W1 ⟨rfl, hb⟩
    have hst : Below W0.heap.size W0 W1 := Below.trans (by repeat' (first | with_reducible assumption | with_reducible exact Below.refl _ _ | refine Below.alloc ?_ ?_ _ | refine Below.setCell ?_ ?_ _ | refine Below.drew ?_ | refine below_drewN ?_ _ | (simp; done) | (simp; omega) | omega)) (hb.mono (by first | (simp; done) | (simp; omega) | omega))
    replace hbel := hbel.trans (hst.mono hsz)
    replace hsz := hbel.size
    replace bB := bB.below hst bB.lt
    clear p0 p1 lB
    have p0 := bB.cell 0
    have p1 := bB.cell 1
    have lB := bB.lt
    try clear hWb
    clear hb hst
    obtain ⟨W0, rfl⟩ : ∃ W0 : World, W0 = W1 := ⟨_, rfl⟩
    go_wp2_with (fail)
    refine (casesOf_any Pn Mn _ (by omega) (by omega)).mono ?_
    rw [HCL.out]
    rintro e W1 ⟨v1, rfl, hn1, hb⟩
    obtain ⟨A1, c1, hv1, -, -⟩ := hn1.lis
    subst hv1
    clear hn1
    have hst : Below W0.heap.size W0 W1 := Below.trans (by repeat' (first | with_reducible assumption | with_reducible exact Below.refl _ _ | refine Below.alloc ?_ ?_ _ | refine Below.setCell ?_ ?_ _ | refine Below.drew ?_ | refine below_drewN ?_ _ | (simp; done) | (simp; omega) | omega)) (hb.mono (by first | (simp; done) | (simp; omega) | omega))
    replace hbel := hbel.trans (hst.mono hsz)
    replace hsz := hbel.size
    replace bB := bB.below hst bB.lt
    clear p0 p1 lB
    have p0 := bB.cell 0
    have p1 := bB.cell 1
    have lB := bB.lt
    try clear hWb
    clear hb hst
    obtain ⟨W0, rfl⟩ : ∃ W0 : World, W0 = W1 := ⟨_, rfl⟩
    go_wp2_with (fail)
    refine (boundOf_any CL.length _ (by omega)).mono ?_
    rintro e W1 ⟨rfl, rfl⟩
    go_wp2
    refine bodyPost_ret (v := .tuple #[.int .i64 (boundC CL.length : Nat), .int .i64 0]) (by first | (simp [results, Try.results55, go_sem]; done) | (simp [results, Try.results55, go_sem, *]; done) | (simp [results, Try.results55, go_sem, World.cell?_setCell_same', *]; done) | (simp [results, Try.results55, go_sem]; first | exact ⟨rfl, rfl⟩ | rfl)) rfl ⟨by rw [hv.out, Hc.out], hbel⟩
  · have hc0 : checkBook P M ≠ 0 := by simpa using hc
    have Hc := hid hc
    have hv : Hid (boundV P M = 0) := hid (if_neg hc0)
    have hcc := hc
    clear hc hc0
    go_enter Try.func55, Try.ntmps55
    go_wp2_with (fail)
    refine (refCheckBook_any _ _ _).mono ?_
    rintro e W1 ⟨rfl, hb⟩
    have hst : Below W0.heap.size W0 W1 := Below.trans (by repeat' (first | with_reducible assumption | with_reducible exact Below.refl _ _ | refine Below.alloc ?_ ?_ _ | refine Below.setCell ?_ ?_ _ | refine Below.drew ?_ | refine below_drewN ?_ _ | (simp; done) | (simp; omega) | omega)) (hb.mono (by first | (simp; done) | (simp; omega) | omega))
    replace hbel := hbel.trans (hst.mono hsz)
    replace hsz := hbel.size
    replace bB := bB.below hst bB.lt
    clear p0 p1 lB
    have p0 := bB.cell 0
    have p1 := bB.cell 1
    have lB := bB.lt
    try clear hWb
    clear hb hst
    obtain ⟨W0, rfl⟩ : ∃ W0 : World, W0 = W1 := ⟨_, rfl⟩
    go_wp2_with (fail)
    refine (refCheckBook_any _ _ _).mono ?_
    rintro e W1 ⟨rfl, hb⟩
    have hst : Below W0.heap.size W0 W1 := Below.trans (by repeat' (first | with_reducible assumption | with_reducible exact Below.refl _ _ | refine Below.alloc ?_ ?_ _ | refine Below.setCell ?_ ?_ _ | refine Below.drew ?_ | refine below_drewN ?_ _ | (simp; done) | (simp; omega) | omega)) (hb.mono (by first | (simp; done) | (simp; omega) | omega))
    replace hbel := hbel.trans (hst.mono hsz)
    replace hsz := hbel.size
    replace bB := bB.below hst bB.lt
    clear p0 p1 lB
    have p0 := bB.cell 0
    have p1 := bB.cell 1
    have lB := bB.lt
    try clear hWb
    clear hb hst
    obtain ⟨W0, rfl⟩ : ∃ W0 : World, W0 = W1 := ⟨_, rfl⟩
    go_wp2
    refine bodyPost_ret (v := .tuple #[.int .i64 0, .int .i64 (checkBook P M)]) (by first | (simp [results, Try.results55, go_sem]; done) | (simp [results, Try.results55, go_sem, *]; done) | (simp [results, Try.results55, go_sem, World.cell?_setCell_same', *]; done) | (simp [results, Try.results55, go_sem]; first | exact ⟨rfl, rfl⟩ | rfl)) rfl ⟨by rw [hv.out], hbel⟩
end Go.Proofs.Ytpgdfipikfbjeaa
/- Rows that are copied into, or cleared. Over any program. -/
namespace Go.Proofs.Ytpgdfipikfbjeaa
open Go.RowKit
/-- copy into a row, elements of any size. -/
theorem run_copy_sz {P : Program} (w : World) (dT sT ty elem : TypeId) (s : Nat) (g o dLen dCap : Nat) (a : Addr) (sLen sCap : Nat) (cur : Array Value) (t : TypeId) (cs : List Value)
    (hu : P.underlying dT = some (.slice elem)) (hs : (P.info? elem).map (·.size) = some s)
    (hg : w.heap[g]? = some (.cells cur t (0, 0))) (hn : cs.length = Nat.min sLen dLen * s)
    (hsrc : ∀ j v, cs[j]? = some v → w.cell? (a.add j) = some v) (hfit : o + cs.length ≤ cur.size) (h1 : ∀ v ∈ cs, v.oneCell' = true) :
    (Builtin.copy_ #[dT, sT] ty #[.slice (some ⟨g, o, none⟩) dLen dCap, .slice (some a) sLen sCap]).run P w =
      .ok (goInt (Nat.min sLen dLen)) (w.setRow g (cur.toList.take o ++ cs ++ cur.toList.drop (o + cs.length)).toArray) := by
  have hl := run_loadCells_list (P := P) w a cs hsrc
  have hst := run_storeCells_at P g o t cs 0 cur w hg (by simpa using hfit) h1
  cases hq : P.info? elem with
  | none => simp [hq] at hs
  | some i =>
    have hi : i.size = s := by simpa [hq] using hs
    simp [Builtin.copy_, run_underlying hu, Builtin.lenOf, Builtin.firstCells, sizeOf, typeInfo, hq, hi, ← hn, hl, hst]
theorem run_clear_sz {P : Program} (w : World) (dT ty elem : TypeId) (z : Value) (g o n c : Nat) (cur : Array Value) (t : TypeId)
    (hu : P.underlying dT = some (.slice elem)) (hz : (zeroValue elem).run P w = .ok z w) (hn : 0 < n)
    (hg : w.heap[g]? = some (.cells cur t (0, 0))) (cs : List Value) (hcs : (Builtin.zeroCells z.cells n).toList = cs) (hfit : o + cs.length ≤ cur.size) (h1 : ∀ v ∈ cs, v.oneCell' = true) :
    (Builtin.clear_ #[dT] ty #[.slice (some ⟨g, o, none⟩) n c]).run P w = .ok (.tuple #[]) (w.setRow g (cur.toList.take o ++ cs ++ cur.toList.drop (o + cs.length)).toArray) := by
  have hst := run_storeCells_at P g o t cs 0 cur w hg (by simpa using hfit) h1
  obtain ⟨m, rfl⟩ : ∃ m, n = m + 1 := ⟨n - 1, by omega⟩
  simp [Builtin.clear_, run_underlying hu, hz, hcs, hst]
theorem Blk.row {w : World} {g : Nat} {t : TypeId} {cs : Array Value} (h : Blk w g t cs) (cs' : Array Value) : Blk (w.setRow g cs') g t cs' := setRow_heap w g cs cs' t (0, 0) h
theorem below_setRow {B g : Nat} {a w : World} (h : Below B a w) (hg : B ≤ g) (cs : Array Value) : Below B a (w.setRow g cs) :=
  ⟨h.os, h.tape, h.output, by rw [setRow_size]; exact h.size, fun k hk => (setRow_other w g k cs (by omega)).trans (h.block k hk)⟩

theorem clear_self {w : World} {g : Nat} {t : TypeId} {cs : Array Value} (h : Blk w g t cs) : w.setRow g cs = w := setRow_self _ _ _ _ _ h
end Go.Proofs.Ytpgdfipikfbjeaa
/- Walks: the marks of a list. -/
namespace Go.Proofs.Ytpgdfipikfbjeaa
open Go.RowKit
attribute [local go_sem] Oper.semAt_some
/-- The marks of plates, as cells. -/
def mk1 (l : List Int) (i : Nat) : Value := .int .i64 (if has l (i : Int) then 1 else 0)
@[go_sem] theorem run_store_mk1 (P : Program) (a : Addr) (l : List Int) (i : Nat) (m : Mode) (w : World) : (store a (mk1 l i) m).run P w = stored P w a (mk1 l i) m := run_store P w a _ m rfl
def mkA (l : List Int) : Array Value := #[mk1 l 0, mk1 l 1, mk1 l 2, mk1 l 3, mk1 l 4, mk1 l 5, mk1 l 6, mk1 l 7]
theorem has_take {l : List Int} {k : Nat} {x : Int} (h : l[k]? = some x) (v : Int) : has (l.take (k + 1)) v = (has (l.take k) v || x == v) := by
  unfold has
  rw [List.take_add_one, h, List.any_append]
  simp
theorem mkA_take {l : List Int} {k n : Nat} (h : l[k]? = some (n : Int)) (hn : n < 8) : (mkA (l.take k)).setIfInBounds n (.int .i64 1) = mkA (l.take (k + 1)) := by
  have e : ∀ i : Nat, mk1 (l.take (k + 1)) i = if i = n then .int .i64 1 else mk1 (l.take k) i := fun i => by
    unfold mk1
    rw [has_take h]
    by_cases hi : i = n
    · subst hi; simp
    · rw [if_neg hi]
      have : ((n : Int) == (i : Int)) = false := by simp; omega
      rw [this, Bool.or_false]
  have hc : n = 0 ∨ n = 1 ∨ n = 2 ∨ n = 3 ∨ n = 4 ∨ n = 5 ∨ n = 6 ∨ n = 7 := by omega
  unfold mkA
  simp only [e]
  rcases hc with rfl | rfl | rfl | rfl | rfl | rfl | rfl | rfl <;> rfl
theorem zero8a : (Builtin.zeroCells (#[.int .i64 0]) 8).toList = [.int .i64 0, .int .i64 0, .int .i64 0, .int .i64 0, .int .i64 0, .int .i64 0, .int .i64 0, .int .i64 0] := by kernel_rfl
theorem zero8 : (Builtin.zeroCells (#[.int .i64 0]) 8).toList = (mkA []).toList := zero8a.trans rfl
theorem mkA_size (l : List Int) : (mkA l).size = 8 := rfl
set_option maxRecDepth 10000 in
set_option maxHeartbeats 1600000 in
theorem marked_any (A : Option Addr) (n c : Nat) (l : List Int) (w : World) (hl : InS w w.heap.size A n l) (hn : n ≤ 1000000) (hb : ∀ x ∈ l, 0 ≤ x ∧ x < 8) :
    Calls Try.prog 74 #[.slice A n c] w fun e w' => e = .returned (.agg (mkA l)) ∧ Below w.heap.size w w' := by
  have hlen := hid hl.len
  have HL := hid hl
  have Hb := hid hb
  clear hl hb
  obtain ⟨W2, hW2⟩ : ∃ W2, (w.alloc (.cells #[.int .i64 0, .int .i64 0, .int .i64 0, .int .i64 0, .int .i64 0, .int .i64 0, .int .i64 0, .int .i64 0] 82)).alloc (.cells #[.int .i64 0, .int .i64 0, .int .i64 0, .int .i64 0, .int .i64 0, .int .i64 0, .int .i64 0, .int .i64 0] 82) = W2 := ⟨_, rfl⟩
  have b2 : Blk W2 w.heap.size 82 (mkA []) := by rw [← hW2]; exact (Blk.new' rfl).alloc _
  have b3 : Blk W2 (w.heap.size + 1) 82 (mkA []) := by rw [← hW2]; exact Blk.new' (by simp)
  have hb2 : Below w.heap.size w W2 := by rw [← hW2]; exact ((Below.refl _ _).alloc (Nat.le_refl _) _).alloc (by simp) _
  have hcl := run_clear_sz (P := Try.prog) W2 25 0 3 (.int .i64 0) (w.heap.size + 1) 0 8 8 (mkA []) 82 (by kernel_rfl) (by go_simp) (by omega) b3 (mkA []).toList zero8 (by simp [mkA]) (by
    intro u hu
    simp only [mkA, List.mem_cons, List.not_mem_nil, or_false] at hu
    rcases hu with rfl | rfl | rfl | rfl | rfl | rfl | rfl | rfl <;> rfl)
  rw [show ((mkA []).toList.take 0 ++ (mkA []).toList ++ (mkA []).toList.drop (0 + (mkA []).toList.length)).toArray = mkA [] from rfl, clear_self b3] at hcl
  have l2 := b2.lt
  have l3 := b3.lt
  go_enter Try.func74, Try.ntmps74
  go_wp2
  clear hcl hW2
  go_loopw [9] (fun i wr => ∃ k : Nat, k ≤ n ∧ i = .int .i64 k ∧ Blk wr (w.heap.size + 1) 82 (mkA (l.take k)) ∧ Blk wr w.heap.size 82 (mkA []) ∧ Below w.heap.size w wr) (fun i _ => n - (intOf i).toNat)
  case atStart => exact ⟨0, by omega, rfl, b3, b2, hb2⟩
  case round =>
    clear b2 b3 hb2 l2 l3
    obtain ⟨k, hk, rfl, b3, b2, hbw⟩ := hrel
    have hszw := hbw.size
    have l2 := b2.lt
    have l3 := b3.lt
    by_cases hlt : k < n
    · obtain ⟨b, off, x, rfl, hb1, hm, c0⟩ := (HL.out.below hbw (Nat.le_refl _)).at_ hlt
      obtain ⟨x0, x1⟩ := Hb.out x (List.mem_of_getElem? hm)
      obtain ⟨y, rfl⟩ : ∃ y : Nat, x = y := ⟨x.toNat, by omega⟩
      have hy8 : y < 8 := by omega
      have hy8i : (y : Int) < 8 := by omega
      have hst := hid (mkA_take hm hy8)
      have hlti : (k : Int) < n := by omega
      have c1 := b3.cell y
      have f1 := b3.frozen y
      rw [Array.getElem?_eq_getElem (by rw [mkA_size]; exact hy8)] at c1
      clear hm
      go_wp2
      refine ⟨⟨k + 1, by omega, by go_num, by rw [← hst.out]; exact b3.set_ y _, b2.far (by simp) _, hbw.setCell (by simp) _⟩, by simp [intOf]; omega⟩
    · obtain rfl : n = k := by omega
      have hf : Hid (l.take n = l) := hid (List.take_of_length_le (by rw [hlen.out]; exact Nat.le_refl _))
      rw [hf.out] at b3
      have c0 : wr.cell? ⟨w.heap.size + 1, 0, none⟩ = some (mk1 l 0) := b3.cell 0
      have c1 : wr.cell? ⟨w.heap.size + 1, 1, none⟩ = some (mk1 l 1) := b3.cell 1
      have c2 : wr.cell? ⟨w.heap.size + 1, 2, none⟩ = some (mk1 l 2) := b3.cell 2
      have c3 : wr.cell? ⟨w.heap.size + 1, 3, none⟩ = some (mk1 l 3) := b3.cell 3
      have c4 : wr.cell? ⟨w.heap.size + 1, 4, none⟩ = some (mk1 l 4) := b3.cell 4
      have c5 : wr.cell? ⟨w.heap.size + 1, 5, none⟩ = some (mk1 l 5) := b3.cell 5
      have c6 : wr.cell? ⟨w.heap.size + 1, 6, none⟩ = some (mk1 l 6) := b3.cell 6
      have c7 : wr.cell? ⟨w.heap.size + 1, 7, none⟩ = some (mk1 l 7) := b3.cell 7
      have d0 : wr.cell? ⟨w.heap.size, 0, none⟩ = some (mk1 [] 0) := b2.cell 0
      have f0 := b2.frozen 0
      have d1 : wr.cell? ⟨w.heap.size, 1, none⟩ = some (mk1 [] 1) := b2.cell 1
      have f1 := b2.frozen 1
      have d2 : wr.cell? ⟨w.heap.size, 2, none⟩ = some (mk1 [] 2) := b2.cell 2
      have f2 := b2.frozen 2
      have d3 : wr.cell? ⟨w.heap.size, 3, none⟩ = some (mk1 [] 3) := b2.cell 3
      have f3 := b2.frozen 3
      have d4 : wr.cell? ⟨w.heap.size, 4, none⟩ = some (mk1 [] 4) := b2.cell 4
      have f4 := b2.frozen 4
      have d5 : wr.cell? ⟨w.heap.size, 5, none⟩ = some (mk1 [] 5) := b2.cell 5
      have f5 := b2.frozen 5
      have d6 : wr.cell? ⟨w.heap.size, 6, none⟩ = some (mk1 [] 6) := b2.cell 6
      have f6 := b2.frozen 6
      have d7 : wr.cell? ⟨w.heap.size, 7, none⟩ = some (mk1 [] 7) := b2.cell 7
      have f7 := b2.frozen 7
      have g0 := hbw.setCell (p := (⟨w.heap.size, 0, none⟩ : Addr)) (by simp) (mk1 l 0)
      have g1 := g0.setCell (p := (⟨w.heap.size, 1, none⟩ : Addr)) (by simp) (mk1 l 1)
      have g2 := g1.setCell (p := (⟨w.heap.size, 2, none⟩ : Addr)) (by simp) (mk1 l 2)
      have g3 := g2.setCell (p := (⟨w.heap.size, 3, none⟩ : Addr)) (by simp) (mk1 l 3)
      have g4 := g3.setCell (p := (⟨w.heap.size, 4, none⟩ : Addr)) (by simp) (mk1 l 4)
      have g5 := g4.setCell (p := (⟨w.heap.size, 5, none⟩ : Addr)) (by simp) (mk1 l 5)
      have g6 := g5.setCell (p := (⟨w.heap.size, 6, none⟩ : Addr)) (by simp) (mk1 l 6)
      have g7 := g6.setCell (p := (⟨w.heap.size, 7, none⟩ : Addr)) (by simp) (mk1 l 7)
      clear b2 b3 g0 g1 g2 g3 g4 g5 g6
      go_wp2
      refine bodyPost_ret (v := .agg (mkA l)) (by simp [results, Try.results74, go_sem, World.cell?_setCell_same', d0, d1, d2, d3, d4, d5, d6, d7]; rfl) rfl ⟨rfl, g7⟩
end Go.Proofs.Ytpgdfipikfbjeaa
/- Walks: the reference's Covers. -/
namespace Go.Proofs.Ytpgdfipikfbjeaa
open Go.RowKit
attribute [local go_sem] Oper.semAt_some
/-- A row does not speak against a plate's being covered. -/
def cov1 (bad : List Int) (x : Int) (r : List Int) : Bool := !(has r x && !meet r bad)
def covers (pl : List (List Int)) (bad : List Int) (x : Int) : Bool := !has bad x && pl.all (cov1 bad x)
set_option maxRecDepth 10000 in
set_option maxHeartbeats 2000000 in
theorem covers_any (A B : Option Addr) (n c m d : Nat) (pl : List (List Int)) (bad : List Int) (x : Int) (w : World) (hp : LiS w w.heap.size A n pl) (hb : InS w w.heap.size B m bad) (hn : n ≤ 12) (hw : ∀ l ∈ pl, l.length ≤ 12) (hm : m ≤ 1000000) :
    Calls Try.prog 44 #[.slice A n c, .slice B m d, .int .i64 x] w fun e w' => e = .returned (.bool (covers pl bad x)) ∧ w = w' := by
  have HP := hid hp
  have HB := hid hb
  have HW := hid hw
  have hlen := hid hp.1
  clear hp hb hw
  go_enter Try.func44, Try.ntmps44
  cases hh : has bad x
  · have Hh := hid hh
    have hcv : Hid (covers pl bad x = pl.all (cov1 bad x)) := hid (by unfold covers; rw [hh]; rfl)
    clear hh
    go_wp2_with (go_at_call 43; refine (has_any B m d bad x w HB.out hm).mono ?_; rw [Hh.out]; rintro e w1 ⟨rfl, rfl⟩)
    go_loopw [7] (fun i wr => ∃ k : Nat, k ≤ n ∧ i = .int .i64 k ∧ w = wr ∧ Hid ((pl.take k).all (cov1 bad x) = true)) (fun i _ => n - (intOf i).toNat)
    case atStart => exact ⟨0, by omega, rfl, rfl, hid rfl⟩
    case round =>
      obtain ⟨k, hk2, rfl, rfl, hall⟩ := hrel
      by_cases hlt : k < n
      · obtain ⟨b, off, r, A', m', c', rfl, hb1, hr, c0, hin⟩ := HP.out.at_ hlt
        have hm' : m' ≤ 1000000 := by have := hin.len; have := HW.out r (List.mem_of_getElem? hr); omega
        have Hin := hid hin
        have hlti : (k : Int) < n := by omega
        cases h1 : has r x
        · have H1 := hid h1
          have hn1 := hid (all_succ hall.out hr (by unfold cov1; rw [h1]; rfl))
          clear h1 hr hin
          go_wp2_with (go_at_call 43; refine (has_any A' m' c' r x w Hin.out hm').mono ?_; rw [H1.out]; rintro e w1 ⟨rfl, rfl⟩)
          exact ⟨⟨k + 1, by omega, by go_num, trivial, hn1⟩, by simp [intOf]; omega⟩
        · have H1 := hid h1
          cases h2 : meet r bad
          · have H2 := hid h2
            have hf : Hid (pl.all (cov1 bad x) = false) := hid (all_false hr (by unfold cov1; rw [h1, h2]; rfl))
            clear h1 h2 hr hin
            go_wp2_with (first | (go_at_call 43; refine (has_any A' m' c' r x w Hin.out hm').mono ?_; rw [H1.out]; rintro e w1 ⟨rfl, rfl⟩) | (go_at_call 85; refine (meet_any A' B m' c' m d r bad _ Hin.out HB.out hm' hm).mono ?_; rw [H2.out]; rintro e w1 ⟨rfl, rfl⟩))
            refine bodyPost_ret (v := .bool false) (by first | (simp [results, Try.results44, go_sem]; done) | (simp [results, Try.results44, go_sem, *]; done) | (simp [results, Try.results44, go_sem, World.cell?_setCell_same', *]; done) | (simp [results, Try.results44, go_sem]; first | exact ⟨rfl, rfl⟩ | rfl)) rfl ⟨by rw [hcv.out, hf.out], rfl⟩
          · have H2 := hid h2
            have hn1 := hid (all_succ hall.out hr (by unfold cov1; rw [h1, h2]; rfl))
            clear h1 h2 hr hin
            go_wp2_with (first | (go_at_call 43; refine (has_any A' m' c' r x w Hin.out hm').mono ?_; rw [H1.out]; rintro e w1 ⟨rfl, rfl⟩) | (go_at_call 85; refine (meet_any A' B m' c' m d r bad _ Hin.out HB.out hm' hm).mono ?_; rw [H2.out]; rintro e w1 ⟨rfl, rfl⟩))
            exact ⟨⟨k + 1, by omega, by go_num, trivial, hn1⟩, by simp [intOf]; omega⟩
      · obtain rfl : n = k := by omega
        have hf := hall.out
        rw [List.take_of_length_le (by rw [hlen.out]; exact Nat.le_refl _)] at hf
        have Hf := hid hf
        clear hf
        go_wp2
        refine bodyPost_ret (v := .bool true) (by first | (simp [results, Try.results44, go_sem]; done) | (simp [results, Try.results44, go_sem, *]; done) | (simp [results, Try.results44, go_sem, World.cell?_setCell_same', *]; done) | (simp [results, Try.results44, go_sem]; first | exact ⟨rfl, rfl⟩ | rfl)) rfl ⟨by rw [hcv.out, Hf.out], rfl⟩
  · have Hh := hid hh
    have hcv : Hid (covers pl bad x = false) := hid (by unfold covers; rw [hh]; rfl)
    clear hh
    go_wp2_with (go_at_call 43; refine (has_any B m d bad x w HB.out hm).mono ?_; rw [Hh.out]; rintro e w1 ⟨rfl, rfl⟩)
    refine bodyPost_ret (v := .bool false) (by first | (simp [results, Try.results44, go_sem]; done) | (simp [results, Try.results44, go_sem, *]; done) | (simp [results, Try.results44, go_sem, World.cell?_setCell_same', *]; done) | (simp [results, Try.results44, go_sem]; first | exact ⟨rfl, rfl⟩ | rfl)) rfl ⟨by rw [hcv.out], rfl⟩
end Go.Proofs.Ytpgdfipikfbjeaa
/- Walks: the reference's Listed. -/
namespace Go.Proofs.Ytpgdfipikfbjeaa
open Go.RowKit
attribute [local go_sem] Oper.semAt_some
/-- The places of a number's bits, below n. -/
def listed (b n : Nat) : List Int := ((List.range n).filter fun i => b.testBit i).map fun i : Nat => (i : Int)
theorem listed_succ (b k : Nat) : listed b (k + 1) = listed b k ++ (if b.testBit k then [(k : Int)] else []) := by
  unfold listed
  rw [List.range_succ, List.filter_append, List.map_append]
  cases h : b.testBit k <;> simp [h]
theorem listed_len (b : Nat) : ∀ n, (listed b n).length ≤ n
  | 0 => by simp [listed]
  | n + 1 => by
    rw [listed_succ, List.length_append]
    have := listed_len b n
    split <;> simp <;> omega
theorem p63 : (2 : Int) ^ 63 = 9223372036854775808 := by decide
theorem low_bit (b k : Nat) (hb : b < 1000000) : bits .and .i64 ((b : Int) / 2 ^ k) 1 = if b.testBit k then 1 else 0 := by
  have hq : (b : Int) / 2 ^ k = ((b / 2 ^ k : Nat) : Int) := by push_cast; rfl
  have hle : b / 2 ^ k ≤ b := Nat.div_le_self _ _
  rw [hq, Nat.testBit_eq_decide_div_mod_eq]
  obtain ⟨q, hqe⟩ : ∃ q, b / 2 ^ k = q := ⟨_, rfl⟩
  rw [hqe] at hle ⊢
  have h := bits_mask .i64 63 (by decide) (fun n h0 h1 => by rw [p63] at h1; rw [IntKind.wrap_i64]; omega) 1 (by decide) (q : Int) (by omega) (by rw [p63]; omega)
  have e : ((2 : Int) ^ 1 - 1) = 1 := by decide
  rw [e] at h
  rw [h]
  by_cases h1 : q % 2 = 1 <;> simp [h1] <;> omega
set_option maxRecDepth 10000 in
set_option maxHeartbeats 2000000 in
theorem listed_any (b n : Nat) (w : World) (hn : n ≤ 16) (hb : b < 1000000) :
    Calls Try.prog 48 #[.int .i64 b, .int .i64 n] w fun e w' => ∃ v, e = .returned v ∧ w'.ownsRow w.heap.size 3 1 v (listed b n).length ((listed b n).flatMap cI) ∧ Below w.heap.size w w' := by
  obtain ⟨i0, hi0, hi1, hi2, hi3⟩ := info_parts' info3
  have I0 := hid hi0; have I1 := hid hi1; have I2 := hid hi2; have I3 := hid hi3
  clear hi0 hi1 hi2 hi3
  go_enter Try.func48, Try.ntmps48
  go_wp2
  go_loopw [5, 6] (fun v i wr => ∃ k : Nat, k ≤ n ∧ i = .int .i64 k ∧ Below w.heap.size w wr ∧ Hid (wr.ownsRow w.heap.size 3 1 v (listed b k).length ((listed b k).flatMap cI))) (fun _ i _ => n - (intOf i).toNat)
  case atStart => exact ⟨0, by omega, rfl, Below.refl _ _, hid (World.ownsRow_nil _ _ _ _)⟩
  case round =>
    obtain ⟨k, hk2, rfl, hbw, hown⟩ := hrel
    have hszw := hbw.size
    by_cases hlt : k < n
    · have hlti : (k : Int) < n := by omega
      have hll := listed_len b k
      have hs := listed_succ b k
      have hand := low_bit b k hb
      cases ht : b.testBit k
      · rw [ht] at hs hand
        simp only [Bool.false_eq_true, if_false, List.append_nil] at hs hand
        have Hs := hid hs
        clear hs ht
        go_wp2
        exact ⟨⟨k + 1, by omega, by go_num, hbw, hid (by rw [Hs.out]; exact hown.out)⟩, by simp [intOf]; omega⟩
      · rw [ht] at hs hand
        simp only [if_true] at hs hand
        have Hs := hid hs
        have Hl : Hid ((listed b (k + 1)).length = (listed b k).length + 1) := hid (by rw [hs]; simp)
        have Hf : Hid ((listed b (k + 1)).flatMap cI = (listed b k).flatMap cI ++ [.int .i64 k]) := hid (by rw [hs, List.flatMap_append]; rfl)
        clear hs ht
        go_wp2_with (at_builtin; refine wpList_append_own _ rfl _ _ 25 rfl w.heap.size 3 i0 _ 1 8 under25 I0.out I1.out I2.out I3.out rfl (by decide) _ (listed b k).length _ rfl (hown.out.alloc (.cells #[.int .i64 k] 3)) ⟨wr.heap.size, 0, none⟩ 1 1 [.int .i64 k] rfl rfl (fun j u hj => World.news_of_block (Blk.new' (by simp)) j u hj) (one1 _) (by unfold maxLen; omega) (by omega) (by simp; omega) ?_; intro v' w3 ho3 hg3 hv3)
        have hb3 : Below w.heap.size w w3 := (hbw.alloc hszw _).grown hg3 (by simp; omega) (fun r hr => (World.ownsRow.lt hown.out r hr).1)
        exact ⟨⟨k + 1, by omega, by go_num, hb3, hid (by rw [Hl.out, Hf.out]; exact ho3)⟩, by simp [intOf]; omega⟩
    · obtain rfl : n = k := by omega
      go_wp2
      refine bodyPost_ret (v := u5) (by first | (simp [results, Try.results48, go_sem]; done) | (simp [results, Try.results48, go_sem, *]; done) | (simp [results, Try.results48, go_sem, World.cell?_setCell_same', *]; done) | (simp [results, Try.results48, go_sem]; first | exact ⟨rfl, rfl⟩ | rfl)) rfl ⟨u5, rfl, hown.out, hbw⟩
end Go.Proofs.Ytpgdfipikfbjeaa
