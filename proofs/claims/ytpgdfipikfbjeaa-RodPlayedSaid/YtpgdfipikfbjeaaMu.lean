/- Texts of the proof, laid together by program. -/
import Derived.Test.YtpgdfipikfbjeaaMp
import Derived.Test.YtpgdfipikfbjeaaMr
set_option linter.unusedSimpArgs false
set_option linter.unusedVariables false
/- Plain law of the statements: rods cast one after another. -/
namespace Go.Proofs.Ytpgdfipikfbjeaa
theorem told_part {P M : Nat} (pl : List (List Int)) (o cc : List Int) : toldL P M (pl ++ [o]) (resL (pl ++ [o]) cc) = partL (toldL P M pl (resL pl cc)) o (meet cc o) := by
  unfold toldL partL
  rw [List.filter_filter]
  refine List.filter_congr fun c _ => ?_
  rw [Bool.eq_iff_iff, eqI_t, Bool.and_eq_true, eqI_t, resL_snoc, resL_snoc, meet_comm o c, meet_comm o cc]
  constructor
  · intro h
    obtain ⟨h1, h2⟩ := snoc_inj h
    refine ⟨?_, h1⟩
    revert h2
    cases meet c o <;> cases meet cc o <;> simp
  · rintro ⟨h1, h2⟩
    have h3 : meet c o = meet cc o := by simpa using h1
    rw [h2, h3]
theorem play_step {P M : Nat} {pl : List (List Int)} {o cc : List Int} (hc : cc ∈ casesL P M) (hd : divB P M (toldL P M pl (resL pl cc)) o = true) :
    needOf P M (toldL P M (pl ++ [o]) (resL (pl ++ [o]) cc)) < needOf P M (toldL P M pl (resL pl cc)) := by
  obtain ⟨h1, h2⟩ := divB_t.1 hd
  have hin : cc ∈ toldL P M (pl ++ [o]) (resL (pl ++ [o]) cc) := told_mem.2 ⟨hc, rfl⟩
  rw [told_part] at hin ⊢
  have h3 : okP P M (toldL P M pl (resL pl cc)) o (meet cc o) := by cases meet cc o; exact h1; exact h2
  rcases h3 with h | h
  · rw [List.eq_nil_of_length_eq_zero h] at hin; cases hin
  · exact h
theorem told_one_of {P M : Nat} {pl : List (List Int)} {cc : List Int} (hc : cc ∈ casesL P M) (h : needOf P M (toldL P M pl (resL pl cc)) = 0) : toldL P M pl (resL pl cc) = [cc] := by
  rw [needOf_told, need_zero_told] at h
  have hin : cc ∈ toldL P M pl (resL pl cc) := told_mem.2 ⟨hc, rfl⟩
  generalize toldL P M pl (resL pl cc) = l at *
  match l, h, hin with
  | [x], _, hin => rw [List.mem_singleton.1 hin]
  | x :: y :: l, h, _ => simp at h
theorem told_more_of {P M : Nat} {pl : List (List Int)} {cc : List Int} (h : needOf P M (toldL P M pl (resL pl cc)) ≠ 0) : 2 ≤ (toldL P M pl (resL pl cc)).length := by
  rw [needOf_told] at h
  rcases Nat.lt_or_ge (toldL P M pl (resL pl cc)).length 2 with h1 | h1
  · exact absurd ((need_zero_told P M pl _).2 (by omega)) h
  · exact h1
theorem leftE_case {P M : Nat} {pl : List (List Int)} {cc : List Int} (hp : checkPlan P M pl = 0) (h5 : P ≤ 5) (hc : cc ∈ casesL P M) : leftE P M pl (resL pl cc) = 0 := by
  unfold leftE
  rw [if_neg (by simp [errR_case hp cc]), if_neg (by omega), if_neg (by
    show ¬ (toldL P M pl (resL pl cc)).length = 0
    intro e
    have : cc ∈ toldL P M pl (resL pl cc) := told_mem.2 ⟨hc, rfl⟩
    rw [List.eq_nil_of_length_eq_zero e] at this; cases this)]
theorem needV_case {P M : Nat} {pl : List (List Int)} {cc : List Int} (hp : checkPlan P M pl = 0) (h5 : P ≤ 5) (hc : cc ∈ casesL P M) : needV P M pl (resL pl cc) = needOf P M (toldL P M pl (resL pl cc)) := by
  unfold needV
  rw [if_neg (by simp [leftE_case hp h5 hc])]; rfl
theorem nextE_case {P M : Nat} {pl : List (List Int)} {cc : List Int} (hp : checkPlan P M pl = 0) (h5 : P ≤ 5) (hc : cc ∈ casesL P M) : nextE P M pl (resL pl cc) = if needOf P M (toldL P M pl (resL pl cc)) = 0 then 5 else 0 := by
  unfold nextE
  rw [if_neg (by simp [leftE_case hp h5 hc])]
  show (if (toldL P M pl (resL pl cc)).length = 1 then (5 : Int) else 0) = _
  by_cases h : needOf P M (toldL P M pl (resL pl cc)) = 0
  · rw [if_pos h, told_one_of hc h, if_pos (by rfl)]
  · have := told_more_of h
    rw [if_neg h, if_neg (by omega)]
theorem next_goodN {p m : Nat} {pl : List (List Int)} {r : List Int} (h : nextE p m pl r = 0) : isL p 0 (nextV p m pl r) = true ∧ (nextV p m pl r).length ≤ 8 ∧ divB p m (toldL p m pl r) (nextV p m pl r) = true := by
  obtain ⟨p', m', e1, e2, -, -, h1, h2, h3⟩ := next_good h
  obtain rfl : p = p' := by omega
  obtain rfl : m = m' := by omega
  exact ⟨h1, h2, h3⟩
end Go.Proofs.Ytpgdfipikfbjeaa
/- Walks: Results, with the capacity of what it returns. -/
namespace Go.Proofs.Ytpgdfipikfbjeaa
open Go.RowKit
attribute [local go_sem] Oper.semAt_some
set_option maxRecDepth 10000 in
set_option maxHeartbeats 1600000 in
theorem resultsC_any (A B : Option Addr) (n c m d : Nat) (pl : List (List Int)) (bad : List Int) (P M : Int) (w : World) (hp : LiS w w.heap.size A n pl) (hb : InS w w.heap.size B m bad) (hn : n ≤ 12) (hw : ∀ l ∈ pl, l.length ≤ 12) (hm : m ≤ 1000000) :
    Calls Try.prog 41 #[.agg #[.int .i64 P, .int .i64 M], .slice A n c, .slice B m d] w fun e w' => ∃ A' n' c', e = .returned (.tuple #[.slice A' n' c', .int .i64 (resE P M pl bad)]) ∧ InS w' w'.heap.size A' n' (resV P M pl bad) ∧ n' ≤ c' ∧ Below w.heap.size w w' := by
  have hlb := hb.len
  obtain ⟨W0, hWb⟩ : ∃ W0, w.alloc (.cells #[.int .i64 P, .int .i64 M] 23) = W0 := ⟨_, rfl⟩
  have bB : Blk W0 w.heap.size 23 #[.int .i64 P, .int .i64 M] := by rw [← hWb]; exact Blk.new' rfl
  have hbel : Below w.heap.size w W0 := by rw [← hWb]; exact (Below.refl _ _).alloc (Nat.le_refl _) _
  have hsz := hbel.size
  have lB := bB.lt
  have p0 := bB.cell 0
  have p1 := bB.cell 1
  have HP := hid (hp.below hbel hsz)
  clear hp
  have HB := hid (hb.below hbel hsz)
  clear hb
  by_cases hbd : checkPlan P M pl ≠ 0
  · have hE := hid (show resE P M pl bad = checkPlan P M pl from if_pos hbd)
    have hV := hid (show resV P M pl bad = [] from if_neg (by rw [hE.out]; exact hbd))
    have hbi : (checkPlan P M pl == 0) = false := by simpa using hbd
    have hbi2 : ¬ checkPlan P M pl = 0 := hbd
    have Hb := hid hbd
    clear hbd
    go_enter Try.func41, Try.ntmps41
    go_wp2_with (fail)
    refine (open_bad A n c pl P M _ (HP.out.below (by repeat' (first | with_reducible assumption | with_reducible exact Below.refl _ _ | refine Below.alloc ?_ ?_ _ | refine Below.setCell ?_ ?_ _ | refine Below.drew ?_ | refine below_drewN ?_ _ | (simp; done) | (simp; omega) | omega)) (by first | (simp; done) | (simp; omega) | omega)) hn hw Hb.out).mono ?_
    rintro e W1 ⟨rfl, hb⟩
    have hst : Below W0.heap.size W0 W1 := Below.trans (by repeat' (first | with_reducible assumption | with_reducible exact Below.refl _ _ | refine Below.alloc ?_ ?_ _ | refine Below.setCell ?_ ?_ _ | refine Below.drew ?_ | refine below_drewN ?_ _ | (simp; done) | (simp; omega) | omega)) (hb.mono (by first | (simp; done) | (simp; omega) | omega))
    replace hbel := hbel.trans (hst.mono hsz)
    replace hsz := hbel.size
    replace bB := bB.below hst bB.lt
    clear p0 p1 lB
    have p0 := bB.cell 0
    have p1 := bB.cell 1
    have lB := bB.lt
    try clear hWb
    replace HP := hid (HP.out.below hst hst.size)
    replace HB := hid (HB.out.below hst hst.size)
    clear hb hst
    obtain ⟨W0, rfl⟩ : ∃ W0 : World, W0 = W1 := ⟨_, rfl⟩
    go_wp2
    refine bodyPost_ret (v := .tuple #[.slice none 0 0, .int .i64 (checkPlan P M pl)]) (by first | (simp [results, Try.results41, go_sem]; done) | (simp [results, Try.results41, go_sem, *]; done) | (simp [results, Try.results41, go_sem, World.cell?_setCell_same', *]; done) | (simp [results, Try.results41, go_sem]; first | exact ⟨rfl, rfl⟩ | rfl)) rfl ⟨none, 0, 0, by rw [hE.out], by rw [hV.out]; exact Sl.none_, Nat.le_refl _, hbel⟩
  · have hb0 : checkPlan P M pl = 0 := by simpa using hbd
    obtain ⟨g1, g2, g3⟩ := plan_good hb0
    obtain ⟨g4, g5, g6, g7⟩ := book_good g1
    obtain ⟨Pn, rfl⟩ : ∃ Pn : Nat, P = Pn := ⟨P.toNat, by omega⟩
    obtain ⟨Mn, rfl⟩ : ∃ Mn : Nat, M = Mn := ⟨M.toNat, by omega⟩
    have Hb := hid hb0
    have hE0 : resE Pn Mn pl bad = if isL Pn 0 bad = false ∨ (Mn : Int) < bad.length then 2 else 0 := if_neg (by rw [hb0]; simp)
    clear hbd hb0 g1 g3
    by_cases hlen : (Mn : Int) < m
    · have hE := hid (show resE Pn Mn pl bad = 2 by rw [hE0, if_pos (.inr (by omega))])
      have hV := hid (show resV Pn Mn pl bad = [] from if_neg (by rw [hE.out]; decide))
      clear hE0
      go_enter Try.func41, Try.ntmps41
      go_wp2_with (fail)
      refine (open_ok A n c pl Pn Mn _ (HP.out.below (by repeat' (first | with_reducible assumption | with_reducible exact Below.refl _ _ | refine Below.alloc ?_ ?_ _ | refine Below.setCell ?_ ?_ _ | refine Below.drew ?_ | refine below_drewN ?_ _ | (simp; done) | (simp; omega) | omega)) (by first | (simp; done) | (simp; omega) | omega)) hw Hb.out).mono ?_
      rintro e W1 ⟨g, mp, rfl, hB, hM0, hmm, hb⟩
      have hzz := hbel.size
      have hst : Below W0.heap.size W0 W1 := Below.trans (by repeat' (first | with_reducible assumption | with_reducible exact Below.refl _ _ | refine Below.alloc ?_ ?_ _ | refine Below.setCell ?_ ?_ _ | refine Below.drew ?_ | refine below_drewN ?_ _ | (simp; done) | (simp; omega) | omega)) (hb.mono (by first | (simp; done) | (simp; omega) | omega))
      replace hbel := hbel.trans (hst.mono hsz)
      replace hsz := hbel.size
      replace bB := bB.below hst bB.lt
      clear p0 p1 lB
      have p0 := bB.cell 0
      have p1 := bB.cell 1
      have lB := bB.lt
      try clear hWb
      replace HP := hid (HP.out.below hst hst.size)
      replace HB := hid (HB.out.below hst hst.size)
      clear hmm
      have HBn := hid hB
      clear hB
      have HM0 := hid hM0
      clear hM0
      clear hb hst
      obtain ⟨W0, rfl⟩ : ∃ W0 : World, W0 = W1 := ⟨_, rfl⟩
      clear HBn HM0
      go_wp2
      refine bodyPost_ret (v := .tuple #[.slice none 0 0, .int .i64 2]) (by first | (simp [results, Try.results41, go_sem]; done) | (simp [results, Try.results41, go_sem, *]; done) | (simp [results, Try.results41, go_sem, World.cell?_setCell_same', *]; done) | (simp [results, Try.results41, go_sem]; first | exact ⟨rfl, rfl⟩ | rfl)) rfl ⟨none, 0, 0, by rw [hE.out], by rw [hV.out]; exact Sl.none_, Nat.le_refl _, hbel⟩
    · cases hris : isL Pn 0 bad
      · have hE := hid (show resE Pn Mn pl bad = 2 by rw [hE0, if_pos (.inl hris)])
        have hV := hid (show resV Pn Mn pl bad = [] from if_neg (by rw [hE.out]; decide))
        have Hr := hid hris
        clear hE0 hris
        go_enter Try.func41, Try.ntmps41
        go_wp2_with (fail)
        refine (open_ok A n c pl Pn Mn _ (HP.out.below (by repeat' (first | with_reducible assumption | with_reducible exact Below.refl _ _ | refine Below.alloc ?_ ?_ _ | refine Below.setCell ?_ ?_ _ | refine Below.drew ?_ | refine below_drewN ?_ _ | (simp; done) | (simp; omega) | omega)) (by first | (simp; done) | (simp; omega) | omega)) hw Hb.out).mono ?_
        rintro e W1 ⟨g, mp, rfl, hB, hM0, hmm, hb⟩
        have hzz := hbel.size
        have hst : Below W0.heap.size W0 W1 := Below.trans (by repeat' (first | with_reducible assumption | with_reducible exact Below.refl _ _ | refine Below.alloc ?_ ?_ _ | refine Below.setCell ?_ ?_ _ | refine Below.drew ?_ | refine below_drewN ?_ _ | (simp; done) | (simp; omega) | omega)) (hb.mono (by first | (simp; done) | (simp; omega) | omega))
        replace hbel := hbel.trans (hst.mono hsz)
        replace hsz := hbel.size
        replace bB := bB.below hst bB.lt
        clear p0 p1 lB
        have p0 := bB.cell 0
        have p1 := bB.cell 1
        have lB := bB.lt
        try clear hWb
        replace HP := hid (HP.out.below hst hst.size)
        replace HB := hid (HB.out.below hst hst.size)
        clear hmm
        have HBn := hid hB
        clear hB
        have HM0 := hid hM0
        clear hM0
        clear hb hst
        obtain ⟨W0, rfl⟩ : ∃ W0 : World, W0 = W1 := ⟨_, rfl⟩
        clear HBn HM0
        go_wp2_with (fail)
        refine (rising_any B m d bad Pn _ (HB.out.below (by repeat' (first | with_reducible assumption | with_reducible exact Below.refl _ _ | refine Below.alloc ?_ ?_ _ | refine Below.setCell ?_ ?_ _ | refine Below.drew ?_ | refine below_drewN ?_ _ | (simp; done) | (simp; omega) | omega)) (by first | (simp; done) | (simp; omega) | omega)) hm g4 g5).mono ?_
        rw [Hr.out]
        rintro e W1 ⟨rfl, hb⟩
        have hst : Below W0.heap.size W0 W1 := Below.trans (by repeat' (first | with_reducible assumption | with_reducible exact Below.refl _ _ | refine Below.alloc ?_ ?_ _ | refine Below.setCell ?_ ?_ _ | refine Below.drew ?_ | refine below_drewN ?_ _ | (simp; done) | (simp; omega) | omega)) (hb.mono (by first | (simp; done) | (simp; omega) | omega))
        replace hbel := hbel.trans (hst.mono hsz)
        replace hsz := hbel.size
        replace bB := bB.below hst bB.lt
        clear p0 p1 lB
        have p0 := bB.cell 0
        have p1 := bB.cell 1
        have lB := bB.lt
        try clear hWb
        replace HP := hid (HP.out.below hst hst.size)
        replace HB := hid (HB.out.below hst hst.size)
        clear hb hst
        obtain ⟨W0, rfl⟩ : ∃ W0 : World, W0 = W1 := ⟨_, rfl⟩
        go_wp2
        refine bodyPost_ret (v := .tuple #[.slice none 0 0, .int .i64 2]) (by first | (simp [results, Try.results41, go_sem]; done) | (simp [results, Try.results41, go_sem, *]; done) | (simp [results, Try.results41, go_sem, World.cell?_setCell_same', *]; done) | (simp [results, Try.results41, go_sem]; first | exact ⟨rfl, rfl⟩ | rfl)) rfl ⟨none, 0, 0, by rw [hE.out], by rw [hV.out]; exact Sl.none_, Nat.le_refl _, hbel⟩
      · have hE := hid (show resE Pn Mn pl bad = 0 by rw [hE0, if_neg (by rw [hris]; simp; omega)])
        have hV := hid (show resV Pn Mn pl bad = resL pl bad from if_pos hE.out)
        have hbb : ∀ x ∈ bad, 0 ≤ x ∧ x < 8 := fun x hx => by have := isL_bd hris x hx; omega
        have Hbb := hid hbb
        have Hr := hid hris
        have hpl8 : pl.length ≤ 8 := g2
        have hrl : (resL pl bad).length = pl.length := by unfold resL; rw [List.length_map]
        have Hrl := hid hrl
        obtain ⟨i0, hi0, hi1, hi2, hi3⟩ := info_parts' info3
        have hi3' : (Try.prog.info? 3).map (·.size) = some 1 := by rw [hi0]; simp [hi2]
        have I3 := hid hi3'
        clear hE0 hris hbb hrl hi0 hi1 hi2 hi3 hi3'
        go_enter Try.func41, Try.ntmps41
        go_wp2_with (fail)
        refine (open_ok A n c pl Pn Mn _ (HP.out.below (by repeat' (first | with_reducible assumption | with_reducible exact Below.refl _ _ | refine Below.alloc ?_ ?_ _ | refine Below.setCell ?_ ?_ _ | refine Below.drew ?_ | refine below_drewN ?_ _ | (simp; done) | (simp; omega) | omega)) (by first | (simp; done) | (simp; omega) | omega)) hw Hb.out).mono ?_
        rintro e W1 ⟨g, mp, rfl, hB, hM0, hmm, hb⟩
        have hzz := hbel.size
        have hst : Below W0.heap.size W0 W1 := Below.trans (by repeat' (first | with_reducible assumption | with_reducible exact Below.refl _ _ | refine Below.alloc ?_ ?_ _ | refine Below.setCell ?_ ?_ _ | refine Below.drew ?_ | refine below_drewN ?_ _ | (simp; done) | (simp; omega) | omega)) (hb.mono (by first | (simp; done) | (simp; omega) | omega))
        replace hbel := hbel.trans (hst.mono hsz)
        replace hsz := hbel.size
        replace bB := bB.below hst bB.lt
        clear p0 p1 lB
        have p0 := bB.cell 0
        have p1 := bB.cell 1
        have lB := bB.lt
        try clear hWb
        replace HP := hid (HP.out.below hst hst.size)
        replace HB := hid (HB.out.below hst hst.size)
        clear hmm
        have HBn := hid hB
        clear hB
        have HM0 := hid hM0
        clear hM0
        clear hb hst
        obtain ⟨W0, rfl⟩ : ∃ W0 : World, W0 = W1 := ⟨_, rfl⟩
        go_wp2_with (fail)
        refine (rising_any B m d bad Pn _ (HB.out.below (by repeat' (first | with_reducible assumption | with_reducible exact Below.refl _ _ | refine Below.alloc ?_ ?_ _ | refine Below.setCell ?_ ?_ _ | refine Below.drew ?_ | refine below_drewN ?_ _ | (simp; done) | (simp; omega) | omega)) (by first | (simp; done) | (simp; omega) | omega)) hm g4 g5).mono ?_
        rw [Hr.out]
        rintro e W1 ⟨rfl, hb⟩
        have hst : Below W0.heap.size W0 W1 := Below.trans (by repeat' (first | with_reducible assumption | with_reducible exact Below.refl _ _ | refine Below.alloc ?_ ?_ _ | refine Below.setCell ?_ ?_ _ | refine Below.drew ?_ | refine below_drewN ?_ _ | (simp; done) | (simp; omega) | omega)) (hb.mono (by first | (simp; done) | (simp; omega) | omega))
        replace hbel := hbel.trans (hst.mono hsz)
        replace hsz := hbel.size
        replace bB := bB.below hst bB.lt
        clear p0 p1 lB
        have p0 := bB.cell 0
        have p1 := bB.cell 1
        have lB := bB.lt
        try clear hWb
        replace HP := hid (HP.out.below hst hst.size)
        replace HB := hid (HB.out.below hst hst.size)
        replace HBn := hid (HBn.out.below hst)
        clear HM0
        clear hb hst
        obtain ⟨W0, rfl⟩ : ∃ W0 : World, W0 = W1 := ⟨_, rfl⟩
        go_wp2_with (fail)
        refine (results_any g Pn Mn (casesL Pn Mn) pl mp B m d bad _ (HBn.out.below (by repeat' (first | with_reducible assumption | with_reducible exact Below.refl _ _ | refine Below.alloc ?_ ?_ _ | refine Below.setCell ?_ ?_ _ | refine Below.drew ?_ | refine below_drewN ?_ _ | (simp; done) | (simp; omega) | omega))) (HB.out.below (by repeat' (first | with_reducible assumption | with_reducible exact Below.refl _ _ | refine Below.alloc ?_ ?_ _ | refine Below.setCell ?_ ?_ _ | refine Below.drew ?_ | refine below_drewN ?_ _ | (simp; done) | (simp; omega) | omega)) (by first | (simp; done) | (simp; omega) | omega)) hm Hbb.out hpl8).mono ?_
        rintro e W1 ⟨v, rfl, ho, hb⟩
        have hzz := hbel.size
        obtain ⟨A7, c7, hv7, hs7, hn7⟩ := own_src ho
        subst hv7
        have HS7 := hid hs7
        have HN7 := hid hn7
        clear ho hs7 hn7
        have hst : Below W0.heap.size W0 W1 := Below.trans (by repeat' (first | with_reducible assumption | with_reducible exact Below.refl _ _ | refine Below.alloc ?_ ?_ _ | refine Below.setCell ?_ ?_ _ | refine Below.drew ?_ | refine below_drewN ?_ _ | (simp; done) | (simp; omega) | omega)) (hb.mono (by first | (simp; done) | (simp; omega) | omega))
        replace hbel := hbel.trans (hst.mono hsz)
        replace hsz := hbel.size
        replace bB := bB.below hst bB.lt
        clear p0 p1 lB
        have p0 := bB.cell 0
        have p1 := bB.cell 1
        have lB := bB.lt
        try clear hWb
        replace HP := hid (HP.out.below hst hst.size)
        replace HB := hid (HB.out.below hst hst.size)
        clear hb hst
        obtain ⟨W0, rfl⟩ : ∃ W0 : World, W0 = W1 := ⟨_, rfl⟩
        clear HBn
        have hmk := @make_i64 pl.length (by omega)
        have hms : (madeCells #[.int .i64 0] pl.length).size = pl.length := by simp [madeCells]
        have hz6 := hbel.size
        have hfit : 0 + ((resL pl bad).flatMap cI).length ≤ (madeCells #[.int .i64 0] pl.length).toList.length := by rw [flatI_len', Hrl.out]; simp [madeCells]
        have hfit2 : ((resL pl bad).flatMap cI).length = (madeCells #[.int .i64 0] pl.length).toList.length := by rw [flatI_len', Hrl.out]; simp [madeCells]
        go_wp2_with (refine wpList_copy_splice rfl _ _ 25 25 rfl 3 under25 I3.out (some ⟨W0.heap.size, 0, none⟩) A7 pl.length pl.length pl.length c7 rfl rfl W0.heap.size 0 (madeCells #[.int .i64 0] pl.length).toList 3 (by rw [Array.toArray_toList]; exact heap_alloc_new _ _) ((resL pl bad).flatMap cI) (by rw [flatI_len', Hrl.out]; exact (Nat.min_self _).symm) (fun h => ⟨rfl, cop_src HS7.out (by rw [flatI_len', Hrl.out] at h; exact h) (fun p hp => World.cell?_alloc_lt _ _ p hp)⟩) hfit (one_flatI _) w.heap.size w (hbel.alloc hz6 _) hz6 ?_; intro W9 HG9 hb9)
        refine bodyPost_ret (v := .tuple #[.slice (some ⟨W0.heap.size, 0, none⟩) pl.length pl.length, .int .i64 0]) (by first | (simp [results, Try.results41, go_sem]; done) | (simp [results, Try.results41, go_sem, *]; done) | (simp [results, Try.results41, go_sem, World.cell?_setCell_same', *]; done) | (simp [results, Try.results41, go_sem]; first | exact ⟨rfl, rfl⟩ | rfl)) rfl ⟨some ⟨W0.heap.size, 0, none⟩, pl.length, pl.length, by rw [hE.out], ?_, Nat.le_refl _, hb9⟩
        rw [hV.out]
        have hG := HG9.out
        rw [splice_all hfit2] at hG
        have hB9 : Blk W9 W0.heap.size 3 ((resL pl bad).flatMap cI).toArray := hG
        have := ins_blk hB9 hB9.lt
        rwa [Hrl.out] at this
theorem ins_take2 {w : World} {B n : Nat} {A : Option Addr} {l : List Int} {x : Int} (h : InS w B A (n + 1) (l ++ [x])) (hl : l.length = n) : InS w B A n l := by
  refine ⟨by rw [flatI_len', hl, Nat.mul_one], fun _ => ?_⟩
  obtain ⟨b, off, e, hb, hc⟩ := h.2 (by omega)
  refine ⟨b, off, e, hb, fun j u hu => hc j u ?_⟩
  rw [List.flatMap_append, List.getElem?_append_left (List.getElem?_eq_some_iff.1 hu).1]
  exact hu
theorem one_flatL (l : List Int) : ∀ u ∈ l.flatMap cI, u.oneCell' = true := by
  intro u hu
  obtain ⟨x, -, hx⟩ := List.mem_flatMap.1 hu
  rw [List.mem_singleton.1 hx]; rfl
end Go.Proofs.Ytpgdfipikfbjeaa
namespace Go.Proofs.Ytpgdfipikfbjeaa
open Go.RowKit Go.Shelf
attribute [local go_sem] Oper.semAt_some
/-- A row of small numbers in memory. -/
def U8S (w : World) (B : Nat) (A : Option Addr) (n : Nat) (l : List Int) : Prop := Sl w B 1 A n (l.map fun x => Value.int .u8 x)
theorem U8S.below {w w' : World} {B B' n : Nat} {A : Option Addr} {l : List Int} (h : U8S w B A n l) (hb : Below B w w') (hB : B ≤ B') : U8S w' B' A n l := Sl.below' h hb hB
theorem U8S.len {w : World} {B n : Nat} {A : Option Addr} {l : List Int} (h : U8S w B A n l) : l.length = n := by have := h.1; simpa using this
theorem U8S.at_ {w : World} {B n k : Nat} {A : Option Addr} {l : List Int} (h : U8S w B A n l) (hk : k < n) : ∃ b off y, A = some ⟨b, off, none⟩ ∧ b < B ∧ l[k]? = some y ∧ w.cell? ⟨b, off + k, none⟩ = some (.int .u8 y) := by
  obtain ⟨b, off, hA, hb, hc⟩ := h.2 (by omega)
  have hl : k < l.length := by rw [h.len]; exact hk
  refine ⟨b, off, l[k], hA, hb, List.getElem?_eq_getElem hl, hc k _ ?_⟩
  rw [List.getElem?_map, List.getElem?_eq_getElem hl]; rfl
/-- A plan by bits. -/
def givL (by_ : List Int) (P : Nat) : List (List Int) := (by_.take 8).map fun b => listed b.toNat P
theorem givL_isL {by_ : List Int} {P : Nat} : ∀ r ∈ givL by_ P, isL P 0 r = true := by
  intro r hr
  obtain ⟨b, -, rfl⟩ := List.mem_map.1 hr
  exact listed_isL _ _
theorem givL_len (by_ : List Int) (P : Nat) : (givL by_ P).length ≤ 8 := by unfold givL; rw [List.length_map, List.length_take]; omega
set_option maxRecDepth 100000 in
set_option maxHeartbeats 40000000 in
theorem given_any (A : Option Addr) (n c P : Nat) (M : Int) (l : List Int) (w : World) (hl : U8S w w.heap.size A n l) (hn : n ≤ 20) (hP : P ≤ 8) (hb : ∀ x ∈ l, 0 ≤ x ∧ x ≤ 255) :
    Calls Try.prog 52 #[.agg #[.int .i64 (P : Int), .int .i64 M], .slice A n c] w fun e w' => ∃ v, e = .returned v ∧ NewLi w' w.heap.size v (givL l P) ∧ Below w.heap.size w w' := by
  have Hb := hid hb
  clear hb
  obtain ⟨W0, hWb⟩ : ∃ W0, w.alloc (.cells #[.int .i64 (P : Int), .int .i64 M] 23) = W0 := ⟨_, rfl⟩
  have bB : Blk W0 w.heap.size 23 #[.int .i64 (P : Int), .int .i64 M] := by rw [← hWb]; exact Blk.new' rfl
  have hbel : Below w.heap.size w W0 := by rw [← hWb]; exact (Below.refl _ _).alloc (Nat.le_refl _) _
  have hsz := hbel.size
  have lB := bB.lt
  have p0 := bB.cell 0
  have p1 := bB.cell 1
  have HB := hid (hl.below hbel hsz)
  clear hl
  have hWz : Hid (w.heap.size ≤ W0.heap.size) := hid hsz
  have hll := hid HB.out.len
  go_enter Try.func52, Try.ntmps52
  go_wp2_with (fail)
  go_loopw [5, 6] (fun v i wr => ∃ k : Nat, k ≤ n ∧ k ≤ 8 ∧ i = .int .i64 k ∧ Below W0.heap.size W0 wr ∧ Hid (NewLi wr W0.heap.size v ((l.take k).map fun b => listed b.toNat P))) (fun _ i _ => 8 - (intOf i).toNat)
  case atStart => exact ⟨0, by omega, by omega, rfl, (by rw [← hWb]; exact Below.refl _ _), hid (NewLi.nil _ _)⟩
  case round =>
    try clear hWb
    obtain ⟨k, hk, hk8, rfl, hbw, hown⟩ := hrel
    have hszw := hbw.size
    by_cases hlt : k < n
    · have hlti : (k : Int) < n := by omega
      by_cases hlt8 : k < 8
      · have hlt8i : (k : Int) < 8 := by omega
        obtain ⟨b, off, y, rfl, hb7, hm7, ct7⟩ := HB.out.at_ hlt
        have hy := Hb.out y (List.mem_of_getElem? hm7)
        obtain ⟨yn, rfl⟩ : ∃ z : Nat, y = z := ⟨y.toNat, by omega⟩
        have Hst : Hid ((l.take (k + 1)).map (fun b => listed b.toNat P) = (l.take k).map (fun b => listed b.toNat P) ++ [listed yn P]) := hid (by rw [List.take_add_one, hm7, List.map_append]; rfl)
        have z0 : IntKind.i64.wrap (yn : Int) = (yn : Int) := IntWalk.i64_in _ (by omega)
        have C7 := hid ct7
        clear hm7 ct7
        go_wp2_with (fail)
        refine Sx.wp_region_el (fun W => Below W0.heap.size W0 W) (hSb W0) [0, 1, 2, 3, 4, 5, 6, 7] 4 (by kernel_rfl) (by kernel_rfl) (hSb W0 _ _ hbw (Below.refl _ _).drew) ?_
        simp only [pick, List.getElem?_toArray, List.getElem?_cons_zero, List.getElem?_cons_succ]
        (refine Sx.wpE_val (v := ?_) (by rfl) (fun W hW => ?_) ?_; rotate_left; (· have f0 := (bB.below hW lB).cell 0; have f1 := (bB.below hW lB).cell 1; have f2 := (bB.below hW lB).lt; have q0 := ((bcell hW).1 b (off + k) hb7).trans C7.out; have q1 : b < W.heap.size := Nat.lt_of_lt_of_le hb7 hW.size; go_simp; with_reducible rfl); simp only [Act.put, List.setIfInBounds_toArray, List.set_cons_zero, List.set_cons_succ])
        (refine Sx.wpE_val (v := ?_) (by rfl) (fun W hW => ?_) ?_; rotate_left; (· have f0 := (bB.below hW lB).cell 0; have f1 := (bB.below hW lB).cell 1; have f2 := (bB.below hW lB).lt; have q0 := ((bcell hW).1 b (off + k) hb7).trans C7.out; have q1 : b < W.heap.size := Nat.lt_of_lt_of_le hb7 hW.size; go_simp; with_reducible rfl); simp only [Act.put, List.setIfInBounds_toArray, List.set_cons_zero, List.set_cons_succ])
        (refine Sx.wpE_val (v := ?_) (by rfl) (fun W hW => ?_) ?_; rotate_left; (· have f0 := (bB.below hW lB).cell 0; have f1 := (bB.below hW lB).cell 1; have f2 := (bB.below hW lB).lt; have q0 := ((bcell hW).1 b (off + k) hb7).trans C7.out; have q1 : b < W.heap.size := Nat.lt_of_lt_of_le hb7 hW.size; go_simp; with_reducible rfl); simp only [Act.put, List.setIfInBounds_toArray, List.set_cons_zero, List.set_cons_succ])
        (refine Sx.wpE_val (v := ?_) (by rfl) (fun W hW => ?_) ?_; rotate_left; (· have f0 := (bB.below hW lB).cell 0; have f1 := (bB.below hW lB).cell 1; have f2 := (bB.below hW lB).lt; have q0 := ((bcell hW).1 b (off + k) hb7).trans C7.out; have q1 : b < W.heap.size := Nat.lt_of_lt_of_le hb7 hW.size; go_simp; with_reducible rfl); simp only [Act.put, List.setIfInBounds_toArray, List.set_cons_zero, List.set_cons_succ])
        (refine Sx.wpE_val (v := ?_) (by rfl) (fun W hW => ?_) ?_; rotate_left; (· have f0 := (bB.below hW lB).cell 0; have f1 := (bB.below hW lB).cell 1; have f2 := (bB.below hW lB).lt; have q0 := ((bcell hW).1 b (off + k) hb7).trans C7.out; have q1 : b < W.heap.size := Nat.lt_of_lt_of_le hb7 hW.size; go_simp; with_reducible rfl); simp only [Act.put, List.setIfInBounds_toArray, List.set_cons_zero, List.set_cons_succ])
        (refine Sx.wpE_val (v := ?_) (by rfl) (fun W hW => ?_) ?_; rotate_left; (· have f0 := (bB.below hW lB).cell 0; have f1 := (bB.below hW lB).cell 1; have f2 := (bB.below hW lB).lt; have q0 := ((bcell hW).1 b (off + k) hb7).trans C7.out; have q1 : b < W.heap.size := Nat.lt_of_lt_of_le hb7 hW.size; go_simp; with_reducible rfl); simp only [Act.put, List.setIfInBounds_toArray, List.set_cons_zero, List.set_cons_succ])
        (refine Sx.wpE_val (v := ?_) (by rfl) (fun W hW => ?_) ?_; rotate_left; (· have f0 := (bB.below hW lB).cell 0; have f1 := (bB.below hW lB).cell 1; have f2 := (bB.below hW lB).lt; have q0 := ((bcell hW).1 b (off + k) hb7).trans C7.out; have q1 : b < W.heap.size := Nat.lt_of_lt_of_le hb7 hW.size; go_simp; with_reducible rfl); simp only [Act.put, List.setIfInBounds_toArray, List.set_cons_zero, List.set_cons_succ])
        (refine Sx.wpE_val (v := ?_) (by rfl) (fun W hW => ?_) ?_; rotate_left; (· have f0 := (bB.below hW lB).cell 0; have f1 := (bB.below hW lB).cell 1; have f2 := (bB.below hW lB).lt; have q0 := ((bcell hW).1 b (off + k) hb7).trans C7.out; have q1 : b < W.heap.size := Nat.lt_of_lt_of_le hb7 hW.size; go_simp; with_reducible rfl); simp only [Act.put, List.setIfInBounds_toArray, List.set_cons_zero, List.set_cons_succ])
        simp only [Sx.wpE]
        (refine Sx.wpM_one 8 _ (by simp only [List.getElem?_toArray, List.getElem?_cons_zero, List.getElem?_cons_succ]; rfl) (by kernel_rfl) (by rfl) ?_)
        intro X1 hu1 hs1
        (go_simp; simp only [LUpon, Act.put]; try simp only [List.setIfInBounds_toArray, List.set_cons_zero, List.set_cons_succ])
        have Ho1 := hid ((hown.out.below (Below.refl _ _).drew).below hu1)
        refine (listed_any yn P X1 (by omega) (by omega)).mono ?_
        rintro e X2 ⟨vq, rfl, hoq, hb2⟩
        obtain ⟨Aq, cq, rfl, hiq⟩ := sl_of_owns hoq
        have hs2 : Below W0.heap.size W0 X2 := hs1.trans (hb2.mono hs1.size)
        refine ⟨_, rfl, hs2, ?_⟩
        have Hr := hid Ho1.out.ownLt
        have Ho2 := hid (Ho1.out.below hb2)
        have Hyq := hid (own_blk2 hoq)
        have Hiq := hid (show InS X2 X2.heap.size Aq (listed yn P).length (listed yn P) from hiq)
        clear Ho1 hoq hiq hb2
        try simp only [Act.put, List.setIfInBounds_toArray, List.set_cons_zero, List.set_cons_succ]
        (refine Sx.wpM_one 9 _ (by simp only [List.getElem?_toArray, List.getElem?_cons_zero, List.getElem?_cons_succ]; rfl) (by kernel_rfl) (by rfl) ?_)
        intro X3 hu3 hs3
        (go_simp; simp only [LUpon, Act.put]; try simp only [List.setIfInBounds_toArray, List.set_cons_zero, List.set_cons_succ])
        refine ⟨hs3.alloc hs3.size _, ?_⟩
        have b3 : Blk (X3.alloc (.cells #[.slice Aq (listed yn P).length cq] 25)) X3.heap.size 25 #[.slice Aq (listed yn P).length cq] := Blk.new' rfl
        have hal : Below X3.heap.size X3 (X3.alloc (.cells #[.slice Aq (listed yn P).length cq] 25)) := (Below.refl _ _).alloc (Nat.le_refl _) _
        have Ho3 := hid ((Ho2.out.below hu3).below hal)
        have Hi3 := hid ((Hiq.out.below hu3 hu3.size).below hal hal.size)
        have hz3 : X2.heap.size ≤ (X3.alloc (.cells #[.slice Aq (listed yn P).length cq] 25)).heap.size := Nat.le_trans hu3.size hal.size
        clear Ho2 Hiq hal
        generalize X3.alloc (.cells #[.slice Aq (listed yn P).length cq] 25) = X4 at *
        generalize X3.heap.size = g3 at *
        (refine Sx.wpM_one 10 _ (by simp only [List.getElem?_toArray, List.getElem?_cons_zero, List.getElem?_cons_succ]; rfl) (by kernel_rfl) (by rfl) ?_)
        intro X5 hu5 hs5
        have ho5 := Ho3.out.below hu5
        have hi5 := Hi3.out.below hu5 hu5.size
        have b5 := b3.below hu5 b3.lt
        refine lupon_newLi _ _ rfl W0.heap.size _ ((l.take k).map fun b => listed b.toNat P) (by rfl) ho5 g3 Aq (listed yn P).length cq (listed yn P) (by rfl) b5 hi5 (fun b off e => ⟨by have := (Hyq.out b off e).2; have := hu5.size; omega, fun e' => by have h1 := (Hyq.out b off e).1; have h2 := (Hr.out b e').2; omega⟩) (by rw [List.length_map, List.length_take]; omega) hs5.size ?_
        intro v9 w9 ho9 hg9
        have hs9 : Below W0.heap.size W0 w9 := hs5.grown hg9 hs5.size (fun r hr => (ho5.ownLt r hr).1)
        rw [← Hst.out] at ho9
        have Ho9 := hid ho9
        refine ⟨hs9, ?_⟩
        clear ho5 hi5 b5 ho9 hg9 Hyq Hr b3 hu1 hu3 hu5 hs1 hs2 hs3 hs5 Ho3 Hi3 hz3
        simp only [Act.put, List.setIfInBounds_toArray, List.set_cons_zero, List.set_cons_succ]
        refine Sx.wpM_early (hSb W0) (by kernel_rfl) [11] 0 _ _ (by kernel_rfl) ?_
        simp only [pick, List.getElem?_toArray, List.getElem?_cons_zero, List.getElem?_cons_succ]
        (refine Sx.wpE_val (v := ?_) (by rfl) (fun W hW => ?_) ?_; rotate_left; (· have f0 := (bB.below hW lB).cell 0; have f1 := (bB.below hW lB).cell 1; have f2 := (bB.below hW lB).lt; go_simp; with_reducible rfl); simp only [Act.put, List.setIfInBounds_toArray, List.set_cons_zero, List.set_cons_succ])
        simp only [Sx.wpE]
        refine Sx.wpM_end (by kernel_rfl) ?_
        intro X9 hvz hb9
        have Ho10 := hid (Ho9.out.below hvz)
        clear Ho9 hs9 hvz
        go_wp2
        exact ⟨⟨k + 1, by omega, by omega, by go_num, hb9, Ho10⟩, by simp [intOf]; omega⟩
      · have hlt8i : ¬ (k : Int) < 8 := by omega
        go_wp2
        refine bodyPost_ret (v := u5) (by first | (simp [results, Try.results52, go_sem]; done) | (simp [results, Try.results52, go_sem, *]; done) | (simp [results, Try.results52, go_sem, World.cell?_setCell_same', *]; done) | (simp [results, Try.results52, go_sem]; first | exact ⟨rfl, rfl⟩ | rfl)) rfl ⟨u5, rfl, ?_, hbel.trans (hbw.mono hsz)⟩
        have ho := hown.out
        refine NewLi.mono ?_ hWz.out
        have hk8e : k = 8 := by omega
        rw [hk8e] at ho
        exact ho
    · have hlti : ¬ (k : Int) < n := by omega
      go_wp2
      refine bodyPost_ret (v := u5) (by first | (simp [results, Try.results52, go_sem]; done) | (simp [results, Try.results52, go_sem, *]; done) | (simp [results, Try.results52, go_sem, World.cell?_setCell_same', *]; done) | (simp [results, Try.results52, go_sem]; first | exact ⟨rfl, rfl⟩ | rfl)) rfl ⟨u5, rfl, ?_, hbel.trans (hbw.mono hsz)⟩
      have ho := hown.out
      refine NewLi.mono ?_ hWz.out
      unfold givL
      rw [List.take_of_length_le (by rw [hll.out]; omega)] at ho
      rw [List.take_of_length_le (by rw [hll.out]; omega)]
      exact ho
end Go.Proofs.Ytpgdfipikfbjeaa
