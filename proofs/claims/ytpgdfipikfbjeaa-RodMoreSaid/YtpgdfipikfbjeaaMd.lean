/- Texts of the proof, laid together by program. -/
import Derived.Test.YtpgdfipikfbjeaaMc
import Derived.Test.YtpgdfipikfbjeaaMa
set_option linter.unusedSimpArgs false
set_option linter.unusedVariables false
/- Walks: the reference's Covered, CheckPlain. -/
namespace Go.Proofs.Ytpgdfipikfbjeaa
open Go.RowKit
attribute [local go_sem] Oper.semAt_some
/-- The first plate that a case covers. -/
def covI (pl : List (List Int)) (c : List Int) (n : Nat) : Option Nat := (List.range n).find? fun i : Nat => covers pl c (i : Int)
def covF (pl : List (List Int)) (P : Nat) (CL : List (List Int)) : Option (List Int × Nat) := CL.findSome? fun c => (covI pl c P).map fun i => (c, i)
theorem covI_next {pl : List (List Int)} {c : List Int} {i : Nat} (h : covI pl c i = none) (hc : covers pl c (i : Int) = false) : covI pl c (i + 1) = none := by
  unfold covI at *
  rw [List.range_succ, List.find?_append, h]
  simp [hc]
theorem covI_hit {pl : List (List Int)} {c : List Int} {i P : Nat} (h : covI pl c i = none) (hc : covers pl c (i : Int) = true) (hi : i < P) : covI pl c P = some i := by
  unfold covI at *
  rw [show P = i + (1 + (P - i - 1)) by omega, List.range_add, List.find?_append, h, Nat.add_comm 1, List.range_succ_eq_map]
  simp [hc]
theorem covF_next {pl : List (List Int)} {P k : Nat} {CL : List (List Int)} {x : List Int} (h : covF pl P (CL.take k) = none) (hx : CL[k]? = some x) (hc : covI pl x P = none) : covF pl P (CL.take (k + 1)) = none := by
  unfold covF at *
  rw [List.take_add_one, hx, List.findSome?_append, h]
  simp [hc]
theorem covF_hit {pl : List (List Int)} {P k i : Nat} {CL : List (List Int)} {x : List Int} (h : covF pl P (CL.take k) = none) (hx : CL[k]? = some x) (hc : covI pl x P = some i) : covF pl P CL = some (x, i) := by
  unfold covF at *
  rw [← List.take_append_drop k CL, List.findSome?_append, h]
  obtain ⟨hk, hx⟩ := List.getElem?_eq_some_iff.1 hx
  rw [List.drop_eq_getElem_cons hk, hx]
  simp [hc]
/-- Covered's answer: the case, the plate, the error. -/
def covR (P M : Int) (pl : List (List Int)) : List Int × Nat × Int :=
  if checkPlan P M pl ≠ 0 then ([], 0, checkPlan P M pl) else match covF pl P.toNat (casesL P.toNat M.toNat) with
    | some (c, i) => (c, i, 0)
    | none => ([], 0, 5)
set_option maxRecDepth 10000 in
set_option maxHeartbeats 1600000 in
theorem refCovered_any (A : Option Addr) (n c : Nat) (pl : List (List Int)) (P M : Int) (w : World) (hp : LiS w w.heap.size A n pl) (hn : n ≤ 12) (hw : ∀ l ∈ pl, l.length ≤ 12) :
    Calls Try.prog 27 #[.agg #[.int .i64 P, .int .i64 M], .slice A n c] w fun e w' => ∃ A' m' c', e = .returned (.tuple #[.slice A' m' c', .int .i64 (covR P M pl).2.1, .int .i64 (covR P M pl).2.2]) ∧ InS w' w'.heap.size A' m' (covR P M pl).1 ∧ Below w.heap.size w w' := by
  obtain ⟨W0, hWb⟩ : ∃ W0, w.alloc (.cells #[.int .i64 P, .int .i64 M] 23) = W0 := ⟨_, rfl⟩
  have bB : Blk W0 w.heap.size 23 #[.int .i64 P, .int .i64 M] := by rw [← hWb]; exact Blk.new' rfl
  have hbel : Below w.heap.size w W0 := by rw [← hWb]; exact (Below.refl _ _).alloc (Nat.le_refl _) _
  have hsz := hbel.size
  have lB := bB.lt
  have p0 := bB.cell 0
  have p1 := bB.cell 1
  have HP := hid (hp.below hbel hsz)
  clear hp
  cases hc : (checkPlan P M pl != 0)
  · have hc0 : checkPlan P M pl = 0 := by simpa using hc
    obtain ⟨g1, g2, g3⟩ := plan_good hc0
    obtain ⟨g4, g5, g6, g7⟩ := book_good g1
    have Hc := hid hc0
    have hR : Hid (covR P M pl = match covF pl P.toNat (casesL P.toNat M.toNat) with | some (c, i) => (c, i, 0) | none => ([], 0, 5)) := hid (if_neg (by omega))
    obtain ⟨Pn, rfl⟩ : ∃ Pn : Nat, P = Pn := ⟨P.toNat, by omega⟩
    obtain ⟨Mn, rfl⟩ : ∃ Mn : Nat, M = Mn := ⟨M.toNat, by omega⟩
    rw [Int.toNat_natCast, Int.toNat_natCast] at hR
    obtain ⟨CL, hCL⟩ : ∃ CL, casesL Pn Mn = CL := ⟨_, rfl⟩
    have hcl := cases_len (P := Pn) (M := Mn) (by omega)
    rw [hCL] at hcl hR
    have HCL := hid hCL
    have hcb : Hid (∀ x ∈ CL, x.length ≤ 2) := hid (by rw [← hCL]; exact cases_short Pn Mn)
    clear hCL hc hc0
    go_enter Try.func27, Try.ntmps27
    go_wp2_with (fail)
    refine (refCheckPlan_any A n c pl Pn Mn _ (HP.out.below (by repeat' (first | with_reducible assumption | with_reducible exact Below.refl _ _ | refine Below.alloc ?_ ?_ _ | refine Below.setCell ?_ ?_ _ | refine Below.drew ?_ | refine below_drewN ?_ _ | (simp; done) | (simp; omega) | omega)) (by first | (simp; done) | (simp; omega) | omega)) hn hw).mono ?_
    rw [Hc.out]
    rintro e W1 ⟨rfl, hb⟩
    have hst : Below W0.heap.size W0 W1 := Below.trans (by repeat' (first | with_reducible assumption | with_reducible exact Below.refl _ _ | refine Below.alloc ?_ ?_ _ | refine Below.setCell ?_ ?_ _ | refine Below.drew ?_ | refine below_drewN ?_ _ | (simp; done) | (simp; omega) | omega)) (hb.mono (by first | (simp; done) | (simp; omega) | omega))
    replace hbel := hbel.trans (hst.mono hsz)
    replace hsz := hbel.size
    replace bB := bB.below hst bB.lt
    clear p0 p1 lB
    have p0 := bB.cell 0
    have p1 := bB.cell 1
    have lB := bB.lt
    try clear hWb
    replace HP := hid (HP.out.below hst hst.size)
    clear hb hst
    obtain ⟨W0, rfl⟩ : ∃ W0 : World, W0 = W1 := ⟨_, rfl⟩
    go_wp2_with (fail)
    refine (casesOf_any Pn Mn _ (by omega) (by omega)).mono ?_
    rw [HCL.out]
    rintro e W1 ⟨v1, rfl, hn1, hb⟩
    have hst : Below W0.heap.size W0 W1 := Below.trans (by repeat' (first | with_reducible assumption | with_reducible exact Below.refl _ _ | refine Below.alloc ?_ ?_ _ | refine Below.setCell ?_ ?_ _ | refine Below.drew ?_ | refine below_drewN ?_ _ | (simp; done) | (simp; omega) | omega)) (hb.mono (by first | (simp; done) | (simp; omega) | omega))
    replace hbel := hbel.trans (hst.mono hsz)
    replace hsz := hbel.size
    replace bB := bB.below hst bB.lt
    clear p0 p1 lB
    have p0 := bB.cell 0
    have p1 := bB.cell 1
    have lB := bB.lt
    try clear hWb
    replace HP := hid (HP.out.below hst hst.size)
    have HN := hid (NewLi.mono hn1 (Nat.zero_le _) : NewLi W1 0 v1 CL)
    clear hb hst
    obtain ⟨W0, rfl⟩ : ∃ W0 : World, W0 = W1 := ⟨_, rfl⟩
    clear hn1
    obtain ⟨A1, c1, hv1, -, -⟩ := HN.out.lis
    subst hv1
    have HNN := hid HN.out
    have HPP := hid HP.out
    go_wp2_with (fail)
    go_loopw [8] (fun i wr => ∃ k : Nat, k ≤ CL.length ∧ i = .int .i64 k ∧ W0 = wr ∧ Hid (covF pl Pn (CL.take k) = none)) (fun i _ => CL.length - (intOf i).toNat)
    case atStart => exact ⟨0, by omega, rfl, rfl, hid rfl⟩
    case round =>
      obtain ⟨k, hk2, rfl, rfl, hall⟩ := hrel
      by_cases hlt : k < CL.length
      · obtain ⟨g, c0, x, A2, m2, c2, hv2, -, hg2, hx, hcell, hin, hbd⟩ := HNN.out.at_ hlt
        cases hv2
        have hlti : (k : Int) < CL.length := by omega
        have hm2 : m2 ≤ 2 := by have := hin.len; have := hcb.out x (List.mem_of_getElem? hx); omega
        have Hin := hid hin
        have Hx := hid hx
        clear hx hin hbd
        go_wp2_with (fail)
        go_loopw [9] (fun i wr => ∃ j : Nat, j ≤ Pn ∧ i = .int .i64 j ∧ W0 = wr ∧ Hid (covI pl x j = none)) (fun i _ => Pn - (intOf i).toNat)
        case atStart => exact ⟨0, by omega, rfl, rfl, hid rfl⟩
        case round =>
          obtain ⟨j, hj2, rfl, rfl, hin2⟩ := hrel
          by_cases hltj : j < Pn
          · have hltj2 : (j : Int) < Pn := by omega
            cases hcv : covers pl x (j : Int)
            · have Hcv := hid hcv
              have hnx := hid (covI_next hin2.out hcv)
              clear hcv
              go_wp2_with (go_at_call 44; refine (covers_any A A2 n c m2 c2 pl x _ _ HPP.out Hin.out hn hw (by omega)).mono ?_; rw [Hcv.out]; rintro e W2 ⟨rfl, rfl⟩)
              exact ⟨⟨j + 1, by omega, by go_num, trivial, hnx⟩, by simp [intOf]; omega⟩
            · have Hcv := hid hcv
              have hhit := covF_hit hall.out Hx.out (covI_hit hin2.out hcv hltj)
              have hR2 : Hid (covR Pn Mn pl = (x, j, 0)) := hid (by rw [hR.out, hhit])
              clear hcv hhit
              go_wp2_with (go_at_call 44; refine (covers_any A A2 n c m2 c2 pl x _ _ HPP.out Hin.out hn hw (by omega)).mono ?_; rw [Hcv.out]; rintro e W2 ⟨rfl, rfl⟩)
              refine bodyPost_ret (v := .tuple #[.slice A2 m2 c2, .int .i64 j, .int .i64 0]) (by first | (simp [results, Try.results27, go_sem]; done) | (simp [results, Try.results27, go_sem, *]; done) | (simp [results, Try.results27, go_sem, World.cell?_setCell_same', *]; done) | (simp [results, Try.results27, go_sem]; first | exact ⟨rfl, rfl⟩ | rfl)) rfl ⟨A2, m2, c2, by rw [hR2.out], by rw [hR2.out]; exact Hin.out, hbel⟩
          · obtain rfl : Pn = j := by omega
            have hnx := hid (covF_next hall.out Hx.out hin2.out)
            go_wp2
            exact ⟨⟨k + 1, by omega, by go_num, trivial, hnx⟩, by simp [intOf]; omega⟩
      · obtain rfl : k = CL.length := by omega
        have hR2 : Hid (covR Pn Mn pl = ([], 0, 5)) := hid (by have := hall.out; rw [List.take_length] at this; rw [hR.out, this])
        go_wp2
        refine bodyPost_ret (v := .tuple #[.slice none 0 0, .int .i64 0, .int .i64 5]) (by first | (simp [results, Try.results27, go_sem]; done) | (simp [results, Try.results27, go_sem, *]; done) | (simp [results, Try.results27, go_sem, World.cell?_setCell_same', *]; done) | (simp [results, Try.results27, go_sem]; first | exact ⟨rfl, rfl⟩ | rfl)) rfl ⟨none, 0, 0, by rw [hR2.out]; rfl, by rw [hR2.out]; exact Sl.none_, hbel⟩
  · have hc0 : checkPlan P M pl ≠ 0 := by simpa using hc
    have hR : Hid (covR P M pl = ([], 0, checkPlan P M pl)) := hid (if_pos hc0)
    have hcc := hc
    clear hc hc0
    go_enter Try.func27, Try.ntmps27
    go_wp2_with (fail)
    refine (refCheckPlan_any A n c pl P M _ (HP.out.below (by repeat' (first | with_reducible assumption | with_reducible exact Below.refl _ _ | refine Below.alloc ?_ ?_ _ | refine Below.setCell ?_ ?_ _ | refine Below.drew ?_ | refine below_drewN ?_ _ | (simp; done) | (simp; omega) | omega)) (by first | (simp; done) | (simp; omega) | omega)) hn hw).mono ?_
    rintro e W1 ⟨rfl, hb⟩
    have hst : Below W0.heap.size W0 W1 := Below.trans (by repeat' (first | with_reducible assumption | with_reducible exact Below.refl _ _ | refine Below.alloc ?_ ?_ _ | refine Below.setCell ?_ ?_ _ | refine Below.drew ?_ | refine below_drewN ?_ _ | (simp; done) | (simp; omega) | omega)) (hb.mono (by first | (simp; done) | (simp; omega) | omega))
    replace hbel := hbel.trans (hst.mono hsz)
    replace hsz := hbel.size
    replace bB := bB.below hst bB.lt
    clear p0 p1 lB
    have p0 := bB.cell 0
    have p1 := bB.cell 1
    have lB := bB.lt
    try clear hWb
    replace HP := hid (HP.out.below hst hst.size)
    clear hb hst
    obtain ⟨W0, rfl⟩ : ∃ W0 : World, W0 = W1 := ⟨_, rfl⟩
    go_wp2_with (fail)
    refine (refCheckPlan_any A n c pl P M _ (HP.out.below (by repeat' (first | with_reducible assumption | with_reducible exact Below.refl _ _ | refine Below.alloc ?_ ?_ _ | refine Below.setCell ?_ ?_ _ | refine Below.drew ?_ | refine below_drewN ?_ _ | (simp; done) | (simp; omega) | omega)) (by first | (simp; done) | (simp; omega) | omega)) hn hw).mono ?_
    rintro e W1 ⟨rfl, hb⟩
    have hst : Below W0.heap.size W0 W1 := Below.trans (by repeat' (first | with_reducible assumption | with_reducible exact Below.refl _ _ | refine Below.alloc ?_ ?_ _ | refine Below.setCell ?_ ?_ _ | refine Below.drew ?_ | refine below_drewN ?_ _ | (simp; done) | (simp; omega) | omega)) (hb.mono (by first | (simp; done) | (simp; omega) | omega))
    replace hbel := hbel.trans (hst.mono hsz)
    replace hsz := hbel.size
    replace bB := bB.below hst bB.lt
    clear p0 p1 lB
    have p0 := bB.cell 0
    have p1 := bB.cell 1
    have lB := bB.lt
    try clear hWb
    replace HP := hid (HP.out.below hst hst.size)
    clear hb hst
    obtain ⟨W0, rfl⟩ : ∃ W0 : World, W0 = W1 := ⟨_, rfl⟩
    go_wp2
    refine bodyPost_ret (v := .tuple #[.slice none 0 0, .int .i64 0, .int .i64 (checkPlan P M pl)]) (by first | (simp [results, Try.results27, go_sem]; done) | (simp [results, Try.results27, go_sem, *]; done) | (simp [results, Try.results27, go_sem, World.cell?_setCell_same', *]; done) | (simp [results, Try.results27, go_sem]; first | exact ⟨rfl, rfl⟩ | rfl)) rfl ⟨none, 0, 0, by rw [hR.out]; rfl, by rw [hR.out]; exact Sl.none_, hbel⟩
def plainE (P M : Int) (pl : List (List Int)) : Int := if (covR P M pl).2.2 = 0 then 16 else if (covR P M pl).2.2 = 5 then 0 else (covR P M pl).2.2
set_option maxRecDepth 10000 in
set_option maxHeartbeats 1600000 in
theorem refCheckPlain_any (A : Option Addr) (n c : Nat) (pl : List (List Int)) (P M : Int) (w : World) (hp : LiS w w.heap.size A n pl) (hn : n ≤ 12) (hw : ∀ l ∈ pl, l.length ≤ 12) :
    Calls Try.prog 31 #[.agg #[.int .i64 P, .int .i64 M], .slice A n c] w fun e w' => e = .returned (.int .i64 (plainE P M pl)) ∧ Below w.heap.size w w' := by
  obtain ⟨W0, hWb⟩ : ∃ W0, w.alloc (.cells #[.int .i64 P, .int .i64 M] 23) = W0 := ⟨_, rfl⟩
  have bB : Blk W0 w.heap.size 23 #[.int .i64 P, .int .i64 M] := by rw [← hWb]; exact Blk.new' rfl
  have hbel : Below w.heap.size w W0 := by rw [← hWb]; exact (Below.refl _ _).alloc (Nat.le_refl _) _
  have hsz := hbel.size
  have lB := bB.lt
  have p0 := bB.cell 0
  have p1 := bB.cell 1
  have HP := hid (hp.below hbel hsz)
  clear hp
  obtain ⟨cv, hcv⟩ : ∃ cv, covR P M pl = cv := ⟨_, rfl⟩
  obtain ⟨cc, cp, ce⟩ := cv
  have hE : Hid (plainE P M pl = if ce = 0 then 16 else if ce = 5 then 0 else ce) := hid (by unfold plainE; rw [hcv])
  have Hcv := hid hcv
  clear hcv
  by_cases h0 : ce = 0
  · subst h0
    have hE2 := hid (hE.out.trans (if_pos rfl))
    go_enter Try.func31, Try.ntmps31
    go_wp2_with (fail)
    refine (refCovered_any A n c pl P M _ (HP.out.below (by repeat' (first | with_reducible assumption | with_reducible exact Below.refl _ _ | refine Below.alloc ?_ ?_ _ | refine Below.setCell ?_ ?_ _ | refine Below.drew ?_ | refine below_drewN ?_ _ | (simp; done) | (simp; omega) | omega)) (by first | (simp; done) | (simp; omega) | omega)) hn hw).mono ?_
    rw [Hcv.out]
    rintro e W1 ⟨A1, m1, c1, rfl, hin, hb⟩
    clear hin
    have hst : Below W0.heap.size W0 W1 := Below.trans (by repeat' (first | with_reducible assumption | with_reducible exact Below.refl _ _ | refine Below.alloc ?_ ?_ _ | refine Below.setCell ?_ ?_ _ | refine Below.drew ?_ | refine below_drewN ?_ _ | (simp; done) | (simp; omega) | omega)) (hb.mono (by first | (simp; done) | (simp; omega) | omega))
    replace hbel := hbel.trans (hst.mono hsz)
    replace hsz := hbel.size
    replace bB := bB.below hst bB.lt
    clear p0 p1 lB
    have p0 := bB.cell 0
    have p1 := bB.cell 1
    have lB := bB.lt
    try clear hWb
    replace HP := hid (HP.out.below hst hst.size)
    clear hb hst
    obtain ⟨W0, rfl⟩ : ∃ W0 : World, W0 = W1 := ⟨_, rfl⟩
    go_wp2
    refine bodyPost_ret (v := .int .i64 16) (by first | (simp [results, Try.results31, go_sem]; done) | (simp [results, Try.results31, go_sem, *]; done) | (simp [results, Try.results31, go_sem, World.cell?_setCell_same', *]; done) | (simp [results, Try.results31, go_sem]; first | exact ⟨rfl, rfl⟩ | rfl)) rfl ⟨by rw [hE2.out], hbel⟩
  · by_cases h5 : ce = 5
    · subst h5
      have hE2 : Hid (plainE P M pl = 0) := hid (by rw [hE.out]; decide)
      go_enter Try.func31, Try.ntmps31
      go_wp2_with (fail)
      refine (refCovered_any A n c pl P M _ (HP.out.below (by repeat' (first | with_reducible assumption | with_reducible exact Below.refl _ _ | refine Below.alloc ?_ ?_ _ | refine Below.setCell ?_ ?_ _ | refine Below.drew ?_ | refine below_drewN ?_ _ | (simp; done) | (simp; omega) | omega)) (by first | (simp; done) | (simp; omega) | omega)) hn hw).mono ?_
      rw [Hcv.out]
      rintro e W1 ⟨A1, m1, c1, rfl, hin, hb⟩
      clear hin
      have hst : Below W0.heap.size W0 W1 := Below.trans (by repeat' (first | with_reducible assumption | with_reducible exact Below.refl _ _ | refine Below.alloc ?_ ?_ _ | refine Below.setCell ?_ ?_ _ | refine Below.drew ?_ | refine below_drewN ?_ _ | (simp; done) | (simp; omega) | omega)) (hb.mono (by first | (simp; done) | (simp; omega) | omega))
      replace hbel := hbel.trans (hst.mono hsz)
      replace hsz := hbel.size
      replace bB := bB.below hst bB.lt
      clear p0 p1 lB
      have p0 := bB.cell 0
      have p1 := bB.cell 1
      have lB := bB.lt
      try clear hWb
      replace HP := hid (HP.out.below hst hst.size)
      clear hb hst
      obtain ⟨W0, rfl⟩ : ∃ W0 : World, W0 = W1 := ⟨_, rfl⟩
      go_wp2
      refine bodyPost_ret (v := .int .i64 0) (by first | (simp [results, Try.results31, go_sem]; done) | (simp [results, Try.results31, go_sem, *]; done) | (simp [results, Try.results31, go_sem, World.cell?_setCell_same', *]; done) | (simp [results, Try.results31, go_sem]; first | exact ⟨rfl, rfl⟩ | rfl)) rfl ⟨by rw [hE2.out], hbel⟩
    · have hE2 : Hid (plainE P M pl = ce) := hid (by rw [hE.out, if_neg h0, if_neg h5])
      have d0 : (ce == 0) = false := by simp [h0]
      have d5 : (ce == 5) = false := by simp [h5]
      go_enter Try.func31, Try.ntmps31
      go_wp2_with (fail)
      refine (refCovered_any A n c pl P M _ (HP.out.below (by repeat' (first | with_reducible assumption | with_reducible exact Below.refl _ _ | refine Below.alloc ?_ ?_ _ | refine Below.setCell ?_ ?_ _ | refine Below.drew ?_ | refine below_drewN ?_ _ | (simp; done) | (simp; omega) | omega)) (by first | (simp; done) | (simp; omega) | omega)) hn hw).mono ?_
      rw [Hcv.out]
      rintro e W1 ⟨A1, m1, c1, rfl, hin, hb⟩
      clear hin
      have hst : Below W0.heap.size W0 W1 := Below.trans (by repeat' (first | with_reducible assumption | with_reducible exact Below.refl _ _ | refine Below.alloc ?_ ?_ _ | refine Below.setCell ?_ ?_ _ | refine Below.drew ?_ | refine below_drewN ?_ _ | (simp; done) | (simp; omega) | omega)) (hb.mono (by first | (simp; done) | (simp; omega) | omega))
      replace hbel := hbel.trans (hst.mono hsz)
      replace hsz := hbel.size
      replace bB := bB.below hst bB.lt
      clear p0 p1 lB
      have p0 := bB.cell 0
      have p1 := bB.cell 1
      have lB := bB.lt
      try clear hWb
      replace HP := hid (HP.out.below hst hst.size)
      clear hb hst
      obtain ⟨W0, rfl⟩ : ∃ W0 : World, W0 = W1 := ⟨_, rfl⟩
      go_wp2
      refine bodyPost_ret (v := .int .i64 ce) (by first | (simp [results, Try.results31, go_sem]; done) | (simp [results, Try.results31, go_sem, *]; done) | (simp [results, Try.results31, go_sem, World.cell?_setCell_same', *]; done) | (simp [results, Try.results31, go_sem]; first | exact ⟨rfl, rfl⟩ | rfl)) rfl ⟨by rw [hE2.out], hbel⟩
end Go.Proofs.Ytpgdfipikfbjeaa
/- Walks: the reference's leftError, NextError. -/
namespace Go.Proofs.Ytpgdfipikfbjeaa
open Go.RowKit
attribute [local go_sem] Oper.semAt_some
def leftE (P M : Int) (pl : List (List Int)) (r : List Int) : Int := if errR P M pl r ≠ 0 then errR P M pl r else if 5 < P then 6 else if (toldL P.toNat M.toNat pl r).length = 0 then 23 else 0
theorem leftE_zero {P M : Int} {pl : List (List Int)} {r : List Int} (h : leftE P M pl r = 0) : errR P M pl r = 0 ∧ P ≤ 5 ∧ (toldL P.toNat M.toNat pl r).length ≠ 0 := by
  unfold leftE at h
  split at h
  · exact absurd h (by assumption)
  · rename_i h1
    split at h
    · exact absurd h (by decide)
    · split at h
      · exact absurd h (by decide)
      · exact ⟨by omega, by omega, by assumption⟩
set_option maxRecDepth 10000 in
set_option maxHeartbeats 1600000 in
theorem leftErr_any (A B : Option Addr) (n c m d : Nat) (pl : List (List Int)) (r : List Int) (P M : Int) (w : World) (hp : LiS w w.heap.size A n pl) (hb : InS w w.heap.size B m r) (hn : n ≤ 12) (hw : ∀ l ∈ pl, l.length ≤ 12) :
    Calls Try.prog 79 #[.agg #[.int .i64 P, .int .i64 M], .slice A n c, .slice B m d] w fun e w' => e = .returned (.int .i64 (leftE P M pl r)) ∧ Below w.heap.size w w' := by
  obtain ⟨W0, hWb⟩ : ∃ W0, w.alloc (.cells #[.int .i64 P, .int .i64 M] 23) = W0 := ⟨_, rfl⟩
  have bB : Blk W0 w.heap.size 23 #[.int .i64 P, .int .i64 M] := by rw [← hWb]; exact Blk.new' rfl
  have hbel : Below w.heap.size w W0 := by rw [← hWb]; exact (Below.refl _ _).alloc (Nat.le_refl _) _
  have hsz := hbel.size
  have lB := bB.lt
  have p0 := bB.cell 0
  have p1 := bB.cell 1
  have HP := hid (hp.below hbel hsz)
  clear hp
  have HB := hid (hb.below hbel hsz)
  clear hb
  cases hc : (errR P M pl r != 0)
  · have hc0 : errR P M pl r = 0 := by simpa using hc
    obtain ⟨g1, g2, g3⟩ := plan_good (errR_zero hc0).1
    obtain ⟨g4, g5, g6, g7⟩ := book_good g1
    have Hc := hid hc0
    have hE : Hid (leftE P M pl r = if 5 < P then 6 else if (toldL P.toNat M.toNat pl r).length = 0 then 23 else 0) := hid (if_neg (by omega))
    clear hc hc0
    by_cases h5 : 5 < P
    · have hE2 := hid (hE.out.trans (if_pos h5))
      go_enter Try.func79, Try.ntmps79
      go_wp2_with (fail)
      refine (resErr_any A B n c m d pl r _ _ _ (HP.out.below (by repeat' (first | with_reducible assumption | with_reducible exact Below.refl _ _ | refine Below.alloc ?_ ?_ _ | refine Below.setCell ?_ ?_ _ | refine Below.drew ?_ | refine below_drewN ?_ _ | (simp; done) | (simp; omega) | omega)) (by first | (simp; done) | (simp; omega) | omega)) (HB.out.below (by repeat' (first | with_reducible assumption | with_reducible exact Below.refl _ _ | refine Below.alloc ?_ ?_ _ | refine Below.setCell ?_ ?_ _ | refine Below.drew ?_ | refine below_drewN ?_ _ | (simp; done) | (simp; omega) | omega)) (by first | (simp; done) | (simp; omega) | omega)) hn hw).mono ?_
      rw [Hc.out]
      rintro e W1 ⟨rfl, hb⟩
      have hst : Below W0.heap.size W0 W1 := Below.trans (by repeat' (first | with_reducible assumption | with_reducible exact Below.refl _ _ | refine Below.alloc ?_ ?_ _ | refine Below.setCell ?_ ?_ _ | refine Below.drew ?_ | refine below_drewN ?_ _ | (simp; done) | (simp; omega) | omega)) (hb.mono (by first | (simp; done) | (simp; omega) | omega))
      replace hbel := hbel.trans (hst.mono hsz)
      replace hsz := hbel.size
      replace bB := bB.below hst bB.lt
      clear p0 p1 lB
      have p0 := bB.cell 0
      have p1 := bB.cell 1
      have lB := bB.lt
      try clear hWb
      replace HP := hid (HP.out.below hst hst.size)
      replace HB := hid (HB.out.below hst hst.size)
      clear hb hst
      obtain ⟨W0, rfl⟩ : ∃ W0 : World, W0 = W1 := ⟨_, rfl⟩
      go_wp2
      refine bodyPost_ret (v := .int .i64 6) (by first | (simp [results, Try.results79, go_sem]; done) | (simp [results, Try.results79, go_sem, *]; done) | (simp [results, Try.results79, go_sem, World.cell?_setCell_same', *]; done) | (simp [results, Try.results79, go_sem]; first | exact ⟨rfl, rfl⟩ | rfl)) rfl ⟨by rw [hE2.out], hbel⟩
    · have hE1 := hid (hE.out.trans (if_neg h5))
      obtain ⟨Pn, rfl⟩ : ∃ Pn : Nat, P = Pn := ⟨P.toNat, by omega⟩
      obtain ⟨Mn, rfl⟩ : ∃ Mn : Nat, M = Mn := ⟨M.toNat, by omega⟩
      rw [Int.toNat_natCast, Int.toNat_natCast] at hE1
      obtain ⟨TL, hTL⟩ : ∃ TL, toldL Pn Mn pl r = TL := ⟨_, rfl⟩
      rw [hTL] at hE1
      have HTL := hid hTL
      clear hTL
      by_cases h0 : TL.length = 0
      · have hE2 := hid (hE1.out.trans (if_pos h0))
        have d1 : TL = [] := List.eq_nil_of_length_eq_zero h0
        have d0 : ((TL.length : Int) == 0) = true := by rw [h0]; rfl
        go_enter Try.func79, Try.ntmps79
        go_wp2_with (fail)
        refine (resErr_any A B n c m d pl r _ _ _ (HP.out.below (by repeat' (first | with_reducible assumption | with_reducible exact Below.refl _ _ | refine Below.alloc ?_ ?_ _ | refine Below.setCell ?_ ?_ _ | refine Below.drew ?_ | refine below_drewN ?_ _ | (simp; done) | (simp; omega) | omega)) (by first | (simp; done) | (simp; omega) | omega)) (HB.out.below (by repeat' (first | with_reducible assumption | with_reducible exact Below.refl _ _ | refine Below.alloc ?_ ?_ _ | refine Below.setCell ?_ ?_ _ | refine Below.drew ?_ | refine below_drewN ?_ _ | (simp; done) | (simp; omega) | omega)) (by first | (simp; done) | (simp; omega) | omega)) hn hw).mono ?_
        rw [Hc.out]
        rintro e W1 ⟨rfl, hb⟩
        have hst : Below W0.heap.size W0 W1 := Below.trans (by repeat' (first | with_reducible assumption | with_reducible exact Below.refl _ _ | refine Below.alloc ?_ ?_ _ | refine Below.setCell ?_ ?_ _ | refine Below.drew ?_ | refine below_drewN ?_ _ | (simp; done) | (simp; omega) | omega)) (hb.mono (by first | (simp; done) | (simp; omega) | omega))
        replace hbel := hbel.trans (hst.mono hsz)
        replace hsz := hbel.size
        replace bB := bB.below hst bB.lt
        clear p0 p1 lB
        have p0 := bB.cell 0
        have p1 := bB.cell 1
        have lB := bB.lt
        try clear hWb
        replace HP := hid (HP.out.below hst hst.size)
        replace HB := hid (HB.out.below hst hst.size)
        clear hb hst
        obtain ⟨W0, rfl⟩ : ∃ W0 : World, W0 = W1 := ⟨_, rfl⟩
        go_wp2_with (fail)
        refine (toldOf_any A B n c m d pl r Pn Mn _ (by omega) (by omega) (HP.out.below (by repeat' (first | with_reducible assumption | with_reducible exact Below.refl _ _ | refine Below.alloc ?_ ?_ _ | refine Below.setCell ?_ ?_ _ | refine Below.drew ?_ | refine below_drewN ?_ _ | (simp; done) | (simp; omega) | omega)) (by first | (simp; done) | (simp; omega) | omega)) (HB.out.below (by repeat' (first | with_reducible assumption | with_reducible exact Below.refl _ _ | refine Below.alloc ?_ ?_ _ | refine Below.setCell ?_ ?_ _ | refine Below.drew ?_ | refine below_drewN ?_ _ | (simp; done) | (simp; omega) | omega)) (by first | (simp; done) | (simp; omega) | omega)) hn hw).mono ?_
        rw [HTL.out]
        rintro e W1 ⟨v1, rfl, hn1, hb⟩
        have hnn := hid (NewLi.mono hn1 hsz)
        clear hn1
        obtain ⟨A1, c1, hv1, -, -⟩ := hnn.out.lis
        subst hv1
        have hst : Below W0.heap.size W0 W1 := Below.trans (by repeat' (first | with_reducible assumption | with_reducible exact Below.refl _ _ | refine Below.alloc ?_ ?_ _ | refine Below.setCell ?_ ?_ _ | refine Below.drew ?_ | refine below_drewN ?_ _ | (simp; done) | (simp; omega) | omega)) (hb.mono (by first | (simp; done) | (simp; omega) | omega))
        replace hbel := hbel.trans (hst.mono hsz)
        replace hsz := hbel.size
        replace bB := bB.below hst bB.lt
        clear p0 p1 lB
        have p0 := bB.cell 0
        have p1 := bB.cell 1
        have lB := bB.lt
        try clear hWb
        replace HP := hid (HP.out.below hst hst.size)
        replace HB := hid (HB.out.below hst hst.size)
        clear hb hst
        obtain ⟨W0, rfl⟩ : ∃ W0 : World, W0 = W1 := ⟨_, rfl⟩
        go_wp2
        refine bodyPost_ret (v := .int .i64 23) (by first | (simp [results, Try.results79, go_sem]; done) | (simp [results, Try.results79, go_sem, *]; done) | (simp [results, Try.results79, go_sem, World.cell?_setCell_same', *]; done) | (simp [results, Try.results79, go_sem]; first | exact ⟨rfl, rfl⟩ | rfl)) rfl ⟨by rw [hE2.out], hbel⟩
      · have hE2 := hid (hE1.out.trans (if_neg h0))
        have d0 : ((TL.length : Int) == 0) = false := by simp; intro e; rw [e] at h0; exact h0 rfl
        have d1 : ¬ TL = [] := by intro e; rw [e] at h0; exact h0 rfl
        go_enter Try.func79, Try.ntmps79
        go_wp2_with (fail)
        refine (resErr_any A B n c m d pl r _ _ _ (HP.out.below (by repeat' (first | with_reducible assumption | with_reducible exact Below.refl _ _ | refine Below.alloc ?_ ?_ _ | refine Below.setCell ?_ ?_ _ | refine Below.drew ?_ | refine below_drewN ?_ _ | (simp; done) | (simp; omega) | omega)) (by first | (simp; done) | (simp; omega) | omega)) (HB.out.below (by repeat' (first | with_reducible assumption | with_reducible exact Below.refl _ _ | refine Below.alloc ?_ ?_ _ | refine Below.setCell ?_ ?_ _ | refine Below.drew ?_ | refine below_drewN ?_ _ | (simp; done) | (simp; omega) | omega)) (by first | (simp; done) | (simp; omega) | omega)) hn hw).mono ?_
        rw [Hc.out]
        rintro e W1 ⟨rfl, hb⟩
        have hst : Below W0.heap.size W0 W1 := Below.trans (by repeat' (first | with_reducible assumption | with_reducible exact Below.refl _ _ | refine Below.alloc ?_ ?_ _ | refine Below.setCell ?_ ?_ _ | refine Below.drew ?_ | refine below_drewN ?_ _ | (simp; done) | (simp; omega) | omega)) (hb.mono (by first | (simp; done) | (simp; omega) | omega))
        replace hbel := hbel.trans (hst.mono hsz)
        replace hsz := hbel.size
        replace bB := bB.below hst bB.lt
        clear p0 p1 lB
        have p0 := bB.cell 0
        have p1 := bB.cell 1
        have lB := bB.lt
        try clear hWb
        replace HP := hid (HP.out.below hst hst.size)
        replace HB := hid (HB.out.below hst hst.size)
        clear hb hst
        obtain ⟨W0, rfl⟩ : ∃ W0 : World, W0 = W1 := ⟨_, rfl⟩
        go_wp2_with (fail)
        refine (toldOf_any A B n c m d pl r Pn Mn _ (by omega) (by omega) (HP.out.below (by repeat' (first | with_reducible assumption | with_reducible exact Below.refl _ _ | refine Below.alloc ?_ ?_ _ | refine Below.setCell ?_ ?_ _ | refine Below.drew ?_ | refine below_drewN ?_ _ | (simp; done) | (simp; omega) | omega)) (by first | (simp; done) | (simp; omega) | omega)) (HB.out.below (by repeat' (first | with_reducible assumption | with_reducible exact Below.refl _ _ | refine Below.alloc ?_ ?_ _ | refine Below.setCell ?_ ?_ _ | refine Below.drew ?_ | refine below_drewN ?_ _ | (simp; done) | (simp; omega) | omega)) (by first | (simp; done) | (simp; omega) | omega)) hn hw).mono ?_
        rw [HTL.out]
        rintro e W1 ⟨v1, rfl, hn1, hb⟩
        have hnn := hid (NewLi.mono hn1 hsz)
        clear hn1
        obtain ⟨A1, c1, hv1, -, -⟩ := hnn.out.lis
        subst hv1
        have hst : Below W0.heap.size W0 W1 := Below.trans (by repeat' (first | with_reducible assumption | with_reducible exact Below.refl _ _ | refine Below.alloc ?_ ?_ _ | refine Below.setCell ?_ ?_ _ | refine Below.drew ?_ | refine below_drewN ?_ _ | (simp; done) | (simp; omega) | omega)) (hb.mono (by first | (simp; done) | (simp; omega) | omega))
        replace hbel := hbel.trans (hst.mono hsz)
        replace hsz := hbel.size
        replace bB := bB.below hst bB.lt
        clear p0 p1 lB
        have p0 := bB.cell 0
        have p1 := bB.cell 1
        have lB := bB.lt
        try clear hWb
        replace HP := hid (HP.out.below hst hst.size)
        replace HB := hid (HB.out.below hst hst.size)
        clear hb hst
        obtain ⟨W0, rfl⟩ : ∃ W0 : World, W0 = W1 := ⟨_, rfl⟩
        go_wp2
        refine bodyPost_ret (v := .int .i64 0) (by first | (simp [results, Try.results79, go_sem]; done) | (simp [results, Try.results79, go_sem, *]; done) | (simp [results, Try.results79, go_sem, World.cell?_setCell_same', *]; done) | (simp [results, Try.results79, go_sem]; first | exact ⟨rfl, rfl⟩ | rfl)) rfl ⟨by rw [hE2.out], hbel⟩
  · have hc0 : errR P M pl r ≠ 0 := by simpa using hc
    have hE : Hid (leftE P M pl r = errR P M pl r) := hid (if_pos hc0)
    have Hc := hid hc
    have hcc := hc
    clear hc0 hc
    go_enter Try.func79, Try.ntmps79
    go_wp2_with (fail)
    refine (resErr_any A B n c m d pl r _ _ _ (HP.out.below (by repeat' (first | with_reducible assumption | with_reducible exact Below.refl _ _ | refine Below.alloc ?_ ?_ _ | refine Below.setCell ?_ ?_ _ | refine Below.drew ?_ | refine below_drewN ?_ _ | (simp; done) | (simp; omega) | omega)) (by first | (simp; done) | (simp; omega) | omega)) (HB.out.below (by repeat' (first | with_reducible assumption | with_reducible exact Below.refl _ _ | refine Below.alloc ?_ ?_ _ | refine Below.setCell ?_ ?_ _ | refine Below.drew ?_ | refine below_drewN ?_ _ | (simp; done) | (simp; omega) | omega)) (by first | (simp; done) | (simp; omega) | omega)) hn hw).mono ?_
    rintro e W1 ⟨rfl, hb⟩
    have hst : Below W0.heap.size W0 W1 := Below.trans (by repeat' (first | with_reducible assumption | with_reducible exact Below.refl _ _ | refine Below.alloc ?_ ?_ _ | refine Below.setCell ?_ ?_ _ | refine Below.drew ?_ | refine below_drewN ?_ _ | (simp; done) | (simp; omega) | omega)) (hb.mono (by first | (simp; done) | (simp; omega) | omega))
    replace hbel := hbel.trans (hst.mono hsz)
    replace hsz := hbel.size
    replace bB := bB.below hst bB.lt
    clear p0 p1 lB
    have p0 := bB.cell 0
    have p1 := bB.cell 1
    have lB := bB.lt
    try clear hWb
    replace HP := hid (HP.out.below hst hst.size)
    replace HB := hid (HB.out.below hst hst.size)
    clear hb hst
    obtain ⟨W0, rfl⟩ : ∃ W0 : World, W0 = W1 := ⟨_, rfl⟩
    go_wp2_with (fail)
    refine (resErr_any A B n c m d pl r _ _ _ (HP.out.below (by repeat' (first | with_reducible assumption | with_reducible exact Below.refl _ _ | refine Below.alloc ?_ ?_ _ | refine Below.setCell ?_ ?_ _ | refine Below.drew ?_ | refine below_drewN ?_ _ | (simp; done) | (simp; omega) | omega)) (by first | (simp; done) | (simp; omega) | omega)) (HB.out.below (by repeat' (first | with_reducible assumption | with_reducible exact Below.refl _ _ | refine Below.alloc ?_ ?_ _ | refine Below.setCell ?_ ?_ _ | refine Below.drew ?_ | refine below_drewN ?_ _ | (simp; done) | (simp; omega) | omega)) (by first | (simp; done) | (simp; omega) | omega)) hn hw).mono ?_
    rintro e W1 ⟨rfl, hb⟩
    have hst : Below W0.heap.size W0 W1 := Below.trans (by repeat' (first | with_reducible assumption | with_reducible exact Below.refl _ _ | refine Below.alloc ?_ ?_ _ | refine Below.setCell ?_ ?_ _ | refine Below.drew ?_ | refine below_drewN ?_ _ | (simp; done) | (simp; omega) | omega)) (hb.mono (by first | (simp; done) | (simp; omega) | omega))
    replace hbel := hbel.trans (hst.mono hsz)
    replace hsz := hbel.size
    replace bB := bB.below hst bB.lt
    clear p0 p1 lB
    have p0 := bB.cell 0
    have p1 := bB.cell 1
    have lB := bB.lt
    try clear hWb
    replace HP := hid (HP.out.below hst hst.size)
    replace HB := hid (HB.out.below hst hst.size)
    clear hb hst
    obtain ⟨W0, rfl⟩ : ∃ W0 : World, W0 = W1 := ⟨_, rfl⟩
    go_wp2
    refine bodyPost_ret (v := .int .i64 (errR P M pl r)) (by first | (simp [results, Try.results79, go_sem]; done) | (simp [results, Try.results79, go_sem, *]; done) | (simp [results, Try.results79, go_sem, World.cell?_setCell_same', *]; done) | (simp [results, Try.results79, go_sem]; first | exact ⟨rfl, rfl⟩ | rfl)) rfl ⟨by rw [hE.out], hbel⟩
def nextE (P M : Int) (pl : List (List Int)) (r : List Int) : Int := if leftE P M pl r ≠ 0 then leftE P M pl r else if (toldL P.toNat M.toNat pl r).length = 1 then 5 else 0
set_option maxRecDepth 10000 in
set_option maxHeartbeats 1600000 in
theorem nextErr_any (A B : Option Addr) (n c m d : Nat) (pl : List (List Int)) (r : List Int) (P M : Int) (w : World) (hp : LiS w w.heap.size A n pl) (hb : InS w w.heap.size B m r) (hn : n ≤ 12) (hw : ∀ l ∈ pl, l.length ≤ 12) :
    Calls Try.prog 35 #[.agg #[.int .i64 P, .int .i64 M], .slice A n c, .slice B m d] w fun e w' => e = .returned (.int .i64 (nextE P M pl r)) ∧ Below w.heap.size w w' := by
  obtain ⟨W0, hWb⟩ : ∃ W0, w.alloc (.cells #[.int .i64 P, .int .i64 M] 23) = W0 := ⟨_, rfl⟩
  have bB : Blk W0 w.heap.size 23 #[.int .i64 P, .int .i64 M] := by rw [← hWb]; exact Blk.new' rfl
  have hbel : Below w.heap.size w W0 := by rw [← hWb]; exact (Below.refl _ _).alloc (Nat.le_refl _) _
  have hsz := hbel.size
  have lB := bB.lt
  have p0 := bB.cell 0
  have p1 := bB.cell 1
  have HP := hid (hp.below hbel hsz)
  clear hp
  have HB := hid (hb.below hbel hsz)
  clear hb
  cases hc : (leftE P M pl r != 0)
  · have hc0 : leftE P M pl r = 0 := by simpa using hc
    obtain ⟨k1, k2, k3⟩ := leftE_zero hc0
    obtain ⟨g1, g2, g3⟩ := plan_good (errR_zero k1).1
    obtain ⟨g4, g5, g6, g7⟩ := book_good g1
    have Hc := hid hc0
    have hE1 : Hid (nextE P M pl r = if (toldL P.toNat M.toNat pl r).length = 1 then 5 else 0) := hid (if_neg (by omega))
    clear hc hc0 k1 k3
    obtain ⟨Pn, rfl⟩ : ∃ Pn : Nat, P = Pn := ⟨P.toNat, by omega⟩
    obtain ⟨Mn, rfl⟩ : ∃ Mn : Nat, M = Mn := ⟨M.toNat, by omega⟩
    rw [Int.toNat_natCast, Int.toNat_natCast] at hE1
    obtain ⟨TL, hTL⟩ : ∃ TL, toldL Pn Mn pl r = TL := ⟨_, rfl⟩
    rw [hTL] at hE1
    have HTL := hid hTL
    clear hTL
    obtain ⟨tn, htn⟩ : ∃ tn : Nat, TL.length = tn := ⟨_, rfl⟩
    by_cases h0 : TL.length = 1
    · have hE2 := hid (hE1.out.trans (if_pos h0))
      have d0 : ((TL.length : Int) == 1) = true := by rw [h0]; rfl
      clear htn
      go_enter Try.func35, Try.ntmps35
      go_wp2_with (fail)
      refine (leftErr_any A B n c m d pl r _ _ _ (HP.out.below (by repeat' (first | with_reducible assumption | with_reducible exact Below.refl _ _ | refine Below.alloc ?_ ?_ _ | refine Below.setCell ?_ ?_ _ | refine Below.drew ?_ | refine below_drewN ?_ _ | (simp; done) | (simp; omega) | omega)) (by first | (simp; done) | (simp; omega) | omega)) (HB.out.below (by repeat' (first | with_reducible assumption | with_reducible exact Below.refl _ _ | refine Below.alloc ?_ ?_ _ | refine Below.setCell ?_ ?_ _ | refine Below.drew ?_ | refine below_drewN ?_ _ | (simp; done) | (simp; omega) | omega)) (by first | (simp; done) | (simp; omega) | omega)) hn hw).mono ?_
      rw [Hc.out]
      rintro e W1 ⟨rfl, hb⟩
      have hst : Below W0.heap.size W0 W1 := Below.trans (by repeat' (first | with_reducible assumption | with_reducible exact Below.refl _ _ | refine Below.alloc ?_ ?_ _ | refine Below.setCell ?_ ?_ _ | refine Below.drew ?_ | refine below_drewN ?_ _ | (simp; done) | (simp; omega) | omega)) (hb.mono (by first | (simp; done) | (simp; omega) | omega))
      replace hbel := hbel.trans (hst.mono hsz)
      replace hsz := hbel.size
      replace bB := bB.below hst bB.lt
      clear p0 p1 lB
      have p0 := bB.cell 0
      have p1 := bB.cell 1
      have lB := bB.lt
      try clear hWb
      replace HP := hid (HP.out.below hst hst.size)
      replace HB := hid (HB.out.below hst hst.size)
      clear hb hst
      obtain ⟨W0, rfl⟩ : ∃ W0 : World, W0 = W1 := ⟨_, rfl⟩
      go_wp2_with (fail)
      refine (toldOf_any A B n c m d pl r Pn Mn _ (by omega) (by omega) (HP.out.below (by repeat' (first | with_reducible assumption | with_reducible exact Below.refl _ _ | refine Below.alloc ?_ ?_ _ | refine Below.setCell ?_ ?_ _ | refine Below.drew ?_ | refine below_drewN ?_ _ | (simp; done) | (simp; omega) | omega)) (by first | (simp; done) | (simp; omega) | omega)) (HB.out.below (by repeat' (first | with_reducible assumption | with_reducible exact Below.refl _ _ | refine Below.alloc ?_ ?_ _ | refine Below.setCell ?_ ?_ _ | refine Below.drew ?_ | refine below_drewN ?_ _ | (simp; done) | (simp; omega) | omega)) (by first | (simp; done) | (simp; omega) | omega)) hn hw).mono ?_
      rw [HTL.out]
      rintro e W1 ⟨v1, rfl, hn1, hb⟩
      have hnn := hid (NewLi.mono hn1 hsz)
      clear hn1
      obtain ⟨A1, c1, hv1, -, -⟩ := hnn.out.lis
      subst hv1
      have hst : Below W0.heap.size W0 W1 := Below.trans (by repeat' (first | with_reducible assumption | with_reducible exact Below.refl _ _ | refine Below.alloc ?_ ?_ _ | refine Below.setCell ?_ ?_ _ | refine Below.drew ?_ | refine below_drewN ?_ _ | (simp; done) | (simp; omega) | omega)) (hb.mono (by first | (simp; done) | (simp; omega) | omega))
      replace hbel := hbel.trans (hst.mono hsz)
      replace hsz := hbel.size
      replace bB := bB.below hst bB.lt
      clear p0 p1 lB
      have p0 := bB.cell 0
      have p1 := bB.cell 1
      have lB := bB.lt
      try clear hWb
      replace HP := hid (HP.out.below hst hst.size)
      replace HB := hid (HB.out.below hst hst.size)
      clear hb hst
      obtain ⟨W0, rfl⟩ : ∃ W0 : World, W0 = W1 := ⟨_, rfl⟩
      go_wp2
      refine bodyPost_ret (v := .int .i64 5) (by first | (simp [results, Try.results35, go_sem]; done) | (simp [results, Try.results35, go_sem, *]; done) | (simp [results, Try.results35, go_sem, World.cell?_setCell_same', *]; done) | (simp [results, Try.results35, go_sem]; first | exact ⟨rfl, rfl⟩ | rfl)) rfl ⟨by rw [hE2.out], hbel⟩
    · have hE2 := hid (hE1.out.trans (if_neg h0))
      have d0 : ((TL.length : Int) == 1) = false := by simp; omega
      have d1 : ¬ (TL.length : Int) = 1 := by omega
      clear htn
      go_enter Try.func35, Try.ntmps35
      go_wp2_with (fail)
      refine (leftErr_any A B n c m d pl r _ _ _ (HP.out.below (by repeat' (first | with_reducible assumption | with_reducible exact Below.refl _ _ | refine Below.alloc ?_ ?_ _ | refine Below.setCell ?_ ?_ _ | refine Below.drew ?_ | refine below_drewN ?_ _ | (simp; done) | (simp; omega) | omega)) (by first | (simp; done) | (simp; omega) | omega)) (HB.out.below (by repeat' (first | with_reducible assumption | with_reducible exact Below.refl _ _ | refine Below.alloc ?_ ?_ _ | refine Below.setCell ?_ ?_ _ | refine Below.drew ?_ | refine below_drewN ?_ _ | (simp; done) | (simp; omega) | omega)) (by first | (simp; done) | (simp; omega) | omega)) hn hw).mono ?_
      rw [Hc.out]
      rintro e W1 ⟨rfl, hb⟩
      have hst : Below W0.heap.size W0 W1 := Below.trans (by repeat' (first | with_reducible assumption | with_reducible exact Below.refl _ _ | refine Below.alloc ?_ ?_ _ | refine Below.setCell ?_ ?_ _ | refine Below.drew ?_ | refine below_drewN ?_ _ | (simp; done) | (simp; omega) | omega)) (hb.mono (by first | (simp; done) | (simp; omega) | omega))
      replace hbel := hbel.trans (hst.mono hsz)
      replace hsz := hbel.size
      replace bB := bB.below hst bB.lt
      clear p0 p1 lB
      have p0 := bB.cell 0
      have p1 := bB.cell 1
      have lB := bB.lt
      try clear hWb
      replace HP := hid (HP.out.below hst hst.size)
      replace HB := hid (HB.out.below hst hst.size)
      clear hb hst
      obtain ⟨W0, rfl⟩ : ∃ W0 : World, W0 = W1 := ⟨_, rfl⟩
      go_wp2_with (fail)
      refine (toldOf_any A B n c m d pl r Pn Mn _ (by omega) (by omega) (HP.out.below (by repeat' (first | with_reducible assumption | with_reducible exact Below.refl _ _ | refine Below.alloc ?_ ?_ _ | refine Below.setCell ?_ ?_ _ | refine Below.drew ?_ | refine below_drewN ?_ _ | (simp; done) | (simp; omega) | omega)) (by first | (simp; done) | (simp; omega) | omega)) (HB.out.below (by repeat' (first | with_reducible assumption | with_reducible exact Below.refl _ _ | refine Below.alloc ?_ ?_ _ | refine Below.setCell ?_ ?_ _ | refine Below.drew ?_ | refine below_drewN ?_ _ | (simp; done) | (simp; omega) | omega)) (by first | (simp; done) | (simp; omega) | omega)) hn hw).mono ?_
      rw [HTL.out]
      rintro e W1 ⟨v1, rfl, hn1, hb⟩
      have hnn := hid (NewLi.mono hn1 hsz)
      clear hn1
      obtain ⟨A1, c1, hv1, -, -⟩ := hnn.out.lis
      subst hv1
      have hst : Below W0.heap.size W0 W1 := Below.trans (by repeat' (first | with_reducible assumption | with_reducible exact Below.refl _ _ | refine Below.alloc ?_ ?_ _ | refine Below.setCell ?_ ?_ _ | refine Below.drew ?_ | refine below_drewN ?_ _ | (simp; done) | (simp; omega) | omega)) (hb.mono (by first | (simp; done) | (simp; omega) | omega))
      replace hbel := hbel.trans (hst.mono hsz)
      replace hsz := hbel.size
      replace bB := bB.below hst bB.lt
      clear p0 p1 lB
      have p0 := bB.cell 0
      have p1 := bB.cell 1
      have lB := bB.lt
      try clear hWb
      replace HP := hid (HP.out.below hst hst.size)
      replace HB := hid (HB.out.below hst hst.size)
      clear hb hst
      obtain ⟨W0, rfl⟩ : ∃ W0 : World, W0 = W1 := ⟨_, rfl⟩
      go_wp2
      refine bodyPost_ret (v := .int .i64 0) (by first | (simp [results, Try.results35, go_sem]; done) | (simp [results, Try.results35, go_sem, *]; done) | (simp [results, Try.results35, go_sem, World.cell?_setCell_same', *]; done) | (simp [results, Try.results35, go_sem]; first | exact ⟨rfl, rfl⟩ | rfl)) rfl ⟨by rw [hE2.out], hbel⟩
  · have hc0 : leftE P M pl r ≠ 0 := by simpa using hc
    have hE : Hid (nextE P M pl r = leftE P M pl r) := hid (if_pos hc0)
    have Hc := hid hc
    have hcc := hc
    clear hc0 hc
    go_enter Try.func35, Try.ntmps35
    go_wp2_with (fail)
    refine (leftErr_any A B n c m d pl r _ _ _ (HP.out.below (by repeat' (first | with_reducible assumption | with_reducible exact Below.refl _ _ | refine Below.alloc ?_ ?_ _ | refine Below.setCell ?_ ?_ _ | refine Below.drew ?_ | refine below_drewN ?_ _ | (simp; done) | (simp; omega) | omega)) (by first | (simp; done) | (simp; omega) | omega)) (HB.out.below (by repeat' (first | with_reducible assumption | with_reducible exact Below.refl _ _ | refine Below.alloc ?_ ?_ _ | refine Below.setCell ?_ ?_ _ | refine Below.drew ?_ | refine below_drewN ?_ _ | (simp; done) | (simp; omega) | omega)) (by first | (simp; done) | (simp; omega) | omega)) hn hw).mono ?_
    rintro e W1 ⟨rfl, hb⟩
    have hst : Below W0.heap.size W0 W1 := Below.trans (by repeat' (first | with_reducible assumption | with_reducible exact Below.refl _ _ | refine Below.alloc ?_ ?_ _ | refine Below.setCell ?_ ?_ _ | refine Below.drew ?_ | refine below_drewN ?_ _ | (simp; done) | (simp; omega) | omega)) (hb.mono (by first | (simp; done) | (simp; omega) | omega))
    replace hbel := hbel.trans (hst.mono hsz)
    replace hsz := hbel.size
    replace bB := bB.below hst bB.lt
    clear p0 p1 lB
    have p0 := bB.cell 0
    have p1 := bB.cell 1
    have lB := bB.lt
    try clear hWb
    replace HP := hid (HP.out.below hst hst.size)
    replace HB := hid (HB.out.below hst hst.size)
    clear hb hst
    obtain ⟨W0, rfl⟩ : ∃ W0 : World, W0 = W1 := ⟨_, rfl⟩
    go_wp2_with (fail)
    refine (leftErr_any A B n c m d pl r _ _ _ (HP.out.below (by repeat' (first | with_reducible assumption | with_reducible exact Below.refl _ _ | refine Below.alloc ?_ ?_ _ | refine Below.setCell ?_ ?_ _ | refine Below.drew ?_ | refine below_drewN ?_ _ | (simp; done) | (simp; omega) | omega)) (by first | (simp; done) | (simp; omega) | omega)) (HB.out.below (by repeat' (first | with_reducible assumption | with_reducible exact Below.refl _ _ | refine Below.alloc ?_ ?_ _ | refine Below.setCell ?_ ?_ _ | refine Below.drew ?_ | refine below_drewN ?_ _ | (simp; done) | (simp; omega) | omega)) (by first | (simp; done) | (simp; omega) | omega)) hn hw).mono ?_
    rintro e W1 ⟨rfl, hb⟩
    have hst : Below W0.heap.size W0 W1 := Below.trans (by repeat' (first | with_reducible assumption | with_reducible exact Below.refl _ _ | refine Below.alloc ?_ ?_ _ | refine Below.setCell ?_ ?_ _ | refine Below.drew ?_ | refine below_drewN ?_ _ | (simp; done) | (simp; omega) | omega)) (hb.mono (by first | (simp; done) | (simp; omega) | omega))
    replace hbel := hbel.trans (hst.mono hsz)
    replace hsz := hbel.size
    replace bB := bB.below hst bB.lt
    clear p0 p1 lB
    have p0 := bB.cell 0
    have p1 := bB.cell 1
    have lB := bB.lt
    try clear hWb
    replace HP := hid (HP.out.below hst hst.size)
    replace HB := hid (HB.out.below hst hst.size)
    clear hb hst
    obtain ⟨W0, rfl⟩ : ∃ W0 : World, W0 = W1 := ⟨_, rfl⟩
    go_wp2
    refine bodyPost_ret (v := .int .i64 (leftE P M pl r)) (by first | (simp [results, Try.results35, go_sem]; done) | (simp [results, Try.results35, go_sem, *]; done) | (simp [results, Try.results35, go_sem, World.cell?_setCell_same', *]; done) | (simp [results, Try.results35, go_sem]; first | exact ⟨rfl, rfl⟩ | rfl)) rfl ⟨by rw [hE.out], hbel⟩
end Go.Proofs.Ytpgdfipikfbjeaa
/- Walks: the reference's SuspectsOf, Suspects. -/
namespace Go.Proofs.Ytpgdfipikfbjeaa
open Go.RowKit
attribute [local go_sem] Oper.semAt_some
def good1 (x : Int) (p : List Int × Int) : Bool := p.2 == 0 && has p.1 x
/-- A plate lies in a row that answered nothing. -/
def goodP (pl : List (List Int)) (r : List Int) (x : Int) : Bool := (pl.zip r).any (good1 x)
def susL (pl : List (List Int)) (r : List Int) (P : Nat) : List Int := ((List.range P).filter fun i : Nat => !goodP pl r (i : Int)).map fun i : Nat => (i : Int)
theorem sus_succ (pl : List (List Int)) (r : List Int) (k : Nat) : susL pl r (k + 1) = susL pl r k ++ (if goodP pl r (k : Int) then [] else [(k : Int)]) := by
  unfold susL
  rw [List.range_succ, List.filter_append, List.map_append]
  cases h : goodP pl r (k : Int) <;> simp [h]
theorem sus_len (pl : List (List Int)) (r : List Int) : ∀ n, (susL pl r n).length ≤ n
  | 0 => by simp [susL]
  | n + 1 => by
    rw [sus_succ, List.length_append]
    have := sus_len pl r n
    split <;> simp <;> omega
theorem any_tsucc {α : Type} {p : α → Bool} {l : List α} {k : Nat} {x : α} (hx : l[k]? = some x) : (l.take (k + 1)).any p = ((l.take k).any p || p x) := by
  rw [List.take_add_one, hx, List.any_append]; simp
set_option maxRecDepth 10000 in
set_option maxHeartbeats 1600000 in
theorem suspectsOf_any (A B : Option Addr) (n c d : Nat) (pl : List (List Int)) (r : List Int) (P M : Nat) (w : World) (hP : P ≤ 8) (hp : LiS w w.heap.size A n pl) (hb : InS w w.heap.size B n r) (hn : n ≤ 12) (hw : ∀ l ∈ pl, l.length ≤ 12) :
    Calls Try.prog 76 #[.agg #[.int .i64 (P : Int), .int .i64 (M : Int)], .slice A n c, .slice B n d] w fun e w' => ∃ v, e = .returned v ∧ w'.ownsRow w.heap.size 3 1 v (susL pl r P).length ((susL pl r P).flatMap cI) ∧ Below w.heap.size w w' := by
  obtain ⟨i0, hi0, hi1, hi2, hi3⟩ := info_parts' info3
  have I0 := hid hi0; have I1 := hid hi1; have I2 := hid hi2; have I3 := hid hi3
  clear hi0 hi1 hi2 hi3
  have hlen := hid hp.1
  have hblen := hid hb.len
  have HW := hid hw
  obtain ⟨W0, hWb⟩ : ∃ W0, w.alloc (.cells #[.int .i64 (P : Int), .int .i64 (M : Int)] 23) = W0 := ⟨_, rfl⟩
  have bB : Blk W0 w.heap.size 23 #[.int .i64 (P : Int), .int .i64 (M : Int)] := by rw [← hWb]; exact Blk.new' rfl
  have hbel : Below w.heap.size w W0 := by rw [← hWb]; exact (Below.refl _ _).alloc (Nat.le_refl _) _
  have hsz := hbel.size
  have lB := bB.lt
  have p0 := bB.cell 0
  have p1 := bB.cell 1
  have HP := hid (hp.below hbel hsz)
  clear hp
  have HB := hid (hb.below hbel hsz)
  clear hb
  have Hbb := hid hbel
  have hz : Hid ((pl.zip r).length = n) := hid (by rw [List.length_zip, hlen.out, hblen.out, Nat.min_self])
  go_enter Try.func76, Try.ntmps76
  clear hw
  go_wp2_with (fail)
  clear hWb p1
  go_loopw [7, 8] (fun v i wr => ∃ k : Nat, k ≤ P ∧ i = .int .i64 k ∧ Below W0.heap.size W0 wr ∧ Hid (wr.ownsRow W0.heap.size 3 1 v (susL pl r k).length ((susL pl r k).flatMap cI))) (fun _ i _ => P - (intOf i).toNat)
  case atStart => exact ⟨0, by omega, rfl, Below.refl _ _, hid (World.ownsRow_nil _ _ _ _)⟩
  case round =>
    obtain ⟨k, hk2, rfl, hbw, hown⟩ := hrel
    have hszw := hbw.size
    have q0 := ((bcell hbw).1 w.heap.size 0 lB).trans p0
    have lw : w.heap.size < wr.heap.size := by omega
    by_cases hlt : k < P
    · have hlti : (k : Int) < P := by omega
      have hll : Hid ((susL pl r k).length ≤ k) := hid (sus_len pl r k)
      have hs := hid (sus_succ pl r k)
      have HPr := hid (HP.out.below hbw hszw)
      have HBr := hid (HB.out.below hbw hszw)
      obtain ⟨wi, hwi⟩ : ∃ wi : World, wr = wi := ⟨_, rfl⟩
      have Hwi := hid hwi
      clear hwi
      go_wp2_with (fail)
      go_loopw [9, 10] (fun g i wq => ∃ j : Nat, j ≤ n ∧ g = .bool (((pl.zip r).take j).any (good1 (k : Int))) ∧ i = .int .i64 j ∧ wq = wr) (fun _ i _ => n - (intOf i).toNat)
      case atStart => exact ⟨0, by omega, rfl, rfl, rfl⟩
      case round =>
        obtain ⟨j, hj2, rfl, rfl, rfl⟩ := hrel
        by_cases hltj : j < n
        · have hltj2 : (j : Int) < n := by omega
          obtain ⟨b, off, x, A', m', c', rfl, hb1, hx, c0, hin⟩ := HPr.out.at_ hltj
          obtain ⟨b2, off2, y, rfl, hb2, hy, c2⟩ := HBr.out.at_ hltj
          have hm' : m' ≤ 1000000 := by have := hin.len; have := HW.out x (List.mem_of_getElem? hx); omega
          have Hin := hid hin
          have hxy : (pl.zip r)[j]? = some (x, y) := by rw [List.getElem?_zip_eq_some]; exact ⟨hx, hy⟩
          have hs2 := hid (any_tsucc (p := good1 (k : Int)) hxy)
          obtain ⟨g, hg⟩ : ∃ g, ((pl.zip r).take j).any (good1 (k : Int)) = g := ⟨_, rfl⟩
          rw [hg] at hs2
          rw [hg]
          clear hin hx hy hxy hg
          cases g
          · by_cases hy0 : y = 0
            · subst hy0
              obtain ⟨bv, hbv⟩ : ∃ bv, has x (k : Int) = bv := ⟨_, rfl⟩
              have Hbv := hid hbv
              have hs3 : Hid (((pl.zip r).take (j + 1)).any (good1 (k : Int)) = bv) := hid (by rw [hs2.out, ← hbv]; rfl)
              clear hbv
              cases bv
              · go_wp2_with (go_at_call 43; refine (has_any A' m' c' x (k : Int) _ Hin.out hm').mono ?_; rw [Hbv.out]; rintro e w1 ⟨rfl, rfl⟩)
                exact ⟨⟨j + 1, by omega, by rw [hs3.out], by go_num, trivial⟩, by simp [intOf]; omega⟩
              · go_wp2_with (go_at_call 43; refine (has_any A' m' c' x (k : Int) _ Hin.out hm').mono ?_; rw [Hbv.out]; rintro e w1 ⟨rfl, rfl⟩)
                exact ⟨⟨j + 1, by omega, by rw [hs3.out], by go_num, trivial⟩, by simp [intOf]; omega⟩
            · have dy : (y == 0) = false := by simp [hy0]
              have hs3 : Hid (((pl.zip r).take (j + 1)).any (good1 (k : Int)) = false) := hid (by rw [hs2.out]; unfold good1; simp [hy0])
              go_wp2
              exact ⟨⟨j + 1, by omega, by rw [hs3.out], by go_num, trivial⟩, by simp [intOf]; omega⟩
          · have hs3 : Hid (((pl.zip r).take (j + 1)).any (good1 (k : Int)) = true) := hid (by rw [hs2.out]; rfl)
            go_wp2
            exact ⟨⟨j + 1, by omega, by rw [hs3.out], by go_num, trivial⟩, by simp [intOf]; omega⟩
        · obtain rfl : n = j := by omega
          have hgp : Hid (goodP pl r (k : Int) = ((pl.zip r).take n).any (good1 (k : Int))) := hid (by rw [List.take_of_length_le (by rw [hz.out]; exact Nat.le_refl _)]; rfl)
          obtain ⟨g, hg⟩ : ∃ g, ((pl.zip r).take n).any (good1 (k : Int)) = g := ⟨_, rfl⟩
          rw [hg] at hgp
          rw [hg]
          clear hg
          cases g
          · have Hl : Hid ((susL pl r (k + 1)).length = (susL pl r k).length + 1) := hid (by rw [hs.out, hgp.out]; simp)
            have Hf : Hid ((susL pl r (k + 1)).flatMap cI = (susL pl r k).flatMap cI ++ [.int .i64 k]) := hid (by rw [hs.out, hgp.out, if_neg (by decide), List.flatMap_append]; rfl)
            go_wp2_with (at_builtin; refine wpList_append_own _ rfl _ _ 25 rfl W0.heap.size 3 i0 _ 1 8 under25 I0.out I1.out I2.out I3.out rfl (by decide) _ (susL pl r k).length _ rfl (hown.out.alloc (.cells #[.int .i64 k] 3)) ⟨wr.heap.size, 0, none⟩ 1 1 [.int .i64 k] rfl rfl (fun j u hj => World.news_of_block (Blk.new' (by simp)) j u hj) (one1 _) (by unfold maxLen; have := hll.out; omega) (by have := hll.out; omega) (by simp; omega) ?_; intro v' w3 ho3 hg3 hv3)
            have hb3 : Below W0.heap.size W0 w3 := (hbw.alloc hszw _).grown hg3 (by simp; omega) (fun r hr => (World.ownsRow.lt hown.out r hr).1)
            exact ⟨⟨k + 1, by omega, by go_num, hb3, hid (by rw [Hl.out, Hf.out]; exact ho3)⟩, by simp [intOf]; omega⟩
          · have Hs : Hid (susL pl r (k + 1) = susL pl r k) := hid (by rw [hs.out, hgp.out, if_pos rfl, List.append_nil])
            go_wp2
            exact ⟨⟨k + 1, by omega, by go_num, hbw, hid (by rw [Hs.out]; exact hown.out)⟩, by simp [intOf]; omega⟩
    · obtain rfl : P = k := by omega
      go_wp2
      refine bodyPost_ret (v := u7) (by first | (simp [results, Try.results76, go_sem]; done) | (simp [results, Try.results76, go_sem, *]; done) | (simp [results, Try.results76, go_sem, World.cell?_setCell_same', *]; done) | (simp [results, Try.results76, go_sem]; first | exact ⟨rfl, rfl⟩ | rfl)) rfl ⟨u7, rfl, owns_mono hown.out hsz, hbel.trans (hbw.mono hsz)⟩
/-- Suspects' list. -/
def susV (P M : Int) (pl : List (List Int)) (r : List Int) : List Int := if errR P M pl r = 0 then susL pl r P.toNat else []
theorem errR_len {P M : Int} {pl : List (List Int)} {r : List Int} (h : errR P M pl r = 0) : r.length = pl.length := (errR_zero h).2.1
set_option maxRecDepth 10000 in
set_option maxHeartbeats 1600000 in
theorem refSuspects_any (A B : Option Addr) (n c m d : Nat) (pl : List (List Int)) (r : List Int) (P M : Int) (w : World) (hp : LiS w w.heap.size A n pl) (hb : InS w w.heap.size B m r) (hn : n ≤ 12) (hw : ∀ l ∈ pl, l.length ≤ 12) :
    Calls Try.prog 29 #[.agg #[.int .i64 P, .int .i64 M], .slice A n c, .slice B m d] w fun e w' => ∃ A' m' c', e = .returned (.tuple #[.slice A' m' c', .int .i64 (errR P M pl r)]) ∧ InS w' w'.heap.size A' m' (susV P M pl r) ∧ Below w.heap.size w w' := by
  have hlen := hid hp.1
  have hblen := hid hb.len
  obtain ⟨W0, hWb⟩ : ∃ W0, w.alloc (.cells #[.int .i64 P, .int .i64 M] 23) = W0 := ⟨_, rfl⟩
  have bB : Blk W0 w.heap.size 23 #[.int .i64 P, .int .i64 M] := by rw [← hWb]; exact Blk.new' rfl
  have hbel : Below w.heap.size w W0 := by rw [← hWb]; exact (Below.refl _ _).alloc (Nat.le_refl _) _
  have hsz := hbel.size
  have lB := bB.lt
  have p0 := bB.cell 0
  have p1 := bB.cell 1
  have HP := hid (hp.below hbel hsz)
  clear hp
  have HB := hid (hb.below hbel hsz)
  clear hb
  cases hc : (errR P M pl r != 0)
  · have hc0 : errR P M pl r = 0 := by simpa using hc
    obtain ⟨g1, g2, g3⟩ := plan_good (errR_zero hc0).1
    obtain ⟨g4, g5, g6, g7⟩ := book_good g1
    have Hc := hid hc0
    have hV : Hid (susV P M pl r = susL pl r P.toNat) := hid (if_pos hc0)
    obtain rfl : n = m := by rw [← hlen.out, ← hblen.out]; exact (errR_len hc0).symm
    obtain ⟨Pn, rfl⟩ : ∃ Pn : Nat, P = Pn := ⟨P.toNat, by omega⟩
    obtain ⟨Mn, rfl⟩ : ∃ Mn : Nat, M = Mn := ⟨M.toNat, by omega⟩
    rw [Int.toNat_natCast] at hV
    clear hc hc0
    go_enter Try.func29, Try.ntmps29
    go_wp2_with (fail)
    refine (resErr_any A B n c n d pl r _ _ _ (HP.out.below (by repeat' (first | with_reducible assumption | with_reducible exact Below.refl _ _ | refine Below.alloc ?_ ?_ _ | refine Below.setCell ?_ ?_ _ | refine Below.drew ?_ | refine below_drewN ?_ _ | (simp; done) | (simp; omega) | omega)) (by first | (simp; done) | (simp; omega) | omega)) (HB.out.below (by repeat' (first | with_reducible assumption | with_reducible exact Below.refl _ _ | refine Below.alloc ?_ ?_ _ | refine Below.setCell ?_ ?_ _ | refine Below.drew ?_ | refine below_drewN ?_ _ | (simp; done) | (simp; omega) | omega)) (by first | (simp; done) | (simp; omega) | omega)) hn hw).mono ?_
    rw [Hc.out]
    rintro e W1 ⟨rfl, hb⟩
    have hst : Below W0.heap.size W0 W1 := Below.trans (by repeat' (first | with_reducible assumption | with_reducible exact Below.refl _ _ | refine Below.alloc ?_ ?_ _ | refine Below.setCell ?_ ?_ _ | refine Below.drew ?_ | refine below_drewN ?_ _ | (simp; done) | (simp; omega) | omega)) (hb.mono (by first | (simp; done) | (simp; omega) | omega))
    replace hbel := hbel.trans (hst.mono hsz)
    replace hsz := hbel.size
    replace bB := bB.below hst bB.lt
    clear p0 p1 lB
    have p0 := bB.cell 0
    have p1 := bB.cell 1
    have lB := bB.lt
    try clear hWb
    replace HP := hid (HP.out.below hst hst.size)
    replace HB := hid (HB.out.below hst hst.size)
    clear hb hst
    obtain ⟨W0, rfl⟩ : ∃ W0 : World, W0 = W1 := ⟨_, rfl⟩
    go_wp2_with (fail)
    refine (suspectsOf_any A B n c d pl r Pn Mn _ (by omega) (HP.out.below (by repeat' (first | with_reducible assumption | with_reducible exact Below.refl _ _ | refine Below.alloc ?_ ?_ _ | refine Below.setCell ?_ ?_ _ | refine Below.drew ?_ | refine below_drewN ?_ _ | (simp; done) | (simp; omega) | omega)) (by first | (simp; done) | (simp; omega) | omega)) (HB.out.below (by repeat' (first | with_reducible assumption | with_reducible exact Below.refl _ _ | refine Below.alloc ?_ ?_ _ | refine Below.setCell ?_ ?_ _ | refine Below.drew ?_ | refine below_drewN ?_ _ | (simp; done) | (simp; omega) | omega)) (by first | (simp; done) | (simp; omega) | omega)) hn hw).mono ?_
    rintro e W1 ⟨v1, rfl, ho, hb⟩
    obtain ⟨A1, c1, hv1, hs1⟩ := sl_of_owns ho
    subst hv1
    have Hs1 := hid (show InS W1 W1.heap.size A1 _ (susL pl r Pn) from hs1)
    clear ho hs1
    have hst : Below W0.heap.size W0 W1 := Below.trans (by repeat' (first | with_reducible assumption | with_reducible exact Below.refl _ _ | refine Below.alloc ?_ ?_ _ | refine Below.setCell ?_ ?_ _ | refine Below.drew ?_ | refine below_drewN ?_ _ | (simp; done) | (simp; omega) | omega)) (hb.mono (by first | (simp; done) | (simp; omega) | omega))
    replace hbel := hbel.trans (hst.mono hsz)
    replace hsz := hbel.size
    replace bB := bB.below hst bB.lt
    clear p0 p1 lB
    have p0 := bB.cell 0
    have p1 := bB.cell 1
    have lB := bB.lt
    try clear hWb
    replace HP := hid (HP.out.below hst hst.size)
    replace HB := hid (HB.out.below hst hst.size)
    clear hb hst
    obtain ⟨W0, rfl⟩ : ∃ W0 : World, W0 = W1 := ⟨_, rfl⟩
    go_wp2
    refine bodyPost_ret (v := .tuple #[.slice A1 (susL pl r Pn).length c1, .int .i64 0]) (by first | (simp [results, Try.results29, go_sem]; done) | (simp [results, Try.results29, go_sem, *]; done) | (simp [results, Try.results29, go_sem, World.cell?_setCell_same', *]; done) | (simp [results, Try.results29, go_sem]; first | exact ⟨rfl, rfl⟩ | rfl)) rfl ⟨A1, _, c1, by rw [Hc.out], by rw [hV.out]; exact Hs1.out, hbel⟩
  · have hc0 : errR P M pl r ≠ 0 := by simpa using hc
    have hV : Hid (susV P M pl r = []) := hid (if_neg hc0)
    have Hc := hid hc
    have hcc := hc
    clear hc0 hc
    go_enter Try.func29, Try.ntmps29
    go_wp2_with (fail)
    refine (resErr_any A B n c m d pl r _ _ _ (HP.out.below (by repeat' (first | with_reducible assumption | with_reducible exact Below.refl _ _ | refine Below.alloc ?_ ?_ _ | refine Below.setCell ?_ ?_ _ | refine Below.drew ?_ | refine below_drewN ?_ _ | (simp; done) | (simp; omega) | omega)) (by first | (simp; done) | (simp; omega) | omega)) (HB.out.below (by repeat' (first | with_reducible assumption | with_reducible exact Below.refl _ _ | refine Below.alloc ?_ ?_ _ | refine Below.setCell ?_ ?_ _ | refine Below.drew ?_ | refine below_drewN ?_ _ | (simp; done) | (simp; omega) | omega)) (by first | (simp; done) | (simp; omega) | omega)) hn hw).mono ?_
    rintro e W1 ⟨rfl, hb⟩
    have hst : Below W0.heap.size W0 W1 := Below.trans (by repeat' (first | with_reducible assumption | with_reducible exact Below.refl _ _ | refine Below.alloc ?_ ?_ _ | refine Below.setCell ?_ ?_ _ | refine Below.drew ?_ | refine below_drewN ?_ _ | (simp; done) | (simp; omega) | omega)) (hb.mono (by first | (simp; done) | (simp; omega) | omega))
    replace hbel := hbel.trans (hst.mono hsz)
    replace hsz := hbel.size
    replace bB := bB.below hst bB.lt
    clear p0 p1 lB
    have p0 := bB.cell 0
    have p1 := bB.cell 1
    have lB := bB.lt
    try clear hWb
    replace HP := hid (HP.out.below hst hst.size)
    replace HB := hid (HB.out.below hst hst.size)
    clear hb hst
    obtain ⟨W0, rfl⟩ : ∃ W0 : World, W0 = W1 := ⟨_, rfl⟩
    go_wp2_with (fail)
    refine (resErr_any A B n c m d pl r _ _ _ (HP.out.below (by repeat' (first | with_reducible assumption | with_reducible exact Below.refl _ _ | refine Below.alloc ?_ ?_ _ | refine Below.setCell ?_ ?_ _ | refine Below.drew ?_ | refine below_drewN ?_ _ | (simp; done) | (simp; omega) | omega)) (by first | (simp; done) | (simp; omega) | omega)) (HB.out.below (by repeat' (first | with_reducible assumption | with_reducible exact Below.refl _ _ | refine Below.alloc ?_ ?_ _ | refine Below.setCell ?_ ?_ _ | refine Below.drew ?_ | refine below_drewN ?_ _ | (simp; done) | (simp; omega) | omega)) (by first | (simp; done) | (simp; omega) | omega)) hn hw).mono ?_
    rintro e W1 ⟨rfl, hb⟩
    have hst : Below W0.heap.size W0 W1 := Below.trans (by repeat' (first | with_reducible assumption | with_reducible exact Below.refl _ _ | refine Below.alloc ?_ ?_ _ | refine Below.setCell ?_ ?_ _ | refine Below.drew ?_ | refine below_drewN ?_ _ | (simp; done) | (simp; omega) | omega)) (hb.mono (by first | (simp; done) | (simp; omega) | omega))
    replace hbel := hbel.trans (hst.mono hsz)
    replace hsz := hbel.size
    replace bB := bB.below hst bB.lt
    clear p0 p1 lB
    have p0 := bB.cell 0
    have p1 := bB.cell 1
    have lB := bB.lt
    try clear hWb
    replace HP := hid (HP.out.below hst hst.size)
    replace HB := hid (HB.out.below hst hst.size)
    clear hb hst
    obtain ⟨W0, rfl⟩ : ∃ W0 : World, W0 = W1 := ⟨_, rfl⟩
    go_wp2
    refine bodyPost_ret (v := .tuple #[.slice none 0 0, .int .i64 (errR P M pl r)]) (by first | (simp [results, Try.results29, go_sem]; done) | (simp [results, Try.results29, go_sem, *]; done) | (simp [results, Try.results29, go_sem, World.cell?_setCell_same', *]; done) | (simp [results, Try.results29, go_sem]; first | exact ⟨rfl, rfl⟩ | rfl)) rfl ⟨none, 0, 0, rfl, by rw [hV.out]; exact Sl.none_, hbel⟩
end Go.Proofs.Ytpgdfipikfbjeaa
/- Walks: the reference's With. -/
namespace Go.Proofs.Ytpgdfipikfbjeaa
open Go.RowKit
attribute [local go_sem] Oper.semAt_some
/-- Of the cases left, those that meet a rod: the first k. -/
def withN (l : List (List Int)) (left : Nat) (rod : List Int) : Nat → Nat
  | 0 => 0
  | k + 1 => if left.testBit k && meet (l.getD k []) rod then withN l left rod k ||| 2 ^ k else withN l left rod k
theorem withN_lt (l : List (List Int)) (left : Nat) (rod : List Int) : ∀ k, withN l left rod k < 2 ^ k
  | 0 => by simp [withN]
  | k + 1 => by
    have h := withN_lt l left rod k
    have h2 : 2 ^ k < 2 ^ (k + 1) := Nat.pow_lt_pow_right (by decide) (by omega)
    unfold withN
    split
    · exact Nat.or_lt_two_pow (by omega) h2
    · omega
theorem bits_or_i64_nat (a b : Nat) (ha : a < 2 ^ 62) (hb : b < 2 ^ 62) : bits .or .i64 (a : Int) (b : Int) = ((a ||| b : Nat) : Int) := by
  have hx : a ||| b < 2 ^ 62 := Nat.or_lt_two_pow ha hb
  have e62 : (2 : Nat) ^ 62 = 4611686018427387904 := by decide
  rw [e62] at ha hb hx
  have h1 : (BitVec.ofInt 64 (a : Int)).toNat = a := by
    rw [BitVec.ofInt_natCast, BitVec.toNat_ofNat]; exact Nat.mod_eq_of_lt (by omega)
  have h2 : (BitVec.ofInt 64 (b : Int)).toNat = b := by
    rw [BitVec.ofInt_natCast, BitVec.toNat_ofNat]; exact Nat.mod_eq_of_lt (by omega)
  show IntKind.i64.wrap ((BitVec.ofInt 64 (a : Int) ||| BitVec.ofInt 64 (b : Int)).toNat : Int) = _
  rw [BitVec.toNat_or, h1, h2, IntKind.wrap_i64]
  omega
theorem low_bit' (b k : Nat) (hb : b < 2 ^ 62) : bits .and .i64 ((b : Int) / 2 ^ k) 1 = if b.testBit k then 1 else 0 := by
  have hq : (b : Int) / 2 ^ k = ((b / 2 ^ k : Nat) : Int) := by push_cast; rfl
  have hle : b / 2 ^ k ≤ b := Nat.div_le_self _ _
  have e62 : (2 : Nat) ^ 62 = 4611686018427387904 := by decide
  rw [e62] at hb
  rw [hq, Nat.testBit_eq_decide_div_mod_eq]
  obtain ⟨q, hqe⟩ : ∃ q, b / 2 ^ k = q := ⟨_, rfl⟩
  rw [hqe] at hle ⊢
  have h := bits_mask .i64 63 (by decide) (fun n h0 h1 => by rw [p63] at h1; rw [IntKind.wrap_i64]; omega) 1 (by decide) (q : Int) (by omega) (by rw [p63]; omega)
  have e : ((2 : Int) ^ 1 - 1) = 1 := by decide
  rw [e] at h
  rw [h]
  by_cases h1 : q % 2 = 1 <;> simp [h1] <;> omega
theorem pow_wrap (k : Nat) (hk : k < 62) : IntKind.i64.wrap ((2 : Int) ^ k) = ((2 ^ k : Nat) : Int) := by
  have h : (2 : Nat) ^ k < 2 ^ 62 := Nat.pow_lt_pow_right (by decide) hk
  have e62 : (2 : Nat) ^ 62 = 4611686018427387904 := by decide
  rw [e62] at h
  rw [show (2 : Int) ^ k = ((2 ^ k : Nat) : Int) by push_cast; rfl]
  obtain ⟨q, hq⟩ : ∃ q, 2 ^ k = q := ⟨_, rfl⟩
  rw [hq] at h ⊢
  exact IntWalk.i64_in _ (by omega)
set_option maxRecDepth 10000 in
set_option maxHeartbeats 2000000 in
theorem with_any (A B : Option Addr) (n c m d : Nat) (l : List (List Int)) (left : Nat) (rod : List Int) (w : World) (hp : LiS w w.heap.size A n l) (hb : InS w w.heap.size B m rod) (hn : n ≤ 40) (hw : ∀ x ∈ l, x.length ≤ 12) (hm : m ≤ 1000000) (hl : left < 2 ^ 62) :
    Calls Try.prog 105 #[.slice A n c, .int .i64 left, .slice B m d] w fun e w' => e = .returned (.int .i64 (withN l left rod n)) ∧ w = w' := by
  have HP := hid hp
  have HB := hid hb
  have HW := hid hw
  have HL := hid hl
  clear hp hb hw hl
  go_enter Try.func105, Try.ntmps105
  go_wp2_with (fail)
  go_loopw [7, 8] (fun v i wr => ∃ k : Nat, k ≤ n ∧ v = .int .i64 (withN l left rod k) ∧ i = .int .i64 k ∧ w = wr) (fun _ i _ => n - (intOf i).toNat)
  case atStart => exact ⟨0, by omega, rfl, rfl, rfl⟩
  case round =>
    obtain ⟨k, hk2, rfl, rfl, rfl⟩ := hrel
    by_cases hlt : k < n
    · obtain ⟨b, off, r, A', m', c', rfl, hb1, hr, c0, hin⟩ := HP.out.at_ hlt
      have hm' : m' ≤ 1000000 := by have := hin.len; have := HW.out r (List.mem_of_getElem? hr); omega
      have Hin := hid hin
      have hlti : (k : Int) < n := by omega
      have hgd : Hid (l.getD k [] = r) := hid (by rw [List.getD_eq_getElem?_getD, hr]; rfl)
      have hand := low_bit' left k HL.out
      obtain ⟨t, ht⟩ : ∃ t, left.testBit k = t := ⟨_, rfl⟩
      obtain ⟨u, hu⟩ : ∃ u, meet r rod = u := ⟨_, rfl⟩
      obtain ⟨N, hN⟩ : ∃ N, withN l left rod k = N := ⟨_, rfl⟩
      have hs : Hid (withN l left rod (k + 1) = if t && u then N ||| 2 ^ k else N) := hid (by rw [← hN, ← ht, ← hu, ← hgd.out]; rfl)
      have hNl : N < 2 ^ 62 := by
        rw [← hN]
        exact Nat.lt_of_lt_of_le (withN_lt l left rod k) (Nat.pow_le_pow_right (by decide) (by omega))
      have Hor : Hid (bits .or .i64 (N : Int) ((2 : Int) ^ k) = ((N ||| 2 ^ k : Nat) : Int)) := hid (by rw [show (2 : Int) ^ k = ((2 ^ k : Nat) : Int) by push_cast; rfl]; exact bits_or_i64_nat N (2 ^ k) hNl (Nat.pow_lt_pow_right (by decide) (by omega)))
      have hpw := pow_wrap k (by omega)
      rw [ht] at hand
      rw [hN]
      have Hu := hid hu
      have HNl := hid hNl
      clear hin hr hN ht hu hNl
      cases t
      · simp only [Bool.false_eq_true, if_false] at hand
        have hs2 : Hid (withN l left rod (k + 1) = N) := hid (by rw [hs.out]; rfl)
        go_wp2
        exact ⟨⟨k + 1, by omega, by rw [hs2.out], by go_num, trivial⟩, by simp [intOf]; omega⟩
      · simp only [if_true] at hand
        cases u
        · have hs2 : Hid (withN l left rod (k + 1) = N) := hid (by rw [hs.out]; rfl)
          go_wp2_with (go_at_call 85; refine (meet_any A' B m' c' m d r rod _ Hin.out HB.out hm' hm).mono ?_; rw [Hu.out]; rintro e w1 ⟨rfl, rfl⟩)
          exact ⟨⟨k + 1, by omega, by rw [hs2.out], by go_num, trivial⟩, by simp [intOf]; omega⟩
        · have hs2 : Hid (withN l left rod (k + 1) = N ||| 2 ^ k) := hid (by rw [hs.out]; rfl)
          go_wp2_with (go_at_call 85; refine (meet_any A' B m' c' m d r rod _ Hin.out HB.out hm' hm).mono ?_; rw [Hu.out]; rintro e w1 ⟨rfl, rfl⟩)
          exact ⟨⟨k + 1, by omega, by rw [hs2.out, Hor.out], by go_num, trivial⟩, by simp [intOf]; omega⟩
    · obtain rfl : n = k := by omega
      go_wp2
      refine bodyPost_ret (v := .int .i64 (withN l left rod n)) (by first | (simp [results, Try.results105, go_sem]; done) | (simp [results, Try.results105, go_sem, *]; done) | (simp [results, Try.results105, go_sem, World.cell?_setCell_same', *]; done) | (simp [results, Try.results105, go_sem]; first | exact ⟨rfl, rfl⟩ | rfl)) rfl ⟨rfl, rfl⟩
end Go.Proofs.Ytpgdfipikfbjeaa
/- Plain law of what is needed: the reference's recursion. -/
namespace Go.Proofs.Ytpgdfipikfbjeaa
theorem withN_bit (l : List (List Int)) (left : Nat) (rod : List Int) (i : Nat) : ∀ k, (withN l left rod k).testBit i = (decide (i < k) && left.testBit i && meet (l.getD i []) rod)
  | 0 => by simp [withN]
  | k + 1 => by
    have h := withN_bit l left rod i k
    unfold withN
    split
    · rename_i h1
      rw [Nat.testBit_or, h, Nat.testBit_two_pow]
      by_cases hik : k = i
      · subst hik
        rw [Bool.and_eq_true] at h1
        rw [h1.1, h1.2]; simp
      · have e : decide (i < k + 1) = decide (i < k) := by by_cases h2 : i < k <;> simp [h2] <;> omega
        rw [e]; simp [hik]
    · rename_i h1
      rw [h]
      by_cases hik : k = i
      · subst hik
        have : (left.testBit k && meet (l.getD k []) rod) = false := by simpa using h1
        rw [Bool.and_assoc, Bool.and_assoc, this]; simp
      · have e : decide (i < k + 1) = decide (i < k) := by by_cases h2 : i < k <;> simp [h2] <;> omega
        rw [e]
theorem withN_and (l : List (List Int)) (left : Nat) (rod : List Int) (k : Nat) : withN l left rod k &&& left = withN l left rod k := by
  refine Nat.eq_of_testBit_eq fun i => ?_
  rw [Nat.testBit_and, withN_bit]
  cases decide (i < k) <;> cases left.testBit i <;> simp
theorem withN_le (l : List (List Int)) (left : Nat) (rod : List Int) (k : Nat) : withN l left rod k ≤ left := by
  have := withN_and l left rod k
  rw [← this]; exact Nat.and_le_right
/-- One rod is tried. -/
def stepN (l : List (List Int)) (P : Nat) (f : Nat → Nat) (left best b : Nat) : Nat :=
  if withN l left (listed b P) l.length = 0 ∨ withN l left (listed b P) l.length = left then best
  else min best (max (f (withN l left (listed b P) l.length) + 1) (f (left - withN l left (listed b P) l.length) + 1))
/-- The first j rods are tried. -/
def foldN (l : List (List Int)) (P : Nat) (f : Nat → Nat) (left : Nat) : Nat → Nat
  | 0 => l.length
  | j + 1 => stepN l P f left (foldN l P f left j) (j + 1)
def needK (l : List (List Int)) (P : Nat) : Nat → Nat → Nat
  | 0, _ => 0
  | k + 1, left => if left &&& (left - 1) = 0 then 0 else foldN l P (needK l P k) left (2 ^ P - 1)
/-- How many rods are needed for the cases that are left, by bits. -/
def need (l : List (List Int)) (P left : Nat) : Nat := needK l P left left
theorem foldN_congr {l : List (List Int)} {P : Nat} {f g : Nat → Nat} {left : Nat} (h : ∀ x, x < left → f x = g x) (hl : 0 < left) : ∀ j, foldN l P f left j = foldN l P g left j
  | 0 => rfl
  | j + 1 => by
    unfold foldN stepN
    rw [foldN_congr h hl j]
    have hle := withN_le l left (listed (j + 1) P) l.length
    split
    · rfl
    · rename_i hn
      rw [h _ (by omega), h _ (by omega)]
theorem needK_st (l : List (List Int)) (P : Nat) : ∀ k left, left ≤ k → needK l P k left = need l P left := by
  intro k
  induction k using Nat.strongRecOn with
  | _ k ih =>
    intro left hk
    cases left with
    | zero =>
      cases k with
      | zero => rfl
      | succ k => simp [needK, need]
    | succ m =>
      cases k with
      | zero => omega
      | succ k =>
        unfold need
        simp only [needK]
        split
        · rfl
        · refine foldN_congr (fun x hx => ?_) (by omega) _
          rw [ih k (by omega) x (by omega), ih m (by omega) x (by omega)]
theorem need_eq (l : List (List Int)) (P left : Nat) : need l P left = if left &&& (left - 1) = 0 then 0 else foldN l P (need l P) left (2 ^ P - 1) := by
  cases left with
  | zero => simp [need, needK]
  | succ m =>
    show needK l P (m + 1) (m + 1) = _
    simp only [needK]
    split
    · rfl
    · exact foldN_congr (fun x hx => needK_st l P m x (by omega)) (by omega) _
theorem foldN_le (l : List (List Int)) (P : Nat) (f : Nat → Nat) (left : Nat) : ∀ j, foldN l P f left j ≤ l.length
  | 0 => Nat.le_refl _
  | j + 1 => by
    have := foldN_le l P f left j
    unfold foldN stepN
    split <;> omega
theorem need_le (l : List (List Int)) (P left : Nat) : need l P left ≤ l.length := by
  rw [need_eq]; split
  · omega
  · exact foldN_le _ _ _ _ _
theorem bits_and_i64_nat (a b : Nat) (ha : a < 2 ^ 62) (hb : b < 2 ^ 62) : Go.bits .and .i64 (a : Int) (b : Int) = ((a &&& b : Nat) : Int) := by
  have hx : a &&& b < 2 ^ 62 := Nat.lt_of_le_of_lt Nat.and_le_left ha
  have e62 : (2 : Nat) ^ 62 = 4611686018427387904 := by decide
  rw [e62] at ha hb hx
  have h1 : (BitVec.ofInt 64 (a : Int)).toNat = a := by
    rw [BitVec.ofInt_natCast, BitVec.toNat_ofNat]; exact Nat.mod_eq_of_lt (by omega)
  have h2 : (BitVec.ofInt 64 (b : Int)).toNat = b := by
    rw [BitVec.ofInt_natCast, BitVec.toNat_ofNat]; exact Nat.mod_eq_of_lt (by omega)
  show IntKind.i64.wrap ((BitVec.ofInt 64 (a : Int) &&& BitVec.ofInt 64 (b : Int)).toNat : Int) = _
  rw [BitVec.toNat_and, h1, h2, IntKind.wrap_i64]
  omega
end Go.Proofs.Ytpgdfipikfbjeaa
/- The law of drawn regions under a condition on worlds, with a post of its own: what the region leaves is said once, for all orders. -/
namespace Go.Proofs.Ytpgdfipikfbjeaa.Sx
open Go
section
variable {P : Program} {ops : Array Oper} {md : Region.Mode} {S : World → Prop}
theorem wpM_mono {Q Q' : Act → World → Prop} (h : ∀ a W, S W → Q a W → Q' a W) : ∀ (f : Nat) (listed : Array Bool) (a : Act) (w : World), wpM P md ops S Q f listed a w → wpM P md ops S Q' f listed a w
  | 0, _, _, _, hh => ⟨hh.1, fun W h1 h2 => h _ _ h2 (hh.2 W h1 h2)⟩
  | f + 1, _, _, _, hh => fun W h1 h2 => ⟨fun h0 => h _ _ h2 ((hh W h1 h2).1 h0), fun i hi => lOp_mono (fun _ _ hk => ⟨hk.1, wpM_mono h f _ _ _ hk.2⟩) ((hh W h1 h2).2 i hi)⟩
theorem wpE_mono {L L' : Act → Prop} (h : ∀ a, L a → L' a) : ∀ (l : List (Nat × Oper)) (a : Act), wpE P ops S L l a → wpE P ops S L' l a
  | [], _, hh => h _ hh
  | (_, _) :: rest, _, ⟨v, hy, hh⟩ => ⟨v, hy, wpE_mono h rest _ hh⟩
/-- The law with a post of its own. -/
theorem wp_region_elQ (S : World → Prop) (Q1 : Act → World → Prop) (hS : ∀ W W', S W → Ext W W' → S W') {id : Nat} {Q : Exit → Act → World → Prop} {a : Act} {w : World} {l : List Oper} (E : List Nat) (g : Nat) (hm : P.follows .mixedOrders = true)
    (hB : (Region.noSelect l.toArray && decide (E.length + g = l.length) && earlyB .any l.toArray E (Array.replicate l.length false)) = true) (h0 : S w.drew)
    (h : wpE P l.toArray S (fun a' => wpM P .any l.toArray S Q1 g (setAll (Array.replicate l.length false) E) a' w.drew) (pick l.toArray E) a)
    (hQ : ∀ a W, S W → Q1 a W → wpList P l.toArray Q [] a W) : (Code.region id l.toArray true).wp P Q a w :=
  wp_region_el S hS E g hm hB h0 (wpE_mono (fun _ hk => wpM_mono hQ _ _ _ _ hk) _ _ h)
/-- From here on a stronger condition holds. -/
theorem wpM_narrow {S' : World → Prop} (hcl : ∀ W W', S' W → Ext W W' → S' W') (hSS : ∀ W, S' W → S W) {Q : Act → World → Prop} : ∀ (f : Nat) (listed : Array Bool) (a : Act) (w : World), S' w → wpM P md ops S' Q f listed a w → wpM P md ops S Q f listed a w
  | 0, _, _, _, hw, hh => ⟨hh.1, fun W h1 _ => hh.2 W h1 (hcl _ _ hw h1)⟩
  | f + 1, _, _, _, hw, hh => fun W h1 _ =>
    have hW := hcl _ _ hw h1
    ⟨(hh W h1 hW).1, fun i hi => lOp_mono (fun _ _ hk => ⟨hSS _ hk.1, wpM_narrow hcl hSS f _ _ _ hk.1 hk.2⟩) ((hh W h1 hW).2 i hi)⟩
/-- Three operations may come up. -/
theorem wpM_three {Q : Act → World → Prop} {f : Nat} {listed : Array Bool} {a : Act} {w : World} (i j k : Nat) (o o' o'' : Oper) (ho : ops[i]? = some o) (ho' : ops[j]? = some o') (ho'' : ops[k]? = some o'') (hr : decide (Region.ready md ops listed = [i, j, k]) = true) (hw : Region.wanted o (yielded ops a.tmps) = true) (hw' : Region.wanted o' (yielded ops a.tmps) = true) (hw'' : Region.wanted o'' (yielded ops a.tmps) = true)
    (h : ∀ W, Ext w W → S W → LUpon P o a (fun a' W' => S W' ∧ wpM P md ops S Q f (listed.setIfInBounds i true) a' W') ((execOp a.eval o).run P W))
    (h' : ∀ W, Ext w W → S W → LUpon P o' a (fun a' W' => S W' ∧ wpM P md ops S Q f (listed.setIfInBounds j true) a' W') ((execOp a.eval o').run P W))
    (h'' : ∀ W, Ext w W → S W → LUpon P o'' a (fun a' W' => S W' ∧ wpM P md ops S Q f (listed.setIfInBounds k true) a' W') ((execOp a.eval o'').run P W)) : wpM P md ops S Q (f + 1) listed a w := by
  intro W h1 h2
  rw [of_decide_eq_true hr]
  refine ⟨fun h => (by cases h), fun q hq => ?_⟩
  rcases List.mem_cons.1 hq with rfl | hq
  · unfold lOp
    simp only [ho, hw, if_true]
    exact h W h1 h2
  · rcases List.mem_cons.1 hq with rfl | hq
    · unfold lOp
      simp only [ho', hw', if_true]
      exact h' W h1 h2
    · obtain rfl : q = k := by simpa using hq
      unfold lOp
      simp only [ho'', hw'', if_true]
      exact h'' W h1 h2
end
end Go.Proofs.Ytpgdfipikfbjeaa.Sx
