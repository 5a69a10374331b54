/- Texts of the proof, laid together by program. -/
import Derived.Test.YtiobmfggnacplaaMc
import Derived.Test.YtiobmfggnacplaaMb
import Derived.Test.YtiobmfggnacplaaMa
import Derived.Shelf.RegionOpen
set_option linter.unusedSimpArgs false
set_option linter.unusedVariables false
/- Walks: Turn, Least, Period. Printed by rim/a18.py. -/
namespace Go.Proofs.Ytiobmfggnacplaa
open Go.RowKit
attribute [local go_sem] Oper.semAt_some
def turnE (K : Int) (l : List Int) (b : Int) : Int := if checkRim K l ≠ 0 then checkRim K l else if b < 0 ∨ (l.length : Int) ≤ b then 3 else 0
def turnV (K : Int) (l : List Int) (b : Int) : List Int := if turnE K l b = 0 then rot l b.toNat else []
def leastV (K : Int) (l : List Int) : List Int := if checkRim K l = 0 then least l else []
def leastK (K : Int) (l : List Int) : Nat := if checkRim K l = 0 then lstart l else 0
def perV (K : Int) (l : List Int) : Nat := if checkRim K l = 0 then perL l else 0
/-- A list that was returned. -/
def Ret (w : World) (A : Option Addr) (m c : Nat) (l : List Int) : Prop := InS w w.heap.size A m l ∧ m ≤ c ∧ (A = none → m = 0 ∧ c = 0)
theorem Ret.nil (w : World) : Ret w none 0 0 [] := ⟨Sl.none_, Nat.le_refl _, fun _ => ⟨rfl, rfl⟩⟩
theorem ret_of {w : World} {base n : Nat} {v : Value} {l : List Int} (h : w.ownsRow base 3 1 v n (l.flatMap cI)) : ∃ A c, v = .slice A n c ∧ Ret w A n c l := by
  obtain ⟨A, c, e, h1, h2⟩ := own_src h
  subst e
  exact ⟨A, c, rfl, h1, own_capN h, h2⟩
set_option maxRecDepth 10000 in
set_option maxHeartbeats 4000000 in
theorem turn_any (K : Int) (A : Option Addr) (n c : Nat) (l : List Int) (b : Int) (w : World) (hl : InS w w.heap.size A n l) (hn : n ≤ 90) (hc : n ≤ c) : Calls Try.prog 19 #[.int .i64 K, .slice A n c, .int .i64 b] w fun e w' => ∃ A' m c', e = .returned (.tuple #[.slice A' m c', .int .i64 (turnE K l b)]) ∧ Ret w' A' m c' (turnV K l b) ∧ Below w.heap.size w w' := by
  have hlen := hid hl.len
  obtain ⟨W0, hW0⟩ : ∃ W0 : World, W0 = w := ⟨_, rfl⟩
  rw [← hW0] at hl ⊢
  clear hW0
  have HL := hid hl
  clear hl
  have hbel : Below W0.heap.size W0 W0 := Below.refl _ _
  have hsz := hbel.size
  by_cases hok : checkRim K l ≠ 0
  · obtain ⟨E, hE⟩ : ∃ E, checkRim K l = E := ⟨_, rfl⟩
    have HE := hid hE
    have hbad := hok
    rw [hE] at hbad
    have hte : Hid (turnE K l b = E) := hid (by unfold turnE; rw [if_pos hok, hE])
    have htv : Hid (turnV K l b = []) := hid (by unfold turnV; rw [if_neg (by rw [hte.out]; exact hbad)])
    have hb1 : (E == 0) = false := by simpa using hbad
    have hb2 : (E != 0) = true := by simpa using hbad
    clear hok hE
    go_enter Try.func19, Try.ntmps19
    go_wp2_with (fail)
    refine (open_bad K A n c l _ (HL.out.below (by repeat' (first | with_reducible assumption | with_reducible exact Below.refl _ _ | refine Below.alloc ?_ ?_ _ | refine Below.setCell ?_ ?_ _ | refine Below.drew ?_ | refine below_drewN ?_ _ | (simp; done) | (simp; omega) | omega)) (by first | (simp; done) | (simp; omega) | omega)) hn (by rw [HE.out]; exact hbad)).mono ?_
    rw [HE.out]
    rintro e W1 ⟨rfl, hb⟩
    have hst : Below W0.heap.size W0 W1 := Below.trans (by repeat' (first | with_reducible assumption | with_reducible exact Below.refl _ _ | refine Below.alloc ?_ ?_ _ | refine Below.setCell ?_ ?_ _ | refine Below.drew ?_ | refine below_drewN ?_ _ | (simp; done) | (simp; omega) | omega)) (hb.mono (by first | (simp; done) | (simp; omega) | omega))
    replace hbel := hbel.trans (hst.mono hsz)
    replace hsz := hbel.size
    replace HL := hid (HL.out.below hst hst.size)
    clear hb hst
    obtain ⟨W0, rfl⟩ : ∃ W0 : World, W0 = W1 := ⟨_, rfl⟩
    go_wp2
    refine bodyPost_ret (v := .tuple #[.slice none 0 0, .int .i64 E]) (by first | (simp [results, Try.results19, go_sem]; done) | (simp [results, Try.results19, go_sem, *]; done) | (simp [results, Try.results19, go_sem, World.cell?_setCell_same', *]; done) | (simp [results, Try.results19, go_sem]; first | exact ⟨rfl, rfl⟩ | rfl)) rfl ⟨none, 0, 0, by rw [hte.out], by rw [htv.out]; exact Ret.nil _, hbel⟩
  · have hok0 : checkRim K l = 0 := by omega
    have HE := hid hok0
    have h64 := (rim_good hok0).2.1
    rw [hlen.out] at h64
    have hte0 : turnE K l b = if b < 0 ∨ (l.length : Int) ≤ b then 3 else 0 := by unfold turnE; rw [if_neg hok]
    rw [hlen.out] at hte0
    clear hok hok0
    cases hib : inR 0 ((n : Int) - 1) b
    · have hib2 := inR_f.1 hib
      have hte : Hid (turnE K l b = 3) := hid (by rw [hte0, if_pos (by omega)])
      have htv : Hid (turnV K l b = []) := hid (by unfold turnV; rw [if_neg (by rw [hte.out]; decide)])
      have Hib := hid (all_one'.trans hib)
      clear hib hte0 hib2
      go_enter Try.func19, Try.ntmps19
      go_wp2_with (fail)
      refine (open_ok K A n c l _ (HL.out.below (by repeat' (first | with_reducible assumption | with_reducible exact Below.refl _ _ | refine Below.alloc ?_ ?_ _ | refine Below.setCell ?_ ?_ _ | refine Below.drew ?_ | refine below_drewN ?_ _ | (simp; done) | (simp; omega) | omega)) (by first | (simp; done) | (simp; omega) | omega)) HE.out).mono ?_
      rintro e W1 ⟨g, rfl, hgl, hR1, hb⟩
      have hst : Below W0.heap.size W0 W1 := Below.trans (by repeat' (first | with_reducible assumption | with_reducible exact Below.refl _ _ | refine Below.alloc ?_ ?_ _ | refine Below.setCell ?_ ?_ _ | refine Below.drew ?_ | refine below_drewN ?_ _ | (simp; done) | (simp; omega) | omega)) (hb.mono (by first | (simp; done) | (simp; omega) | omega))
      replace hbel := hbel.trans (hst.mono hsz)
      replace hsz := hbel.size
      replace HL := hid (HL.out.below hst hst.size)
      have HR := hid hR1
      clear hR1
      clear hb hst
      obtain ⟨W0, rfl⟩ : ∃ W0 : World, W0 = W1 := ⟨_, rfl⟩
      clear hgl
      go_wp2_with (fail)
      refine (within_any _ 1 1 [b] 0 ((n : Int) - 1) _ (inS_lit1 b (by first | (simp; done) | (simp; omega) | omega) (by first | (simp; done) | (simp; omega) | omega)) (by omega)).mono ?_
      rw [Hib.out]
      rintro e W1 ⟨rfl, hb⟩
      have hst : Below W0.heap.size W0 W1 := Below.trans (by repeat' (first | with_reducible assumption | with_reducible exact Below.refl _ _ | refine Below.alloc ?_ ?_ _ | refine Below.setCell ?_ ?_ _ | refine Below.drew ?_ | refine below_drewN ?_ _ | (simp; done) | (simp; omega) | omega)) (hb.mono (by first | (simp; done) | (simp; omega) | omega))
      replace hbel := hbel.trans (hst.mono hsz)
      replace hsz := hbel.size
      replace HL := hid (HL.out.below hst hst.size)
      replace HR := hid (HR.out.below hst)
      clear hb hst
      obtain ⟨W0, rfl⟩ : ∃ W0 : World, W0 = W1 := ⟨_, rfl⟩
      go_wp2
      refine bodyPost_ret (v := .tuple #[.slice none 0 0, .int .i64 3]) (by first | (simp [results, Try.results19, go_sem]; done) | (simp [results, Try.results19, go_sem, *]; done) | (simp [results, Try.results19, go_sem, World.cell?_setCell_same', *]; done) | (simp [results, Try.results19, go_sem]; first | exact ⟨rfl, rfl⟩ | rfl)) rfl ⟨none, 0, 0, by rw [hte.out], by rw [htv.out]; exact Ret.nil _, hbel⟩
    · have hib2 := inR_t.1 hib
      have hte : Hid (turnE K l b = 0) := hid (by rw [hte0, if_neg (by omega)])
      have Hib := hid (all_one'.trans hib)
      obtain ⟨y, rfl⟩ : ∃ y : Nat, b = y := ⟨b.toNat, by omega⟩
      have htv : Hid (turnV K l y = rot l y) := hid (by unfold turnV; rw [if_pos hte.out]; rfl)
      have hyn : y < n := by omega
      have g0 : ¬ (y : Int) < 0 := by omega
      have g1 : ¬ (n : Int) ≤ (y : Int) := by omega
      clear hib hte0 hib2
      go_enter Try.func19, Try.ntmps19
      go_wp2_with (fail)
      refine (open_ok K A n c l _ (HL.out.below (by repeat' (first | with_reducible assumption | with_reducible exact Below.refl _ _ | refine Below.alloc ?_ ?_ _ | refine Below.setCell ?_ ?_ _ | refine Below.drew ?_ | refine below_drewN ?_ _ | (simp; done) | (simp; omega) | omega)) (by first | (simp; done) | (simp; omega) | omega)) HE.out).mono ?_
      rintro e W1 ⟨g, rfl, hgl, hR1, hb⟩
      have hst : Below W0.heap.size W0 W1 := Below.trans (by repeat' (first | with_reducible assumption | with_reducible exact Below.refl _ _ | refine Below.alloc ?_ ?_ _ | refine Below.setCell ?_ ?_ _ | refine Below.drew ?_ | refine below_drewN ?_ _ | (simp; done) | (simp; omega) | omega)) (hb.mono (by first | (simp; done) | (simp; omega) | omega))
      replace hbel := hbel.trans (hst.mono hsz)
      replace hsz := hbel.size
      replace HL := hid (HL.out.below hst hst.size)
      have HR := hid hR1
      clear hR1
      clear hb hst
      obtain ⟨W0, rfl⟩ : ∃ W0 : World, W0 = W1 := ⟨_, rfl⟩
      clear hgl
      go_wp2_with (fail)
      refine (within_any _ 1 1 [(y : Int)] 0 ((n : Int) - 1) _ (inS_lit1 (y : Int) (by first | (simp; done) | (simp; omega) | omega) (by first | (simp; done) | (simp; omega) | omega)) (by omega)).mono ?_
      rw [Hib.out]
      rintro e W1 ⟨rfl, hb⟩
      have hst : Below W0.heap.size W0 W1 := Below.trans (by repeat' (first | with_reducible assumption | with_reducible exact Below.refl _ _ | refine Below.alloc ?_ ?_ _ | refine Below.setCell ?_ ?_ _ | refine Below.drew ?_ | refine below_drewN ?_ _ | (simp; done) | (simp; omega) | omega)) (hb.mono (by first | (simp; done) | (simp; omega) | omega))
      replace hbel := hbel.trans (hst.mono hsz)
      replace hsz := hbel.size
      replace HL := hid (HL.out.below hst hst.size)
      replace HR := hid (HR.out.below hst)
      clear hb hst
      obtain ⟨W0, rfl⟩ : ∃ W0 : World, W0 = W1 := ⟨_, rfl⟩
      go_wp2_with (fail)
      refine (turned_any g K A n c l y _ (HR.out.below (by repeat' (first | with_reducible assumption | with_reducible exact Below.refl _ _ | refine Below.alloc ?_ ?_ _ | refine Below.setCell ?_ ?_ _ | refine Below.drew ?_ | refine below_drewN ?_ _ | (simp; done) | (simp; omega) | omega))) hc (by omega) hyn).mono ?_
      rintro e W1 ⟨v, rfl, ho, hb⟩
      obtain ⟨A1, c1, rfl, hr1⟩ := ret_of ho
      clear ho
      have H1 := hid hr1
      clear hr1
      have hst : Below W0.heap.size W0 W1 := Below.trans (by repeat' (first | with_reducible assumption | with_reducible exact Below.refl _ _ | refine Below.alloc ?_ ?_ _ | refine Below.setCell ?_ ?_ _ | refine Below.drew ?_ | refine below_drewN ?_ _ | (simp; done) | (simp; omega) | omega)) (hb.mono (by first | (simp; done) | (simp; omega) | omega))
      replace hbel := hbel.trans (hst.mono hsz)
      replace hsz := hbel.size
      replace HL := hid (HL.out.below hst hst.size)
      replace HR := hid (HR.out.below hst)
      clear hb hst
      obtain ⟨W0, rfl⟩ : ∃ W0 : World, W0 = W1 := ⟨_, rfl⟩
      go_wp2
      refine bodyPost_ret (v := .tuple #[.slice A1 n c1, .int .i64 0]) (by first | (simp [results, Try.results19, go_sem]; done) | (simp [results, Try.results19, go_sem, *]; done) | (simp [results, Try.results19, go_sem, World.cell?_setCell_same', *]; done) | (simp [results, Try.results19, go_sem]; first | exact ⟨rfl, rfl⟩ | rfl)) rfl ⟨A1, n, c1, by rw [hte.out], by rw [htv.out]; exact H1.out, hbel⟩
set_option maxRecDepth 10000 in
set_option maxHeartbeats 4000000 in
theorem refTurn_any (K : Int) (A : Option Addr) (n c : Nat) (l : List Int) (b : Int) (w : World) (hl : InS w w.heap.size A n l) (hn : n ≤ 90) (hc : n ≤ c) : Calls Try.prog 20 #[.int .i64 K, .slice A n c, .int .i64 b] w fun e w' => ∃ A' m c', e = .returned (.tuple #[.slice A' m c', .int .i64 (turnE K l b)]) ∧ Ret w' A' m c' (turnV K l b) ∧ Below w.heap.size w w' := by
  have hlen := hid hl.len
  obtain ⟨W0, hW0⟩ : ∃ W0 : World, W0 = w := ⟨_, rfl⟩
  rw [← hW0] at hl ⊢
  clear hW0
  have HL := hid hl
  clear hl
  have hbel : Below W0.heap.size W0 W0 := Below.refl _ _
  have hsz := hbel.size
  by_cases hok : checkRim K l ≠ 0
  · obtain ⟨E, hE⟩ : ∃ E, checkRim K l = E := ⟨_, rfl⟩
    have HE := hid hE
    have hbad := hok
    rw [hE] at hbad
    have hte : Hid (turnE K l b = E) := hid (by unfold turnE; rw [if_pos hok, hE])
    have htv : Hid (turnV K l b = []) := hid (by unfold turnV; rw [if_neg (by rw [hte.out]; exact hbad)])
    have hb1 : (E == 0) = false := by simpa using hbad
    have hb2 : (E != 0) = true := by simpa using hbad
    clear hok hE
    go_enter Try.func20, Try.ntmps20
    go_wp2_with (fail)
    refine (refCheckRim_any K A n c l _ (HL.out.below (by repeat' (first | with_reducible assumption | with_reducible exact Below.refl _ _ | refine Below.alloc ?_ ?_ _ | refine Below.setCell ?_ ?_ _ | refine Below.drew ?_ | refine below_drewN ?_ _ | (simp; done) | (simp; omega) | omega)) (by first | (simp; done) | (simp; omega) | omega)) (by omega)).mono ?_
    rw [HE.out]
    rintro e W1 ⟨rfl, rfl⟩
    go_wp2_with (fail)
    refine (refCheckRim_any K A n c l _ (HL.out.below (by repeat' (first | with_reducible assumption | with_reducible exact Below.refl _ _ | refine Below.alloc ?_ ?_ _ | refine Below.setCell ?_ ?_ _ | refine Below.drew ?_ | refine below_drewN ?_ _ | (simp; done) | (simp; omega) | omega)) (by first | (simp; done) | (simp; omega) | omega)) (by omega)).mono ?_
    rw [HE.out]
    rintro e W1 ⟨rfl, rfl⟩
    go_wp2
    refine bodyPost_ret (v := .tuple #[.slice none 0 0, .int .i64 E]) (by first | (simp [results, Try.results20, go_sem]; done) | (simp [results, Try.results20, go_sem, *]; done) | (simp [results, Try.results20, go_sem, World.cell?_setCell_same', *]; done) | (simp [results, Try.results20, go_sem]; first | exact ⟨rfl, rfl⟩ | rfl)) rfl ⟨none, 0, 0, by rw [hte.out], by rw [htv.out]; exact Ret.nil _, hbel⟩
  · have hok0 : checkRim K l = 0 := by omega
    have HE := hid hok0
    have h64 := (rim_good hok0).2.1
    rw [hlen.out] at h64
    have hte0 : turnE K l b = if b < 0 ∨ (l.length : Int) ≤ b then 3 else 0 := by unfold turnE; rw [if_neg hok]
    rw [hlen.out] at hte0
    clear hok hok0
    cases hib : inR 0 ((n : Int) - 1) b
    · have hib2 := inR_f.1 hib
      have hte : Hid (turnE K l b = 3) := hid (by rw [hte0, if_pos (by omega)])
      have htv : Hid (turnV K l b = []) := hid (by unfold turnV; rw [if_neg (by rw [hte.out]; decide)])
      have Hib := hid (all_one'.trans hib)
      clear hib hte0
      by_cases hb0 : b < 0
      · clear hib2
        go_enter Try.func20, Try.ntmps20
        go_wp2_with (fail)
        refine (refCheckRim_any K A n c l _ (HL.out.below (by repeat' (first | with_reducible assumption | with_reducible exact Below.refl _ _ | refine Below.alloc ?_ ?_ _ | refine Below.setCell ?_ ?_ _ | refine Below.drew ?_ | refine below_drewN ?_ _ | (simp; done) | (simp; omega) | omega)) (by first | (simp; done) | (simp; omega) | omega)) (by omega)).mono ?_
        rw [HE.out]
        rintro e W1 ⟨rfl, rfl⟩
        go_wp2
        refine bodyPost_ret (v := .tuple #[.slice none 0 0, .int .i64 3]) (by first | (simp [results, Try.results20, go_sem]; done) | (simp [results, Try.results20, go_sem, *]; done) | (simp [results, Try.results20, go_sem, World.cell?_setCell_same', *]; done) | (simp [results, Try.results20, go_sem]; first | exact ⟨rfl, rfl⟩ | rfl)) rfl ⟨none, 0, 0, by rw [hte.out], by rw [htv.out]; exact Ret.nil _, hbel⟩
      · have hb1 : (n : Int) ≤ b := by omega
        clear hib2
        go_enter Try.func20, Try.ntmps20
        go_wp2_with (fail)
        refine (refCheckRim_any K A n c l _ (HL.out.below (by repeat' (first | with_reducible assumption | with_reducible exact Below.refl _ _ | refine Below.alloc ?_ ?_ _ | refine Below.setCell ?_ ?_ _ | refine Below.drew ?_ | refine below_drewN ?_ _ | (simp; done) | (simp; omega) | omega)) (by first | (simp; done) | (simp; omega) | omega)) (by omega)).mono ?_
        rw [HE.out]
        rintro e W1 ⟨rfl, rfl⟩
        go_wp2
        refine bodyPost_ret (v := .tuple #[.slice none 0 0, .int .i64 3]) (by first | (simp [results, Try.results20, go_sem]; done) | (simp [results, Try.results20, go_sem, *]; done) | (simp [results, Try.results20, go_sem, World.cell?_setCell_same', *]; done) | (simp [results, Try.results20, go_sem]; first | exact ⟨rfl, rfl⟩ | rfl)) rfl ⟨none, 0, 0, by rw [hte.out], by rw [htv.out]; exact Ret.nil _, hbel⟩
    · have hib2 := inR_t.1 hib
      have hte : Hid (turnE K l b = 0) := hid (by rw [hte0, if_neg (by omega)])
      have Hib := hid (all_one'.trans hib)
      obtain ⟨y, rfl⟩ : ∃ y : Nat, b = y := ⟨b.toNat, by omega⟩
      have htv : Hid (turnV K l y = rot l y) := hid (by unfold turnV; rw [if_pos hte.out]; rfl)
      have hyn : y < n := by omega
      have g0 : ¬ (y : Int) < 0 := by omega
      have g1 : ¬ (n : Int) ≤ (y : Int) := by omega
      clear hib hte0 hib2
      go_enter Try.func20, Try.ntmps20
      go_wp2_with (fail)
      refine (refCheckRim_any K A n c l _ (HL.out.below (by repeat' (first | with_reducible assumption | with_reducible exact Below.refl _ _ | refine Below.alloc ?_ ?_ _ | refine Below.setCell ?_ ?_ _ | refine Below.drew ?_ | refine below_drewN ?_ _ | (simp; done) | (simp; omega) | omega)) (by first | (simp; done) | (simp; omega) | omega)) (by omega)).mono ?_
      rw [HE.out]
      rintro e W1 ⟨rfl, rfl⟩
      go_wp2_with (fail)
      refine (turnOf_any A n c l y _ (HL.out.below (by repeat' (first | with_reducible assumption | with_reducible exact Below.refl _ _ | refine Below.alloc ?_ ?_ _ | refine Below.setCell ?_ ?_ _ | refine Below.drew ?_ | refine below_drewN ?_ _ | (simp; done) | (simp; omega) | omega)) (by first | (simp; done) | (simp; omega) | omega)) (by omega) (by omega)).mono ?_
      rintro e W1 ⟨v, rfl, ho, hb⟩
      obtain ⟨A1, c1, rfl, hr1⟩ := ret_of ho
      clear ho
      have H1 := hid hr1
      clear hr1
      have hst : Below W0.heap.size W0 W1 := Below.trans (by repeat' (first | with_reducible assumption | with_reducible exact Below.refl _ _ | refine Below.alloc ?_ ?_ _ | refine Below.setCell ?_ ?_ _ | refine Below.drew ?_ | refine below_drewN ?_ _ | (simp; done) | (simp; omega) | omega)) (hb.mono (by first | (simp; done) | (simp; omega) | omega))
      replace hbel := hbel.trans (hst.mono hsz)
      replace hsz := hbel.size
      replace HL := hid (HL.out.below hst hst.size)
      clear hb hst
      obtain ⟨W0, rfl⟩ : ∃ W0 : World, W0 = W1 := ⟨_, rfl⟩
      go_wp2
      refine bodyPost_ret (v := .tuple #[.slice A1 n c1, .int .i64 0]) (by first | (simp [results, Try.results20, go_sem]; done) | (simp [results, Try.results20, go_sem, *]; done) | (simp [results, Try.results20, go_sem, World.cell?_setCell_same', *]; done) | (simp [results, Try.results20, go_sem]; first | exact ⟨rfl, rfl⟩ | rfl)) rfl ⟨A1, n, c1, by rw [hte.out], by rw [htv.out]; exact H1.out, hbel⟩
set_option maxRecDepth 10000 in
set_option maxHeartbeats 4000000 in
theorem periodF_any (K : Int) (A : Option Addr) (n c : Nat) (l : List Int) (w : World) (hl : InS w w.heap.size A n l) (hn : n ≤ 90) (hc : n ≤ c) : Calls Try.prog 23 #[.int .i64 K, .slice A n c] w fun e w' => e = .returned (.tuple #[.int .i64 (perV K l : Nat), .int .i64 (checkRim K l)]) ∧ Below w.heap.size w w' := by
  have hlen := hid hl.len
  obtain ⟨W0, hW0⟩ : ∃ W0 : World, W0 = w := ⟨_, rfl⟩
  rw [← hW0] at hl ⊢
  clear hW0
  have HL := hid hl
  clear hl
  have hbel : Below W0.heap.size W0 W0 := Below.refl _ _
  have hsz := hbel.size
  by_cases hok : checkRim K l ≠ 0
  · obtain ⟨E, hE⟩ : ∃ E, checkRim K l = E := ⟨_, rfl⟩
    have HE := hid hE
    have hbad := hok
    rw [hE] at hbad
    have htv : Hid (perV K l = 0) := hid (if_neg hok)
    have hb1 : (E == 0) = false := by simpa using hbad
    have hb2 : (E != 0) = true := by simpa using hbad
    clear hok hE
    go_enter Try.func23, Try.ntmps23
    go_wp2_with (fail)
    refine (open_bad K A n c l _ (HL.out.below (by repeat' (first | with_reducible assumption | with_reducible exact Below.refl _ _ | refine Below.alloc ?_ ?_ _ | refine Below.setCell ?_ ?_ _ | refine Below.drew ?_ | refine below_drewN ?_ _ | (simp; done) | (simp; omega) | omega)) (by first | (simp; done) | (simp; omega) | omega)) hn (by rw [HE.out]; exact hbad)).mono ?_
    rw [HE.out]
    rintro e W1 ⟨rfl, hb⟩
    have hst : Below W0.heap.size W0 W1 := Below.trans (by repeat' (first | with_reducible assumption | with_reducible exact Below.refl _ _ | refine Below.alloc ?_ ?_ _ | refine Below.setCell ?_ ?_ _ | refine Below.drew ?_ | refine below_drewN ?_ _ | (simp; done) | (simp; omega) | omega)) (hb.mono (by first | (simp; done) | (simp; omega) | omega))
    replace hbel := hbel.trans (hst.mono hsz)
    replace hsz := hbel.size
    replace HL := hid (HL.out.below hst hst.size)
    clear hb hst
    obtain ⟨W0, rfl⟩ : ∃ W0 : World, W0 = W1 := ⟨_, rfl⟩
    go_wp2
    refine bodyPost_ret (v := .tuple #[.int .i64 0, .int .i64 E]) (by first | (simp [results, Try.results23, go_sem]; done) | (simp [results, Try.results23, go_sem, *]; done) | (simp [results, Try.results23, go_sem, World.cell?_setCell_same', *]; done) | (simp [results, Try.results23, go_sem]; first | exact ⟨rfl, rfl⟩ | rfl)) rfl ⟨by rw [htv.out, HE.out]; rfl, hbel⟩
  · have hok0 : checkRim K l = 0 := by omega
    have HE := hid hok0
    have h64 := (rim_good hok0).2.1
    rw [hlen.out] at h64
    have htv : Hid (perV K l = perL l) := hid (if_pos hok0)
    clear hok hok0
    go_enter Try.func23, Try.ntmps23
    go_wp2_with (fail)
    refine (open_ok K A n c l _ (HL.out.below (by repeat' (first | with_reducible assumption | with_reducible exact Below.refl _ _ | refine Below.alloc ?_ ?_ _ | refine Below.setCell ?_ ?_ _ | refine Below.drew ?_ | refine below_drewN ?_ _ | (simp; done) | (simp; omega) | omega)) (by first | (simp; done) | (simp; omega) | omega)) HE.out).mono ?_
    rintro e W1 ⟨g, rfl, hgl, hR1, hb⟩
    have hst : Below W0.heap.size W0 W1 := Below.trans (by repeat' (first | with_reducible assumption | with_reducible exact Below.refl _ _ | refine Below.alloc ?_ ?_ _ | refine Below.setCell ?_ ?_ _ | refine Below.drew ?_ | refine below_drewN ?_ _ | (simp; done) | (simp; omega) | omega)) (hb.mono (by first | (simp; done) | (simp; omega) | omega))
    replace hbel := hbel.trans (hst.mono hsz)
    replace hsz := hbel.size
    replace HL := hid (HL.out.below hst hst.size)
    have HR := hid hR1
    clear hR1
    clear hb hst
    obtain ⟨W0, rfl⟩ : ∃ W0 : World, W0 = W1 := ⟨_, rfl⟩
    clear hgl
    go_wp2_with (fail)
    refine (period_any g K A n c l _ (HR.out.below (by repeat' (first | with_reducible assumption | with_reducible exact Below.refl _ _ | refine Below.alloc ?_ ?_ _ | refine Below.setCell ?_ ?_ _ | refine Below.drew ?_ | refine below_drewN ?_ _ | (simp; done) | (simp; omega) | omega))) (by omega) (by omega)).mono ?_
    rintro e W1 ⟨rfl, hb⟩
    have hst : Below W0.heap.size W0 W1 := Below.trans (by repeat' (first | with_reducible assumption | with_reducible exact Below.refl _ _ | refine Below.alloc ?_ ?_ _ | refine Below.setCell ?_ ?_ _ | refine Below.drew ?_ | refine below_drewN ?_ _ | (simp; done) | (simp; omega) | omega)) (hb.mono (by first | (simp; done) | (simp; omega) | omega))
    replace hbel := hbel.trans (hst.mono hsz)
    replace hsz := hbel.size
    replace HL := hid (HL.out.below hst hst.size)
    replace HR := hid (HR.out.below hst)
    clear hb hst
    obtain ⟨W0, rfl⟩ : ∃ W0 : World, W0 = W1 := ⟨_, rfl⟩
    go_wp2
    refine bodyPost_ret (v := .tuple #[.int .i64 (perL l : Nat), .int .i64 0]) (by first | (simp [results, Try.results23, go_sem]; done) | (simp [results, Try.results23, go_sem, *]; done) | (simp [results, Try.results23, go_sem, World.cell?_setCell_same', *]; done) | (simp [results, Try.results23, go_sem]; first | exact ⟨rfl, rfl⟩ | rfl)) rfl ⟨by rw [htv.out, HE.out], hbel⟩
set_option maxRecDepth 10000 in
set_option maxHeartbeats 4000000 in
theorem refPeriod_any (K : Int) (A : Option Addr) (n c : Nat) (l : List Int) (w : World) (hl : InS w w.heap.size A n l) (hn : n ≤ 90) (hc : n ≤ c) : Calls Try.prog 24 #[.int .i64 K, .slice A n c] w fun e w' => e = .returned (.tuple #[.int .i64 (perV K l : Nat), .int .i64 (checkRim K l)]) ∧ Below w.heap.size w w' := by
  have hlen := hid hl.len
  obtain ⟨W0, hW0⟩ : ∃ W0 : World, W0 = w := ⟨_, rfl⟩
  rw [← hW0] at hl ⊢
  clear hW0
  have HL := hid hl
  clear hl
  have hbel : Below W0.heap.size W0 W0 := Below.refl _ _
  have hsz := hbel.size
  by_cases hok : checkRim K l ≠ 0
  · obtain ⟨E, hE⟩ : ∃ E, checkRim K l = E := ⟨_, rfl⟩
    have HE := hid hE
    have hbad := hok
    rw [hE] at hbad
    have htv : Hid (perV K l = 0) := hid (if_neg hok)
    have hb1 : (E == 0) = false := by simpa using hbad
    have hb2 : (E != 0) = true := by simpa using hbad
    clear hok hE
    go_enter Try.func24, Try.ntmps24
    go_wp2_with (fail)
    refine (refCheckRim_any K A n c l _ (HL.out.below (by repeat' (first | with_reducible assumption | with_reducible exact Below.refl _ _ | refine Below.alloc ?_ ?_ _ | refine Below.setCell ?_ ?_ _ | refine Below.drew ?_ | refine below_drewN ?_ _ | (simp; done) | (simp; omega) | omega)) (by first | (simp; done) | (simp; omega) | omega)) (by omega)).mono ?_
    rw [HE.out]
    rintro e W1 ⟨rfl, rfl⟩
    go_wp2_with (fail)
    refine (refCheckRim_any K A n c l _ (HL.out.below (by repeat' (first | with_reducible assumption | with_reducible exact Below.refl _ _ | refine Below.alloc ?_ ?_ _ | refine Below.setCell ?_ ?_ _ | refine Below.drew ?_ | refine below_drewN ?_ _ | (simp; done) | (simp; omega) | omega)) (by first | (simp; done) | (simp; omega) | omega)) (by omega)).mono ?_
    rw [HE.out]
    rintro e W1 ⟨rfl, rfl⟩
    go_wp2
    refine bodyPost_ret (v := .tuple #[.int .i64 0, .int .i64 E]) (by first | (simp [results, Try.results24, go_sem]; done) | (simp [results, Try.results24, go_sem, *]; done) | (simp [results, Try.results24, go_sem, World.cell?_setCell_same', *]; done) | (simp [results, Try.results24, go_sem]; first | exact ⟨rfl, rfl⟩ | rfl)) rfl ⟨by rw [htv.out, HE.out]; rfl, hbel⟩
  · have hok0 : checkRim K l = 0 := by omega
    have HE := hid hok0
    have h64 := (rim_good hok0).2.1
    rw [hlen.out] at h64
    have htv : Hid (perV K l = perL l) := hid (if_pos hok0)
    clear hok hok0
    go_enter Try.func24, Try.ntmps24
    go_wp2_with (fail)
    refine (refCheckRim_any K A n c l _ (HL.out.below (by repeat' (first | with_reducible assumption | with_reducible exact Below.refl _ _ | refine Below.alloc ?_ ?_ _ | refine Below.setCell ?_ ?_ _ | refine Below.drew ?_ | refine below_drewN ?_ _ | (simp; done) | (simp; omega) | omega)) (by first | (simp; done) | (simp; omega) | omega)) (by omega)).mono ?_
    rw [HE.out]
    rintro e W1 ⟨rfl, rfl⟩
    go_wp2_with (fail)
    refine (periodOf_any A n c l _ (HL.out.below (by repeat' (first | with_reducible assumption | with_reducible exact Below.refl _ _ | refine Below.alloc ?_ ?_ _ | refine Below.setCell ?_ ?_ _ | refine Below.drew ?_ | refine below_drewN ?_ _ | (simp; done) | (simp; omega) | omega)) (by first | (simp; done) | (simp; omega) | omega)) (by omega) (by omega)).mono ?_
    rintro e W1 ⟨rfl, hb⟩
    have hst : Below W0.heap.size W0 W1 := Below.trans (by repeat' (first | with_reducible assumption | with_reducible exact Below.refl _ _ | refine Below.alloc ?_ ?_ _ | refine Below.setCell ?_ ?_ _ | refine Below.drew ?_ | refine below_drewN ?_ _ | (simp; done) | (simp; omega) | omega)) (hb.mono (by first | (simp; done) | (simp; omega) | omega))
    replace hbel := hbel.trans (hst.mono hsz)
    replace hsz := hbel.size
    replace HL := hid (HL.out.below hst hst.size)
    clear hb hst
    obtain ⟨W0, rfl⟩ : ∃ W0 : World, W0 = W1 := ⟨_, rfl⟩
    go_wp2
    refine bodyPost_ret (v := .tuple #[.int .i64 (perL l : Nat), .int .i64 0]) (by first | (simp [results, Try.results24, go_sem]; done) | (simp [results, Try.results24, go_sem, *]; done) | (simp [results, Try.results24, go_sem, World.cell?_setCell_same', *]; done) | (simp [results, Try.results24, go_sem]; first | exact ⟨rfl, rfl⟩ | rfl)) rfl ⟨by rw [htv.out, HE.out], hbel⟩
set_option maxRecDepth 10000 in
set_option maxHeartbeats 4000000 in
theorem leastP_any (K : Int) (A : Option Addr) (n c : Nat) (l : List Int) (w : World) (hl : InS w w.heap.size A n l) (hn : n ≤ 90) (hc : n ≤ c) : Calls Try.prog 21 #[.int .i64 K, .slice A n c] w fun e w' => ∃ A' m c', e = .returned (.tuple #[.slice A' m c', .int .i64 (leastK K l : Nat), .int .i64 (checkRim K l)]) ∧ Ret w' A' m c' (leastV K l) ∧ Below w.heap.size w w' := by
  have hlen := hid hl.len
  obtain ⟨W0, hW0⟩ : ∃ W0 : World, W0 = w := ⟨_, rfl⟩
  rw [← hW0] at hl ⊢
  clear hW0
  have HL := hid hl
  clear hl
  have hbel : Below W0.heap.size W0 W0 := Below.refl _ _
  have hsz := hbel.size
  by_cases hok : checkRim K l ≠ 0
  · obtain ⟨E, hE⟩ : ∃ E, checkRim K l = E := ⟨_, rfl⟩
    have HE := hid hE
    have hbad := hok
    rw [hE] at hbad
    have htk : Hid (leastK K l = 0) := hid (if_neg hok)
    have htv : Hid (leastV K l = []) := hid (if_neg hok)
    have hb1 : (E == 0) = false := by simpa using hbad
    have hb2 : (E != 0) = true := by simpa using hbad
    clear hok hE
    go_enter Try.func21, Try.ntmps21
    go_wp2_with (fail)
    refine (open_bad K A n c l _ (HL.out.below (by repeat' (first | with_reducible assumption | with_reducible exact Below.refl _ _ | refine Below.alloc ?_ ?_ _ | refine Below.setCell ?_ ?_ _ | refine Below.drew ?_ | refine below_drewN ?_ _ | (simp; done) | (simp; omega) | omega)) (by first | (simp; done) | (simp; omega) | omega)) hn (by rw [HE.out]; exact hbad)).mono ?_
    rw [HE.out]
    rintro e W1 ⟨rfl, hb⟩
    have hst : Below W0.heap.size W0 W1 := Below.trans (by repeat' (first | with_reducible assumption | with_reducible exact Below.refl _ _ | refine Below.alloc ?_ ?_ _ | refine Below.setCell ?_ ?_ _ | refine Below.drew ?_ | refine below_drewN ?_ _ | (simp; done) | (simp; omega) | omega)) (hb.mono (by first | (simp; done) | (simp; omega) | omega))
    replace hbel := hbel.trans (hst.mono hsz)
    replace hsz := hbel.size
    replace HL := hid (HL.out.below hst hst.size)
    clear hb hst
    obtain ⟨W0, rfl⟩ : ∃ W0 : World, W0 = W1 := ⟨_, rfl⟩
    go_wp2
    refine bodyPost_ret (v := .tuple #[.slice none 0 0, .int .i64 0, .int .i64 E]) (by first | (simp [results, Try.results21, go_sem]; done) | (simp [results, Try.results21, go_sem, *]; done) | (simp [results, Try.results21, go_sem, World.cell?_setCell_same', *]; done) | (simp [results, Try.results21, go_sem]; first | exact ⟨rfl, rfl⟩ | rfl)) rfl ⟨none, 0, 0, by rw [htk.out, HE.out]; rfl, by rw [htv.out]; exact Ret.nil _, hbel⟩
  · have hok0 : checkRim K l = 0 := by omega
    have HE := hid hok0
    have h64 := (rim_good hok0).2.1
    rw [hlen.out] at h64
    have htk : Hid (leastK K l = lstart l) := hid (if_pos hok0)
    have htv : Hid (leastV K l = least l) := hid (if_pos hok0)
    have hsl := lstart_lt (l := l) (by rw [hlen.out]; omega)
    rw [hlen.out] at hsl
    have hle : Hid (rot l (lstart l) = least l) := hid rfl
    clear hok hok0
    go_enter Try.func21, Try.ntmps21
    go_wp2_with (fail)
    refine (open_ok K A n c l _ (HL.out.below (by repeat' (first | with_reducible assumption | with_reducible exact Below.refl _ _ | refine Below.alloc ?_ ?_ _ | refine Below.setCell ?_ ?_ _ | refine Below.drew ?_ | refine below_drewN ?_ _ | (simp; done) | (simp; omega) | omega)) (by first | (simp; done) | (simp; omega) | omega)) HE.out).mono ?_
    rintro e W1 ⟨g, rfl, hgl, hR1, hb⟩
    have hst : Below W0.heap.size W0 W1 := Below.trans (by repeat' (first | with_reducible assumption | with_reducible exact Below.refl _ _ | refine Below.alloc ?_ ?_ _ | refine Below.setCell ?_ ?_ _ | refine Below.drew ?_ | refine below_drewN ?_ _ | (simp; done) | (simp; omega) | omega)) (hb.mono (by first | (simp; done) | (simp; omega) | omega))
    replace hbel := hbel.trans (hst.mono hsz)
    replace hsz := hbel.size
    replace HL := hid (HL.out.below hst hst.size)
    have HR := hid hR1
    clear hR1
    clear hb hst
    obtain ⟨W0, rfl⟩ : ∃ W0 : World, W0 = W1 := ⟨_, rfl⟩
    clear hgl
    go_wp2_with (fail)
    refine (start_any g K A n c l _ (HR.out.below (by repeat' (first | with_reducible assumption | with_reducible exact Below.refl _ _ | refine Below.alloc ?_ ?_ _ | refine Below.setCell ?_ ?_ _ | refine Below.drew ?_ | refine below_drewN ?_ _ | (simp; done) | (simp; omega) | omega))) hc (by omega) (by omega)).mono ?_
    rintro e W1 ⟨rfl, hb⟩
    have hst : Below W0.heap.size W0 W1 := Below.trans (by repeat' (first | with_reducible assumption | with_reducible exact Below.refl _ _ | refine Below.alloc ?_ ?_ _ | refine Below.setCell ?_ ?_ _ | refine Below.drew ?_ | refine below_drewN ?_ _ | (simp; done) | (simp; omega) | omega)) (hb.mono (by first | (simp; done) | (simp; omega) | omega))
    replace hbel := hbel.trans (hst.mono hsz)
    replace hsz := hbel.size
    replace HL := hid (HL.out.below hst hst.size)
    replace HR := hid (HR.out.below hst)
    clear hb hst
    obtain ⟨W0, rfl⟩ : ∃ W0 : World, W0 = W1 := ⟨_, rfl⟩
    go_wp2_with (fail)
    refine (turned_any g K A n c l (lstart l) _ (HR.out.below (by repeat' (first | with_reducible assumption | with_reducible exact Below.refl _ _ | refine Below.alloc ?_ ?_ _ | refine Below.setCell ?_ ?_ _ | refine Below.drew ?_ | refine below_drewN ?_ _ | (simp; done) | (simp; omega) | omega))) hc (by omega) hsl).mono ?_
    rw [hle.out]
    rintro e W1 ⟨v, rfl, ho, hb⟩
    obtain ⟨A1, c1, rfl, hr1⟩ := ret_of ho
    clear ho
    have H1 := hid hr1
    clear hr1
    have hst : Below W0.heap.size W0 W1 := Below.trans (by repeat' (first | with_reducible assumption | with_reducible exact Below.refl _ _ | refine Below.alloc ?_ ?_ _ | refine Below.setCell ?_ ?_ _ | refine Below.drew ?_ | refine below_drewN ?_ _ | (simp; done) | (simp; omega) | omega)) (hb.mono (by first | (simp; done) | (simp; omega) | omega))
    replace hbel := hbel.trans (hst.mono hsz)
    replace hsz := hbel.size
    replace HL := hid (HL.out.below hst hst.size)
    replace HR := hid (HR.out.below hst)
    clear hb hst
    obtain ⟨W0, rfl⟩ : ∃ W0 : World, W0 = W1 := ⟨_, rfl⟩
    go_wp2
    refine bodyPost_ret (v := .tuple #[.slice A1 n c1, .int .i64 (lstart l : Nat), .int .i64 0]) (by first | (simp [results, Try.results21, go_sem]; done) | (simp [results, Try.results21, go_sem, *]; done) | (simp [results, Try.results21, go_sem, World.cell?_setCell_same', *]; done) | (simp [results, Try.results21, go_sem]; first | exact ⟨rfl, rfl⟩ | rfl)) rfl ⟨A1, n, c1, by rw [htk.out, HE.out], by rw [htv.out]; exact H1.out, hbel⟩
set_option maxRecDepth 10000 in
set_option maxHeartbeats 4000000 in
theorem refLeast_any (K : Int) (A : Option Addr) (n c : Nat) (l : List Int) (w : World) (hl : InS w w.heap.size A n l) (hn : n ≤ 90) (hc : n ≤ c) : Calls Try.prog 22 #[.int .i64 K, .slice A n c] w fun e w' => ∃ A' m c', e = .returned (.tuple #[.slice A' m c', .int .i64 (leastK K l : Nat), .int .i64 (checkRim K l)]) ∧ Ret w' A' m c' (leastV K l) ∧ Below w.heap.size w w' := by
  have hlen := hid hl.len
  obtain ⟨i0, hi0, hi1, hi2, hi3⟩ := info_parts' info3
  have I0 := hid hi0; have I1 := hid hi1; have I2 := hid hi2; have I3 := hid hi3
  clear hi0 hi1 hi2 hi3
  obtain ⟨W0, hW0⟩ : ∃ W0 : World, W0 = w := ⟨_, rfl⟩
  rw [← hW0] at hl ⊢
  clear hW0
  have HL := hid hl
  clear hl
  have hbel : Below W0.heap.size W0 W0 := Below.refl _ _
  have hsz := hbel.size
  by_cases hok : checkRim K l ≠ 0
  · obtain ⟨E, hE⟩ : ∃ E, checkRim K l = E := ⟨_, rfl⟩
    have HE := hid hE
    have hbad := hok
    rw [hE] at hbad
    have htk : Hid (leastK K l = 0) := hid (if_neg hok)
    have htv : Hid (leastV K l = []) := hid (if_neg hok)
    have hb1 : (E == 0) = false := by simpa using hbad
    have hb2 : (E != 0) = true := by simpa using hbad
    clear hok hE
    go_enter Try.func22, Try.ntmps22
    go_wp2_with (fail)
    refine (refCheckRim_any K A n c l _ (HL.out.below (by repeat' (first | with_reducible assumption | with_reducible exact Below.refl _ _ | refine Below.alloc ?_ ?_ _ | refine Below.setCell ?_ ?_ _ | refine Below.drew ?_ | refine below_drewN ?_ _ | (simp; done) | (simp; omega) | omega)) (by first | (simp; done) | (simp; omega) | omega)) (by omega)).mono ?_
    rw [HE.out]
    rintro e W1 ⟨rfl, rfl⟩
    go_wp2_with (fail)
    refine (refCheckRim_any K A n c l _ (HL.out.below (by repeat' (first | with_reducible assumption | with_reducible exact Below.refl _ _ | refine Below.alloc ?_ ?_ _ | refine Below.setCell ?_ ?_ _ | refine Below.drew ?_ | refine below_drewN ?_ _ | (simp; done) | (simp; omega) | omega)) (by first | (simp; done) | (simp; omega) | omega)) (by omega)).mono ?_
    rw [HE.out]
    rintro e W1 ⟨rfl, rfl⟩
    go_wp2
    refine bodyPost_ret (v := .tuple #[.slice none 0 0, .int .i64 0, .int .i64 E]) (by first | (simp [results, Try.results22, go_sem]; done) | (simp [results, Try.results22, go_sem, *]; done) | (simp [results, Try.results22, go_sem, World.cell?_setCell_same', *]; done) | (simp [results, Try.results22, go_sem]; first | exact ⟨rfl, rfl⟩ | rfl)) rfl ⟨none, 0, 0, by rw [htk.out, HE.out]; rfl, by rw [htv.out]; exact Ret.nil _, hbel⟩
  · have hok0 : checkRim K l = 0 := by omega
    have HE := hid hok0
    have h64 := (rim_good hok0).2.1
    rw [hlen.out] at h64
    have htk : Hid (leastK K l = lstart l) := hid (if_pos hok0)
    have htv : Hid (leastV K l = least l) := hid (if_pos hok0)
    have hsl := lstart_lt (l := l) (by rw [hlen.out]; omega)
    rw [hlen.out] at hsl
    have hle : Hid (rot l (lstart l) = least l) := hid rfl
    clear hok hok0
    go_enter Try.func22, Try.ntmps22
    go_wp2_with (fail)
    refine (refCheckRim_any K A n c l _ (HL.out.below (by repeat' (first | with_reducible assumption | with_reducible exact Below.refl _ _ | refine Below.alloc ?_ ?_ _ | refine Below.setCell ?_ ?_ _ | refine Below.drew ?_ | refine below_drewN ?_ _ | (simp; done) | (simp; omega) | omega)) (by first | (simp; done) | (simp; omega) | omega)) (by omega)).mono ?_
    rw [HE.out]
    rintro e W1 ⟨rfl, rfl⟩
    go_wp2_with (fail)
    refine (leastOf_any A n c l _ (HL.out.below (by repeat' (first | with_reducible assumption | with_reducible exact Below.refl _ _ | refine Below.alloc ?_ ?_ _ | refine Below.setCell ?_ ?_ _ | refine Below.drew ?_ | refine below_drewN ?_ _ | (simp; done) | (simp; omega) | omega)) (by first | (simp; done) | (simp; omega) | omega)) (by omega) (by omega)).mono ?_
    rintro e W1 ⟨A1, c1, rfl, h1, hb⟩
    have hst : Below W0.heap.size W0 W1 := Below.trans (by repeat' (first | with_reducible assumption | with_reducible exact Below.refl _ _ | refine Below.alloc ?_ ?_ _ | refine Below.setCell ?_ ?_ _ | refine Below.drew ?_ | refine below_drewN ?_ _ | (simp; done) | (simp; omega) | omega)) (hb.mono (by first | (simp; done) | (simp; omega) | omega))
    replace hbel := hbel.trans (hst.mono hsz)
    replace hsz := hbel.size
    replace HL := hid (HL.out.below hst hst.size)
    have H1 := hid h1
    clear h1
    clear hb hst
    obtain ⟨W0, rfl⟩ : ∃ W0 : World, W0 = W1 := ⟨_, rfl⟩
    have hb7 : Below W0.heap.size W0 (W0.alloc (.cells #[] 3)) := (Below.refl _ _).alloc (Nat.le_refl _) _
    obtain ⟨b1, o1, rfl, -, -⟩ := H1.out.2 (by omega)
    go_wp2_with (at_builtin; refine wpList_append_srcG (by rfl) _ _ 22 rfl W0.heap.size 3 i0 _ 1 8 under22 I0.out I1.out I2.out I3.out rfl (by decide) _ 0 [] rfl (own_full (n := 0) W0 (cur := #[]) (Nat.le_refl _) (by unfold maxLen; omega) rfl rfl) (some ⟨b1, o1, none⟩) n c1 ((least l).flatMap cI) rfl W0.heap.size (Sl.alloc H1.out (Nat.le_refl _) _) (fun h => by cases h) (one_flatI _) (by unfold maxLen; omega) (by omega) (by simp) ?_; intro v2 w2 ho2 hg2 _ hat2; rw [Nat.zero_add, List.nil_append] at ho2; obtain ⟨A3, c3, rfl, hr3⟩ := ret_of ho2; have hs2 : Below W0.heap.size W0 w2 := hb7.grown hg2 (by simp) (fun r hr => by cases hr; exact Nat.le_refl _))
    refine bodyPost_ret (v := .tuple #[.slice A3 n c3, .int .i64 (lstart l : Nat), .int .i64 0]) (by first | (simp [results, Try.results22, go_sem]; done) | (simp [results, Try.results22, go_sem, *]; done) | (simp [results, Try.results22, go_sem, World.cell?_setCell_same', *]; done) | (simp [results, Try.results22, go_sem]; first | exact ⟨rfl, rfl⟩ | rfl)) rfl ⟨A3, n, c3, by rw [htk.out, HE.out], by rw [htv.out]; exact hr3, hbel.trans (hs2.mono hsz)⟩
end Go.Proofs.Ytiobmfggnacplaa
/- Beside the law of range-func with footprints: small laws. -/
namespace Go.Proofs.Ytiobmfggnacplaa
open Go.RowKit Go.Shelf
theorem cells_of_cell {W : World} {p : Addr} {u : Value} (h : W.cell? p = some u) : ∃ o : Obj, W.heap[p.block]? = some o ∧ o.isCells = true := by
  unfold World.cell? at h
  cases ho : W.heap[p.block]? with
  | none => simp [ho] at h
  | some o => cases o <;> first | exact ⟨_, rfl, rfl⟩ | simp [ho] at h
theorem ins_at {w w' : World} {B B' n : Nat} {A : Option Addr} {l : List Int} (h : InS w B A n l) (hB : B ≤ B') (hk : ∀ b off, A = some ⟨b, off, none⟩ → b < B → w'.heap[b]? = w.heap[b]?) : InS w' B' A n l :=
  ⟨h.1, fun hn => by
    obtain ⟨b, off, e, hb, hc⟩ := h.2 hn
    exact ⟨b, off, e, by omega, fun j u hu => (World.cell?_of_block (hk b off e hb)).trans (hc j u hu)⟩⟩
theorem grow_below {own : Foot} {W W' : World} (h : ∀ k, own k → k < W.heap.size) (hb : Below W.heap.size W W') : Grow own W own W' := ⟨hb.os, hb.tape, hb.output, hb.size, fun _ h => .inl h, fun k hk => Nat.lt_of_lt_of_le (h k hk) hb.size, fun k hk _ => hb.block k hk⟩
theorem grow_off {own : Foot} {W W' : World} {Ds : List Nat} {o₀ : Foot} {W0 : World} (h : Grow o₀ W0 own W) (ho : Off Ds W W') (hD : ∀ D ∈ Ds, W0.heap.size ≤ D) : Grow o₀ W0 own W' :=
  ⟨ho.os.trans h.os, ho.tape.trans h.tape, ho.output.trans h.output, by rw [ho.size]; exact h.size, h.from_, fun k hk => by rw [ho.size]; exact h.lt k hk, fun k hk hn => (ho.block k (fun hm => by have := hD k hm; omega)).trans (h.same k hk hn)⟩
theorem stab_off {β : Type} {s : Nat} {J : β → Foot → World → Prop} (hJ : Stab s J) {x : β} {own : Foot} {W W' : World} {Ds : List Nat} (h : J x own W) (ho : Off Ds W W') (hD : ∀ D ∈ Ds, s ≤ D ∧ ¬ own D) : J x own W' :=
  hJ x own W W' h (fun k hk _ => ho.block k (fun hm => by
    have := hD k hm
    rcases hk with h1 | h1 | ⟨o, h1, h2⟩
    · omega
    · exact this.2 h1
    · rw [ho.was k hm] at h1; cases h1; cases h2)) (by rw [ho.size]; exact Nat.le_refl _) ho.os ho.tape ho.output
theorem YieldAt.one {F : Fence} {m : Nat} {P : Program} {l : Nat} {args : Array Value} {W : World} {R R' : World → Prop} (hd : F.depth = none) (m' : Nat)
    (h : YieldAt F m P l args W fun e W' => (e = .returned (.bool true) ∧ R W') ∨ (e = .returned (.bool false) ∧ R' W')) :
    ∃ fn tmps assign body, (Instr.yield l args).run P W = .ok (.round l fn tmps assign body) W ∧ RoundIn F m' P l fn tmps assign body W (fun e W' => ∃ bv : Bool, e = .returned (.bool bv) ∧ (bv = true → R W') ∧ (bv = false → R' W')) := by
  obtain ⟨fn, tmps, assign, body, hy, hR⟩ := h
  refine ⟨fn, tmps, assign, body, hy, RoundIn.any hd (m := m) (RoundIn.mono hR ?_)⟩
  rintro e W' (⟨rfl, hr⟩ | ⟨rfl, hr⟩)
  · exact ⟨true, rfl, fun _ => hr, fun h => absurd h (by decide)⟩
  · exact ⟨false, rfl, fun h => absurd h (by decide), fun _ => hr⟩
theorem stab_mono {β : Type} {s s' : Nat} {J : β → Foot → World → Prop} (h : Stab s J) (hs : s ≤ s') : Stab s' J := fun x own W W' h0 hk hz e1 e2 e3 => h x own W W' h0 (fun k hk' => hk k (by rcases hk' with h1 | h1; exact .inl (by omega); exact .inr h1)) hz e1 e2 e3
theorem roundIn_wd {r : Nat} {m : Nat} {P : Program} {l : Nat} {f : FuncId} {tmps : Array Value} {assign body : Code} {w : World} {R : Ending → World → Prop} (h : RoundIn (Wd none) m P l f tmps assign body w R) : RoundIn (Wd (some r)) m P l f tmps assign body w R := h
theorem owns_same {V V' : World} {base e s n : Nat} {v : Value} {xs : List Value} (h : V.ownsRow base e s v n xs) (hk : ∀ q, v.ownBlock = some q → V'.heap[q]? = V.heap[q]?) : V'.ownsRow base e s v n xs := by
  refine ⟨h.1, h.2.imp id ?_⟩
  rintro ⟨g', cap, cur, e1, h1, h2, h3⟩
  exact ⟨g', cap, cur, e1, h1, (hk g' (by rw [e1]; rfl)).trans h2, h3⟩
theorem own_ne_blk {V : World} {base e s n g t : Nat} {v : Value} {xs : List Value} {cs : Array Value} (h : V.ownsRow base e s v n xs) (hb : Blk V g t cs) (ht : t ≠ e) : v.ownBlock ≠ some g := by
  rcases h.2 with ⟨rfl, _⟩ | ⟨g', cap, cur, rfl, h1, h2, h3⟩
  · simp [Value.ownBlock]
  · intro e2
    have e3 : some g' = some g := e2
    cases e3
    unfold Blk at hb
    rw [h2] at hb
    cases hb
    exact ht rfl
theorem own_ne_own {V : World} {base e s n base' e' s' n' : Nat} {v v' : Value} {xs xs' : List Value} (h : V.ownsRow base e s v n xs) (h' : V.ownsRow base' e' s' v' n' xs') (ht : e ≠ e') : v.ownBlock = none ∨ v.ownBlock ≠ v'.ownBlock := by
  rcases h.2 with ⟨rfl, _⟩ | ⟨g, cap, cur, rfl, h1, h2, h3⟩
  · exact .inl rfl
  · right
    rcases h'.2 with ⟨rfl, _⟩ | ⟨g', cap', cur', rfl, h4, h5, h6⟩
    · simp [Value.ownBlock]
    · intro e2
      have e3 : some g = some g' := e2
      cases e3
      rw [h2] at h5
      cases h5
      exact ht rfl
theorem own_cellsAt {w : World} {base e size n g cap : Nat} {xs : List Value} (h : w.ownsRow base e size (.slice (some ⟨g, 0, none⟩) n cap) n xs) : ∃ cs fr, w.heap[g]? = some (.cells cs e fr) := by
  rcases h.2 with ⟨h1, -⟩ | ⟨g', cap', cur, h1, h2, h3, -⟩
  · cases h1
  · cases h1; exact ⟨_, _, h3⟩
end Go.Proofs.Ytiobmfggnacplaa
/- The iterator of a rim's turns keeps its promise, whatever the loop. -/
namespace Go.Proofs.Ytiobmfggnacplaa
open Go.RowKit Go.Shelf
attribute [local go_sem] Oper.semAt_some
/-- A turn: its number, its slice, and what it reads as. -/
structure TE where
  k : Nat
  v : Value
  l : List Int
def encT (x : TE) : Array Value := #[.int .i64 (x.k : Int), x.v]
def RdT (n : Nat) (l : List Int) (x : TE) (W : World) : Prop := (∃ A c, x.v = .slice A n c ∧ InS W W.heap.size A n x.l ∧ n ≤ c ∧ (∀ b off, A = some ⟨b, off, none⟩ → b < W.heap.size ∧ ∃ cs fr, W.heap[b]? = some (.cells cs 3 fr))) ∧ x.k < n ∧ x.l = rot l x.k
theorem rdT_keep {n : Nat} {l : List Int} (x : TE) (W W' : World) (h : RdT n l x W) (hk : ∀ (k : Nat) (o : Obj), W.heap[k]? = some o → o.isCells = true → W'.heap[k]? = some o) (hz : W.heap.size ≤ W'.heap.size) : RdT n l x W' := by
  obtain ⟨⟨A, c, h1, h2, h4, h5⟩, h8⟩ := h
  refine ⟨⟨A, c, h1, ⟨h2.1, fun hn => ?_⟩, h4, fun b off e => ⟨Nat.lt_of_lt_of_le (h5 b off e).1 hz, by obtain ⟨-, cs, fr, h6⟩ := h5 b off e; exact ⟨cs, fr, hk _ _ h6 rfl⟩⟩⟩, h8⟩
  obtain ⟨b, off, e, hb, hc⟩ := h2.2 hn
  refine ⟨b, off, e, by omega, fun j u hu => ?_⟩
  have h4 := hc j u hu
  obtain ⟨o, ho, hoc⟩ := cells_of_cell h4
  exact (World.cell?_of_block ((hk _ o ho hoc).trans ho.symm)).trans h4
/-- The turns that have come. -/
def tk (x : TE) : Nat × List Int := (x.k, x.l)
def tnL (l : List Int) (k : Nat) : List (Nat × List Int) := (List.range k).map fun j => (j, rot l j)
theorem tnL_succ (l : List Int) (k : Nat) : tnL l (k + 1) = tnL l k ++ [(k, rot l k)] := by
  unfold tnL
  rw [List.range_succ, List.map_append]; rfl
/-- What the iterator reads. -/
structure TIn (W : World) (own : Foot) (Bx g : Nat) (K : Int) (b off n c : Nat) (l : List Int) : Prop where
  hx : W.cell? ⟨Bx, 0, none⟩ = some (.pointer (some ⟨g, 0, none⟩))
  lx : Bx < W.heap.size
  ox : ¬ own Bx
  hR : Blk W g 82 (rdA K (some ⟨b, off, none⟩) n c l)
  og : ¬ own g
  hl : InS W W.heap.size (some ⟨b, off, none⟩) n l
  lb : b < W.heap.size
  ob : ¬ own b
theorem TIn.grow {W W' : World} {own own' : Foot} {Bx g b off n c : Nat} {K : Int} {l : List Int} (h : TIn W own Bx g K b off n c l) (hg : Grow own W own' W') : TIn W' own' Bx g K b off n c l := by
  have no : ∀ q, q < W.heap.size → ¬ own q → ¬ own' q := fun q hq hn h' => by
    rcases hg.from_ q h' with h1 | h1
    · exact hn h1
    · omega
  exact ⟨(World.cell?_of_block (hg.same _ h.lx h.ox)).trans h.hx, Nat.lt_of_lt_of_le h.lx hg.size, no _ h.lx h.ox, (hg.same _ h.hR.lt h.og).trans h.hR, no _ h.hR.lt h.og, ins_at h.hl hg.size (fun b' off' e hb' => by cases e; exact hg.same _ h.lb h.ob), Nat.lt_of_lt_of_le h.lb hg.size, no _ h.lb h.ob⟩
theorem TIn.rd {W : World} {own : Foot} {Bx g b off n c : Nat} {K : Int} {l : List Int} (h : TIn W own Bx g K b off n c l) : Rd W g K (some ⟨b, off, none⟩) n c l := ⟨h.hR, h.hl⟩
set_option maxRecDepth 100000 in
set_option maxHeartbeats 4000000 in
theorem turns_give (W : World) (own₀ : Foot) (Bx g : Nat) (K : Int) (b off n c : Nat) (l : List Int) (hc : n ≤ c) (hn : n ≤ 64) (h1n : 1 ≤ n) (hin : TIn W own₀ Bx g K b off n c l) :
    Gives (Wd none) Try.prog 95 #[.pointer (some ⟨Bx, 0, none⟩)] encT (RdT n l) n (fun xs => xs.map tk = tnL l n) (fun xs => ∃ k, k ≤ n ∧ xs.map tk = tnL l k) own₀ W := by
  intro D lp J Jx hJs hJxs hT hown h0
  have c1 := hin.hx
  have l1 := hin.lx
  have q1 : W.cell? ⟨g, 1, none⟩ = some (.slice (some ⟨b, off, none⟩) n c) := hin.hR.cell 1
  have lg := hin.hR.lt
  have HT := hid hT
  have HJs := hid hJs
  have HJxs := hid hJxs
  have HIN := hid hin
  have Hown := hid hown
  have HJ0 := hid h0
  have hd0 : (Wd none).depth = none := rfl
  clear hT hJs hJxs hin hown h0
  refine callsIn_of_wp_marks (F := Wd none) Try.func95 rfl trivial ?_ rfl
  simp only [Try.ntmps95, List.size_toArray, List.length_cons, List.length_nil, Nat.reduceAdd, Nat.reduceSub, Array.replicate_succ, Array.replicate_zero, List.push_toArray, List.append_toArray, List.nil_append, List.cons_append]
  gi_wp2
  refine wpIn_loop (fun a' wr => ∃ (ds : List Deferred) (u2 u3 u4 u5 u6 u7 u8 u10 u11 u12 u13 u14 u15 u16 u17 u18 u19 u20 : Value), (∃ (k : Nat) (xs : List TE) (own : Foot), ds = [] ∧ k ≤ n ∧ u10 = .int .i64 (k : Int) ∧ Hid (xs.map tk = tnL l k) ∧ Hid (J xs own wr) ∧ Hid (Grow own₀ W own wr)) ∧ a' = { tmps := #[.func (.yield lp) #[] #[], .pointer (some ⟨Bx, 0, none⟩), u2, u3, u4, u5, u6, u7, u8, .int .i64 (n : Int), u10, u11, u12, u13, u14, u15, u16, u17, u18, u19, u20], defers := ds }) (fun a' wr => n - (intOf (a'.tmps.getD 10 undef)).toNat) ?_ ?_
  · (repeat apply Exists.intro); refine ⟨?_, rfl⟩
    exact ⟨0, [], own₀, rfl, by omega, rfl, hid rfl, HJ0, hid (Grow.refl Hown.out)⟩
  · intro _ wr hinv; obtain ⟨ds, hinv⟩ := hinv; obtain ⟨u2, hinv⟩ := hinv; obtain ⟨u3, hinv⟩ := hinv; obtain ⟨u4, hinv⟩ := hinv; obtain ⟨u5, hinv⟩ := hinv; obtain ⟨u6, hinv⟩ := hinv; obtain ⟨u7, hinv⟩ := hinv; obtain ⟨u8, hinv⟩ := hinv; obtain ⟨u10, hinv⟩ := hinv; obtain ⟨u11, hinv⟩ := hinv; obtain ⟨u12, hinv⟩ := hinv; obtain ⟨u13, hinv⟩ := hinv; obtain ⟨u14, hinv⟩ := hinv; obtain ⟨u15, hinv⟩ := hinv; obtain ⟨u16, hinv⟩ := hinv; obtain ⟨u17, hinv⟩ := hinv; obtain ⟨u18, hinv⟩ := hinv; obtain ⟨u19, hinv⟩ := hinv; obtain ⟨u20, hinv⟩ := hinv; obtain ⟨hrel, ha⟩ := hinv; subst ha; dsimp only
    obtain ⟨k, xs, own, rfl, hk, rfl, hxs, hJx, hgr⟩ := hrel
    have hinr := HIN.out.grow hgr.out
    have r1 := hinr.hx
    have k1 := hinr.lx
    have HINr := hid hinr
    clear hinr c1 l1 q1 lg
    by_cases hlt : k < n
    · have hlti : (k : Int) < n := by omega
      gi_wp2_with (fail)
      refine (calls_wd (turned_any g K (some ⟨b, off, none⟩) n c l k wr HINr.out.rd hc hn hlt)).mono ?_
      rintro e X7 ⟨v7, rfl, ho7, hb7⟩
      obtain ⟨g7, c7, hv7, hg7, hlt7⟩ := World.ownsRow.form ho7 (by omega)
      subst hv7
      have hcs7 := own_cellsAt ho7
      have hin7 : InS X7 X7.heap.size (some ⟨g7, 0, none⟩) n (rot l k) := Sl.of_own ho7
      have hcap := own_capN ho7
      have hJ7 : J xs own X7 := HJs.out xs own wr X7 hJx.out (fun j _ hlt' => hb7.block j hlt') hb7.size hb7.os hb7.tape hb7.output
      have hgB : Grow own wr own X7 := grow_below hgr.out.lt hb7
      have hxl : xs.length = k := by have := congrArg List.length hxs.out; simpa [tnL] using this
      obtain ⟨fn, tmps, asg, bdy, hy, hR⟩ := YieldAt.one hd0 (D - 1) (HT.out D xs own ⟨k, .slice (some ⟨g7, 0, none⟩) n c7, rot l k⟩ X7 hJ7 (by omega) (fun j hj => Nat.lt_of_lt_of_le (hgr.out.lt j hj) hb7.size) ⟨⟨_, _, rfl, hin7, hcap, fun b' off' e => by cases e; exact ⟨hlt7, hcs7⟩⟩, hlt, rfl⟩)
      simp only [encT] at hy
      have Hg7 := hid (hgr.out.trans hgB)
      have hxs2 : Hid ((xs ++ [(⟨k, .slice (some ⟨g7, 0, none⟩) n c7, rot l k⟩ : TE)]).map tk = tnL l (k + 1)) := hid (by rw [List.map_append, hxs.out, tnL_succ]; rfl)
      clear ho7 hcs7 hin7 hJ7 hgB r1 k1 hxs hxl
      gi_wp2_with (refine RoundIn.mono hR ?_; rintro e w3 ⟨bv, rfl, ht, hf⟩; cases bv)
      · obtain ⟨own', hj, hg'⟩ := hf trivial
        have Hg8 := hid (Hg7.out.trans hg')
        clear ht hf
        refine leavesM_marks [] _ (by simp) (by simp) (fun w' ho => ⟨_, results_none rfl _ _ _, ⟨_, rfl⟩, ?_⟩)
        exact .inr ⟨_, own', ⟨k + 1, by omega, hxs2.out⟩, stab_off HJxs.out hj ho (by simp), grow_off Hg8.out ho (by simp)⟩
      · obtain ⟨own', hj, hg'⟩ := ht trivial
        have Hg8 := hid (Hg7.out.trans hg')
        have Hj := hid hj
        clear ht hf hj hg'
        (first | exact ⟨⟨k + 1, _, own', rfl, by omega, by go_num, hxs2, Hj, Hg8⟩, (by first | (simp [intOf]; omega) | (simp [intOf]; done))⟩ | (refine ⟨?_, ?_⟩; (focus ((repeat apply Exists.intro); refine ⟨?_, rfl⟩; exact ⟨k + 1, _, own', rfl, by omega, by go_num, hxs2, Hj, Hg8⟩)); (first | (simp [intOf]; omega) | (simp [intOf]; done))))
    · have hlti : ¬ (k : Int) < n := by omega
      obtain rfl : k = n := by omega
      gi_wp2
      refine leavesM_marks [] _ (by simp) (by simp) (fun w' ho => ⟨_, results_none rfl _ _ _, ⟨_, rfl⟩, ?_⟩)
      exact .inl ⟨xs, hxs.out, own, stab_off HJs.out hJx.out ho (by simp), grow_off hgr.out ho (by simp)⟩
end Go.Proofs.Ytiobmfggnacplaa
/- Walks: the iterator of turns is made; the reference's Shift. -/
namespace Go.Proofs.Ytiobmfggnacplaa
open Go.RowKit
attribute [local go_sem] Oper.semAt_some
theorem turnsIt_any (g : Nat) (w : World) : Calls Try.prog 66 #[.pointer (some ⟨g, 0, none⟩)] w fun e w' => e = .returned (.func (.func 95) #[] #[.pointer (some ⟨w.heap.size, 0, none⟩)]) ∧ w.alloc (.cells #[.pointer (some ⟨g, 0, none⟩)] 69) = w' := by
  go_enter Try.func66, Try.ntmps66
  go_wp2
  refine bodyPost_ret (v := .func (.func 95) #[] #[.pointer (some ⟨w.heap.size, 0, none⟩)]) (by first | (simp [results, Try.results66, go_sem]; done) | (simp [results, Try.results66, go_sem, *]; done) | (simp [results, Try.results66, go_sem, World.cell?_setCell_same', *]; done) | (simp [results, Try.results66, go_sem]; first | exact ⟨rfl, rfl⟩ | rfl)) rfl ⟨rfl, rfl⟩
/-- By how much the one is turned to be the other. -/
def shK (a b : List Int) : Option Nat := (List.range a.length).find? fun j => decide (rot a j = b)
def shE (K : Int) (a b : List Int) : Int := if checkRim K a ≠ 0 then checkRim K a else if checkRim K b ≠ 0 then checkRim K b else if shK a b = none then 15 else 0
def shV (K : Int) (a b : List Int) : Nat := if checkRim K a ≠ 0 then 0 else if checkRim K b ≠ 0 then 0 else (shK a b).getD 0
theorem shK_some {a b : List Int} {k : Nat} (hk : k < a.length) (hm : ∀ j, j < k → rot a j ≠ b) (h : rot a k = b) : shK a b = some k := by
  unfold shK
  rw [List.find?_range_eq_some]
  exact ⟨decide_eq_true h, List.mem_range.2 hk, fun j hj => by simpa using hm j hj⟩
theorem shK_none {a b : List Int} (hm : ∀ j, j < a.length → rot a j ≠ b) : shK a b = none := by
  unfold shK
  rw [List.find?_eq_none]
  exact fun j hj => by simpa using hm j (List.mem_range.1 hj)
set_option maxRecDepth 10000 in
set_option maxHeartbeats 4000000 in
theorem refShift_any (K : Int) (A B : Option Addr) (n c m d : Nat) (a b : List Int) (w : World) (ha : InS w w.heap.size A n a) (hb : InS w w.heap.size B m b) (hn : n ≤ 90) (hm : m ≤ 90) :
    Calls Try.prog 29 #[.int .i64 K, .slice A n c, .slice B m d] w fun e w' => e = .returned (.tuple #[.int .i64 (shV K a b : Nat), .int .i64 (shE K a b)]) ∧ Below w.heap.size w w' := by
  have hla := hid ha.len
  have hlb := hid hb.len
  have HA := hid ha
  have HB := hid hb
  clear ha hb
  by_cases h1 : checkRim K a ≠ 0
  · obtain ⟨E, hE⟩ : ∃ E, checkRim K a = E := ⟨_, rfl⟩
    have HE := hid hE
    have hv : Hid (shV K a b = 0) := hid (if_pos h1)
    have he : Hid (shE K a b = E) := hid (by unfold shE; rw [if_pos h1, hE])
    rw [hE] at h1
    have t1 : (E != 0) = true := by simpa using h1
    clear hE h1
    go_enter Try.func29, Try.ntmps29
    go_wp2_with (go_at_call 26; refine (refCheckRim_any K A n c a _ HA.out (by omega)).mono ?_; rw [HE.out]; rintro e W1 ⟨rfl, rfl⟩)
    refine bodyPost_ret (v := .tuple #[.int .i64 0, .int .i64 E]) (by first | (simp [results, Try.results29, go_sem]; done) | (simp [results, Try.results29, go_sem, *]; done) | (simp [results, Try.results29, go_sem, World.cell?_setCell_same', *]; done) | (simp [results, Try.results29, go_sem]; first | exact ⟨rfl, rfl⟩ | rfl)) rfl ⟨by rw [hv.out, he.out]; rfl, Below.refl _ _⟩
  · have h1' : checkRim K a = 0 := by omega
    have HE1 := hid h1'
    have h64 := (rim_good h1').2.1
    rw [hla.out] at h64
    by_cases h2 : checkRim K b ≠ 0
    · obtain ⟨E, hE⟩ : ∃ E, checkRim K b = E := ⟨_, rfl⟩
      have HE := hid hE
      have hv : Hid (shV K a b = 0) := hid (by unfold shV; rw [if_neg h1, if_pos h2])
      have he : Hid (shE K a b = E) := hid (by unfold shE; rw [if_neg h1, if_pos h2, hE])
      rw [hE] at h2
      have t1 : (E != 0) = true := by simpa using h2
      clear hE h2 h1 h1'
      go_enter Try.func29, Try.ntmps29
      go_wp2_with (fail)
      refine (refCheckRim_any K A n c a _ HA.out (by omega)).mono ?_
      rw [HE1.out]
      rintro e W1 ⟨rfl, rfl⟩
      go_wp2_with (go_at_call 26; refine (refCheckRim_any K B m d b _ HB.out (by omega)).mono ?_; rw [HE.out]; rintro e W1 ⟨rfl, rfl⟩)
      refine bodyPost_ret (v := .tuple #[.int .i64 0, .int .i64 E]) (by first | (simp [results, Try.results29, go_sem]; done) | (simp [results, Try.results29, go_sem, *]; done) | (simp [results, Try.results29, go_sem, World.cell?_setCell_same', *]; done) | (simp [results, Try.results29, go_sem]; first | exact ⟨rfl, rfl⟩ | rfl)) rfl ⟨by rw [hv.out, he.out]; rfl, Below.refl _ _⟩
    · have h2' : checkRim K b = 0 := by omega
      have HE2 := hid h2'
      have hv0 : Hid (shV K a b = (shK a b).getD 0) := hid (by unfold shV; rw [if_neg h1, if_neg h2])
      have he0 : Hid (shE K a b = if shK a b = none then 15 else 0) := hid (by unfold shE; rw [if_neg h1, if_neg h2])
      clear h1 h2 h1' h2'
      go_enter Try.func29, Try.ntmps29
      go_wp2_with (fail)
      refine (refCheckRim_any K A n c a _ HA.out (by omega)).mono ?_
      rw [HE1.out]
      rintro e W1 ⟨rfl, rfl⟩
      go_wp2_with (fail)
      refine (refCheckRim_any K B m d b _ HB.out (by omega)).mono ?_
      rw [HE2.out]
      rintro e W1 ⟨rfl, rfl⟩
      go_wp2_with (fail)
      go_loopw [8] (fun i wr => ∃ k : Nat, k ≤ n ∧ i = .int .i64 k ∧ Below w.heap.size w wr ∧ Hid (∀ j, j < k → rot a j ≠ b)) (fun i _ => n - (intOf i).toNat)
      case atStart => exact ⟨0, by omega, rfl, Below.refl _ _, hid (fun j hj => by omega)⟩
      case round =>
        obtain ⟨k, hk, rfl, hbw, Hm⟩ := hrel
        have hszw := hbw.size
        have HAw := hid (HA.out.below hbw hszw)
        by_cases hlt : k < n
        · have hlti : (k : Int) < n := by omega
          go_wp2_with (fail)
          refine (turnOf_any A n c a k _ HAw.out (by omega) (by omega)).mono ?_
          rintro e W1 ⟨v1, rfl, ho1, hb1⟩
          obtain ⟨A1, c1, rfl, hs⟩ := sl_of_owns ho1
          have HT := hid (show InS W1 W1.heap.size A1 n (rot a k) from hs)
          have hbw1 := hbw.trans (hb1.mono hszw)
          have hsz1 := hbw1.size
          clear ho1 hs
          cases heq : eqI (rot a k) b
          · have Heq := hid heq
            have hm2 : Hid (∀ j, j < k + 1 → rot a j ≠ b) := hid (fun j h3 => by
              rcases Nat.lt_or_ge j k with h4 | h4
              · exact Hm.out j h4
              · obtain rfl : j = k := by omega
                intro e; rw [eqI_t.2 e] at heq; cases heq)
            clear heq
            go_wp2_with (go_at_call 65; refine (same_any _ A1 B n c1 m d (rot a k) b HT.out (HB.out.below hbw1 hsz1) (by omega)).mono ?_; rw [Heq.out]; rintro e W2 ⟨rfl, hb2⟩)
            exact ⟨⟨k + 1, by omega, by go_num, hbw1.trans (hb2.mono hsz1), hm2⟩, by simp [intOf]; omega⟩
          · have Heq := hid heq
            have hf := shK_some (by rw [hla.out]; exact hlt) Hm.out (eqI_t.1 heq)
            have hv : Hid (shV K a b = k) := hid (by rw [hv0.out, hf]; rfl)
            have he : Hid (shE K a b = 0) := hid (by rw [he0.out, hf]; rfl)
            clear heq hf
            go_wp2_with (go_at_call 65; refine (same_any _ A1 B n c1 m d (rot a k) b HT.out (HB.out.below hbw1 hsz1) (by omega)).mono ?_; rw [Heq.out]; rintro e W2 ⟨rfl, hb2⟩)
            refine bodyPost_ret (v := .tuple #[.int .i64 (k : Nat), .int .i64 0]) (by first | (simp [results, Try.results29, go_sem]; done) | (simp [results, Try.results29, go_sem, *]; done) | (simp [results, Try.results29, go_sem, World.cell?_setCell_same', *]; done) | (simp [results, Try.results29, go_sem]; first | exact ⟨rfl, rfl⟩ | rfl)) rfl ⟨by rw [hv.out, he.out], hbw1.trans (hb2.mono hsz1)⟩
        · obtain rfl : n = k := by omega
          have hf := shK_none (by rw [hla.out]; exact Hm.out)
          have hv : Hid (shV K a b = 0) := hid (by rw [hv0.out, hf]; rfl)
          have he : Hid (shE K a b = 15) := hid (by rw [he0.out, hf]; rfl)
          clear hf
          go_wp2
          refine bodyPost_ret (v := .tuple #[.int .i64 0, .int .i64 15]) (by first | (simp [results, Try.results29, go_sem]; done) | (simp [results, Try.results29, go_sem, *]; done) | (simp [results, Try.results29, go_sem, World.cell?_setCell_same', *]; done) | (simp [results, Try.results29, go_sem]; first | exact ⟨rfl, rfl⟩ | rfl)) rfl ⟨by rw [hv.out, he.out]; rfl, hbw⟩
end Go.Proofs.Ytiobmfggnacplaa
/- Walks: a count's question; powers. -/
namespace Go.Proofs.Ytiobmfggnacplaa
open Go.RowKit
attribute [local go_sem] Oper.semAt_some
/-- What is wrong with a count's question. -/
def cntE (K t : Int) : Int := if K < 1 ∨ 4 < K then 2 else if t < 1 ∨ 12 < t then 6 else 0
theorem cntE_ok {K t : Int} (h : cntE K t = 0) : (1 ≤ K ∧ K ≤ 4) ∧ 1 ≤ t ∧ t ≤ 12 := by
  unfold cntE at h
  split at h
  · cases h
  · split at h
    · cases h
    · omega
set_option maxRecDepth 10000 in
set_option maxHeartbeats 4000000 in
theorem refCounted_any (K t : Int) (w : World) : Calls Try.prog 76 #[.int .i64 K, .int .i64 t] w fun e w' => e = .returned (.int .i64 (cntE K t)) ∧ Below w.heap.size w w' := by
  by_cases h1 : K < 1 ∨ 4 < K
  · have hf : Hid (cntE K t = 2) := hid (if_pos h1)
    have hk : Hid (kindsE K = 2) := hid (if_pos h1)
    clear h1
    go_enter Try.func76, Try.ntmps76
    go_wp2_with (go_at_call 64; refine (checkKinds_any K _).mono ?_; rw [hk.out]; rintro e W1 ⟨rfl, rfl⟩)
    refine bodyPost_ret (v := .int .i64 2) (by first | (simp [results, Try.results76, go_sem]; done) | (simp [results, Try.results76, go_sem, *]; done) | (simp [results, Try.results76, go_sem, World.cell?_setCell_same', *]; done) | (simp [results, Try.results76, go_sem]; first | exact ⟨rfl, rfl⟩ | rfl)) rfl ⟨by rw [hf.out], Below.refl _ _⟩
  · have hk : Hid (kindsE K = 0) := hid (if_neg h1)
    by_cases h2 : t < 1
    · have hf : Hid (cntE K t = 6) := hid (by unfold cntE; rw [if_neg h1, if_pos (.inl h2)])
      clear h1
      go_enter Try.func76, Try.ntmps76
      go_wp2_with (go_at_call 64; refine (checkKinds_any K _).mono ?_; rw [hk.out]; rintro e W1 ⟨rfl, rfl⟩)
      refine bodyPost_ret (v := .int .i64 6) (by first | (simp [results, Try.results76, go_sem]; done) | (simp [results, Try.results76, go_sem, *]; done) | (simp [results, Try.results76, go_sem, World.cell?_setCell_same', *]; done) | (simp [results, Try.results76, go_sem]; first | exact ⟨rfl, rfl⟩ | rfl)) rfl ⟨by rw [hf.out], Below.refl _ _⟩
    · by_cases h3 : 12 < t
      · have hf : Hid (cntE K t = 6) := hid (by unfold cntE; rw [if_neg h1, if_pos (.inr h3)])
        clear h1
        go_enter Try.func76, Try.ntmps76
        go_wp2_with (go_at_call 64; refine (checkKinds_any K _).mono ?_; rw [hk.out]; rintro e W1 ⟨rfl, rfl⟩)
        refine bodyPost_ret (v := .int .i64 6) (by first | (simp [results, Try.results76, go_sem]; done) | (simp [results, Try.results76, go_sem, *]; done) | (simp [results, Try.results76, go_sem, World.cell?_setCell_same', *]; done) | (simp [results, Try.results76, go_sem]; first | exact ⟨rfl, rfl⟩ | rfl)) rfl ⟨by rw [hf.out], Below.refl _ _⟩
      · have hf : Hid (cntE K t = 0) := hid (by unfold cntE; rw [if_neg h1, if_neg (by omega)])
        clear h1
        go_enter Try.func76, Try.ntmps76
        go_wp2_with (go_at_call 64; refine (checkKinds_any K _).mono ?_; rw [hk.out]; rintro e W1 ⟨rfl, rfl⟩)
        refine bodyPost_ret (v := .int .i64 0) (by first | (simp [results, Try.results76, go_sem]; done) | (simp [results, Try.results76, go_sem, *]; done) | (simp [results, Try.results76, go_sem, World.cell?_setCell_same', *]; done) | (simp [results, Try.results76, go_sem]; first | exact ⟨rfl, rfl⟩ | rfl)) rfl ⟨by rw [hf.out], Below.refl _ _⟩
theorem pow_bd {K : Int} {k : Nat} (h1 : 1 ≤ K) (h2 : K ≤ 4) (hk : k ≤ 12) : 1 ≤ K ^ k ∧ K ^ k ≤ 16777216 := by
  have h3 : K = 1 ∨ K = 2 ∨ K = 3 ∨ K = 4 := by omega
  have h4 : ∀ k : Fin 13, (1 : Int) ^ k.1 ≤ 16777216 ∧ (2 : Int) ^ k.1 ≤ 16777216 ∧ (3 : Int) ^ k.1 ≤ 16777216 ∧ (4 : Int) ^ k.1 ≤ 16777216 ∧ 1 ≤ (1 : Int) ^ k.1 ∧ 1 ≤ (2 : Int) ^ k.1 ∧ 1 ≤ (3 : Int) ^ k.1 ∧ 1 ≤ (4 : Int) ^ k.1 := by decide
  have h5 := h4 ⟨k, by omega⟩
  rcases h3 with rfl | rfl | rfl | rfl
  · exact ⟨h5.2.2.2.2.1, h5.1⟩
  · exact ⟨h5.2.2.2.2.2.1, h5.2.1⟩
  · exact ⟨h5.2.2.2.2.2.2.1, h5.2.2.1⟩
  · exact ⟨h5.2.2.2.2.2.2.2, h5.2.2.2.1⟩
set_option maxRecDepth 10000 in
set_option maxHeartbeats 4000000 in
theorem power_any (K : Int) (t : Nat) (w : World) (h1 : 1 ≤ K) (h2 : K ≤ 4) (ht : t ≤ 12) : Calls Try.prog 74 #[.int .i64 K, .int .i64 (t : Int)] w fun e w' => e = .returned (.int .i64 (K ^ t)) ∧ Below w.heap.size w w' := by
  go_enter Try.func74, Try.ntmps74
  go_wp2
  go_loopw [5, 7] (fun o i wr => ∃ k : Nat, k ≤ t ∧ i = .int .i64 k ∧ o = .int .i64 (K ^ k) ∧ Below w.heap.size w wr) (fun _ i _ => t - (intOf i).toNat)
  case atStart => exact ⟨0, by omega, rfl, by simp, Below.refl _ _⟩
  case round =>
    obtain ⟨k, hk, rfl, rfl, hbw⟩ := hrel
    have hb := pow_bd (k := k) h1 h2 (by omega)
    obtain ⟨p, hp⟩ : ∃ p, K ^ k = p := ⟨_, rfl⟩
    have hs : Hid (K ^ (k + 1) = p * K) := hid (by rw [Int.pow_succ, hp])
    have HP := hid hp
    rw [hp] at hb ⊢
    clear hp
    by_cases hlt : k < t
    · have hlti : (k : Int) < t := by omega
      have hm0 : 0 ≤ p * K := Int.mul_nonneg (by omega) (by omega)
      have hm1 : p * K ≤ 100000000 := Int.le_trans (Int.mul_le_mul hb.2 h2 (by omega) (by omega)) (by decide)
      go_wp2
      exact ⟨⟨k + 1, by omega, by go_num, by rw [hs.out], hbw⟩, by simp [intOf]; omega⟩
    · obtain rfl : k = t := by omega
      go_wp2
      refine bodyPost_ret (v := .int .i64 p) (by first | (simp [results, Try.results74, go_sem]; done) | (simp [results, Try.results74, go_sem, *]; done) | (simp [results, Try.results74, go_sem, World.cell?_setCell_same', *]; done) | (simp [results, Try.results74, go_sem]; first | exact ⟨rfl, rfl⟩ | rfl)) rfl ⟨by rw [HP.out], hbw⟩
set_option maxRecDepth 10000 in
set_option maxHeartbeats 4000000 in
theorem refPower_any (K : Int) (t : Nat) (w : World) (h1 : 1 ≤ K) (h2 : K ≤ 4) (ht : t ≤ 12) : Calls Try.prog 52 #[.int .i64 K, .int .i64 (t : Int)] w fun e w' => e = .returned (.int .i64 (K ^ t)) ∧ Below w.heap.size w w' := by
  go_enter Try.func52, Try.ntmps52
  go_wp2
  go_loopw [5, 6] (fun o i wr => ∃ k : Nat, k ≤ t ∧ i = .int .i64 k ∧ o = .int .i64 (K ^ k) ∧ Below w.heap.size w wr) (fun _ i _ => t - (intOf i).toNat)
  case atStart => exact ⟨0, by omega, rfl, by simp, Below.refl _ _⟩
  case round =>
    obtain ⟨k, hk, rfl, rfl, hbw⟩ := hrel
    have hb := pow_bd (k := k) h1 h2 (by omega)
    obtain ⟨p, hp⟩ : ∃ p, K ^ k = p := ⟨_, rfl⟩
    have hs : Hid (K ^ (k + 1) = p * K) := hid (by rw [Int.pow_succ, hp])
    have HP := hid hp
    rw [hp] at hb ⊢
    clear hp
    by_cases hlt : k < t
    · have hlti : (k : Int) < t := by omega
      have hm0 : 0 ≤ p * K := Int.mul_nonneg (by omega) (by omega)
      have hm1 : p * K ≤ 100000000 := Int.le_trans (Int.mul_le_mul hb.2 h2 (by omega) (by omega)) (by decide)
      go_wp2
      exact ⟨⟨k + 1, by omega, by go_num, by rw [hs.out], hbw⟩, by simp [intOf]; omega⟩
    · obtain rfl : k = t := by omega
      go_wp2
      refine bodyPost_ret (v := .int .i64 p) (by first | (simp [results, Try.results52, go_sem]; done) | (simp [results, Try.results52, go_sem, *]; done) | (simp [results, Try.results52, go_sem, World.cell?_setCell_same', *]; done) | (simp [results, Try.results52, go_sem]; first | exact ⟨rfl, rfl⟩ | rfl)) rfl ⟨by rw [HP.out], hbw⟩
end Go.Proofs.Ytiobmfggnacplaa
/- Walks: what two numbers have in common; the sign of a number. -/
namespace Go.Proofs.Ytiobmfggnacplaa
open Go.RowKit
attribute [local go_sem] Oper.semAt_some
set_option maxRecDepth 10000 in
set_option maxHeartbeats 4000000 in
theorem common_any : ∀ (b a : Nat) (w : World), a ≤ 1000 → b ≤ 1000 → Calls Try.prog 75 #[.int .i64 (a : Int), .int .i64 (b : Int)] w fun e w' => e = .returned (.int .i64 (Nat.gcd b a : Nat)) ∧ Below w.heap.size w w' := by
  intro b
  induction b using Nat.strongRecOn with
  | ind b ih =>
    intro a w ha hb
    rcases Nat.eq_zero_or_pos b with h0 | h0
    · subst h0
      have hg : Hid (Nat.gcd 0 a = a) := hid (Nat.gcd_zero_left a)
      clear ih
      go_enter Try.func75, Try.ntmps75
      go_wp2
      refine bodyPost_ret (v := .int .i64 (a : Int)) (by first | (simp [results, Try.results75, go_sem]; done) | (simp [results, Try.results75, go_sem, *]; done) | (simp [results, Try.results75, go_sem, World.cell?_setCell_same', *]; done) | (simp [results, Try.results75, go_sem]; first | exact ⟨rfl, rfl⟩ | rfl)) rfl ⟨by rw [hg.out], Below.refl _ _⟩
    · have hg : Hid (Nat.gcd b a = Nat.gcd (a % b) b) := hid (Nat.gcd_rec b a)
      have hr := Nat.mod_lt a h0
      obtain ⟨r, hre⟩ : ∃ r, a % b = r := ⟨_, rfl⟩
      have hti : Int.tmod (a : Int) (b : Int) = (r : Int) := by rw [← hre]; exact (Int.ofNat_tmod a b).symm
      rw [hre] at hg hr
      have hb1 : ¬ (b : Int) = 0 := by omega
      have t1 : ((b : Int) == 0) = false := by simpa using hb1
      have HI := hid (ih r hr b · hb (by omega))
      clear ih hre
      go_enter Try.func75, Try.ntmps75
      go_wp2_with (go_at_call 75; refine (HI.out _).mono ?_; rintro e W1 ⟨rfl, hb2⟩)
      refine bodyPost_ret (v := .int .i64 (Nat.gcd r b : Nat)) (by first | (simp [results, Try.results75, go_sem]; done) | (simp [results, Try.results75, go_sem, *]; done) | (simp [results, Try.results75, go_sem, World.cell?_setCell_same', *]; done) | (simp [results, Try.results75, go_sem]; first | exact ⟨rfl, rfl⟩ | rfl)) rfl ⟨by rw [hg.out], hb2⟩
/-- A number's sign, by trial: none if a square divides it. -/
def sgF : Nat → Nat → Nat → Int → Int
  | 0, _, _, o => o
  | f + 1, m, p, o => if m ≤ 1 then o else if m % p ≠ 0 then sgF f m (p + 1) o else if m / p % p = 0 then 0 else sgF f (m / p) (p + 1) (-o)
def sg (n : Nat) : Int := sgF 12 n 2 1
set_option maxRecDepth 10000 in
set_option maxHeartbeats 4000000 in
theorem sign_any (n : Nat) (w : World) (h1 : 1 ≤ n) (hn : n ≤ 12) : Calls Try.prog 78 #[.int .i64 (n : Int)] w fun e w' => e = .returned (.int .i64 (sg n)) ∧ Below w.heap.size w w' := by
  go_enter Try.func78, Try.ntmps78
  go_wp2
  go_loopw [0, 3, 4] (fun mv ov pv wr => ∃ (m p f : Nat) (o : Int), 1 ≤ m ∧ m ≤ 12 ∧ 2 ≤ p ∧ p ≤ 13 ∧ -1 ≤ o ∧ o ≤ 1 ∧ f + p = 14 ∧ mv = .int .i64 (m : Int) ∧ ov = .int .i64 o ∧ pv = .int .i64 (p : Int) ∧ Below w.heap.size w wr ∧ Hid (sgF f m p o = sg n) ∧ Hid (∀ j, 2 ≤ j → j < p → m % j ≠ 0)) (fun _ _ pv _ => 14 - (intOf pv).toNat)
  case atStart => exact ⟨n, 2, 12, 1, h1, hn, by omega, by omega, by omega, by omega, by omega, rfl, rfl, rfl, Below.refl _ _, hid rfl, hid (fun j h2 h3 => by omega)⟩
  case round =>
    obtain ⟨m, p, f, o, hm1, hm2, hp1, hp2, ho1, ho2, hfp, rfl, rfl, rfl, hbw, hs, hd⟩ := hrel
    obtain ⟨f', rfl⟩ : ∃ f', f = f' + 1 := ⟨f - 1, by omega⟩
    by_cases hm : m ≤ 1
    · have hf : Hid (sg n = o) := hid (by rw [← hs.out, sgF, if_pos hm])
      have hmi : ¬ (1 : Int) < m := by omega
      go_wp2
      refine bodyPost_ret (v := .int .i64 o) (by first | (simp [results, Try.results78, go_sem]; done) | (simp [results, Try.results78, go_sem, *]; done) | (simp [results, Try.results78, go_sem, World.cell?_setCell_same', *]; done) | (simp [results, Try.results78, go_sem]; first | exact ⟨rfl, rfl⟩ | rfl)) rfl ⟨by rw [hf.out], hbw⟩
    · have hmi : (1 : Int) < m := by omega
      have hpm : p ≤ m := by
        rcases Nat.lt_or_ge m p with h | h
        · exact absurd (Nat.mod_self m) (hd.out m (by omega) h)
        · exact h
      have hs2 := hs.out
      rw [sgF, if_neg hm] at hs2
      obtain ⟨r, hr⟩ : ∃ r, m % p = r := ⟨_, rfl⟩
      have z1 : Int.tmod (m : Int) (p : Int) = (r : Int) := by rw [← hr]; exact (Int.ofNat_tmod m p).symm
      have hrl : r < p := by rw [← hr]; exact Nat.mod_lt m (by omega)
      have hp0 : ¬ (p : Int) = 0 := by omega
      rw [hr] at hs2
      by_cases h0 : r = 0
      · rw [if_neg (by omega)] at hs2
        obtain ⟨q, hq⟩ : ∃ q, m / p = q := ⟨_, rfl⟩
        obtain ⟨t, ht⟩ : ∃ t, q % p = t := ⟨_, rfl⟩
        have hmq : m = p * q := by have := Nat.div_add_mod m p; rw [hq, hr, h0] at this; omega
        have z2 : Int.tdiv (m : Int) (p : Int) = (q : Int) := by rw [← hq]; exact (Int.ofNat_tdiv m p).symm
        have z3 : Int.tmod (q : Int) (p : Int) = (t : Int) := by rw [← ht]; exact (Int.ofNat_tmod q p).symm
        have hq1 : 1 ≤ q := by
          rcases Nat.eq_zero_or_pos q with h | h
          · rw [h] at hmq; omega
          · exact h
        have hq2 : q ≤ 12 := by rw [← hq]; exact Nat.le_trans (Nat.div_le_self m p) hm2
        have htl : t < p := by rw [← ht]; exact Nat.mod_lt q (by omega)
        rw [hq, ht] at hs2
        have hd2 : ∀ j, 2 ≤ j → j < p → q % j ≠ 0 := fun j h3 h4 h5 => hd.out j h3 h4 (by rw [hmq, Nat.mul_mod, h5, Nat.mul_zero, Nat.zero_mod])
        have HD := hid hd2
        have HT := hid ht
        subst h0
        clear hr hq ht hmq hd2
        by_cases h2 : t = 0
        · rw [if_pos h2] at hs2
          have hf : Hid (sg n = 0) := hid hs2.symm
          subst h2
          clear hs2
          go_wp2
          refine bodyPost_ret (v := .int .i64 0) (by first | (simp [results, Try.results78, go_sem]; done) | (simp [results, Try.results78, go_sem, *]; done) | (simp [results, Try.results78, go_sem, World.cell?_setCell_same', *]; done) | (simp [results, Try.results78, go_sem]; first | exact ⟨rfl, rfl⟩ | rfl)) rfl ⟨by rw [hf.out], hbw⟩
        · rw [if_neg h2] at hs2
          have HS := hid hs2
          have t1 : ((t : Int) == 0) = false := by simp; omega
          have hti : ¬ (t : Int) = 0 := by omega
          clear hs2
          go_wp2
          exact ⟨⟨q, p + 1, f', -o, hq1, hq2, by omega, by omega, by omega, by omega, by omega, rfl, by go_num, by go_num, hbw, HS, hid (fun j h3 h4 => by
            rcases Nat.lt_or_ge j p with h5 | h5
            · exact HD.out j h3 h5
            · obtain rfl : j = p := by omega
              rw [HT.out]; exact h2)⟩, by simp [intOf]; omega⟩
      · rw [if_pos h0] at hs2
        have HS := hid hs2
        have HR := hid hr
        have hri : (0 : Int) < r := by omega
        clear hs2 hr
        go_wp2
        exact ⟨⟨m, p + 1, f', o, hm1, hm2, by omega, by omega, by omega, by omega, by omega, rfl, rfl, by go_num, hbw, HS, hid (fun j h3 h4 => by
            rcases Nat.lt_or_ge j p with h5 | h5
            · exact hd.out j h3 h5
            · obtain rfl : j = p := by omega
              rw [HR.out]; exact h0)⟩, by simp [intOf]; omega⟩
end Go.Proofs.Ytiobmfggnacplaa
/- Walks: counting rows, the reference. -/
namespace Go.Proofs.Ytiobmfggnacplaa
open Go.RowKit
attribute [local go_sem] Oper.semAt_some
def soT : List (List Int) := [[0, 0, 0, 0, 0, 0, 0, 0, 0, 0, 0, 0, 0], [0, 1, 0, 0, 0, 0, 0, 0, 0, 0, 0, 0, 0], [0, 2, 1, 2, 3, 6, 9, 18, 30, 56, 99, 186, 335], [0, 3, 3, 8, 18, 48, 116, 312, 810, 2184, 5880, 16104, 44220], [0, 4, 6, 20, 60, 204, 670, 2340, 8160, 29120, 104754, 381300, 1397740]]
/-- How many classes of rows of t touches repeat nothing. -/
def so (K t : Nat) : Int := ((soT[K]?.getD [])[t]?).getD 0
def rowsT (K t : Nat) : Nat → Int
  | 0 => (K : Int) ^ t
  | d + 1 => if d ≠ 0 ∧ t % d = 0 then rowsT K t d - d * so K d else rowsT K t d
def cntT (K t : Nat) : Nat → Int
  | 0 => 0
  | d + 1 => if d ≠ 0 ∧ t % d = 0 then cntT K t d + so K d else cntT K t d
theorem so_facts : ∀ (K : Fin 5) (t : Fin 13), (1 ≤ t.1 → Int.tdiv (rowsT K.1 t.1 t.1) t.1 = so K.1 t.1) ∧ 0 ≤ so K.1 t.1 ∧ so K.1 t.1 ≤ 20000000 ∧ t.1 * so K.1 t.1 ≤ 200000000 ∧ ∀ d : Fin 14, 1 ≤ t.1 → 0 ≤ rowsT K.1 t.1 d.1 ∧ rowsT K.1 t.1 d.1 ≤ 20000000 ∧ 0 ≤ cntT K.1 t.1 d.1 ∧ cntT K.1 t.1 d.1 ≤ 20000000 := by decide +kernel
theorem rowsT_one (K t : Nat) : rowsT K t 1 = (K : Int) ^ t := by simp [rowsT]
set_option maxRecDepth 10000 in
set_option maxHeartbeats 4000000 in
theorem singleOf_any (K : Nat) (h1 : 1 ≤ K) (h2 : K ≤ 4) : ∀ (t : Nat) (w : World), 1 ≤ t → t ≤ 12 → Calls Try.prog 79 #[.int .i64 (K : Int), .int .i64 (t : Int)] w fun e w' => e = .returned (.int .i64 (so K t)) ∧ Below w.heap.size w w' := by
  intro t
  induction t using Nat.strongRecOn with
  | ind t ih =>
    intro w ht1 ht2
    have IH := hid ih
    clear ih
    obtain ⟨f1, f2, f3, f3m, f4⟩ := so_facts ⟨K, by omega⟩ ⟨t, by omega⟩
    simp only at f1 f2 f3 f3m f4
    have F1 := hid (f1 ht1)
    have F4 := hid f4
    clear f1 f4 f2 f3 f3m
    have hti1 : (1 : Int) ≤ t := by omega
    go_enter Try.func79, Try.ntmps79
    go_wp2_with (go_at_call 52; refine (refPower_any (K : Int) t _ (by omega) (by omega) ht2).mono ?_; rintro e W1 ⟨rfl, hb1⟩)
    obtain ⟨p0, hp0⟩ : ∃ p0, (K : Int) ^ t = p0 := ⟨_, rfl⟩
    rw [hp0]
    have HP0 := hid hp0
    clear hp0
    go_loopw [5, 6] (fun r i wr => ∃ d : Nat, 1 ≤ d ∧ d ≤ t ∧ i = .int .i64 (d : Int) ∧ r = .int .i64 (rowsT K t d) ∧ Below w.heap.size w wr) (fun _ i _ => t - (intOf i).toNat)
    case atStart => exact ⟨1, by omega, ht1, rfl, by rw [rowsT_one, HP0.out], hb1⟩
    case round =>
      obtain ⟨d, hd1, hd2, rfl, rfl, hbw⟩ := hrel
      have hszw := hbw.size
      obtain ⟨g1, g2, -, -⟩ := F4.out ⟨d, by omega⟩ ht1
      simp only at g1 g2
      obtain ⟨s, hs⟩ : ∃ s, rowsT K t d = s := ⟨_, rfl⟩
      have HS := hid hs
      rw [hs] at g1 g2 ⊢
      clear hs
      by_cases hlt : d < t
      · have hlti : (d : Int) < t := by omega
        obtain ⟨r, hr⟩ : ∃ r, t % d = r := ⟨_, rfl⟩
        have z1 : Int.tmod (t : Int) (d : Int) = (r : Int) := by rw [← hr]; exact (Int.ofNat_tmod t d).symm
        have hd0 : ¬ (d : Int) = 0 := by omega
        by_cases h0 : r = 0
        · subst h0
          have hs2 : Hid (rowsT K t (d + 1) = s - d * so K d) := hid (by rw [rowsT, if_pos ⟨by omega, hr⟩, HS.out])
          obtain ⟨-, e2, e3, e3m, -⟩ := so_facts ⟨K, by omega⟩ ⟨d, by omega⟩
          simp only at e2 e3 e3m
          obtain ⟨x, hx⟩ : ∃ x, so K d = x := ⟨_, rfl⟩
          have HI := hid (fun v => IH.out d hlt v hd1 (by omega))
          rw [hx] at hs2 e2 e3 e3m HI
          obtain ⟨y, hy⟩ : ∃ y, (d : Int) * x = y := ⟨_, rfl⟩
          have hy0 : 0 ≤ y := by rw [← hy]; exact Int.mul_nonneg (by omega) e2
          rw [hy] at hs2 e3m
          clear hr hx
          go_wp2_with (go_at_call 79; refine (HI.out _).mono ?_; rintro e W2 ⟨rfl, hb2⟩)
          try rw [hy]
          exact ⟨⟨d + 1, by omega, by omega, by go_num, by rw [hs2.out]; try go_num, hbw.trans (hb2.mono hszw)⟩, by simp [intOf]; omega⟩
        · have hs2 : Hid (rowsT K t (d + 1) = s) := hid (by rw [rowsT, if_neg (by rintro ⟨-, h⟩; omega), HS.out])
          have t1 : ((r : Int) == 0) = false := by simp; omega
          have hr0 : ¬ (r : Int) = 0 := by omega
          clear hr
          go_wp2
          exact ⟨⟨d + 1, by omega, by omega, by go_num, by rw [hs2.out], hbw⟩, by simp [intOf]; omega⟩
      · obtain rfl : d = t := by omega
        have hf := F1.out
        rw [HS.out] at hf
        have ht0 : ¬ (d : Int) = 0 := by omega
        obtain ⟨-, e2, e3, -⟩ := so_facts ⟨K, by omega⟩ ⟨d, by omega⟩
        simp only at e2 e3
        obtain ⟨x, hx⟩ : ∃ x, so K d = x := ⟨_, rfl⟩
        have HX := hid hx
        rw [hx] at hf e2 e3
        clear hx
        go_wp2
        refine bodyPost_ret (v := .int .i64 x) (by first | (simp [results, Try.results79, go_sem]; done) | (simp [results, Try.results79, go_sem, *]; done) | (simp [results, Try.results79, go_sem, World.cell?_setCell_same', *]; done) | (simp [results, Try.results79, go_sem]; first | exact ⟨rfl, rfl⟩ | rfl)) rfl ⟨by rw [HX.out], hbw⟩
set_option maxRecDepth 10000 in
set_option maxHeartbeats 4000000 in
theorem countOf_any (K : Nat) (h1 : 1 ≤ K) (h2 : K ≤ 4) (t : Nat) (w : World) (ht1 : 1 ≤ t) (ht2 : t ≤ 12) : Calls Try.prog 77 #[.int .i64 (K : Int), .int .i64 (t : Int)] w fun e w' => e = .returned (.int .i64 (cntT K t (t + 1))) ∧ Below w.heap.size w w' := by
  obtain ⟨-, -, -, -, f4⟩ := so_facts ⟨K, by omega⟩ ⟨t, by omega⟩
  simp only at f4
  have F4 := hid f4
  clear f4
  have hti1 : (1 : Int) ≤ t := by omega
  go_enter Try.func77, Try.ntmps77
  go_wp2
  go_loopw [5, 6] (fun r i wr => ∃ d : Nat, 1 ≤ d ∧ d ≤ t + 1 ∧ i = .int .i64 (d : Int) ∧ r = .int .i64 (cntT K t d) ∧ Below w.heap.size w wr) (fun _ i _ => t + 1 - (intOf i).toNat)
  case atStart => exact ⟨1, by omega, by omega, rfl, by simp [cntT], Below.refl _ _⟩
  case round =>
    obtain ⟨d, hd1, hd2, rfl, rfl, hbw⟩ := hrel
    have hszw := hbw.size
    obtain ⟨-, -, g1, g2⟩ := F4.out ⟨d, by omega⟩ ht1
    simp only at g1 g2
    obtain ⟨s, hs⟩ : ∃ s, cntT K t d = s := ⟨_, rfl⟩
    have HS := hid hs
    rw [hs] at g1 g2 ⊢
    clear hs
    by_cases hlt : d ≤ t
    · have hlti : (d : Int) ≤ t := by omega
      have hd13 : (d : Int) ≤ 12 := by omega
      obtain ⟨r, hr⟩ : ∃ r, t % d = r := ⟨_, rfl⟩
      have z1 : Int.tmod (t : Int) (d : Int) = (r : Int) := by rw [← hr]; exact (Int.ofNat_tmod t d).symm
      have hd0 : ¬ (d : Int) = 0 := by omega
      by_cases h0 : r = 0
      · subst h0
        have hs2 : Hid (cntT K t (d + 1) = s + so K d) := hid (by rw [cntT, if_pos ⟨by omega, hr⟩, HS.out])
        obtain ⟨-, e2, e3, -, -⟩ := so_facts ⟨K, by omega⟩ ⟨d, by omega⟩
        simp only at e2 e3
        obtain ⟨x, hx⟩ : ∃ x, so K d = x := ⟨_, rfl⟩
        have HI := hid (fun v => singleOf_any K h1 h2 d v hd1 (by omega))
        rw [hx] at hs2 e2 e3 HI
        clear hr hx
        go_wp2_with (go_at_call 79; refine (HI.out _).mono ?_; rintro e W2 ⟨rfl, hb2⟩)
        exact ⟨⟨d + 1, by omega, by omega, by go_num, by rw [hs2.out], hbw.trans (hb2.mono hszw)⟩, by simp [intOf]; omega⟩
      · have hs2 : Hid (cntT K t (d + 1) = s) := hid (by rw [cntT, if_neg (by rintro ⟨-, h⟩; omega), HS.out])
        have t1 : ((r : Int) == 0) = false := by simp; omega
        have hr0 : ¬ (r : Int) = 0 := by omega
        clear hr
        go_wp2
        exact ⟨⟨d + 1, by omega, by omega, by go_num, by rw [hs2.out], hbw⟩, by simp [intOf]; omega⟩
    · obtain rfl : d = t + 1 := by omega
      have hlti : ¬ ((t : Int) + 1) ≤ t := by omega
      have hlti2 : ¬ ((t + 1 : Nat) : Int) ≤ t := by omega
      go_wp2
      refine bodyPost_ret (v := .int .i64 s) (by first | (simp [results, Try.results77, go_sem]; done) | (simp [results, Try.results77, go_sem, *]; done) | (simp [results, Try.results77, go_sem, World.cell?_setCell_same', *]; done) | (simp [results, Try.results77, go_sem]; first | exact ⟨rfl, rfl⟩ | rfl)) rfl ⟨by rw [HS.out], hbw⟩
end Go.Proofs.Ytiobmfggnacplaa
