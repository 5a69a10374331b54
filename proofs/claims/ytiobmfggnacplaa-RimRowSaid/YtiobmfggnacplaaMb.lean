/- Texts of the proof, laid together by program. -/
import Derived.Test.YtiobmfggnacplaaMa
import Derived.Laws.CopyRow
import Derived.Laws.AppendOwnNone
import Derived.RangeFuncNested
import Derived.OwnWalkIn
import Derived.Scope
import Derived.RangeFuncLeaves
import Derived.RangeFuncCalls
import Derived.Shelf.Abstract
import Derived.Lib.AppendZeros
set_option linter.unusedSimpArgs false
set_option linter.unusedVariables false
/- Walks: which rims are valid. -/
namespace Go.Proofs.Ytiobmfggnacplaa
open Go.RowKit
attribute [local go_sem] Oper.semAt_some
def kindsE (K : Int) : Int := if K < 1 ∨ 4 < K then 2 else 0
def checkRim (K : Int) (l : List Int) : Int := if K < 1 ∨ 4 < K then 2 else if l.length < 1 ∨ 64 < l.length then 6 else if l.all (inR 0 (K - 1)) = false then 3 else 0
theorem rim_good {K : Int} {l : List Int} (h : checkRim K l = 0) : (1 ≤ K ∧ K ≤ 4) ∧ (1 ≤ l.length ∧ l.length ≤ 64) ∧ ∀ x ∈ l, 0 ≤ x ∧ x < K := by
  unfold checkRim at h
  split at h
  · cases h
  · split at h
    · cases h
    · split at h
      · cases h
      · rename_i h1 h2 h3
        refine ⟨by omega, by omega, fun x hx => ?_⟩
        have h4 : l.all (inR 0 (K - 1)) = true := by simpa using h3
        have := inR_t.1 (List.all_eq_true.1 h4 x hx)
        omega
theorem checkKinds_any (K : Int) (w : World) : Calls Try.prog 64 #[.int .i64 K] w fun e w' => e = .returned (.int .i64 (kindsE K)) ∧ w = w' := by
  by_cases h1 : K < 1
  · have hf : Hid (kindsE K = 2) := hid (if_pos (.inl h1))
    go_enter Try.func64, Try.ntmps64
    go_wp2
    refine bodyPost_ret (v := .int .i64 2) (by first | (simp [results, Try.results64, go_sem]; done) | (simp [results, Try.results64, go_sem, *]; done) | (simp [results, Try.results64, go_sem, World.cell?_setCell_same', *]; done) | (simp [results, Try.results64, go_sem]; first | exact ⟨rfl, rfl⟩ | rfl)) rfl ⟨by rw [hf.out], rfl⟩
  · by_cases h2 : 4 < K
    · have hf : Hid (kindsE K = 2) := hid (if_pos (.inr h2))
      go_enter Try.func64, Try.ntmps64
      go_wp2
      refine bodyPost_ret (v := .int .i64 2) (by first | (simp [results, Try.results64, go_sem]; done) | (simp [results, Try.results64, go_sem, *]; done) | (simp [results, Try.results64, go_sem, World.cell?_setCell_same', *]; done) | (simp [results, Try.results64, go_sem]; first | exact ⟨rfl, rfl⟩ | rfl)) rfl ⟨by rw [hf.out], rfl⟩
    · have hf : Hid (kindsE K = 0) := hid (if_neg (by omega))
      go_enter Try.func64, Try.ntmps64
      go_wp2
      refine bodyPost_ret (v := .int .i64 0) (by first | (simp [results, Try.results64, go_sem]; done) | (simp [results, Try.results64, go_sem, *]; done) | (simp [results, Try.results64, go_sem, World.cell?_setCell_same', *]; done) | (simp [results, Try.results64, go_sem]; first | exact ⟨rfl, rfl⟩ | rfl)) rfl ⟨by rw [hf.out], rfl⟩
theorem all_tk {K : Int} {l : List Int} {k : Nat} {x : Int} (h : (l.take k).all (inR 0 (K - 1)) = true) (hx : l[k]? = some x) (h1 : ¬ x < 0) (h2 : ¬ K ≤ x) : (l.take (k + 1)).all (inR 0 (K - 1)) = true := by
  rw [List.take_add_one, hx, List.all_append, h]
  simp [inR]; omega
theorem all_off {K : Int} {l : List Int} {k : Nat} {x : Int} (hx : l[k]? = some x) (h : x < 0 ∨ K ≤ x) : l.all (inR 0 (K - 1)) = false := by
  cases h2 : l.all (inR 0 (K - 1))
  · rfl
  · have := inR_t.1 (List.all_eq_true.1 h2 x (List.mem_of_getElem? hx))
    omega
set_option maxHeartbeats 1600000 in
theorem refCheckRim_any (K : Int) (A : Option Addr) (n c : Nat) (l : List Int) (w : World) (hl : InS w w.heap.size A n l) (hn : n ≤ 1000000) :
    Calls Try.prog 26 #[.int .i64 K, .slice A n c] w fun e w' => e = .returned (.int .i64 (checkRim K l)) ∧ w = w' := by
  have hlen := hid hl.len
  have HL := hid hl
  clear hl
  by_cases h0 : K < 1 ∨ 4 < K
  · have hk : Hid (kindsE K = 2) := hid (if_pos h0)
    have hf : Hid (checkRim K l = 2) := hid (if_pos h0)
    clear h0
    go_enter Try.func26, Try.ntmps26
    go_wp2_with (go_at_call 64; refine (checkKinds_any K _).mono ?_; rw [hk.out]; rintro e w1 ⟨rfl, rfl⟩)
    refine bodyPost_ret (v := .int .i64 2) (by first | (simp [results, Try.results26, go_sem]; done) | (simp [results, Try.results26, go_sem, *]; done) | (simp [results, Try.results26, go_sem, World.cell?_setCell_same', *]; done) | (simp [results, Try.results26, go_sem]; first | exact ⟨rfl, rfl⟩ | rfl)) rfl ⟨by rw [hf.out], rfl⟩
  · have hk : Hid (kindsE K = 0) := hid (if_neg h0)
    have hf0 : Hid (checkRim K l = if l.length < 1 ∨ 64 < l.length then 6 else if l.all (inR 0 (K - 1)) = false then 3 else 0) := hid (if_neg h0)
    have hK : 1 ≤ K ∧ K ≤ 4 := by omega
    clear h0
    by_cases h1 : n < 1
    · have hf : Hid (checkRim K l = 6) := hid (by rw [hf0.out, if_pos (by rw [hlen.out]; exact .inl h1)])
      have h1i : (n : Int) < 1 := by omega
      go_enter Try.func26, Try.ntmps26
      go_wp2_with (go_at_call 64; refine (checkKinds_any K _).mono ?_; rw [hk.out]; rintro e w1 ⟨rfl, rfl⟩)
      refine bodyPost_ret (v := .int .i64 6) (by first | (simp [results, Try.results26, go_sem]; done) | (simp [results, Try.results26, go_sem, *]; done) | (simp [results, Try.results26, go_sem, World.cell?_setCell_same', *]; done) | (simp [results, Try.results26, go_sem]; first | exact ⟨rfl, rfl⟩ | rfl)) rfl ⟨by rw [hf.out], rfl⟩
    · have h1i : ¬ (n : Int) < 1 := by omega
      by_cases h2 : 64 < n
      · have hf : Hid (checkRim K l = 6) := hid (by rw [hf0.out, if_pos (by rw [hlen.out]; exact .inr h2)])
        have h2i : (64 : Int) < n := by omega
        go_enter Try.func26, Try.ntmps26
        go_wp2_with (go_at_call 64; refine (checkKinds_any K _).mono ?_; rw [hk.out]; rintro e w1 ⟨rfl, rfl⟩)
        refine bodyPost_ret (v := .int .i64 6) (by first | (simp [results, Try.results26, go_sem]; done) | (simp [results, Try.results26, go_sem, *]; done) | (simp [results, Try.results26, go_sem, World.cell?_setCell_same', *]; done) | (simp [results, Try.results26, go_sem]; first | exact ⟨rfl, rfl⟩ | rfl)) rfl ⟨by rw [hf.out], rfl⟩
      · have h2i : ¬ (64 : Int) < n := by omega
        have hf1 : Hid (checkRim K l = if l.all (inR 0 (K - 1)) = false then 3 else 0) := hid (by rw [hf0.out, if_neg (by rw [hlen.out]; omega)])
        go_enter Try.func26, Try.ntmps26
        go_wp2_with (go_at_call 64; refine (checkKinds_any K _).mono ?_; rw [hk.out]; rintro e w1 ⟨rfl, rfl⟩)
        go_loopw [5] (fun i wr => ∃ k : Nat, k ≤ n ∧ i = .int .i64 k ∧ w = wr ∧ Hid ((l.take k).all (inR 0 (K - 1)) = true)) (fun i _ => n - (intOf i).toNat)
        case atStart => exact ⟨0, by omega, rfl, rfl, hid rfl⟩
        case round =>
          obtain ⟨k, hk2, rfl, rfl, hall⟩ := hrel
          by_cases hlt : k < n
          · obtain ⟨b, off, x, rfl, hb, hx, c0⟩ := HL.out.at_ hlt
            have hlti : (k : Int) < n := by omega
            by_cases hx0 : x < 0
            · have hf : Hid (checkRim K l = 3) := hid (by rw [hf1.out, if_pos (all_off hx (.inl hx0))])
              clear hx
              go_wp2
              refine bodyPost_ret (v := .int .i64 3) (by first | (simp [results, Try.results26, go_sem]; done) | (simp [results, Try.results26, go_sem, *]; done) | (simp [results, Try.results26, go_sem, World.cell?_setCell_same', *]; done) | (simp [results, Try.results26, go_sem]; first | exact ⟨rfl, rfl⟩ | rfl)) rfl ⟨by rw [hf.out], rfl⟩
            · by_cases hx1 : K ≤ x
              · have hf : Hid (checkRim K l = 3) := hid (by rw [hf1.out, if_pos (all_off hx (.inr hx1))])
                clear hx
                go_wp2
                refine bodyPost_ret (v := .int .i64 3) (by first | (simp [results, Try.results26, go_sem]; done) | (simp [results, Try.results26, go_sem, *]; done) | (simp [results, Try.results26, go_sem, World.cell?_setCell_same', *]; done) | (simp [results, Try.results26, go_sem]; first | exact ⟨rfl, rfl⟩ | rfl)) rfl ⟨by rw [hf.out], rfl⟩
              · have hnx := hid (all_tk hall.out hx hx0 hx1)
                clear hx
                go_wp2
                exact ⟨⟨k + 1, by omega, by go_num, trivial, hnx⟩, by simp [intOf]; omega⟩
          · obtain rfl : n = k := by omega
            have hf : Hid (checkRim K l = 0) := hid (by
              have h := hall.out
              rw [List.take_of_length_le (by rw [hlen.out]; exact Nat.le_refl _)] at h
              rw [hf1.out, if_neg (by rw [h]; simp)])
            go_wp2
            refine bodyPost_ret (v := .int .i64 0) (by first | (simp [results, Try.results26, go_sem]; done) | (simp [results, Try.results26, go_sem, *]; done) | (simp [results, Try.results26, go_sem, World.cell?_setCell_same', *]; done) | (simp [results, Try.results26, go_sem]; first | exact ⟨rfl, rfl⟩ | rfl)) rfl ⟨by rw [hf.out], rfl⟩
end Go.Proofs.Ytiobmfggnacplaa
/- Walks: which rims are valid, as the program says. Printed by rim/a4.py. -/
namespace Go.Proofs.Ytiobmfggnacplaa
open Go.RowKit
attribute [local go_sem] Oper.semAt_some
theorem all_one' {x lo hi : Int} : [x].all (inR lo hi) = inR lo hi x := by simp
theorem checkRim_kinds {K : Int} {l : List Int} (h : inR 1 4 K = false) : checkRim K l = 2 := if_pos (by have := inR_f.1 h; omega)
theorem checkRim_len {K : Int} {l : List Int} (h : inR 1 4 K = true) (h2 : inR 1 64 l.length = false) : checkRim K l = 6 := by
  unfold checkRim
  rw [if_neg (by have := inR_t.1 h; omega), if_pos (by have := inR_f.1 h2; omega)]
theorem checkRim_all {K : Int} {l : List Int} (h : inR 1 4 K = true) (h2 : inR 1 64 l.length = true) : checkRim K l = if l.all (inR 0 (K - 1)) = false then 3 else 0 := by
  unfold checkRim
  rw [if_neg (by have := inR_t.1 h; omega), if_neg (by have := inR_t.1 h2; omega)]
set_option maxRecDepth 10000 in
set_option maxHeartbeats 1600000 in
theorem checkRim_any (K : Int) (A : Option Addr) (n c : Nat) (l : List Int) (w : World) (hl : InS w w.heap.size A n l) (hn : n ≤ 90) :
    Calls Try.prog 25 #[.int .i64 K, .slice A n c] w fun e w' => e = .returned (.int .i64 (checkRim K l)) ∧ Below w.heap.size w w' := by
  have hlen := hid hl.len
  obtain ⟨W0, hW0⟩ : ∃ W0 : World, W0 = w := ⟨_, rfl⟩
  rw [← hW0] at hl ⊢
  clear hW0
  have HL := hid hl
  clear hl
  have hbel : Below W0.heap.size W0 W0 := Below.refl _ _
  have hsz := hbel.size
  cases h1 : inR 1 4 K
  · have H1 := hid (all_one'.trans h1)
    have hf := hid (checkRim_kinds (l := l) h1)
    clear h1
    go_enter Try.func25, Try.ntmps25
    go_wp2_with (fail)
    refine (within_any _ 1 1 [K] 1 4 _ (inS_lit1 K (by first | (simp; done) | (simp; omega) | omega) (by first | (simp; done) | (simp; omega) | omega)) (by omega)).mono ?_
    rw [H1.out]
    rintro e W1 ⟨rfl, hb⟩
    have hst : Below W0.heap.size W0 W1 := Below.trans (by repeat' (first | with_reducible assumption | with_reducible exact Below.refl _ _ | refine Below.alloc ?_ ?_ _ | refine Below.setCell ?_ ?_ _ | refine Below.drew ?_ | refine below_drewN ?_ _ | (simp; done) | (simp; omega) | omega)) (hb.mono (by first | (simp; done) | (simp; omega) | omega))
    replace hbel := hbel.trans (hst.mono hsz)
    replace hsz := hbel.size
    replace HL := hid (HL.out.below hst hst.size)
    clear hb hst
    obtain ⟨W0, rfl⟩ : ∃ W0 : World, W0 = W1 := ⟨_, rfl⟩
    go_wp2
    refine bodyPost_ret (v := .int .i64 2) (by first | (simp [results, Try.results25, go_sem]; done) | (simp [results, Try.results25, go_sem, *]; done) | (simp [results, Try.results25, go_sem, World.cell?_setCell_same', *]; done) | (simp [results, Try.results25, go_sem]; first | exact ⟨rfl, rfl⟩ | rfl)) rfl ⟨by rw [hf.out], hbel⟩
  · have H1 := hid (all_one'.trans h1)
    have hK := inR_t.1 h1
    cases h2 : inR 1 64 (n : Int)
    · have H2 := hid (all_one'.trans h2)
      have hf := hid (checkRim_len (l := l) h1 (by rw [hlen.out]; exact h2))
      clear h1 h2
      go_enter Try.func25, Try.ntmps25
      go_wp2_with (fail)
      refine (within_any _ 1 1 [K] 1 4 _ (inS_lit1 K (by first | (simp; done) | (simp; omega) | omega) (by first | (simp; done) | (simp; omega) | omega)) (by omega)).mono ?_
      rw [H1.out]
      rintro e W1 ⟨rfl, hb⟩
      have hst : Below W0.heap.size W0 W1 := Below.trans (by repeat' (first | with_reducible assumption | with_reducible exact Below.refl _ _ | refine Below.alloc ?_ ?_ _ | refine Below.setCell ?_ ?_ _ | refine Below.drew ?_ | refine below_drewN ?_ _ | (simp; done) | (simp; omega) | omega)) (hb.mono (by first | (simp; done) | (simp; omega) | omega))
      replace hbel := hbel.trans (hst.mono hsz)
      replace hsz := hbel.size
      replace HL := hid (HL.out.below hst hst.size)
      clear hb hst
      obtain ⟨W0, rfl⟩ : ∃ W0 : World, W0 = W1 := ⟨_, rfl⟩
      go_wp2_with (fail)
      refine (within_any _ 1 1 [(n : Int)] 1 64 _ (inS_lit1 (n : Int) (by first | (simp; done) | (simp; omega) | omega) (by first | (simp; done) | (simp; omega) | omega)) (by omega)).mono ?_
      rw [H2.out]
      rintro e W1 ⟨rfl, hb⟩
      have hst : Below W0.heap.size W0 W1 := Below.trans (by repeat' (first | with_reducible assumption | with_reducible exact Below.refl _ _ | refine Below.alloc ?_ ?_ _ | refine Below.setCell ?_ ?_ _ | refine Below.drew ?_ | refine below_drewN ?_ _ | (simp; done) | (simp; omega) | omega)) (hb.mono (by first | (simp; done) | (simp; omega) | omega))
      replace hbel := hbel.trans (hst.mono hsz)
      replace hsz := hbel.size
      replace HL := hid (HL.out.below hst hst.size)
      clear hb hst
      obtain ⟨W0, rfl⟩ : ∃ W0 : World, W0 = W1 := ⟨_, rfl⟩
      go_wp2
      refine bodyPost_ret (v := .int .i64 6) (by first | (simp [results, Try.results25, go_sem]; done) | (simp [results, Try.results25, go_sem, *]; done) | (simp [results, Try.results25, go_sem, World.cell?_setCell_same', *]; done) | (simp [results, Try.results25, go_sem]; first | exact ⟨rfl, rfl⟩ | rfl)) rfl ⟨by rw [hf.out], hbel⟩
    · have H2 := hid (all_one'.trans h2)
      have hf0 := checkRim_all (l := l) h1 (by rw [hlen.out]; exact h2)
      cases h3 : l.all (inR 0 (K - 1))
      · have H3 := hid h3
        have hf : Hid (checkRim K l = 3) := hid (by rw [hf0, h3]; rfl)
        clear h1 h2 h3 hf0
        go_enter Try.func25, Try.ntmps25
        go_wp2_with (fail)
        refine (within_any _ 1 1 [K] 1 4 _ (inS_lit1 K (by first | (simp; done) | (simp; omega) | omega) (by first | (simp; done) | (simp; omega) | omega)) (by omega)).mono ?_
        rw [H1.out]
        rintro e W1 ⟨rfl, hb⟩
        have hst : Below W0.heap.size W0 W1 := Below.trans (by repeat' (first | with_reducible assumption | with_reducible exact Below.refl _ _ | refine Below.alloc ?_ ?_ _ | refine Below.setCell ?_ ?_ _ | refine Below.drew ?_ | refine below_drewN ?_ _ | (simp; done) | (simp; omega) | omega)) (hb.mono (by first | (simp; done) | (simp; omega) | omega))
        replace hbel := hbel.trans (hst.mono hsz)
        replace hsz := hbel.size
        replace HL := hid (HL.out.below hst hst.size)
        clear hb hst
        obtain ⟨W0, rfl⟩ : ∃ W0 : World, W0 = W1 := ⟨_, rfl⟩
        go_wp2_with (fail)
        refine (within_any _ 1 1 [(n : Int)] 1 64 _ (inS_lit1 (n : Int) (by first | (simp; done) | (simp; omega) | omega) (by first | (simp; done) | (simp; omega) | omega)) (by omega)).mono ?_
        rw [H2.out]
        rintro e W1 ⟨rfl, hb⟩
        have hst : Below W0.heap.size W0 W1 := Below.trans (by repeat' (first | with_reducible assumption | with_reducible exact Below.refl _ _ | refine Below.alloc ?_ ?_ _ | refine Below.setCell ?_ ?_ _ | refine Below.drew ?_ | refine below_drewN ?_ _ | (simp; done) | (simp; omega) | omega)) (hb.mono (by first | (simp; done) | (simp; omega) | omega))
        replace hbel := hbel.trans (hst.mono hsz)
        replace hsz := hbel.size
        replace HL := hid (HL.out.below hst hst.size)
        clear hb hst
        obtain ⟨W0, rfl⟩ : ∃ W0 : World, W0 = W1 := ⟨_, rfl⟩
        go_wp2_with (fail)
        refine (within_any A n c l 0 (K - 1) _ (HL.out.below (by repeat' (first | with_reducible assumption | with_reducible exact Below.refl _ _ | refine Below.alloc ?_ ?_ _ | refine Below.setCell ?_ ?_ _ | refine Below.drew ?_ | refine below_drewN ?_ _ | (simp; done) | (simp; omega) | omega)) (by first | (simp; done) | (simp; omega) | omega)) (by omega)).mono ?_
        rw [H3.out]
        rintro e W1 ⟨rfl, hb⟩
        have hst : Below W0.heap.size W0 W1 := Below.trans (by repeat' (first | with_reducible assumption | with_reducible exact Below.refl _ _ | refine Below.alloc ?_ ?_ _ | refine Below.setCell ?_ ?_ _ | refine Below.drew ?_ | refine below_drewN ?_ _ | (simp; done) | (simp; omega) | omega)) (hb.mono (by first | (simp; done) | (simp; omega) | omega))
        replace hbel := hbel.trans (hst.mono hsz)
        replace hsz := hbel.size
        replace HL := hid (HL.out.below hst hst.size)
        clear hb hst
        obtain ⟨W0, rfl⟩ : ∃ W0 : World, W0 = W1 := ⟨_, rfl⟩
        go_wp2
        refine bodyPost_ret (v := .int .i64 3) (by first | (simp [results, Try.results25, go_sem]; done) | (simp [results, Try.results25, go_sem, *]; done) | (simp [results, Try.results25, go_sem, World.cell?_setCell_same', *]; done) | (simp [results, Try.results25, go_sem]; first | exact ⟨rfl, rfl⟩ | rfl)) rfl ⟨by rw [hf.out], hbel⟩
      · have H3 := hid h3
        have hf : Hid (checkRim K l = 0) := hid (by rw [hf0, h3]; rfl)
        clear h1 h2 h3 hf0
        go_enter Try.func25, Try.ntmps25
        go_wp2_with (fail)
        refine (within_any _ 1 1 [K] 1 4 _ (inS_lit1 K (by first | (simp; done) | (simp; omega) | omega) (by first | (simp; done) | (simp; omega) | omega)) (by omega)).mono ?_
        rw [H1.out]
        rintro e W1 ⟨rfl, hb⟩
        have hst : Below W0.heap.size W0 W1 := Below.trans (by repeat' (first | with_reducible assumption | with_reducible exact Below.refl _ _ | refine Below.alloc ?_ ?_ _ | refine Below.setCell ?_ ?_ _ | refine Below.drew ?_ | refine below_drewN ?_ _ | (simp; done) | (simp; omega) | omega)) (hb.mono (by first | (simp; done) | (simp; omega) | omega))
        replace hbel := hbel.trans (hst.mono hsz)
        replace hsz := hbel.size
        replace HL := hid (HL.out.below hst hst.size)
        clear hb hst
        obtain ⟨W0, rfl⟩ : ∃ W0 : World, W0 = W1 := ⟨_, rfl⟩
        go_wp2_with (fail)
        refine (within_any _ 1 1 [(n : Int)] 1 64 _ (inS_lit1 (n : Int) (by first | (simp; done) | (simp; omega) | omega) (by first | (simp; done) | (simp; omega) | omega)) (by omega)).mono ?_
        rw [H2.out]
        rintro e W1 ⟨rfl, hb⟩
        have hst : Below W0.heap.size W0 W1 := Below.trans (by repeat' (first | with_reducible assumption | with_reducible exact Below.refl _ _ | refine Below.alloc ?_ ?_ _ | refine Below.setCell ?_ ?_ _ | refine Below.drew ?_ | refine below_drewN ?_ _ | (simp; done) | (simp; omega) | omega)) (hb.mono (by first | (simp; done) | (simp; omega) | omega))
        replace hbel := hbel.trans (hst.mono hsz)
        replace hsz := hbel.size
        replace HL := hid (HL.out.below hst hst.size)
        clear hb hst
        obtain ⟨W0, rfl⟩ : ∃ W0 : World, W0 = W1 := ⟨_, rfl⟩
        go_wp2_with (fail)
        refine (within_any A n c l 0 (K - 1) _ (HL.out.below (by repeat' (first | with_reducible assumption | with_reducible exact Below.refl _ _ | refine Below.alloc ?_ ?_ _ | refine Below.setCell ?_ ?_ _ | refine Below.drew ?_ | refine below_drewN ?_ _ | (simp; done) | (simp; omega) | omega)) (by first | (simp; done) | (simp; omega) | omega)) (by omega)).mono ?_
        rw [H3.out]
        rintro e W1 ⟨rfl, hb⟩
        have hst : Below W0.heap.size W0 W1 := Below.trans (by repeat' (first | with_reducible assumption | with_reducible exact Below.refl _ _ | refine Below.alloc ?_ ?_ _ | refine Below.setCell ?_ ?_ _ | refine Below.drew ?_ | refine below_drewN ?_ _ | (simp; done) | (simp; omega) | omega)) (hb.mono (by first | (simp; done) | (simp; omega) | omega))
        replace hbel := hbel.trans (hst.mono hsz)
        replace hsz := hbel.size
        replace HL := hid (HL.out.below hst hst.size)
        clear hb hst
        obtain ⟨W0, rfl⟩ : ∃ W0 : World, W0 = W1 := ⟨_, rfl⟩
        go_wp2
        refine bodyPost_ret (v := .int .i64 0) (by first | (simp [results, Try.results25, go_sem]; done) | (simp [results, Try.results25, go_sem, *]; done) | (simp [results, Try.results25, go_sem, World.cell?_setCell_same', *]; done) | (simp [results, Try.results25, go_sem]; first | exact ⟨rfl, rfl⟩ | rfl)) rfl ⟨by rw [hf.out], hbel⟩
end Go.Proofs.Ytiobmfggnacplaa
/- Rows that are copied into, or cleared. Over any program. -/
namespace Go.Proofs.Ytiobmfggnacplaa
open Go.RowKit
/-- copy into a row, elements of any size. -/
theorem run_copy_sz {P : Program} (w : World) (dT sT ty elem : TypeId) (s : Nat) (g o dLen dCap : Nat) (a : Addr) (sLen sCap : Nat) (cur : Array Value) (t : TypeId) (cs : List Value)
    (hu : P.underlying dT = some (.slice elem)) (hs : (P.info? elem).map (·.size) = some s)
    (hg : w.heap[g]? = some (.cells cur t (0, 0))) (hn : cs.length = Nat.min sLen dLen * s)
    (hsrc : ∀ j v, cs[j]? = some v → w.cell? (a.add j) = some v) (hfit : o + cs.length ≤ cur.size) (h1 : ∀ v ∈ cs, v.oneCell' = true) :
    (Builtin.copy_ #[dT, sT] ty #[.slice (some ⟨g, o, none⟩) dLen dCap, .slice (some a) sLen sCap]).run P w =
      .ok (goInt (Nat.min sLen dLen)) (w.setRow g (cur.toList.take o ++ cs ++ cur.toList.drop (o + cs.length)).toArray) := by
  have hl := run_loadCells_list (P := P) w a cs hsrc
  have hst := run_storeCells_at P g o t cs 0 cur w hg (by simpa using hfit) h1
  cases hq : P.info? elem with
  | none => simp [hq] at hs
  | some i =>
    have hi : i.size = s := by simpa [hq] using hs
    simp [Builtin.copy_, run_underlying hu, Builtin.lenOf, Builtin.firstCells, sizeOf, typeInfo, hq, hi, ← hn, hl, hst]
theorem run_clear_sz {P : Program} (w : World) (dT ty elem : TypeId) (z : Value) (g o n c : Nat) (cur : Array Value) (t : TypeId)
    (hu : P.underlying dT = some (.slice elem)) (hz : (zeroValue elem).run P w = .ok z w) (hn : 0 < n)
    (hg : w.heap[g]? = some (.cells cur t (0, 0))) (cs : List Value) (hcs : (Builtin.zeroCells z.cells n).toList = cs) (hfit : o + cs.length ≤ cur.size) (h1 : ∀ v ∈ cs, v.oneCell' = true) :
    (Builtin.clear_ #[dT] ty #[.slice (some ⟨g, o, none⟩) n c]).run P w = .ok (.tuple #[]) (w.setRow g (cur.toList.take o ++ cs ++ cur.toList.drop (o + cs.length)).toArray) := by
  have hst := run_storeCells_at P g o t cs 0 cur w hg (by simpa using hfit) h1
  obtain ⟨m, rfl⟩ : ∃ m, n = m + 1 := ⟨n - 1, by omega⟩
  simp [Builtin.clear_, run_underlying hu, hz, hcs, hst]
theorem Blk.row {w : World} {g : Nat} {t : TypeId} {cs : Array Value} (h : Blk w g t cs) (cs' : Array Value) : Blk (w.setRow g cs') g t cs' := setRow_heap w g cs cs' t (0, 0) h
theorem below_setRow {B g : Nat} {a w : World} (h : Below B a w) (hg : B ≤ g) (cs : Array Value) : Below B a (w.setRow g cs) :=
  ⟨h.os, h.tape, h.output, by rw [setRow_size]; exact h.size, fun k hk => (setRow_other w g k cs (by omega)).trans (h.block k hk)⟩

theorem clear_self {w : World} {g : Nat} {t : TypeId} {cs : Array Value} (h : Blk w g t cs) : w.setRow g cs = w := setRow_self _ _ _ _ _ h
end Go.Proofs.Ytiobmfggnacplaa
/- Walks: the reader of a rim. -/
namespace Go.Proofs.Ytiobmfggnacplaa
open Go.RowKit
attribute [local go_sem] Oper.semAt_some
/-- How often a touch stands. -/
def cn (l : List Int) (i : Nat) : Nat := (l.filter fun x => x == (i : Int)).length
theorem cn_take {l : List Int} {k : Nat} {x : Int} (h : l[k]? = some x) (i : Nat) : cn (l.take (k + 1)) i = cn (l.take k) i + if x = (i : Int) then 1 else 0 := by
  unfold cn
  rw [List.take_add_one, h, List.filter_append, List.length_append]
  congr 1
  by_cases e : x = (i : Int) <;> simp [e]
theorem cn_le (l : List Int) (i : Nat) : cn l i ≤ l.length := List.length_filter_le _ _
def rdA (K : Int) (A : Option Addr) (n c : Nat) (l : List Int) : Array Value := #[.int .i64 K, .slice A n c, .int .i64 (cn l 0 : Nat), .int .i64 (cn l 1 : Nat), .int .i64 (cn l 2 : Nat), .int .i64 (cn l 3 : Nat)]
theorem rdA_size (K : Int) (A : Option Addr) (n c : Nat) (l : List Int) : (rdA K A n c l).size = 6 := rfl
theorem rdA_take {K : Int} {A : Option Addr} {n c k y : Nat} {l : List Int} (h : l[k]? = some (y : Int)) (hy : y < 4) : (rdA K A n c (l.take k)).setIfInBounds (2 + y) (.int .i64 ((cn (l.take k) y : Nat) + 1 : Int)) = rdA K A n c (l.take (k + 1)) := by
  have e : ∀ i : Nat, cn (l.take (k + 1)) i = if i = y then cn (l.take k) y + 1 else cn (l.take k) i := fun i => by
    rw [cn_take h]
    by_cases hi : i = y
    · subst hi; simp
    · rw [if_neg (by omega), if_neg hi]; rfl
  have hc : y = 0 ∨ y = 1 ∨ y = 2 ∨ y = 3 := by omega
  unfold rdA
  simp only [e]
  rcases hc with rfl | rfl | rfl | rfl <;> simp
theorem rdA_at {K : Int} {A : Option Addr} {n c y : Nat} {l : List Int} (hy : y < 4) : (rdA K A n c l)[2 + y]? = some (.int .i64 (cn l y : Nat)) := by
  have hc : y = 0 ∨ y = 1 ∨ y = 2 ∨ y = 3 := by omega
  rcases hc with rfl | rfl | rfl | rfl <;> rfl
theorem zero4 : (Builtin.zeroCells (#[.int .i64 0]) 4).toList = [.int .i64 0, .int .i64 0, .int .i64 0, .int .i64 0] := by kernel_rfl
/-- A reader in memory. -/
def Rd (w : World) (g : Nat) (K : Int) (A : Option Addr) (n c : Nat) (l : List Int) : Prop := Blk w g 82 (rdA K A n c l) ∧ InS w w.heap.size A n l
theorem Rd.below {w w' : World} {g : Nat} {K : Int} {A : Option Addr} {n c : Nat} {l : List Int} (h : Rd w g K A n c l) (hb : Below w.heap.size w w') : Rd w' g K A n c l := ⟨h.1.below hb h.1.lt, h.2.below hb hb.size⟩
set_option maxRecDepth 10000 in
set_option maxHeartbeats 4000000 in
theorem newReader_any (K : Int) (A : Option Addr) (n c : Nat) (l : List Int) (w : World) (hl : InS w w.heap.size A n l) (hn : n ≤ 64) (hb : ∀ x ∈ l, 0 ≤ x ∧ x < 4) :
    Calls Try.prog 88 #[.int .i64 K, .slice A n c] w fun e w' => ∃ g, e = .returned (.pointer (some ⟨g, 0, none⟩)) ∧ w.heap.size ≤ g ∧ Rd w' g K A n c l ∧ Below w.heap.size w w' := by
  have hlen := hid hl.len
  have HL := hid hl
  have Hb := hid hb
  clear hl hb
  obtain ⟨W2, hW2⟩ : ∃ W2, w.alloc (.cells #[.int .i64 K, .slice A n c, .int .i64 0, .int .i64 0, .int .i64 0, .int .i64 0] 82) = W2 := ⟨_, rfl⟩
  have b2 : Blk W2 w.heap.size 82 (rdA K A n c []) := by rw [← hW2]; exact Blk.new' rfl
  have hb2 : Below w.heap.size w W2 := by rw [← hW2]; exact (Below.refl _ _).alloc (Nat.le_refl _) _
  have hcl := run_clear_sz (P := Try.prog) W2 22 0 3 (.int .i64 0) w.heap.size 2 4 4 (rdA K A n c []) 82 (by kernel_rfl) (by go_simp) (by omega) b2 [.int .i64 0, .int .i64 0, .int .i64 0, .int .i64 0] zero4 (by simp [rdA]) (by
    intro u hu
    simp only [List.mem_cons, List.not_mem_nil, or_false] at hu
    rcases hu with rfl | rfl | rfl | rfl <;> rfl)
  rw [show ((rdA K A n c []).toList.take 2 ++ [Value.int .i64 0, .int .i64 0, .int .i64 0, .int .i64 0] ++ (rdA K A n c []).toList.drop (2 + [Value.int .i64 0, .int .i64 0, .int .i64 0, .int .i64 0].length)).toArray = rdA K A n c [] from rfl, clear_self b2] at hcl
  have l2 := b2.lt
  have q1 : W2.cell? ⟨w.heap.size, 1, none⟩ = some (.slice A n c) := b2.cell 1
  go_enter Try.func88, Try.ntmps88
  go_wp2_with (fail)
  clear hcl hW2 q1
  go_loopw [23] (fun i wr => ∃ k : Nat, k ≤ n ∧ i = .int .i64 k ∧ Blk wr w.heap.size 82 (rdA K A n c (l.take k)) ∧ Below w.heap.size w wr) (fun i _ => n - (intOf i).toNat)
  case atStart => exact ⟨0, by omega, rfl, b2, hb2⟩
  case round =>
    clear b2 hb2 l2
    obtain ⟨k, hk, rfl, b2, hbw⟩ := hrel
    have hszw := hbw.size
    have l2 := b2.lt
    by_cases hlt : k < n
    · obtain ⟨b, off, x, rfl, hb1, hm, c0⟩ := (HL.out.below hbw (Nat.le_refl _)).at_ hlt
      obtain ⟨x0, x1⟩ := Hb.out x (List.mem_of_getElem? hm)
      obtain ⟨y, rfl⟩ : ∃ y : Nat, x = y := ⟨x.toNat, by omega⟩
      have hy4 : y < 4 := by omega
      have hy4i : (y : Int) < 4 := by omega
      have hcy : cn (l.take k) y ≤ 64 := by have := cn_le (l.take k) y; rw [List.length_take] at this; omega
      have hst := hid (rdA_take (K := K) (A := some ⟨b, off, none⟩) (n := n) (c := c) hm hy4)
      have hlti : (k : Int) < n := by omega
      have c1 : wr.cell? ⟨w.heap.size, 2 + y, none⟩ = some (.int .i64 (cn (l.take k) y : Nat)) := (b2.cell (2 + y)).trans (rdA_at hy4)
      have B2 := hid b2
      clear hm b2
      obtain ⟨cy, hcy2⟩ : ∃ cy, cn (l.take k) y = cy := ⟨_, rfl⟩
      rw [hcy2] at hst c1 hcy
      clear hcy2
      go_wp2_with (fail)
      refine wp_region_hd 10 (fun W' => Below wr.heap.size wr W') (by kernel_rfl) (by kernel_rfl) ((Below.refl _ _).drew) ?_
      simp only [List.take_succ_cons, List.take_zero, List.drop_succ_cons, List.drop_zero]
      iterate 10 (refine wpHd_val (v := ?_) (by rfl) (fun W hW => ?_) ?_; rotate_left; (· obtain ⟨hcW, hfW⟩ := bcell hW; go_simp; with_reducible rfl); simp only [Act.put, List.setIfInBounds_toArray, List.set_cons_zero, List.set_cons_succ])
      refine wpHd_nil ?_
      intro W5 hW5
      have B5 := B2.out.below hW5 l2
      have f5 := B5.frozen (2 + y)
      have l5 := B5.lt
      have hs5 := B5.set_ (2 + y) (.int .i64 ((cy : Int) + 1))
      have B6 : Hid (Blk (W5.setCell ⟨w.heap.size, 2 + y, none⟩ (.int .i64 ((cy : Int) + 1))) w.heap.size 82 (rdA K (some ⟨b, off, none⟩) n c (l.take (k + 1)))) := hid (by rw [← hst.out]; exact hs5)
      have hb6 := (hbw.trans (hW5.mono hszw)).setCell (p := (⟨w.heap.size, 2 + y, none⟩ : Addr)) (by simp) (.int .i64 ((cy : Int) + 1))
      have c5 : W5.cell? ⟨w.heap.size, 2 + y, none⟩ = some (.int .i64 (cy : Nat)) := (hW5.cell (p := ⟨w.heap.size, 2 + y, none⟩) l2).trans c1
      clear hs5 B5
      go_wp2
      exact ⟨⟨k + 1, by omega, by go_num, B6.out, hb6⟩, by simp [intOf]; omega⟩
    · obtain rfl : n = k := by omega
      have hf : Hid (l.take n = l) := hid (List.take_of_length_le (by rw [hlen.out]; exact Nat.le_refl _))
      rw [hf.out] at b2
      go_wp2
      refine bodyPost_ret (v := .pointer (some ⟨w.heap.size, 0, none⟩)) (by first | (simp [results, Try.results88, go_sem]; done) | (simp [results, Try.results88, go_sem, *]; done) | (simp [results, Try.results88, go_sem, World.cell?_setCell_same', *]; done) | (simp [results, Try.results88, go_sem]; first | exact ⟨rfl, rfl⟩ | rfl)) rfl ⟨w.heap.size, rfl, Nat.le_refl _, ⟨b2, HL.out.below hbw hszw⟩, hbw⟩
end Go.Proofs.Ytiobmfggnacplaa
/- Walks: open. -/
namespace Go.Proofs.Ytiobmfggnacplaa
open Go.RowKit
attribute [local go_sem] Oper.semAt_some
set_option maxRecDepth 10000 in
set_option maxHeartbeats 1600000 in
theorem open_bad (K : Int) (A : Option Addr) (n c : Nat) (l : List Int) (w : World) (hl : InS w w.heap.size A n l) (hn : n ≤ 90) (hbad : checkRim K l ≠ 0) :
    Calls Try.prog 58 #[.int .i64 K, .slice A n c] w fun e w' => e = .returned (.tuple #[.pointer none, .int .i64 (checkRim K l)]) ∧ Below w.heap.size w w' := by
  obtain ⟨E, hE⟩ : ∃ E, checkRim K l = E := ⟨_, rfl⟩
  have HE := hid hE
  rw [hE] at hbad ⊢
  have h1 : (E == 0) = false := by simpa using hbad
  have h2 : (E != 0) = true := by simpa using hbad
  have HL := hid hl
  clear hE hl
  go_enter Try.func58, Try.ntmps58
  go_wp2_with (fail)
  refine (checkRim_any K A n c l _ HL.out hn).mono ?_
  rw [HE.out]
  rintro e W1 ⟨rfl, hb⟩
  go_wp2
  refine bodyPost_ret (v := .tuple #[.pointer none, .int .i64 E]) (by first | (simp [results, Try.results58, go_sem]; done) | (simp [results, Try.results58, go_sem, *]; done) | (simp [results, Try.results58, go_sem, World.cell?_setCell_same', *]; done) | (simp [results, Try.results58, go_sem]; first | exact ⟨rfl, rfl⟩ | rfl)) rfl ⟨rfl, hb⟩
set_option maxRecDepth 10000 in
set_option maxHeartbeats 1600000 in
theorem open_ok (K : Int) (A : Option Addr) (n c : Nat) (l : List Int) (w : World) (hl : InS w w.heap.size A n l) (hok : checkRim K l = 0) :
    Calls Try.prog 58 #[.int .i64 K, .slice A n c] w fun e w' => ∃ g, e = .returned (.tuple #[.pointer (some ⟨g, 0, none⟩), .int .i64 0]) ∧ w.heap.size ≤ g ∧ Rd w' g K A n c l ∧ Below w.heap.size w w' := by
  obtain ⟨h1, h2, h3⟩ := rim_good hok
  have hlen := hl.len
  have HE := hid hok
  have HL := hid hl
  have hn : n ≤ 64 := by omega
  have H3 : Hid (∀ x ∈ l, 0 ≤ x ∧ x < 4) := hid (fun x hx => by have := h3 x hx; omega)
  clear hok hl hlen h2 h3
  go_enter Try.func58, Try.ntmps58
  go_wp2_with (fail)
  refine (checkRim_any K A n c l _ HL.out (by omega)).mono ?_
  rw [HE.out]
  rintro e W1 ⟨rfl, hb⟩
  have hsz := hb.size
  go_wp2_with (fail)
  refine (newReader_any K A n c l _ (HL.out.below hb hsz) hn H3.out).mono ?_
  rintro e W2 ⟨g, rfl, hg, hR, hb2⟩
  go_wp2
  refine bodyPost_ret (v := .tuple #[.pointer (some ⟨g, 0, none⟩), .int .i64 0]) (by first | (simp [results, Try.results58, go_sem]; done) | (simp [results, Try.results58, go_sem, *]; done) | (simp [results, Try.results58, go_sem, World.cell?_setCell_same', *]; done) | (simp [results, Try.results58, go_sem]; first | exact ⟨rfl, rfl⟩ | rfl)) rfl ⟨g, rfl, Nat.le_trans hsz hg, hR, hb.trans (hb2.mono hsz)⟩
end Go.Proofs.Ytiobmfggnacplaa
/- append of what a slice value reads as, nil or not, at a guarded operation, too. -/
namespace Go.Proofs.Ytiobmfggnacplaa
open Go.RowKit
theorem wpList_wanted {P : Program} {w : World} {ops : Array Oper} {rest : List Oper} {o : Oper} {a : Act} {Q : Exit → Act → World → Prop} (hw : Region.wanted o (yielded ops a.tmps) = true)
    (h : ∀ K : Act → World → Prop, (∀ a w, wpList P ops Q rest a w → K a w) → o.wp P a w K Q) : wpList P ops Q (o :: rest) a w :=
  wpList_step fun K hK => by simp only [hw, if_true]; exact h K hK
theorem wpList_append_srcG {P : Program} {w : World} {ops : Array Oper} {rest : List Oper} {o : Oper} {a : Act} {Q : Exit → Act → World → Prop} (hw : Region.wanted o (yielded ops a.tmps) = true) (s x : Operand) (t : TypeId)
    (ho : o.op = .call { callee := .builtin .append, args := #[s, x], argTypes := #[t, t] })
    (base : Nat) (e : TypeId) (i : TypeInfo) (z : Value) (size bytes : Nat) (ht : P.underlying t = some (.slice e)) (hi : P.info? e = some i) (hz : i.zero = some z)
    (hsize : i.size = size) (hby : i.bytes = bytes) (hzs : z.cells.size = size) (hsz : 0 < size)
    (v : Value) (n : Nat) (xs : List Value) (hs : a.eval s = v) (hown : w.ownsRow base e size v n xs)
    (A : Option Addr) (m c : Nat) (news : List Value) (hx : a.eval x = .slice A m c) (B : Nat) (hS : Sl w B size A m news) (hA : A = none → m = 0 ∧ c = 0) (h1 : ∀ u ∈ news, u.oneCell' = true)
    (h63 : n + m ≤ maxLen) (hbytes : (n + m) * bytes ≤ 140737488355328) (hbase : base ≤ w.heap.size)
    (h : ∀ v' w', w'.ownsRow base e size v' (n + m) (xs ++ news) → w.grownBy w' v.ownBlock → (v' = .slice none 0 0 ↔ v = .slice none 0 0 ∧ m = 0) → (v'.ownBlock = v.ownBlock ∨ v'.ownBlock = some w.heap.size) → wpList P ops Q rest (a.put o.dst v') w') :
    wpList P ops Q (o :: rest) a w := by
  refine wpList_wanted hw fun K hK => ?_
  cases A with
  | none =>
    obtain ⟨rfl, rfl⟩ := hA rfl
    have hn : news = [] := List.eq_nil_of_length_eq_zero (by rw [hS.1]; omega)
    subst hn
    have hrun := run_append_owned_none (P := P) (w := w) base t o.type e i size ht hi v n xs hown
    unfold Oper.wp
    simp [execOp, ho, resolve, invoke, builtin, hs, hx, hrun, Result.andThen]
    exact hK _ _ (h v w (by rw [List.append_nil, Nat.add_zero]; exact hown) ⟨rfl, rfl, rfl, Nat.le_refl _, fun _ _ _ => rfl⟩ (by simp) (.inl rfl))
  | some ad =>
    have hnews : ∀ j u, news[j]? = some u → w.cell? (ad.add j) = some u := fun j u hj => by
      have hm : 0 < m := by
        rcases Nat.eq_zero_or_pos m with h0 | h0
        · have := hS.1; rw [h0, Nat.zero_mul] at this
          rw [List.eq_nil_of_length_eq_zero this] at hj; simp at hj
        · exact h0
      obtain ⟨b, off, hA', -, hc⟩ := hS.2 hm
      cases hA'
      rw [add_at]
      exact hc j u hj
    obtain ⟨v', w', hr, h2, h3, h4, h5⟩ := run_append_own_at (P := P) w base t o.type e i z size bytes ht hi hz hsize hby hzs hsz v n xs hown ad m c news hS.1 hnews h1 h63 hbytes hbase
    unfold Oper.wp execOp
    simp only [ho, resolve, invoke, builtin, Sem.run_bind, Sem.run_pure, Result.andThen_ok, List.map_toArray, List.map_cons, List.map_nil, hs, hx, hr]
    exact hK _ _ (h v' w' h2 h3 h4 h5)
end Go.Proofs.Ytiobmfggnacplaa
/- Words: lists of lists in memory. -/
namespace Go.Proofs.Ytiobmfggnacplaa
open Go.RowKit
attribute [local go_sem] Oper.semAt_some
/-- A list of lists in memory. -/
def LiS (w : World) (B : Nat) (A : Option Addr) (n : Nat) (ls : List (List Int)) : Prop :=
  ls.length = n ∧ ∃ vs : List Value, Sl w B 1 A n vs ∧ ∀ (k : Nat) (l : List Int), ls[k]? = some l → ∃ (A' : Option Addr) (m c' : Nat), vs[k]? = some (Value.slice A' m c') ∧ InS w B A' m l
theorem LiS.below {w w' : World} {B B' n : Nat} {A : Option Addr} {ls : List (List Int)} (h : LiS w B A n ls) (hb : Below B w w') (hB : B ≤ B') : LiS w' B' A n ls := by
  obtain ⟨h1, vs, h2, h3⟩ := h
  exact ⟨h1, vs, h2.below' hb hB, fun k l hk => by obtain ⟨A', m, c', e, h4⟩ := h3 k l hk; exact ⟨A', m, c', e, h4.below hb hB⟩⟩
theorem LiS.at_ {w : World} {B n : Nat} {A : Option Addr} {ls : List (List Int)} (h : LiS w B A n ls) {k : Nat} (hk : k < n) : ∃ b off l A' m c', A = some ⟨b, off, none⟩ ∧ b < B ∧ ls[k]? = some l ∧ w.cell? ⟨b, off + k, none⟩ = some (.slice A' m c') ∧ InS w B A' m l := by
  obtain ⟨h1, vs, h2, h3⟩ := h
  have hl : ls[k]? = some ls[k] := List.getElem?_eq_getElem (by omega)
  obtain ⟨A', m, c', e, h4⟩ := h3 k _ hl
  obtain ⟨b, off, hA, hb, hc⟩ := h2.2 (by omega)
  exact ⟨b, off, _, A', m, c', hA, hb, hl, hc k _ e, h4⟩
/-- The lists that the values vs read as; none lies in block no. -/
def LiAt (w : World) (vs : List Value) (ls : List (List Int)) (no : Option Nat) : Prop :=
  vs.length = ls.length ∧ ∀ (k : Nat) (l : List Int), ls[k]? = some l → ∃ (A : Option Addr) (m c : Nat), vs[k]? = some (.slice A m c) ∧ InS w w.heap.size A m l ∧ ∀ b off, A = some ⟨b, off, none⟩ → b < w.heap.size ∧ no ≠ some b
theorem LiAt.nil (w : World) (no : Option Nat) : LiAt w [] [] no := ⟨rfl, fun k l h => by simp at h⟩
theorem InS.grown {w w' : World} {row : Option Nat} {m B : Nat} {A : Option Addr} {l : List Int} (h : InS w w.heap.size A m l) (hg : w.grownBy w' row) (hne : ∀ b off, A = some ⟨b, off, none⟩ → row ≠ some b) (hB : w.heap.size ≤ B) : InS w' B A m l := by
  refine ⟨h.1, fun hm => ?_⟩
  obtain ⟨b, off, e, hb, hc⟩ := h.2 hm
  exact ⟨b, off, e, by omega, fun j u hu => hg.cell (hc j u hu) (fun e' => hne b off e e'.symm)⟩
theorem LiAt.grown {w w' : World} {vs : List Value} {ls : List (List Int)} {no no' : Option Nat} (h : LiAt w vs ls no) (hg : w.grownBy w' no) (hn : no' = no ∨ no' = some w.heap.size) : LiAt w' vs ls no' := by
  refine ⟨h.1, fun k l hk => ?_⟩
  obtain ⟨A, m, c, h1, h2, h3⟩ := h.2 k l hk
  refine ⟨A, m, c, h1, h2.grown hg (fun b off e => (h3 b off e).2) hg.size, fun b off e => ?_⟩
  obtain ⟨h4, h5⟩ := h3 b off e
  refine ⟨Nat.lt_of_lt_of_le h4 hg.size, ?_⟩
  rcases hn with rfl | rfl
  · exact h5
  · intro e'; injection e' with e'; omega
theorem LiAt.below {w w' : World} {vs : List Value} {ls : List (List Int)} {no : Option Nat} (h : LiAt w vs ls no) (hb : Below w.heap.size w w') : LiAt w' vs ls no := by
  refine ⟨h.1, fun k l hk => ?_⟩
  obtain ⟨A, m, c, h1, h2, h3⟩ := h.2 k l hk
  exact ⟨A, m, c, h1, h2.below hb hb.size, fun b off e => ⟨Nat.lt_of_lt_of_le (h3 b off e).1 hb.size, (h3 b off e).2⟩⟩
theorem LiAt.snoc {w : World} {vs : List Value} {ls : List (List Int)} {no : Option Nat} (h : LiAt w vs ls no) {A : Option Addr} {m c : Nat} {l : List Int} (hl : InS w w.heap.size A m l) (hA : ∀ b off, A = some ⟨b, off, none⟩ → b < w.heap.size ∧ no ≠ some b) : LiAt w (vs ++ [.slice A m c]) (ls ++ [l]) no := by
  refine ⟨by rw [List.length_append, List.length_append, h.1]; rfl, fun k x hk => ?_⟩
  rcases Nat.lt_or_ge k ls.length with h1 | h1
  · rw [List.getElem?_append_left h1] at hk
    obtain ⟨A', m', c', h2, h3⟩ := h.2 k x hk
    exact ⟨A', m', c', by rw [List.getElem?_append_left (by rw [h.1]; exact h1)]; exact h2, h3⟩
  · rw [List.getElem?_append_right h1] at hk
    have hk0 : k - ls.length = 0 := by
      have := (List.getElem?_eq_some_iff.1 hk).1
      simp at this; omega
    rw [hk0] at hk
    obtain rfl : l = x := by simpa using hk
    exact ⟨A, m, c, by rw [List.getElem?_append_right (by rw [h.1]; exact h1), h.1, hk0]; rfl, hl, hA⟩
theorem LiAt.lis {w : World} {vs : List Value} {ls : List (List Int)} {no : Option Nat} {A : Option Addr} {n : Nat} (h : LiAt w vs ls no) (hs : Sl w w.heap.size 1 A n vs) : LiS w w.heap.size A n ls :=
  ⟨by rw [← h.1, hs.1, Nat.mul_one], vs, hs, fun k l hk => by obtain ⟨A', m, c, h1, h2, -⟩ := h.2 k l hk; exact ⟨A', m, c, h1, h2⟩⟩
theorem info_parts' {t : TypeId} {a : Option Value} {b c : Nat} (h : (Try.prog.info? t).map (fun i => (i.zero, i.size, i.bytes)) = some (a, b, c)) : ∃ i, Try.prog.info? t = some i ∧ i.zero = a ∧ i.size = b ∧ i.bytes = c := by
  cases hi : Try.prog.info? t with
  | none => rw [hi] at h; cases h
  | some i => rw [hi] at h; simp only [Option.map_some, Option.some.injEq, Prod.mk.injEq] at h; exact ⟨i, rfl, h.1, h.2.1, h.2.2⟩
theorem info3 : (Try.prog.info? 3).map (fun i => (i.zero, i.size, i.bytes)) = some (some (.int .i64 0), 1, 8) := by kernel_rfl
theorem info22 : (Try.prog.info? 22).map (fun i => (i.zero, i.size, i.bytes)) = some (some (.slice none 0 0), 1, 24) := by kernel_rfl
theorem under22 : Try.prog.underlying 22 = some (.slice 3) := by kernel_rfl
theorem under42 : Try.prog.underlying 42 = some (.slice 22) := by kernel_rfl
theorem own_src {w : World} {base : Nat} {e : TypeId} {size : Nat} {v : Value} {n : Nat} {xs : List Value} (h : w.ownsRow base e size v n xs) : ∃ A c, v = .slice A n c ∧ Sl w w.heap.size size A n xs ∧ (A = none → n = 0 ∧ c = 0) := by
  obtain ⟨A, c, rfl, hs⟩ := sl_of_owns h
  refine ⟨A, c, rfl, hs, fun hA => ?_⟩
  subst hA
  rcases h.2 with ⟨h1, h2⟩ | ⟨g, cap, cur, h1, -⟩
  · cases h1; exact ⟨rfl, rfl⟩
  · cases h1
/-- A list of lists that has just been made: its own row, and what the lists read as. -/
def NewLi (w : World) (base : Nat) (v : Value) (ls : List (List Int)) : Prop := ∃ vs, w.ownsRow base 22 1 v ls.length vs ∧ LiAt w vs ls v.ownBlock
theorem NewLi.nil (w : World) (base : Nat) : NewLi w base (.slice none 0 0) [] := ⟨[], World.ownsRow_nil _ _ _ _, LiAt.nil _ _⟩
theorem NewLi.below {w w' : World} {base : Nat} {v : Value} {ls : List (List Int)} (h : NewLi w base v ls) (hb : Below w.heap.size w w') : NewLi w' base v ls := by
  obtain ⟨vs, h1, h2⟩ := h
  exact ⟨vs, owns_below h1 hb, h2.below hb⟩
theorem NewLi.mono {w : World} {base base' : Nat} {v : Value} {ls : List (List Int)} (h : NewLi w base v ls) (hb : base' ≤ base) : NewLi w base' v ls := by
  obtain ⟨vs, h1, h2⟩ := h
  exact ⟨vs, owns_mono h1 hb, h2⟩
theorem NewLi.lis {w : World} {base : Nat} {v : Value} {ls : List (List Int)} (h : NewLi w base v ls) : ∃ A c, v = .slice A ls.length c ∧ LiS w w.heap.size A ls.length ls ∧ (A = none → ls.length = 0 ∧ c = 0) := by
  obtain ⟨vs, h1, h2⟩ := h
  obtain ⟨A, c, e, h3, h4⟩ := own_src h1
  exact ⟨A, c, e, h2.lis h3, h4⟩
/-- One list more is appended: the list lies at A, the literal's block at g. -/
theorem newLi_append {P : Program} {w : World} {ops : Array Oper} {rest : List Oper} {o : Oper} {a : Act} {Q : Exit → Act → World → Prop} (hP : P = Try.prog) (hw : Region.wanted o (yielded ops a.tmps) = true) (s x : Operand)
    (ho : o.op = .call { callee := .builtin .append, args := #[s, x], argTypes := #[42, 42] })
    (base : Nat) (v : Value) (ls : List (List Int)) (hs : a.eval s = v) (hown : NewLi w base v ls)
    (g : Nat) (A : Option Addr) (m c : Nat) (l : List Int) (hx : a.eval x = .slice (some ⟨g, 0, none⟩) 1 1) (hg : Blk w g 22 #[.slice A m c]) (hl : InS w w.heap.size A m l) (hA : ∀ b off, A = some ⟨b, off, none⟩ → b < w.heap.size ∧ v.ownBlock ≠ some b)
    (hlen : ls.length ≤ 1000000) (hbase : base ≤ w.heap.size)
    (h : ∀ v' w', NewLi w' base v' (ls ++ [l]) → w.grownBy w' v.ownBlock → (v'.ownBlock = v.ownBlock ∨ v'.ownBlock = some w.heap.size) → wpList P ops Q rest (a.put o.dst v') w') :
    wpList P ops Q (o :: rest) a w := by
  subst hP
  obtain ⟨vs, h1, h2⟩ := hown
  obtain ⟨i0, hi0, hi1, hi2, hi3⟩ := info_parts' info22
  refine wpList_append_srcG hw s x 42 ho base 22 i0 _ 1 24 under42 hi0 hi1 hi2 hi3 rfl (by decide) v ls.length vs hs h1 (some ⟨g, 0, none⟩) 1 1 [.slice A m c] hx w.heap.size ⟨rfl, fun _ => ⟨g, 0, rfl, hg.lt, fun j u hu => by rw [hg.cell, Nat.zero_add]; simpa using hu⟩⟩ (fun h => by cases h) (fun u hu => by rw [List.mem_singleton.1 hu]; rfl) (by unfold maxLen; omega) (by omega) hbase ?_
  intro v' w' ho' hg' _ hat
  exact h v' w' ⟨vs ++ [.slice A m c], by rw [List.length_append]; exact ho', (h2.snoc hl hA).grown hg' hat⟩ hg' hat
end Go.Proofs.Ytiobmfggnacplaa
/- Words over what a range-func keeps. Over any program. -/
namespace Go.Proofs.Ytiobmfggnacplaa
open Go.RowKit
theorem KpG.ownk {n₀ : Nat} {G : Nat → Prop} {A X Y : World} {row : Option Nat} (h : KpG n₀ G A X) (hg : X.grownBy Y row) (hr : ∀ r, row = some r → n₀ ≤ r) (hn : n₀ ≤ A.heap.size) : KpG n₀ G A Y :=
  ⟨Nat.le_trans h.1 hg.size, fun k hk hG => (hg.block k (by have := h.1; omega) (fun e => by have := hr k e.symm; omega)).trans (h.2 k hk hG)⟩
theorem KpG.blk {n₀ : Nat} {G : Nat → Prop} {A W : World} {g t : Nat} {cs : Array Value} (h : KpG n₀ G A W) (hb : Blk A g t cs) (hg : g < n₀) (hG : ¬ G g) : Blk W g t cs := (h.2 g hg hG).trans hb
theorem KpG.sl {n₀ : Nat} {G : Nat → Prop} {A W : World} {B s n : Nat} {a : Option Addr} {xs : List Value} (h : KpG n₀ G A W) (hs : Sl A B s a n xs) (hB : B ≤ n₀) (hG : ∀ k, k < B → ¬ G k) : Sl W B s a n xs :=
  hs.keep fun p hp => h.cell (by omega) (hG _ hp)
/-! Marks that a loop's rounds leave, each by a range over a function of its own. -/
def Marks (B M : Nat) (W : World) (ds : List Deferred) : Prop := ∃ Ds : List Nat, ds = Ds.map markOf ∧ Ds.Nodup ∧ ∀ D ∈ Ds, B ≤ D ∧ D < M ∧ W.heap[D]? = some (.deferred (some []))
theorem Marks.nil (B M : Nat) (W : World) : Marks B M W [] := ⟨[], rfl, List.nodup_nil, fun _ h => by cases h⟩
theorem Marks.step {B M M' : Nat} {W W' : World} {ds : List Deferred} (h : Marks B M W ds) (hM : M ≤ M') (hk : ∀ D, D < M → W.heap[D]? = some (.deferred (some [])) → W'.heap[D]? = some (.deferred (some []))) : Marks B M' W' ds := by
  obtain ⟨Ds, rfl, h1, h2⟩ := h
  exact ⟨Ds, rfl, h1, fun D hD => ⟨(h2 D hD).1, Nat.lt_of_lt_of_le (h2 D hD).2.1 hM, hk D (h2 D hD).2.1 (h2 D hD).2.2⟩⟩
theorem Marks.below {B M M' : Nat} {W W' : World} {ds : List Deferred} (h : Marks B M W ds) (hb : Below M W W') (hM : M ≤ M') : Marks B M' W' ds := h.step hM fun D hD h0 => (hb.block D hD).trans h0
theorem Marks.kp {B M n₀ : Nat} {G : Nat → Prop} {W W' : World} {ds : List Deferred} (h : Marks B M W ds) (hk : KpG n₀ G W W') (hM : M ≤ n₀) (hG : ∀ D, D < M → W.heap[D]? = some (.deferred (some [])) → ¬ G D) : Marks B M W' ds := h.step (Nat.le_refl _) fun D hD h0 => (hk.2 D (by omega) (hG D hD h0)).trans h0
theorem Marks.setCell {B M g t : Nat} {o : Nat} {cs : Array Value} {W : World} {ds : List Deferred} (h : Marks B M W ds) (hb : Blk W g t cs) (u : Value) : Marks B M (W.setCell ⟨g, o, none⟩ u) ds := h.step (Nat.le_refl _) fun D _ h0 =>
  (Below.heap_setCell _ _ _ _ (fun e => by simp at e; subst e; unfold Blk at hb; rw [hb] at h0; cases h0)).trans h0
theorem Marks.push {B M D : Nat} {W : World} {ds : List Deferred} (h : Marks B M W ds) (hB : B ≤ D) (hM : M ≤ D) (hD : W.heap[D]? = some (.deferred (some []))) : Marks B (D + 1) W ({ target := .collected D, args := #[] } :: ds) := by
  obtain ⟨Ds, rfl, h1, h2⟩ := h
  refine ⟨D :: Ds, rfl, List.nodup_cons.2 ⟨fun hm => by have := (h2 D hm).2.1; omega, h1⟩, fun D' hD' => ?_⟩
  rcases List.mem_cons.1 hD' with rfl | hm
  · exact ⟨hB, by omega, hD⟩
  · have := h2 D' hm
    exact ⟨this.1, by omega, this.2.2⟩
theorem Marks.leaves {B M : Nat} {P : Program} {n : Nat} {fn : Func} {tmps : Array Value} {R : Ending → World → Prop} {W : World} {ds : List Deferred} (h : Marks B M W ds)
    (hR : ∀ Ds w', (∀ D ∈ Ds, B ≤ D) → Off Ds W w' → ∃ v, (results fn tmps).run P w' = .ok v w' ∧ R (.returned v) w') : LeavesInM (Wd none) n P fn tmps R ds .returning W := by
  obtain ⟨Ds, rfl, h1, h2⟩ := h
  exact leavesM_marks Ds W h1 (fun D hD => (h2 D hD).2.2) (fun w' ho => hR Ds w' (fun D hD => (h2 D hD).1) ho)
end Go.Proofs.Ytiobmfggnacplaa
/- An append to a slice without room, as one step: what comes lies in a new block. Over any program. -/
namespace Go.Proofs.Ytiobmfggnacplaa
open Go.RowKit
section
variable {P : Program} (w : World)
/-- A slice without room: what it reads as. -/
def Full (w : World) (v : Value) (n : Nat) (xs : List Value) : Prop := (n = 0 ∧ v = .slice none 0 0) ∨ ∃ b, v = .slice (some b) n n ∧ ∀ j u, xs[j]? = some u → w.cell? (b.add j) = some u
theorem run_append_cap (base : Nat) (t ty e : TypeId) (i : TypeInfo) (z : Value) (size bytes : Nat) (ht : P.underlying t = some (.slice e)) (hi : P.info? e = some i) (hz : i.zero = some z)
    (hsize : i.size = size) (hby : i.bytes = bytes) (hzs : z.cells.size = size)
    (v : Value) (n : Nat) (xs : List Value) (hxs : xs.length = n * size) (hown : Full w v n xs)
    (a : Addr) (m c : Nat) (news : List Value) (hl : news.length = m * size) (hnews : ∀ j u, news[j]? = some u → w.cell? (a.add j) = some u)
    (hm : 0 < m) (h63 : n + m ≤ maxLen) (hbytes : (n + m) * bytes ≤ 140737488355328) (hbase : base ≤ w.heap.size) :
    ∃ cap w', (Builtin.append_ #[t, t] ty #[v, .slice (some a) m c]).run P w = .ok (.slice (some ⟨w.heap.size, 0, none⟩) (n + m) cap) w' ∧ w'.ownsRow base e size (.slice (some ⟨w.heap.size, 0, none⟩) (n + m) cap) (n + m) (xs ++ news) ∧ w.grownBy w' none ∧ w.heap.size < w'.heap.size := by
  subst hsize
  subst hby
  have hsmall : n + m ≤ 9223372036854775807 := by simp only [maxLen] at h63; omega
  have hlen : (xs ++ news).length = (n + m) * i.size := by rw [List.length_append, hxs, hl, Nat.add_mul]
  have grown : ∀ (old : Nat),
      (w.drew.alloc (.cells (xs.toArray ++ news.toArray ++ Builtin.zeroCells z.cells (grownCap w (n + m) old e - (n + m))) e)).ownsRow base e i.size
        (.slice (some ⟨w.heap.size, 0, none⟩) (n + m) (grownCap w (n + m) old e)) (n + m) (xs ++ news) ∧
      w.grownBy (w.drew.alloc (.cells (xs.toArray ++ news.toArray ++ Builtin.zeroCells z.cells (grownCap w (n + m) old e - (n + m))) e)) none ∧
      w.heap.size < (w.drew.alloc (.cells (xs.toArray ++ news.toArray ++ Builtin.zeroCells z.cells (grownCap w (n + m) old e - (n + m))) e)).heap.size := by
    intro old
    have hge := grownCap_ge w (n + m) old e
    have hcm : grownCap w (n + m) old e ≤ maxLen := grownCap_le_maxLen w (n + m) old e h63
    refine ⟨⟨hlen, .inr ⟨w.heap.size, _, _, rfl, hbase, heap_alloc_new w.drew _, hge, hcm, ?_, ?_⟩⟩, ⟨rfl, rfl, rfl, by simp, fun k hk _ => Below.heap_alloc w.drew _ k hk⟩, by simp⟩
    · simp only [Array.size_append, List.size_toArray, size_zeroCells, hzs, hxs, hl, ← Nat.add_mul]
      congr 1
      omega
    · simp only [Array.toList_append, List.append_assoc]
      rw [← List.append_assoc, ← hlen]
      exact List.take_left
  rcases hown with ⟨rfl, rfl⟩ | ⟨b, rfl, holds⟩
  · have hx : xs = [] := List.eq_nil_of_length_eq_zero (by simpa using hxs)
    subst hx
    have hr := run_append_nil (P := P) w t ty e i z ht hi hz a m c news hl hnews (by omega) (by omega) (by have hb := hbytes; simp only [Nat.zero_add] at hb; omega)
    have hgr := grown 0
    simp only [Nat.zero_add, List.nil_append, Array.empty_append] at hgr ⊢
    exact ⟨_, _, hr, hgr⟩
  · have hr := run_append_grow (P := P) w t ty e i z ht hi hz b n n xs hxs holds a m c news hl hnews (by omega) (by omega) (growslice_fits (by omega) hbytes)
    exact ⟨_, _, hr, grown n⟩
end
theorem wpList_append_cap {P : Program} {w : World} {ops : Array Oper} {rest : List Oper} {o : Oper} {a : Act} {Q : Exit → Act → World → Prop} (hgd : o.guard = none) (s x : Operand) (t : TypeId)
    (ho : o.op = .call { callee := .builtin .append, args := #[s, x], argTypes := #[t, t] })
    (base : Nat) (e : TypeId) (i : TypeInfo) (z : Value) (size bytes : Nat) (ht : P.underlying t = some (.slice e)) (hi : P.info? e = some i) (hz : i.zero = some z)
    (hsize : i.size = size) (hby : i.bytes = bytes) (hzs : z.cells.size = size)
    (v : Value) (n : Nat) (xs : List Value) (hs : a.eval s = v) (hxs : xs.length = n * size) (hown : Full w v n xs)
    (ad : Addr) (m c : Nat) (news : List Value) (hx : a.eval x = .slice (some ad) m c) (hl : news.length = m * size) (hnews : ∀ j u, news[j]? = some u → w.cell? (ad.add j) = some u)
    (hm : 0 < m) (h63 : n + m ≤ maxLen) (hbytes : (n + m) * bytes ≤ 140737488355328) (hbase : base ≤ w.heap.size)
    (h : ∀ cap w', w'.ownsRow base e size (.slice (some ⟨w.heap.size, 0, none⟩) (n + m) cap) (n + m) (xs ++ news) → w.grownBy w' none → w.heap.size < w'.heap.size → wpList P ops Q rest (a.put o.dst (.slice (some ⟨w.heap.size, 0, none⟩) (n + m) cap)) w') : wpList P ops Q (o :: rest) a w := by
  refine wpList_plain hgd fun K hK => ?_
  obtain ⟨cap, w', hr, h2, h3, h4⟩ := run_append_cap (P := P) w base t o.type e i z size bytes ht hi hz hsize hby hzs v n xs hxs hown ad m c news hl hnews hm h63 hbytes hbase
  unfold Oper.wp execOp
  simp only [ho, resolve, invoke, builtin, Sem.run_bind, Sem.run_pure, Result.andThen_ok, List.map_toArray, List.map_cons, List.map_nil, hs, hx, hr]
  exact hK _ _ (h cap w' h2 h3 h4)
theorem wpListIn_append_cap {F : Fence} {d : Nat} {P : Program} {w : World} {ops : Array Oper} {rest : List Oper} {o : Oper} {a : Act} {Q : Exit → Act → World → Prop} (hgd : o.guard = none) (s x : Operand) (t : TypeId)
    (ho : o.op = .call { callee := .builtin .append, args := #[s, x], argTypes := #[t, t] })
    (base : Nat) (e : TypeId) (i : TypeInfo) (z : Value) (size bytes : Nat) (ht : P.underlying t = some (.slice e)) (hi : P.info? e = some i) (hz : i.zero = some z)
    (hsize : i.size = size) (hby : i.bytes = bytes) (hzs : z.cells.size = size)
    (v : Value) (n : Nat) (xs : List Value) (hs : a.eval s = v) (hxs : xs.length = n * size) (hown : Full w v n xs)
    (ad : Addr) (m c : Nat) (news : List Value) (hx : a.eval x = .slice (some ad) m c) (hl : news.length = m * size) (hnews : ∀ j u, news[j]? = some u → w.cell? (ad.add j) = some u)
    (hm : 0 < m) (h63 : n + m ≤ maxLen) (hbytes : (n + m) * bytes ≤ 140737488355328) (hbase : base ≤ w.heap.size)
    (h : ∀ cap w', w'.ownsRow base e size (.slice (some ⟨w.heap.size, 0, none⟩) (n + m) cap) (n + m) (xs ++ news) → w.grownBy w' none → w.heap.size < w'.heap.size → wpListIn F d P ops Q rest (a.put o.dst (.slice (some ⟨w.heap.size, 0, none⟩) (n + m) cap)) w') : wpListIn F d P ops Q (o :: rest) a w := by
  refine wpListIn_plain hgd fun K hK' => ?_
  obtain ⟨cap, w', hrun, r1, r2, r3⟩ := run_append_cap (P := P) w base t o.type e i z size bytes ht hi hz hsize hby hzs v n xs hxs hown ad m c news hl hnews hm h63 hbytes hbase
  unfold Oper.wpIn
  refine ⟨?_, ?_⟩
  · simp [Oper.about, ho, resolve, Target.leads, Sem.run_pure]
  · rw [Oper.semAt_plain F _ _ (by rw [ho]; intro c hc'; cases hc')]
    simp [execOp, ho, resolve, invoke, builtin, hs, hx, hrun, Result.andThen]
    exact hK' _ _ (h cap w' r1 r2 r3)
theorem lupon_append_cap {P : Program} (w : World) {o : Oper} {a : Act} {K : Act → World → Prop} (s x : Operand) (t : TypeId)
    (ho : o.op = .call { callee := .builtin .append, args := #[s, x], argTypes := #[t, t] })
    (base : Nat) (e : TypeId) (i : TypeInfo) (z : Value) (size bytes : Nat) (ht : P.underlying t = some (.slice e)) (hi : P.info? e = some i) (hz : i.zero = some z)
    (hsize : i.size = size) (hby : i.bytes = bytes) (hzs : z.cells.size = size)
    (v : Value) (n : Nat) (xs : List Value) (hs : a.eval s = v) (hxs : xs.length = n * size) (hown : Full w v n xs)
    (ad : Addr) (m c : Nat) (news : List Value) (hx : a.eval x = .slice (some ad) m c) (hl : news.length = m * size) (hnews : ∀ j u, news[j]? = some u → w.cell? (ad.add j) = some u)
    (hm : 0 < m) (h63 : n + m ≤ maxLen) (hbytes : (n + m) * bytes ≤ 140737488355328) (hbase : base ≤ w.heap.size)
    (h : ∀ cap w', w'.ownsRow base e size (.slice (some ⟨w.heap.size, 0, none⟩) (n + m) cap) (n + m) (xs ++ news) → w.grownBy w' none → w.heap.size < w'.heap.size → K (a.put o.dst (.slice (some ⟨w.heap.size, 0, none⟩) (n + m) cap)) w') : LUpon P o a K ((execOp a.eval o).run P w) := by
  obtain ⟨cap, w', hr, h2, h3, h4⟩ := run_append_cap (P := P) w base t o.type e i z size bytes ht hi hz hsize hby hzs v n xs hxs hown ad m c news hl hnews hm h63 hbytes hbase
  unfold execOp
  simp only [ho, resolve, invoke, builtin, Sem.run_bind, Sem.run_pure, Result.andThen_ok, List.map_toArray, List.map_cons, List.map_nil, hs, hx, hr]
  exact h cap w' h2 h3 h4
theorem full_of_ins {w : World} {B n : Nat} {A : Option Addr} {l : List Int} (h : InS w B A n l) (h0 : n = 0 → A = none) : Full w (.slice A n n) n (l.flatMap cI) := by
  rcases Nat.eq_zero_or_pos n with h1 | h1
  · subst h1; rw [h0 rfl]; exact .inl ⟨rfl, rfl⟩
  · obtain ⟨b, off, e, _, hc⟩ := h.2 h1
    subst e
    exact .inr ⟨_, rfl, fun j u hu => by rw [add_at]; exact hc j u hu⟩
theorem below_grown0 {B : Nat} {a w w' : World} (h : Below B a w) (hg : w.grownBy w' none) (hB : B ≤ a.heap.size) : Below B a w' := h.trans ⟨hg.os, hg.tape, hg.output, hg.size, fun k hk => hg.block k (by have := h.size; omega) (by simp)⟩
theorem full_of_own {w : World} {base : Nat} {e : TypeId} {size n c : Nat} {A : Option Addr} {xs : List Value} (h : w.ownsRow base e size (.slice A n c) n xs) : Full w (.slice A n n) n xs := by
  rcases h.2 with ⟨e1, e2⟩ | ⟨g, cap, cur, e1, _⟩
  · cases e1; exact .inl ⟨rfl, rfl⟩
  · cases e1; exact .inr ⟨_, rfl, h.cells (g := g) rfl⟩
end Go.Proofs.Ytiobmfggnacplaa
/- A scope in which no goto is met, within a fence. Over any program. -/
namespace Go.Proofs.Ytiobmfggnacplaa
open Go.RowKit
section
variable {P : Program} {b : Frame} {a : Act} {k : List Item} {cs : List Frame} {w : World}
theorem stepR_scope {c : Code} : step P (lone (b.atR a (.code (.scope c) :: k)) cs w) = .next (lone (b.atR a (.code c :: .inScope c :: k)) cs w) :=
  step_lone_go (by simp [stepG, stepG.exec, Frame.atR])
theorem stepR_inScope {c : Code} : step P (lone (b.atR a (.inScope c :: k)) cs w) = .next (lone (b.atR a k) cs w) :=
  step_lone_go (by simp [stepG, stepG.exec, Frame.atR])
end
theorem wpIn_scope {F : Fence} {n : Nat} {P : Program} {Q : Exit → Act → World → Prop} {a : Act} {w : World} {c : Code} (h : c.wpIn F n P (Exit.noGoto Q) a w) : (Code.scope c).wpIn F n P Q a w := by
  intro b k cs hro hb hr
  have h0 : (lone (b.atR a (.code (.scope c) :: k)) cs w).fenced P F := fenced_calm hb hr rfl
  obtain ⟨e, a₁, w₁, hq, harr⟩ := h b (.inScope c :: k) cs hro hb hr
  cases e with
  | normal => exact ⟨.normal, a₁, w₁, hq, .head h0 stepR_scope (StepsIn.trans harr (.one (fenced_calm hb hr rfl) stepR_inScope))⟩
  | exit id =>
    have hx : exitTo id (.inScope c :: k) = exitTo id k := by simp [exitTo]
    exact ⟨.exit id, a₁, w₁, hq, fun k' hk => .head h0 stepR_scope (harr.1 k' (by rw [hx]; exact hk)),
      fun hr' hk => let ⟨k₁, h1, h2⟩ := harr.2 hr' (by rw [hx]; exact hk); ⟨k₁, h1, .head h0 stepR_scope h2⟩⟩
  | goto l => exact hq.elim
  | ret => exact ⟨_, a₁, w₁, hq, .of_steps (.one h0 stepR_scope) harr⟩
  | panic ch => exact ⟨_, a₁, w₁, hq, .of_steps (.one h0 stepR_scope) harr⟩
  | outgrown => exact ⟨_, a₁, w₁, hq, .of_steps (.one h0 stepR_scope) harr⟩
end Go.Proofs.Ytiobmfggnacplaa
/- (As R, but an iterator that never writes into cells that have been there: what it hands on may be kept.) A range over a function, where the loop's blocks are told apart from the iterator's: an iterator may hand on what it ranges over. Over any program. -/
namespace Go.Proofs.Ytiobmfggnacplaa
open Go.RowKit
/-- The blocks that a loop holds as its own. -/
abbrev Foot := Nat → Prop
/-- From W to W' only blocks of the loop have turned; new ones may be its own. -/
structure Grow (own : Foot) (W : World) (own' : Foot) (W' : World) : Prop where
  os : W'.os = W.os
  tape : W'.tape = W.tape
  output : W'.output = W.output
  size : W.heap.size ≤ W'.heap.size
  from_ : ∀ k, own' k → own k ∨ W.heap.size ≤ k
  lt : ∀ k, own' k → k < W'.heap.size
  same : ∀ k, k < W.heap.size → ¬ own k → W'.heap[k]? = W.heap[k]?
theorem Grow.refl {own : Foot} {W : World} (h : ∀ k, own k → k < W.heap.size) : Grow own W own W := ⟨rfl, rfl, rfl, Nat.le_refl _, fun _ h => .inl h, h, fun _ _ _ => rfl⟩
theorem Grow.trans {o₁ o₂ o₃ : Foot} {A B C : World} (h : Grow o₁ A o₂ B) (k : Grow o₂ B o₃ C) : Grow o₁ A o₃ C := by
  refine ⟨k.os.trans h.os, k.tape.trans h.tape, k.output.trans h.output, Nat.le_trans h.size k.size, fun i hi => ?_, k.lt, fun i hi hn => ?_⟩
  · rcases k.from_ i hi with h1 | h1
    · exact h.from_ i h1
    · exact .inr (Nat.le_trans h.size h1)
  · refine (k.same i (Nat.lt_of_lt_of_le hi h.size) (fun h1 => ?_)).trans (h.same i hi hn)
    rcases h.from_ i h1 with h2 | h2
    · exact hn h2
    · omega
/-- What is said of the loop's blocks, and of those below s, stays while others turn. -/
def Stab {β : Type} (s : Nat) (J : β → Foot → World → Prop) : Prop := ∀ x own W W', J x own W → (∀ k, (k < s ∨ own k ∨ ∃ o : Obj, W.heap[k]? = some o ∧ o.isCells = true) → k < W.heap.size → W'.heap[k]? = W.heap[k]?) → W.heap.size ≤ W'.heap.size → W'.os = W.os → W'.tape = W.tape → W'.output = W.output → J x own W'
theorem room_none {F : Fence} (hd : F.depth = none) (k : Nat) : F.room k := fun d h => by rw [hd] at h; cases h
theorem RoundIn.any {F : Fence} (hd : F.depth = none) {m m' : Nat} {P : Program} {l : Nat} {f : FuncId} {tmps : Array Value} {assign body : Code} {w : World} {R : Ending → World → Prop}
    (h : RoundIn F m P l f tmps assign body w R) : RoundIn F m' P l f tmps assign body w R := ⟨h.1, fun c cs _ => h.2 c cs (room_none hd _)⟩
/-- What a loop promises for an element that has come, and what it asks. -/
def Takes {α : Type} (F : Fence) (P : Program) (l : Nat) (encs : α → Array Value) (Rd : α → World → Prop) (Nb : Nat) (J Jx : List α → Foot → World → Prop) : Prop :=
  ∀ m pre own x W, J pre own W → pre.length < Nb → (∀ k, own k → k < W.heap.size) → Rd x W → YieldAt F m P l (encs x) W fun e W' =>
    (e = .returned (.bool true) ∧ ∃ own', J (pre ++ [x]) own' W' ∧ Grow own W own' W') ∨ (e = .returned (.bool false) ∧ ∃ own', Jx (pre ++ [x]) own' W' ∧ Grow own W own' W')
/-- What an iterator promises whatever the loop: own₀ are the loop's blocks at the start. -/
def Gives {α : Type} (F : Fence) (P : Program) (gf : FuncId) (lb : Array Value) (encs : α → Array Value) (Rd : α → World → Prop) (Nb : Nat) (S Sp : List α → Prop) (own₀ : Foot) (W : World) : Prop :=
  ∀ (d l : Nat) (J Jx : List α → Foot → World → Prop), Stab W.heap.size J → Stab W.heap.size Jx → Takes F P l encs Rd Nb J Jx → (∀ k, own₀ k → k < W.heap.size) → J [] own₀ W →
    CallsIn F d P gf (#[.func (.yield l) #[] #[]] ++ lb) W fun e W' => (∃ v, e = .returned v) ∧
      ((∃ xs own', S xs ∧ J xs own' W' ∧ Grow own₀ W own' W') ∨ (∃ pre own', Sp pre ∧ Jx pre own' W' ∧ Grow own₀ W own' W'))
/-- How the body of such a round may be left. -/
def footPost {α : Type} (I : List α → Foot → World → Prop) (Ix : Code → List α → Foot → World → Prop) (xs : List α) (own : Foot) (W : World) : Exit → Act → World → Prop
  | .normal, _, W' => ∃ own', I xs own' W' ∧ Grow own W own' W'
  | .ret, _, W' => ∃ own', Ix .ret xs own' W' ∧ Grow own W own' W'
  | .exit id, _, W' => ∃ own', Ix (.exit id) xs own' W' ∧ Grow own W own' W'
  | _, _, _ => False
theorem wpIn_rangeFunc_foot {F : Fence} {n : Nat} {P : Program} {α : Type} {g : Operand} {ps : Array Tmp} {assign body : Code} {Q : Exit → Act → World → Prop} {a : Act} {w : World} (B : Nat) (hB : w.heap.size = B)
    (hd : F.depth = none) (hro : F.round = none) {gf : Nat} {lb : Array Value} (hg : a.eval g = .func (.func gf) #[] lb) (hFg : F.fn gf) (eg : ∀ args w, (callFunc gf args).run P w = .ok (.enter gf args) w)
    {encs : α → Array Value} {Rd : α → World → Prop} {Nb : Nat} {S Sp : List α → Prop} (own₀ : Foot) (hown : ∀ k, own₀ k → k < B)
    (hseq : ∀ W, Below B w W → Gives F P gf lb encs Rd Nb S Sp (fun k => own₀ k ∨ k = B ∨ k = B + 1) W)
    (hRd : ∀ x W W', Rd x W → (∀ (k : Nat) (o : Obj), W.heap[k]? = some o → o.isCells = true → W'.heap[k]? = some o) → W.heap.size ≤ W'.heap.size → Rd x W') (hps : ∀ x, (encs x).size = ps.size)
    (I : List α → Foot → World → Prop) (Ix : Code → List α → Foot → World → Prop) (hI : Stab B I) (hIx : ∀ c, Stab B (Ix c)) (h0 : I [] own₀ w)
    (Ax : α → Act → World → Prop)
    (hassign : ∀ (l : Nat) (x : α) (W : World) (K : Act → World → Prop), Rd x W → B + 2 ≤ W.heap.size → (∀ a' W', Below W.heap.size W W' → Ax x a' W' → K a' W') →
      assign.wpIn (F.inRound l) (n - 1 - 1) P (Exit.then K (fun _ _ _ => False)) { tmps := (ps.zip (encs x)).foldl (fun t (p, v) => t.setIfInBounds p v) a.tmps, defers := [] } W)
    (hAx : ∀ x a' W o, Ax x a' W → Ax x a' (W.putObj (B + 1) o))
    (hbody : ∀ (l : Nat) (pre : List α) (own : Foot) (x : α) (a' : Act) (W : World), I pre own W → pre.length < Nb → (∀ k, own k → k < W.heap.size) → (∀ k, own k → k ≠ B ∧ k ≠ B + 1) → Rd x W → Ax x a' W → B + 2 ≤ W.heap.size → body.wpIn (F.inRound l) (n - 1 - 1) P (footPost I Ix (pre ++ [x]) own W) a' W)
    (hdone : ∀ (D : Nat) (xs : List α) (own' : Foot) (W : World), B ≤ D → S xs → I xs own' W → Grow own₀ w own' W → (∀ k, own' k → k ≠ B ∧ k ≠ B + 1) → D = B → W.heap[D]? = some (.deferred (some [])) → Q .normal { a with defers := { target := .collected D, args := #[] } :: a.defers } W)
    (hstop : ∀ (D : Nat) (c : Code) (pre : List α) (own' : Foot) (W : World), B ≤ D → Sp pre → Ix c pre own' W → Grow own₀ w own' W → (∀ k, own' k → k ≠ B ∧ k ≠ B + 1) → D = B → W.heap[D]? = some (.deferred (some [])) → c.wpIn F n P Q { a with defers := { target := .collected D, args := #[] } :: a.defers } W) :
    (Code.rangeFunc g ps assign body).wpIn F n P Q a w := by
  refine wpIn_rangeFunc fun fn hfn => ?_
  rw [hro]
  let rec_ : LoopState → Option Code → Loop := fun st pe => { state := st, pending := pe, fn, tmps := a.tmps, params := ps, assign, body, defers := B }
  obtain ⟨W1, hW1⟩ : ∃ W1, (w.alloc (.deferred (some []))).alloc (.loop (rec_ .ready none)) = W1 := ⟨_, rfl⟩
  have hz1 : W1.heap.size = B + 2 := by rw [← hW1]; simp [hB]
  have hL1 : W1.heap[B + 1]? = some (.loop (rec_ .ready none)) := by
    rw [← hW1, ← hB]; have := World.alloc_heap_new (w.alloc (.deferred (some []))) (.loop (rec_ .ready none)); rwa [World.size_alloc] at this
  have hK1 : W1.heap[B]? = some (.deferred (some [])) := by
    rw [← hW1, ← hB]; exact (Below.heap_alloc _ _ _ (by simp)).trans (World.alloc_heap_new w _)
  have hb1 : Below B w W1 := by
    rw [← hW1, ← hB]; exact ((Below.refl _ w).alloc (Nat.le_refl _) _).alloc (by simp) _
  have hg1 : ∀ own, (∀ k, own k → k < B) → Grow own w own W1 := fun own h => ⟨hb1.os, hb1.tape, hb1.output, by omega, fun _ h => .inl h, fun k hk => by have := h k hk; omega, fun k hk _ => hb1.block k (by omega)⟩
  -- a put of the loop's own record
  have put : ∀ {β : Type} (J : β → Foot → World → Prop) (x : β) (own : Foot) (W : World) (o : Obj), Stab B J → J x own W → (∀ k, own k → k ≠ B ∧ k ≠ B + 1) → (∃ r, W.heap[B + 1]? = some (.loop r)) → J x own (W.putObj (B + 1) o) := fun J x own W o hJ h hne hr =>
    hJ x own W _ h (fun k hk _ => World.putObj_heap_other (by
      rcases hk with h | h | ⟨o', ho, hc⟩
      · omega
      · exact (hne k h).2
      · rintro rfl
        obtain ⟨r, hr⟩ := hr
        rw [hr] at ho; cases ho; cases hc)) (by simp [World.putObj]) rfl rfl rfl
  let J : List α → Foot → World → Prop := fun pre own W => ∃ oi : Foot, (∀ k, own k ↔ oi k ∨ k = B ∨ k = B + 1) ∧ (∀ k, oi k → k ≠ B ∧ k ≠ B + 1) ∧ I pre oi W ∧ W.heap[B + 1]? = some (.loop (rec_ .ready none)) ∧ W.heap[B]? = some (.deferred (some [])) ∧ Grow own₀ w oi W
  let Jx : List α → Foot → World → Prop := fun pre own W => ∃ oi : Foot, ∃ c, (∀ k, own k ↔ oi k ∨ k = B ∨ k = B + 1) ∧ (∀ k, oi k → k ≠ B ∧ k ≠ B + 1) ∧ Ix c pre oi W ∧ W.heap[B + 1]? = some (.loop (rec_ .done (some c))) ∧ W.heap[B]? = some (.deferred (some [])) ∧ Grow own₀ w oi W
  have growS : ∀ {own oi : Foot} {W W' : World}, Grow own₀ w oi W → (∀ k, k < W1.heap.size → W'.heap[k]? = W.heap[k]?) → W.heap.size ≤ W'.heap.size → W'.os = W.os → W'.tape = W.tape → W'.output = W.output → Grow own₀ w oi W' := fun h hk hz h1 h2 h3 =>
    ⟨h1.trans h.os, h2.trans h.tape, h3.trans h.output, Nat.le_trans h.size hz, h.from_, fun k hk' => Nat.lt_of_lt_of_le (h.lt k hk') hz, fun k hk' hn => (hk k (by omega)).trans (h.same k hk' hn)⟩
  have hJs : Stab W1.heap.size J := by
    rintro pre own W W' ⟨oi, h1, h2, h3, h4, h5, h6⟩ hk hz e1 e2 e3
    refine ⟨oi, h1, h2, hI pre oi W W' h3 (fun k hk' hlt => hk k (by rcases hk' with h | h | h; exact .inl (by omega); exact .inr (.inl ((h1 k).2 (.inl h))); exact .inr (.inr h)) hlt) hz e1 e2 e3, (hk _ (.inl (by omega)) (Array.getElem?_eq_some_iff.1 h4).1).trans h4, (hk _ (.inl (by omega)) (Array.getElem?_eq_some_iff.1 h5).1).trans h5, ?_⟩
    exact growS (own := own) h6 (fun k hk' => hk k (.inl hk') (by have := (Array.getElem?_eq_some_iff.1 h4).1; omega)) hz e1 e2 e3
  have hJxs : Stab W1.heap.size Jx := by
    rintro pre own W W' ⟨oi, c, h1, h2, h3, h4, h5, h6⟩ hk hz e1 e2 e3
    refine ⟨oi, c, h1, h2, hIx c pre oi W W' h3 (fun k hk' hlt => hk k (by rcases hk' with h | h | h; exact .inl (by omega); exact .inr (.inl ((h1 k).2 (.inl h))); exact .inr (.inr h)) hlt) hz e1 e2 e3, (hk _ (.inl (by omega)) (Array.getElem?_eq_some_iff.1 h4).1).trans h4, (hk _ (.inl (by omega)) (Array.getElem?_eq_some_iff.1 h5).1).trans h5, ?_⟩
    exact growS (own := own) h6 (fun k hk' => hk k (.inl hk') (by have := (Array.getElem?_eq_some_iff.1 h4).1; omega)) hz e1 e2 e3
  refine ⟨B + 1, [{ target := .collected B, args := #[] }], W1, { target := .fn (.func gf) lb, args := #[.func (.yield (B + 1)) #[] #[]] }, W1, gf, #[.func (.yield (B + 1)) #[] #[]] ++ lb, W1, ?_, ?_, ?_, ?_, ?_, ?_⟩
  · rw [← hW1]
    have := run_enterLoop_outer (P := P) (w := w) fn a.tmps ps assign body
    rw [hB] at this
    exact this
  · simp only [resolve, hg]; simp [go_sem]
  · intro f' hf'; simp [Target.leads] at hf'; subst hf'; exact hFg
  · simp [invoke, go_sem, eg]
  · intro h; rw [hd] at h; cases h
  refine (hseq W1 hb1 (n - 1) (B + 1) J Jx hJs hJxs ?_ (fun k hk => by rcases hk with h | h | h; have := hown k h; omega; omega; omega) ⟨own₀, fun k => Iff.rfl, fun k hk => by have := hown k hk; omega, ?_, hL1, hK1, hg1 _ hown⟩).mono ?_
  · -- one round
    rintro m pre own x W ⟨oi, h1, h2, h3, hl, hk, hgr⟩ hNb hlt hrd
    have hy := run_yield (P := P) (args := encs x) hl (hps x)
    have hBW : B + 2 ≤ W.heap.size := by have := (Array.getElem?_eq_some_iff.1 hl).1; omega
    refine ⟨fn, _, assign, body, hy, RoundIn.any hd (m := n - 1 - 1) (roundIn_of_wpIn hfn (hassign _ x W _ hrd hBW ?_))⟩
    intro a' Wa hba hax
    have hla := (hba.block _ (Array.getElem?_eq_some_iff.1 hl).1).trans hl
    have hka := (hba.block _ (Array.getElem?_eq_some_iff.1 hk).1).trans hk
    have hIa : I pre oi Wa := hI pre oi W Wa h3 (fun k _ hlt' => hba.block k hlt') hba.size hba.os hba.tape hba.output
    have hrda : Rd x Wa := hRd x W Wa hrd (fun k o ho _ => (hba.block k (Array.getElem?_eq_some_iff.1 ho).1).trans ho) hba.size
    have hga : Grow oi W oi Wa := ⟨hba.os, hba.tape, hba.output, hba.size, fun _ h => .inl h, fun k hk' => Nat.lt_of_lt_of_le (hlt k ((h1 k).2 (.inl hk'))) hba.size, fun k hk' _ => hba.block k hk'⟩
    refine ⟨_, run_beginRound hla rfl, ?_⟩
    obtain ⟨W2, hW2⟩ : ∃ W2, Wa.putObj (B + 1) (.loop { rec_ .ready none with state := .busy }) = W2 := ⟨_, rfl⟩
    have hl2 : W2.heap[B + 1]? = some (.loop { rec_ .ready none with state := .busy }) := by rw [← hW2]; exact World.putObj_heap_same (Array.getElem?_eq_some_iff.1 hla).1
    have hk2 : W2.heap[B]? = some (.deferred (some [])) := by rw [← hW2]; exact (World.putObj_heap_other (by omega)).trans hka
    have hz2 : W2.heap.size = Wa.heap.size := by rw [← hW2]; simp [World.putObj]
    have hI2 : I pre oi W2 := by rw [← hW2]; exact put I pre oi Wa _ hI hIa h2 ⟨_, hla⟩
    have hlt2 : ∀ k, oi k → k < W2.heap.size := fun k hk' => by have := hga.lt k hk'; omega
    have hrd2 : Rd x W2 := by
      refine hRd x Wa W2 hrda (fun k o ho hc => ?_) (by omega)
      rw [← hW2]
      refine (World.putObj_heap_other (fun e => ?_)).trans ho
      subst e; rw [hla] at ho; cases ho; cases hc
    have hg02 : ∀ k, k < W.heap.size → k ≠ B + 1 → W2.heap[k]? = W.heap[k]? := fun k hk' hne => by
      rw [← hW2]; exact (World.putObj_heap_other (fun e => hne (by omega))).trans (hba.block k hk')
    show Code.wpIn (F.inRound (B + 1)) (n - 1 - 1) P body _ a' (Wa.putObj (B + 1) (.loop { rec_ .ready none with state := .busy }))
    rw [hW2]
    have hax2 : Ax x a' W2 := by rw [← hW2]; exact hAx x a' Wa _ hax
    refine wpIn_mono (hbody _ pre oi x a' W2 hI2 hNb hlt2 h2 hrd2 hax2 (by have := hba.size; omega)) ?_
    -- behind the body
    have fin : ∀ (jump : Option Code) (own' : Foot) (W3 : World), Grow oi W2 own' W3 →
        (Instr.endRound (B + 1) jump).run P W3 = .ok (.bool jump.isNone) (W3.putObj (B + 1) (.loop (rec_ (if jump.isNone then .ready else .done) jump))) ∧
        (∀ k, own' k → k ≠ B ∧ k ≠ B + 1) ∧ (∃ r, W3.heap[B + 1]? = some (.loop r)) ∧ (W3.putObj (B + 1) (.loop (rec_ (if jump.isNone then .ready else .done) jump))).heap[B + 1]? = some (.loop (rec_ (if jump.isNone then .ready else .done) jump)) ∧
        (W3.putObj (B + 1) (.loop (rec_ (if jump.isNone then .ready else .done) jump))).heap[B]? = some (.deferred (some [])) ∧
        Grow own W (fun k => own' k ∨ k = B ∨ k = B + 1) (W3.putObj (B + 1) (.loop (rec_ (if jump.isNone then .ready else .done) jump))) ∧ Grow own₀ w own' (W3.putObj (B + 1) (.loop (rec_ (if jump.isNone then .ready else .done) jump))) := by
      intro jump own' W3 hg3
      have hl3 := (hg3.same _ (Array.getElem?_eq_some_iff.1 hl2).1 (fun h => (h2 _ h).2 rfl)).trans hl2
      have hk3 := (hg3.same _ (Array.getElem?_eq_some_iff.1 hk2).1 (fun h => (h2 _ h).1 rfl)).trans hk2
      have hne : ∀ k, own' k → k ≠ B ∧ k ≠ B + 1 := fun k hk' => by
        rcases hg3.from_ k hk' with h | h
        · exact h2 k h
        · have := hba.size; omega
      have hsz : (W3.putObj (B + 1) (.loop (rec_ (if jump.isNone then .ready else .done) jump))).heap.size = W3.heap.size := by simp [World.putObj]
      have e1 : W2.os = W.os := by rw [← hW2]; exact hba.os
      have e2 : W2.tape = W.tape := by rw [← hW2]; exact hba.tape
      have e3 : W2.output = W.output := by rw [← hW2]; exact hba.output
      have hzW : W.heap.size ≤ W3.heap.size := by have := hba.size; have := hg3.size; omega
      refine ⟨run_endRound jump hl3, hne, ⟨_, hl3⟩, World.putObj_heap_same (Array.getElem?_eq_some_iff.1 hl3).1, (World.putObj_heap_other (by omega)).trans hk3, ⟨hg3.os.trans e1, hg3.tape.trans e2, hg3.output.trans e3, by omega, fun k hk' => ?_, fun k hk' => ?_, fun k hk' hn => ?_⟩, ⟨hg3.os.trans (e1.trans hgr.os), hg3.tape.trans (e2.trans hgr.tape), hg3.output.trans (e3.trans hgr.output), by have := hgr.size; omega, fun k hk' => ?_, fun k hk' => by rw [hsz]; exact hg3.lt k hk', fun k hk' hn => ?_⟩⟩
      · rcases hk' with h | h
        · rcases hg3.from_ k h with h4 | h4
          · exact .inl ((h1 k).2 (.inl h4))
          · right; have := hba.size; omega
        · exact .inl ((h1 k).2 (.inr h))
      · rw [hsz]
        rcases hk' with h | h
        · exact hg3.lt k h
        · omega
      · have hn1 : k ≠ B + 1 := fun e => hn ((h1 k).2 (.inr (.inr e)))
        exact (World.putObj_heap_other (fun e => hn1 (by omega))).trans ((hg3.same k (by have := hba.size; omega) (fun h => hn ((h1 k).2 (.inl h)))).trans (hg02 k hk' hn1))
      · rcases hg3.from_ k hk' with h4 | h4
        · exact hgr.from_ k h4
        · right; have := hba.size; have := hgr.size; omega
      · have hkB : k ≠ B + 1 := by omega
        have hni : ¬ oi k := fun h => by
          rcases hgr.from_ k h with h4 | h4
          · exact hn h4
          · omega
        exact (World.putObj_heap_other (fun e => hkB (by omega))).trans ((hg3.same k (by have := hba.size; have := hgr.size; omega) hni).trans ((hg02 k (by have := hgr.size; omega) hkB).trans (hgr.same k hk' hn)))
    rintro e a3 W3 hp
    cases e with
    | normal =>
      obtain ⟨own', hi3, hg3⟩ := hp
      obtain ⟨q1, q2, qr, q3, q4, q5, q6⟩ := fin none own' W3 hg3
      exact ⟨_, _, q1, .inl ⟨rfl, _, ⟨own', fun k => Iff.rfl, q2, put I _ own' W3 _ hI hi3 q2 qr, q3, q4, q6⟩, q5⟩⟩
    | ret =>
      obtain ⟨own', hi3, hg3⟩ := hp
      obtain ⟨q1, q2, qr, q3, q4, q5, q6⟩ := fin (some .ret) own' W3 hg3
      exact ⟨_, _, q1, .inr ⟨rfl, _, ⟨own', _, fun k => Iff.rfl, q2, put (Ix .ret) _ own' W3 _ (hIx _) hi3 q2 qr, q3, q4, q6⟩, q5⟩⟩
    | exit id =>
      obtain ⟨own', hi3, hg3⟩ := hp
      obtain ⟨q1, q2, qr, q3, q4, q5, q6⟩ := fin (some (.exit id)) own' W3 hg3
      exact ⟨_, _, q1, .inr ⟨rfl, _, ⟨own', _, fun k => Iff.rfl, q2, put (Ix (.exit id)) _ own' W3 _ (hIx _) hi3 q2 qr, q3, q4, q6⟩, q5⟩⟩
    | goto t => exact hp.elim
    | panic ch => exact hp.elim
    | outgrown => exact hp.elim
  · -- at the start
    exact hI [] own₀ w W1 h0 (fun k _ hlt => hb1.block k (by omega)) (by omega) hb1.os hb1.tape hb1.output
  · -- behind the iterator
    have put' : ∀ (W : World) (o : Obj) (own : Foot), Grow own₀ w own W → Grow own₀ w own (W.putObj (B + 1) o) := fun W o own h => ⟨h.os, h.tape, h.output, by have := h.size; simpa [World.putObj] using this, h.from_, fun k hk => by have := h.lt k hk; simpa [World.putObj] using this, fun k hk hn => (World.putObj_heap_other (by omega)).trans (h.same k hk hn)⟩
    rintro e W2 ⟨⟨v, rfl⟩, (⟨xs, own', hS, ⟨oi, h1, h2, h3, hl, hk, hgr⟩, -⟩ | ⟨pre, own', hSp, ⟨oi, c, h1, h2, h3, hl, hk, hgr⟩, -⟩)⟩
    · exact ⟨none, _, run_endLoop (P := P) hl (by simp [rec_]), hdone _ xs oi _ (Nat.le_refl _) hS (put I _ oi W2 _ hI h3 h2 ⟨_, hl⟩) (put' _ _ _ hgr) h2 rfl ((World.putObj_heap_other (by omega)).trans hk)⟩
    · exact ⟨some c, _, run_endLoop (P := P) hl (by simp [rec_]), hstop _ c pre oi _ (Nat.le_refl _) hSp (put (Ix c) _ oi W2 _ (hIx c) h3 h2 ⟨_, hl⟩) (put' _ _ _ hgr) h2 rfl ((World.putObj_heap_other (by omega)).trans hk)⟩
/-! Marks beside a loop's own blocks. -/
def MarksO (own : Foot) (B M : Nat) (W : World) (ds : List Deferred) : Prop := ∃ Ds : List Nat, ds = Ds.map markOf ∧ Ds.Nodup ∧ ∀ D ∈ Ds, B ≤ D ∧ D < M ∧ ¬ own D ∧ W.heap[D]? = some (.deferred (some []))
theorem MarksO.nil (own : Foot) (B M : Nat) (W : World) : MarksO own B M W [] := ⟨[], rfl, List.nodup_nil, fun _ h => by cases h⟩
theorem MarksO.step {own own' : Foot} {B M M' : Nat} {W W' : World} {ds : List Deferred} (h : MarksO own B M W ds) (hM : M ≤ M') (ho : ∀ D, D < M → ¬ own D → ¬ own' D) (hk : ∀ D, D < M → ¬ own D → W'.heap[D]? = W.heap[D]?) : MarksO own' B M' W' ds := by
  obtain ⟨Ds, rfl, h1, h2⟩ := h
  refine ⟨Ds, rfl, h1, fun D hD => ?_⟩
  obtain ⟨q1, q2, q3, q4⟩ := h2 D hD
  exact ⟨q1, by omega, ho D q2 q3, (hk D q2 q3).trans q4⟩
theorem MarksO.push {own : Foot} {B M D : Nat} {W : World} {ds : List Deferred} (h : MarksO own B M W ds) (hB : B ≤ D) (hM : M ≤ D) (ho : ¬ own D) (hD : W.heap[D]? = some (.deferred (some []))) : MarksO own B (D + 1) W ({ target := .collected D, args := #[] } :: ds) := by
  obtain ⟨Ds, rfl, h1, h2⟩ := h
  refine ⟨D :: Ds, rfl, List.nodup_cons.2 ⟨fun hm => by have := (h2 D hm).2.1; omega, h1⟩, fun D' hD' => ?_⟩
  rcases List.mem_cons.1 hD' with rfl | hm
  · exact ⟨hB, by omega, ho, hD⟩
  · have := h2 D' hm
    exact ⟨this.1, by omega, this.2.2⟩
theorem MarksO.leaves {own : Foot} {B M : Nat} {P : Program} {n : Nat} {fn : Func} {tmps : Array Value} {R : Ending → World → Prop} {W : World} {ds : List Deferred} (h : MarksO own B M W ds)
    (hR : ∀ Ds w', (∀ D ∈ Ds, B ≤ D ∧ ¬ own D) → Off Ds W w' → ∃ v, (results fn tmps).run P w' = .ok v w' ∧ R (.returned v) w') : LeavesInM (Wd none) n P fn tmps R ds .returning W := by
  obtain ⟨Ds, rfl, h1, h2⟩ := h
  exact leavesM_marks Ds W h1 (fun D hD => (h2 D hD).2.2.2) (fun w' ho => hR Ds w' (fun D hD => ⟨(h2 D hD).1, (h2 D hD).2.2.1⟩) ho)
end Go.Proofs.Ytiobmfggnacplaa
/- Walks: slices.Grow of nil, slices.Concat of two lists. -/
namespace Go.Proofs.Ytiobmfggnacplaa
open Go.RowKit
attribute [local go_sem] Oper.semAt_some
theorem under3 : Try.prog.underlying 3 = some (.int .i64) := by kernel_rfl
set_option maxRecDepth 10000 in
set_option maxHeartbeats 1600000 in
theorem grow_any (n : Nat) (w : World) (h1 : 1 ≤ n) (hn : n ≤ 1000) :
    Calls Try.prog 100 #[.slice none 0 0, .int .i64 n] w fun e w' => ∃ v, e = .returned v ∧ w'.ownsRow w.heap.size 3 1 v 0 [] ∧ Below w.heap.size w w' := by
  obtain ⟨i0, hi0, hi1, hi2, hi3⟩ := info_parts' info3
  have hrun := fun ty => Lib.run_append_nil_zeros (P := Try.prog) w 22 3 ty 3 i0 (.int .i64 0) .i64 .i64 under22 under3 hi0 hi1 n h1 (by rw [hi2]; decide) (by omega) (by rw [hi3]; omega)
  have Hr := hid hrun
  have hge := grownCap_ge w n 0 3
  obtain ⟨G, hG⟩ : ∃ G, grownCap w n 0 3 = G := ⟨_, rfl⟩
  have hGm := grownCap_le_maxLen w n 0 3 (by unfold maxLen; omega)
  rw [hG] at hge hGm
  simp only [hG] at hrun
  clear hG Hr hi0 hi1 hi2 hi3
  have h0 : ¬ (n : Int) < 0 := by omega
  have h2 : (0 : Int) < n := by omega
  have z0 : IntKind.i64.wrap (n : Int) = n := IntWalk.i64_in _ (by omega)
  have HR := hid hrun
  clear hrun
  go_enter Try.func100, Try.ntmps100
  go_wp2_with (at_builtin; refine Lib.wpList_append_run _ rfl _ _ _ _ rfl _ _ rfl rfl _ _ (HR.out _) ?_)
  refine bodyPost_ret (v := .slice (some ⟨w.heap.size, 0, none⟩) 0 G) (by first | (simp [results, Try.results100, go_sem]; done) | (simp [results, Try.results100, go_sem, *]; done) | (simp [results, Try.results100, go_sem, World.cell?_setCell_same', *]; done) | (simp [results, Try.results100, go_sem]; first | exact ⟨rfl, rfl⟩ | rfl)) rfl ⟨_, rfl, ⟨rfl, .inr ⟨w.heap.size, G, _, rfl, Nat.le_refl _, heap_alloc_new w _, Nat.zero_le _, hGm, ?_, by simp⟩⟩, (by repeat' (first | with_reducible assumption | with_reducible exact Below.refl _ _ | refine Below.alloc ?_ ?_ _ | refine Below.setCell ?_ ?_ _ | refine Below.drew ?_ | refine below_drewN ?_ _ | (simp; done) | (simp; omega) | omega))⟩
  simp [Builtin.zeroCells]
  omega
/-- Where the first list, and the second, end. -/
def cutN (n1 n2 k : Nat) : Nat := if k = 0 then 0 else if k = 1 then n1 else n1 + n2
def catL (l1 l2 : List Int) (k : Nat) : List Int := if k = 0 then [] else if k = 1 then l1 else l1 ++ l2
set_option maxRecDepth 10000 in
set_option maxHeartbeats 1600000 in
theorem concat_any (w : World) (g : Nat) (A1 A2 : Option Addr) (n1 c1 n2 c2 : Nat) (l1 l2 : List Int) (hb : Blk w g 22 #[.slice A1 n1 c1, .slice A2 n2 c2]) (h1 : InS w w.heap.size A1 n1 l1) (h2 : InS w w.heap.size A2 n2 l2) (hA1 : A1 = none → n1 = 0 ∧ c1 = 0) (hA2 : A2 = none → n2 = 0 ∧ c2 = 0) (hn0 : 1 ≤ n1 + n2) (hn : n1 + n2 ≤ 1000) :
    Calls Try.prog 91 #[.slice (some ⟨g, 0, none⟩) 2 2] w fun e w' => ∃ v, e = .returned v ∧ w'.ownsRow w.heap.size 3 1 v (l1 ++ l2).length ((l1 ++ l2).flatMap cI) ∧ Below w.heap.size w w' := by
  obtain ⟨i0, hi0, hi1, hi2, hi3⟩ := info_parts' info3
  have I0 := hid hi0; have I1 := hid hi1; have I2 := hid hi2; have I3 := hid hi3
  clear hi0 hi1 hi2 hi3
  have H1 := hid h1
  have H2 := hid h2
  have HA1 := hid hA1
  have HA2 := hid hA2
  have c0 := hb.cell 0
  have d0 := hb.cell 1
  have lg := hb.lt
  have HB := hid hb
  have hll : (l1 ++ l2).length = n1 + n2 := by rw [List.length_append, h1.len, h2.len]
  have Hll := hid hll
  clear h1 h2 hb hA1 hA2 hll
  go_enter Try.func91, Try.ntmps91
  go_wp2_with (fail)
  go_loopw [3, 11] (fun s i wr => ∃ k : Nat, k ≤ 2 ∧ i = .int .i64 k ∧ s = .int .i64 (cutN n1 n2 k : Nat) ∧ w = wr) (fun _ i _ => 2 - (intOf i).toNat)
  case atStart => exact ⟨0, by omega, rfl, rfl, rfl⟩
  case round =>
    obtain ⟨k, hk, rfl, rfl, rfl⟩ := hrel
    have hk3 : k = 0 ∨ k = 1 ∨ k = 2 := by omega
    rcases hk3 with rfl | rfl | rfl
    · have e0 : cutN n1 n2 0 = 0 := rfl
      rw [e0]
      have hp : ¬ (n1 : Int) < 0 := by omega
      go_wp2
      exact ⟨⟨1, by omega, rfl, by go_num, trivial⟩, by decide⟩
    · have e0 : cutN n1 n2 1 = n1 := rfl
      rw [e0]
      have hp : ¬ (n1 : Int) + n2 < 0 := by omega
      have zz : IntKind.i64.wrap ((n1 : Int) + n2) = (n1 : Int) + n2 := IntWalk.i64_in _ (by omega)
      go_wp2
      exact ⟨⟨2, by omega, rfl, by rw [show cutN n1 n2 2 = n1 + n2 from rfl]; simp, trivial⟩, by decide⟩
    · have e0 : cutN n1 n2 2 = n1 + n2 := rfl
      rw [e0]
      clear c0 d0
      go_wp2_with (fail)
      refine (grow_any (n1 + n2) _ hn0 hn).mono ?_
      rintro e W1 ⟨v1, rfl, ho1, hb1⟩
      have HO1 := hid ho1
      clear ho1
      have c0 := (HB.out.below hb1 lg).cell 0
      have d0 := (HB.out.below hb1 lg).cell 1
      have hs1 := hb1.size
      have lg1 : g < W1.heap.size := by omega
      go_wp2_with (fail)
      go_loopw [6, 27] (fun v i wr => ∃ k : Nat, k ≤ 2 ∧ i = .int .i64 k ∧ Below w.heap.size w wr ∧ Hid (wr.ownsRow w.heap.size 3 1 v (cutN n1 n2 k) ((catL l1 l2 k).flatMap cI))) (fun _ i _ => 2 - (intOf i).toNat)
      case atStart => exact ⟨0, by omega, rfl, hb1, HO1⟩
      case round =>
        clear c0 d0 lg1 HO1
        obtain ⟨k, hk, rfl, hbw, ho⟩ := hrel
        have hszw := hbw.size
        have hk3 : k = 0 ∨ k = 1 ∨ k = 2 := by omega
        have c0 := (HB.out.below hbw lg).cell 0
        have d0 := (HB.out.below hbw lg).cell 1
        have lg2 : g < wr.heap.size := by omega
        rcases hk3 with rfl | rfl | rfl
        · go_wp2_with (first | (at_builtin; refine wpList_append_srcG (by rfl) _ _ 22 rfl w.heap.size 3 i0 _ 1 8 under22 I0.out I1.out I2.out I3.out rfl (by decide) _ 0 [] rfl ho.out A1 n1 c1 (l1.flatMap cI) rfl wr.heap.size (Sl.below' H1.out hbw hszw) HA1.out (one_flatI _) (by unfold maxLen; omega) (by omega) hszw ?_; intro v4 w4 ho4 hg4 _ _; have hb4 : Below w.heap.size w w4 := hbw.grown hg4 hszw (fun r hr => (World.ownsRow.lt ho.out r hr).1); have HO4 : Hid (w4.ownsRow w.heap.size 3 1 v4 (cutN n1 n2 1) ((catL l1 l2 1).flatMap cI)) := hid (by have := ho4; rw [Nat.zero_add, List.nil_append] at this; exact this); clear ho4))
          (first | exact ⟨⟨1, by omega, rfl, hb4, HO4⟩, (by first | (simp [intOf]; omega) | (simp [intOf]; done))⟩ | (refine ⟨?_, ?_⟩; (focus ((repeat apply Exists.intro); refine ⟨?_, rfl⟩; exact ⟨1, by omega, rfl, hb4, HO4⟩)); (first | (simp [intOf]; omega) | (simp [intOf]; done))))
        · go_wp2_with (first | (at_builtin; refine wpList_append_srcG (by rfl) _ _ 22 rfl w.heap.size 3 i0 _ 1 8 under22 I0.out I1.out I2.out I3.out rfl (by decide) _ n1 (l1.flatMap cI) rfl ho.out A2 n2 c2 (l2.flatMap cI) rfl wr.heap.size (Sl.below' H2.out hbw hszw) HA2.out (one_flatI _) (by unfold maxLen; omega) (by omega) hszw ?_; intro v4 w4 ho4 hg4 _ _; have hb4 : Below w.heap.size w w4 := hbw.grown hg4 hszw (fun r hr => (World.ownsRow.lt ho.out r hr).1); have HO4 : Hid (w4.ownsRow w.heap.size 3 1 v4 (cutN n1 n2 2) ((catL l1 l2 2).flatMap cI)) := hid (by have := ho4; rw [← List.flatMap_append] at this; exact this); clear ho4))
          (first | exact ⟨⟨2, by omega, rfl, hb4, HO4⟩, (by first | (simp [intOf]; omega) | (simp [intOf]; done))⟩ | (refine ⟨?_, ?_⟩; (focus ((repeat apply Exists.intro); refine ⟨?_, rfl⟩; exact ⟨2, by omega, rfl, hb4, HO4⟩)); (first | (simp [intOf]; omega) | (simp [intOf]; done))))
        · have HO5 : Hid (wr.ownsRow w.heap.size 3 1 u6 (l1 ++ l2).length ((l1 ++ l2).flatMap cI)) := hid (by rw [Hll.out]; exact ho.out)
          clear ho
          go_wp2
          refine bodyPost_ret (v := u6) (by first | (simp [results, Try.results91, go_sem]; done) | (simp [results, Try.results91, go_sem, *]; done) | (simp [results, Try.results91, go_sem, World.cell?_setCell_same', *]; done) | (simp [results, Try.results91, go_sem]; first | exact ⟨rfl, rfl⟩ | rfl)) rfl ⟨_, rfl, HO5.out, hbw⟩
end Go.Proofs.Ytiobmfggnacplaa
/- The law of drawn regions under a condition on worlds, with a post of its own: what the region leaves is said once, for all orders. -/
namespace Go.Proofs.Ytiobmfggnacplaa.Sx
open Go
section
variable {P : Program} {ops : Array Oper} {md : Region.Mode} {S : World → Prop}
theorem wpM_mono {Q Q' : Act → World → Prop} (h : ∀ a W, S W → Q a W → Q' a W) : ∀ (f : Nat) (listed : Array Bool) (a : Act) (w : World), wpM P md ops S Q f listed a w → wpM P md ops S Q' f listed a w
  | 0, _, _, _, hh => ⟨hh.1, fun W h1 h2 => h _ _ h2 (hh.2 W h1 h2)⟩
  | f + 1, _, _, _, hh => fun W h1 h2 => ⟨fun h0 => h _ _ h2 ((hh W h1 h2).1 h0), fun i hi => lOp_mono (fun _ _ hk => ⟨hk.1, wpM_mono h f _ _ _ hk.2⟩) ((hh W h1 h2).2 i hi)⟩
theorem wpE_mono {L L' : Act → Prop} (h : ∀ a, L a → L' a) : ∀ (l : List (Nat × Oper)) (a : Act), wpE P ops S L l a → wpE P ops S L' l a
  | [], _, hh => h _ hh
  | (_, _) :: rest, _, ⟨v, hy, hh⟩ => ⟨v, hy, wpE_mono h rest _ hh⟩
/-- The law with a post of its own. -/
theorem wp_region_elQ (S : World → Prop) (Q1 : Act → World → Prop) (hS : ∀ W W', S W → Ext W W' → S W') {id : Nat} {Q : Exit → Act → World → Prop} {a : Act} {w : World} {l : List Oper} (E : List Nat) (g : Nat) (hm : P.follows .mixedOrders = true)
    (hB : (Region.noSelect l.toArray && decide (E.length + g = l.length) && earlyB .any l.toArray E (Array.replicate l.length false)) = true) (h0 : S w.drew)
    (h : wpE P l.toArray S (fun a' => wpM P .any l.toArray S Q1 g (setAll (Array.replicate l.length false) E) a' w.drew) (pick l.toArray E) a)
    (hQ : ∀ a W, S W → Q1 a W → wpList P l.toArray Q [] a W) : (Code.region id l.toArray true).wp P Q a w :=
  wp_region_el S hS E g hm hB h0 (wpE_mono (fun _ hk => wpM_mono hQ _ _ _ _ hk) _ _ h)
/-- From here on a stronger condition holds. -/
theorem wpM_narrow {S' : World → Prop} (hcl : ∀ W W', S' W → Ext W W' → S' W') (hSS : ∀ W, S' W → S W) {Q : Act → World → Prop} : ∀ (f : Nat) (listed : Array Bool) (a : Act) (w : World), S' w → wpM P md ops S' Q f listed a w → wpM P md ops S Q f listed a w
  | 0, _, _, _, hw, hh => ⟨hh.1, fun W h1 _ => hh.2 W h1 (hcl _ _ hw h1)⟩
  | f + 1, _, _, _, hw, hh => fun W h1 _ =>
    have hW := hcl _ _ hw h1
    ⟨(hh W h1 hW).1, fun i hi => lOp_mono (fun _ _ hk => ⟨hSS _ hk.1, wpM_narrow hcl hSS f _ _ _ hk.1 hk.2⟩) ((hh W h1 hW).2 i hi)⟩
/-- Three operations may come up. -/
theorem wpM_three {Q : Act → World → Prop} {f : Nat} {listed : Array Bool} {a : Act} {w : World} (i j k : Nat) (o o' o'' : Oper) (ho : ops[i]? = some o) (ho' : ops[j]? = some o') (ho'' : ops[k]? = some o'') (hr : decide (Region.ready md ops listed = [i, j, k]) = true) (hw : Region.wanted o (yielded ops a.tmps) = true) (hw' : Region.wanted o' (yielded ops a.tmps) = true) (hw'' : Region.wanted o'' (yielded ops a.tmps) = true)
    (h : ∀ W, Ext w W → S W → LUpon P o a (fun a' W' => S W' ∧ wpM P md ops S Q f (listed.setIfInBounds i true) a' W') ((execOp a.eval o).run P W))
    (h' : ∀ W, Ext w W → S W → LUpon P o' a (fun a' W' => S W' ∧ wpM P md ops S Q f (listed.setIfInBounds j true) a' W') ((execOp a.eval o').run P W))
    (h'' : ∀ W, Ext w W → S W → LUpon P o'' a (fun a' W' => S W' ∧ wpM P md ops S Q f (listed.setIfInBounds k true) a' W') ((execOp a.eval o'').run P W)) : wpM P md ops S Q (f + 1) listed a w := by
  intro W h1 h2
  rw [of_decide_eq_true hr]
  refine ⟨fun h => (by cases h), fun q hq => ?_⟩
  rcases List.mem_cons.1 hq with rfl | hq
  · unfold lOp
    simp only [ho, hw, if_true]
    exact h W h1 h2
  · rcases List.mem_cons.1 hq with rfl | hq
    · unfold lOp
      simp only [ho', hw', if_true]
      exact h' W h1 h2
    · obtain rfl : q = k := by simpa using hq
      unfold lOp
      simp only [ho'', hw'', if_true]
      exact h'' W h1 h2
end
end Go.Proofs.Ytiobmfggnacplaa.Sx
/- Walks: a rim turned. -/
namespace Go.Proofs.Ytiobmfggnacplaa
open Go.RowKit
attribute [local go_sem] Oper.semAt_some
theorem insTake {w : World} {B b off n k : Nat} {l : List Int} (h : InS w B (some ⟨b, off, none⟩) n l) (hk : k ≤ n) : InS w B (some ⟨b, off, none⟩) k (l.take k) := by
  refine ⟨by rw [flatI_len', List.length_take, h.len, Nat.min_eq_left hk, Nat.mul_one], fun _ => ?_⟩
  rcases Nat.eq_zero_or_pos n with h0 | h0
  · omega
  · obtain ⟨b', off', e, hb, hc⟩ := h.2 h0
    cases e
    exact ⟨b, off, rfl, hb, fun j u hj => by have := ins_take h hk j u hj; rwa [add_at] at this⟩
theorem insDrop {w : World} {B b off n k : Nat} {l : List Int} (h : InS w B (some ⟨b, off, none⟩) n l) (hk : k < n) : InS w B (some ⟨b, off + k, none⟩) (n - k) (l.drop k) := by
  refine ⟨by rw [flatI_len', List.length_drop, h.len, Nat.mul_one], fun _ => ?_⟩
  obtain ⟨b', off', e, hb, hc⟩ := h.2 (by omega)
  cases e
  exact ⟨b, off + k, rfl, hb, fun j u hj => by have := ins_drop h (k := k) j u hj; rwa [add_at] at this⟩
theorem hSb (B : World) : ∀ W W', Below B.heap.size B W → Ext W W' → Below B.heap.size B W' := fun _ _ h he => h.trans (he.mono h.size)
set_option maxRecDepth 10000 in
set_option maxHeartbeats 1600000 in
theorem turned_any (g : Nat) (K : Int) (A : Option Addr) (n c : Nat) (l : List Int) (by_ : Nat) (w : World) (hR : Rd w g K A n c l) (hc : n ≤ c) (hn : n ≤ 64) (hb : by_ < n) :
    Calls Try.prog 60 #[.pointer (some ⟨g, 0, none⟩), .int .i64 by_] w fun e w' => ∃ v, e = .returned v ∧ w'.ownsRow w.heap.size 3 1 v n ((rot l by_).flatMap cI) ∧ Below w.heap.size w w' := by
  have hlen := hid hR.2.len
  obtain ⟨b, off, rfl, hbB, hcl⟩ := hR.2.2 (by omega)
  have q1 : w.cell? ⟨g, 1, none⟩ = some (.slice (some ⟨b, off, none⟩) n c) := hR.1.cell 1
  have lg := hR.1.lt
  have hbi : (by_ : Int) ≤ c := by omega
  have hbi2 : (by_ : Int) ≤ n := by omega
  have hne : ¬ c = by_ := by omega
  have hbc : by_ ≤ c := by omega
  have hbn : by_ ≤ n := by omega
  have HR := hid hR
  clear hR
  go_enter Try.func60, Try.ntmps60
  go_wp2_with (fail)
  refine wp_region_hd 14 (fun W' => Below w.heap.size w W') (by kernel_rfl) (by kernel_rfl) ((Below.refl _ _).drew) ?_
  simp only [List.take_succ_cons, List.take_zero, List.drop_succ_cons, List.drop_zero]
  iterate 14 (refine wpHd_val (v := ?_) (by rfl) (fun W hW => ?_) ?_; rotate_left; (· have q2 : W.cell? ⟨g, 1, none⟩ = some (.slice (some ⟨b, off, none⟩) n c) := ((bcell hW).1 g 1 lg).trans q1; have l2 : g < W.heap.size := Nat.lt_of_lt_of_le lg hW.size; go_simp; with_reducible rfl); simp only [Act.put, List.setIfInBounds_toArray, List.set_cons_zero, List.set_cons_succ])
  refine wpHd_nil ?_
  intro W1 hW1
  have hz1 := hW1.size
  have h1 := HR.out.2.below hW1 hz1
  have hal : Below W1.heap.size W1 (W1.alloc (.cells #[.slice (some ⟨b, off + by_, none⟩) (n - by_) (c - by_), .slice (some ⟨b, off, none⟩) by_ c] 22)) := (Below.refl _ _).alloc (Nat.le_refl _) _
  have h2 := h1.below hal hal.size
  have HA := hid (insDrop h2 hb)
  have HB := hid (insTake h2 hbn)
  have hr : Hid (l.drop by_ ++ l.take by_ = rot l by_) := hid rfl
  have hrl : Hid ((l.drop by_ ++ l.take by_).length = n) := hid (by rw [hr.out, rot_len, hlen.out])
  clear h1 h2
  go_wp2_with (fail)
  refine (concat_any _ W1.heap.size (some ⟨b, off + by_, none⟩) (some ⟨b, off, none⟩) (n - by_) (c - by_) by_ c (l.drop by_) (l.take by_) (Blk.new' rfl) HA.out HB.out (fun h => by cases h) (fun h => by cases h) (by omega) (by omega)).mono ?_
  rw [hrl.out, hr.out]
  rintro e W2 ⟨v, rfl, ho, hb2⟩
  have hz2 := hal.size
  go_wp2
  refine bodyPost_ret (v := v) (by first | (simp [results, Try.results60, go_sem]; done) | (simp [results, Try.results60, go_sem, *]; done) | (simp [results, Try.results60, go_sem, World.cell?_setCell_same', *]; done) | (simp [results, Try.results60, go_sem]; first | exact ⟨rfl, rfl⟩ | rfl)) rfl ⟨v, rfl, owns_mono ho (by simp; omega), hW1.trans ((hal.trans (hb2.mono hz2)).mono hz1)⟩
end Go.Proofs.Ytiobmfggnacplaa
/- Walks: the reference's list turned, and which list comes before. -/
namespace Go.Proofs.Ytiobmfggnacplaa
open Go.RowKit
attribute [local go_sem] Oper.semAt_some
theorem takeI_succ {l : List Int} {k : Nat} {x : Int} (h : l[k]? = some x) : (l.take (k + 1)).flatMap cI = (l.take k).flatMap cI ++ [.int .i64 x] := by
  rw [List.take_add_one, h, List.flatMap_append]; rfl
set_option maxRecDepth 10000 in
set_option maxHeartbeats 1600000 in
theorem turnOf_any (A : Option Addr) (n c : Nat) (l : List Int) (by_ : Nat) (w : World) (hl : InS w w.heap.size A n l) (hn : n ≤ 1000) (hb : by_ ≤ n) :
    Calls Try.prog 49 #[.slice A n c, .int .i64 by_] w fun e w' => ∃ v, e = .returned v ∧ w'.ownsRow w.heap.size 3 1 v n ((rot l by_).flatMap cI) ∧ Below w.heap.size w w' := by
  obtain ⟨i0, hi0, hi1, hi2, hi3⟩ := info_parts' info3
  have I0 := hid hi0; have I1 := hid hi1; have I2 := hid hi2; have I3 := hid hi3
  clear hi0 hi1 hi2 hi3
  have HL := hid hl
  have hlen := hid hl.len
  clear hl
  go_enter Try.func49, Try.ntmps49
  go_wp2
  go_loopw [5, 6] (fun v i wr => ∃ k : Nat, k ≤ n ∧ i = .int .i64 k ∧ Below w.heap.size w wr ∧ Hid (wr.ownsRow w.heap.size 3 1 v k (((rot l by_).take k).flatMap cI))) (fun _ i _ => n - (intOf i).toNat)
  case atStart => exact ⟨0, by omega, rfl, Below.refl _ _, hid (World.ownsRow_nil _ _ _ _)⟩
  case round =>
    obtain ⟨k, hk2, rfl, hbw, hown⟩ := hrel
    have hszw := hbw.size
    by_cases hlt : k < n
    · have hlti : (k : Int) < n := by omega
      obtain ⟨jj, hjj⟩ : ∃ j, (k + by_) % n = j := ⟨_, rfl⟩
      have hjl : jj < n := by rw [← hjj]; exact Nat.mod_lt _ (by omega)
      have hjli : (jj : Int) < n := by omega
      have hti : Int.tmod ((k : Int) + (by_ : Int)) (n : Int) = (jj : Int) := by rw [← hjj]; exact (Int.ofNat_tmod (k + by_) n).symm
      have hnz : ¬ n = 0 := by omega
      obtain ⟨b, off, x, rfl, hb1, hx, c0⟩ := (HL.out.below hbw hszw).at_ hjl
      have hrx : (rot l by_)[k]? = some x := by rw [rot_at (by rw [hlen.out]; exact hb) (by rw [hlen.out]; exact hlt), hlen.out, hjj]; exact hx
      have Hf := hid (takeI_succ hrx)
      clear hjj hx hrx
      go_wp2_with (at_builtin; refine wpList_append_own _ rfl _ _ 22 rfl w.heap.size 3 i0 _ 1 8 under22 I0.out I1.out I2.out I3.out rfl (by decide) _ k _ rfl (hown.out.alloc (.cells #[.int .i64 x] 3)) ⟨wr.heap.size, 0, none⟩ 1 1 [.int .i64 x] rfl rfl (fun j u hj => World.news_of_block (Blk.new' (by simp)) j u hj) (one1 _) (by unfold maxLen; omega) (by omega) (by simp; omega) ?_; intro v' w3 ho3 hg3 hv3)
      have hb3 : Below w.heap.size w w3 := (hbw.alloc hszw _).grown hg3 (by simp; omega) (fun r hr => (World.ownsRow.lt hown.out r hr).1)
      exact ⟨⟨k + 1, by omega, by go_num, hb3, hid (by rw [Hf.out]; exact ho3)⟩, by simp [intOf]; omega⟩
    · obtain rfl : n = k := by omega
      go_wp2
      refine bodyPost_ret (v := u5) (by first | (simp [results, Try.results49, go_sem]; done) | (simp [results, Try.results49, go_sem, *]; done) | (simp [results, Try.results49, go_sem, World.cell?_setCell_same', *]; done) | (simp [results, Try.results49, go_sem]; first | exact ⟨rfl, rfl⟩ | rfl)) rfl ⟨u5, rfl, ?_, hbw⟩
      have ho := hown.out
      rw [List.take_of_length_le (by rw [rot_len, hlen.out]; exact Nat.le_refl _)] at ho
      exact ho
end Go.Proofs.Ytiobmfggnacplaa
