/- Texts of the proof, laid together by program. -/
import Derived.Test.YtdcglphekafpdaaMa
import Derived.RangeFuncNested
import Derived.RangeFuncBound
import Derived.RangeFuncCalls
import Derived.RangeFuncLeaves
import Derived.OwnWalkIn
import Derived.TacticsInMore
import Derived.LoopNIn
import Derived.LoopIn
import Derived.OrdersIn
import Derived.RegionIn
import Derived.Deep.QuietTactic
import Derived.BigQuiet
import Derived.Shelf.Abstract
namespace Go.Proofs.Ytdcglphekafpdaa
open Go.RowKit

set_option maxHeartbeats 400000 in
theorem wclo_any (x lo hi : Int) (b1 b2 : Nat) (w : World) (c1 : w.cell? ⟨b1, 0, none⟩ = some (.int .i64 lo)) (c2 : w.cell? ⟨b2, 0, none⟩ = some (.int .i64 hi)) :
    Calls Try.prog 104 #[.int .i64 x, .pointer (some ⟨b1, 0, none⟩), .pointer (some ⟨b2, 0, none⟩)] w fun e w' => e = .returned (.bool (!inR ⟨lo, hi⟩ x)) ∧ w = w' := by
  have e : Hid (inR ⟨lo, hi⟩ x = decide (lo ≤ x ∧ x ≤ hi)) := rfl
  by_cases h1 : x < lo <;> by_cases h2 : hi < x
  all_goals
    go_enter Try.func104, Try.ntmps104
    go_wp2
    go_ret
    refine ⟨?_, rfl⟩
    rw [e.out]
    first | (rw [decide_eq_true (by omega)]; rfl) | (rw [decide_eq_false (by omega)]; rfl)

/-- An index that is below 0 just if all are good. -/
def IdxPost (good : Bool) (B : Nat) (w : World) (e : Ending) (w' : World) : Prop := ∃ z : Int, e = .returned (.int .i64 z) ∧ (0 ≤ z ↔ good = false) ∧ Below B w w'

theorem all_false {α : Type} {p : α → Bool} {l : List α} {k : Nat} {x : α} (hx : l[k]? = some x) (hp : p x = false) : l.all p = false := by
  cases h : l.all p
  · rfl
  · have := List.all_eq_true.1 h x (List.mem_of_getElem? hx)
    rw [hp] at this; cases this

set_option maxHeartbeats 400000 in
theorem idxI_any (A : Option Addr) (n c : Nat) (l : List Int) (lo hi : Int) (b1 b2 : Nat) (w : World) (hl : InS w w.heap.size A n l) (hn : n ≤ 100) (c1 : w.cell? ⟨b1, 0, none⟩ = some (.int .i64 lo)) (c2 : w.cell? ⟨b2, 0, none⟩ = some (.int .i64 hi)) :
    Calls Try.prog 114 #[.slice A n c, .func (.func 104) #[] #[.pointer (some ⟨b1, 0, none⟩), .pointer (some ⟨b2, 0, none⟩)]] w (IdxPost (l.all (inR ⟨lo, hi⟩)) w.heap.size w) := by
  have hlen := hid hl.len
  go_enter Try.func114, Try.ntmps114
  go_wp2
  go_loop [8] (fun i => ∃ k : Nat, k ≤ n ∧ i = .int .i64 k ∧ Hid ((l.take k).all (inR ⟨lo, hi⟩) = true)) (fun i => n - (intOf i).toNat)
  case atStart => exact ⟨0, by omega, rfl, rfl⟩
  case round =>
    obtain ⟨k, hk, rfl, hall⟩ := hrel
    by_cases hlt : k < n
    · obtain ⟨b, off, x, rfl, hb, hm, c0⟩ := hl.at_ hlt
      have Hm := hid hm
      clear hm
      cases hx : inR ⟨lo, hi⟩ x
      · go_wp2_with (first | (go_at_call 104; refine (wclo_any x lo hi b1 b2 _ c1 c2).mono ?_; rw [hx]; rintro e w1 ⟨rfl, rfl⟩))
        go_ret
        exact ⟨k, rfl, by simp [all_false Hm.out hx], Below.refl _ _⟩
      · go_wp2_with (first | (go_at_call 104; refine (wclo_any x lo hi b1 b2 _ c1 c2).mono ?_; rw [hx]; rintro e w1 ⟨rfl, rfl⟩))
        exact ⟨⟨k + 1, by omega, by go_num, all_take_succ hall.out Hm.out hx⟩, by simp [intOf]; omega⟩
    · have hfin : Hid (l.all (inR ⟨lo, hi⟩) = true) := by have := hall.out; rwa [List.take_of_length_le (by rw [hlen.out]; omega)] at this
      go_wp2
      go_ret
      exact ⟨-1, rfl, by simp [hfin.out], Below.refl _ _⟩

theorem idx_t {good : Bool} {z : Int} (h : 0 ≤ z ↔ good = false) (hg : good = true) : z < 0 := by subst hg; simp at h; exact h
theorem idx_f {good : Bool} {z : Int} (h : 0 ≤ z ↔ good = false) (hg : good = false) : 0 ≤ z := h.2 hg
set_option maxHeartbeats 400000 in
theorem containsI_any (A : Option Addr) (n c : Nat) (l : List Int) (lo hi : Int) (b1 b2 : Nat) (w : World) (hl : InS w w.heap.size A n l) (hn : n ≤ 100) (c1 : w.cell? ⟨b1, 0, none⟩ = some (.int .i64 lo)) (c2 : w.cell? ⟨b2, 0, none⟩ = some (.int .i64 hi)) :
    Calls Try.prog 103 #[.slice A n c, .func (.func 104) #[] #[.pointer (some ⟨b1, 0, none⟩), .pointer (some ⟨b2, 0, none⟩)]] w fun e w' => e = .returned (.bool (!(l.all (inR ⟨lo, hi⟩)))) ∧ Below w.heap.size w w' := by
  cases hg : (l.all (inR ⟨lo, hi⟩))
  · have Hg := hid hg
    clear hg
    go_enter Try.func103, Try.ntmps103
    go_wp2_with (first | (go_at_call 114; refine (idxI_any A n c l lo hi b1 b2 _ hl hn c1 c2).mono ?_; rintro e w1 ⟨z, rfl, hz, hb1⟩; have hz2 := idx_f hz Hg.out; clear hz))
    go_ret
    exact ⟨by first | rfl | (simp; done) | simp [hz2], hb1⟩
  · have Hg := hid hg
    clear hg
    go_enter Try.func103, Try.ntmps103
    go_wp2_with (first | (go_at_call 114; refine (idxI_any A n c l lo hi b1 b2 _ hl hn c1 c2).mono ?_; rintro e w1 ⟨z, rfl, hz, hb1⟩; have hz2 := idx_t hz Hg.out; clear hz))
    go_ret
    exact ⟨by first | rfl | (simp; done) | simp [hz2], hb1⟩

set_option maxHeartbeats 400000 in
theorem within_any (A : Option Addr) (n c : Nat) (l : List Int) (lo hi : Int) (w : World) (hl : InS w w.heap.size A n l) (hn : n ≤ 100) :
    Calls Try.prog 74 #[.int .i64 lo, .int .i64 hi, .slice A n c] w fun e w' => e = .returned (.bool (l.all (inR ⟨lo, hi⟩))) ∧ Below w.heap.size w w' := by
  cases hg : l.all (inR ⟨lo, hi⟩)
  all_goals
    go_enter Try.func74, Try.ntmps74
    go_wp2_with (first | (go_at_call 103; refine (containsI_any A n c l lo hi _ _ _ (hl.below (by repeat' (first | with_reducible assumption | with_reducible exact Below.refl _ _ | refine Below.alloc ?_ ?_ _ | refine Below.setCell ?_ ?_ _ | refine Below.drew ?_ | refine below_drewN ?_ _ | (simp; done) | (simp; omega) | omega)) (by first | (simp; done) | (simp; omega) | omega)) hn (by go_simp) (by go_simp)).mono ?_; rw [hg]; rintro e w1 ⟨rfl, hb1⟩))
    go_ret
    exact ⟨rfl, Below.trans (by repeat' (first | with_reducible assumption | with_reducible exact Below.refl _ _ | refine Below.alloc ?_ ?_ _ | refine Below.setCell ?_ ?_ _ | refine Below.drew ?_ | refine below_drewN ?_ _ | (simp; done) | (simp; omega) | omega)) (hb1.mono (by first | (simp; done) | (simp; omega) | omega))⟩

theorem inS_lit1 {w : World} {g B : Nat} (x : Int) (hg : w.heap.size = g) (hB : g < B) : InS (w.alloc (.cells #[.int .i64 x] 2)) B (some ⟨g, 0, none⟩) 1 [x] := by
  refine ⟨rfl, fun hn => ⟨g, 0, rfl, hB, fun j u hu => ?_⟩⟩
  rw [(Blk.new' hg).cell, Nat.zero_add]
  simpa [cI] using hu
theorem inS_lit2 {w : World} {g B : Nat} (x y : Int) (hg : w.heap.size = g) (hB : g < B) : InS (w.alloc (.cells #[.int .i64 x, .int .i64 y] 2)) B (some ⟨g, 0, none⟩) 2 [x, y] := by
  refine ⟨rfl, fun hn => ⟨g, 0, rfl, hB, fun j u hu => ?_⟩⟩
  rw [(Blk.new' hg).cell, Nat.zero_add]
  simpa [cI] using hu

set_option maxHeartbeats 400000 in
theorem isRange_any (r : Rg) (most : Int) (w : World) :
    Calls Try.prog 70 #[.agg #[.int .i64 r.lo, .int .i64 r.hi], .int .i64 most] w fun e w' => e = .returned (.bool (okR r most)) ∧ Below w.heap.size w w' := by
  have e : Hid (okR r most = decide (0 ≤ r.lo ∧ r.lo ≤ r.hi ∧ r.hi ≤ most)) := rfl
  cases hg : [r.lo, r.hi].all (inR ⟨0, most⟩)
  · have h1 : ¬ (0 ≤ r.lo ∧ r.lo ≤ most ∧ 0 ≤ r.hi ∧ r.hi ≤ most) := fun h => by simp [inR] at hg; omega
    go_enter Try.func70, Try.ntmps70
    go_wp2_with (first | (go_at_call 74; refine (within_any _ _ _ [r.lo, r.hi] 0 most _ (inS_lit2 _ _ (by first | (simp; done) | (simp; omega) | omega) (by first | (simp; done) | (simp; omega) | omega)) (by omega)).mono ?_; rw [hg]; rintro e w1 ⟨rfl, hb1⟩))
    go_ret
    exact ⟨by rw [e.out, decide_eq_false (by omega)]; rfl, Below.trans (by repeat' (first | with_reducible assumption | with_reducible exact Below.refl _ _ | refine Below.alloc ?_ ?_ _ | refine Below.setCell ?_ ?_ _ | refine Below.drew ?_ | refine below_drewN ?_ _ | (simp; done) | (simp; omega) | omega)) (hb1.mono (by first | (simp; done) | (simp; omega) | omega))⟩
  · have h1 : (0 ≤ r.lo ∧ r.lo ≤ most ∧ 0 ≤ r.hi ∧ r.hi ≤ most) := by simp [inR] at hg; omega
    have Hg := hid hg
    cases hd : decide (r.lo ≤ r.hi)
    · have h2 := of_decide_eq_false hd
      have h3 : Hid (okR r most = false) := by rw [e.out, decide_eq_false (by omega)]; trivial
      clear h2 e hg h1
      go_enter Try.func70, Try.ntmps70
      go_wp2_with (first | (go_at_call 74; refine (within_any _ _ _ [r.lo, r.hi] 0 most _ (inS_lit2 _ _ (by first | (simp; done) | (simp; omega) | omega) (by first | (simp; done) | (simp; omega) | omega)) (by omega)).mono ?_; rw [Hg.out]; rintro e w1 ⟨rfl, hb1⟩; obtain ⟨hc1, hf1⟩ := bcell hb1))
      go_ret
      exact ⟨by rw [h3.out]; rfl, Below.trans (by repeat' (first | with_reducible assumption | with_reducible exact Below.refl _ _ | refine Below.alloc ?_ ?_ _ | refine Below.setCell ?_ ?_ _ | refine Below.drew ?_ | refine below_drewN ?_ _ | (simp; done) | (simp; omega) | omega)) (hb1.mono (by first | (simp; done) | (simp; omega) | omega))⟩
    · have h2 := of_decide_eq_true hd
      have h3 : Hid (okR r most = true) := by rw [e.out, decide_eq_true (by omega)]; trivial
      clear h2 e hg h1
      go_enter Try.func70, Try.ntmps70
      go_wp2_with (first | (go_at_call 74; refine (within_any _ _ _ [r.lo, r.hi] 0 most _ (inS_lit2 _ _ (by first | (simp; done) | (simp; omega) | omega) (by first | (simp; done) | (simp; omega) | omega)) (by omega)).mono ?_; rw [Hg.out]; rintro e w1 ⟨rfl, hb1⟩; obtain ⟨hc1, hf1⟩ := bcell hb1))
      go_ret
      exact ⟨by rw [h3.out]; rfl, Below.trans (by repeat' (first | with_reducible assumption | with_reducible exact Below.refl _ _ | refine Below.alloc ?_ ?_ _ | refine Below.setCell ?_ ?_ _ | refine Below.drew ?_ | refine below_drewN ?_ _ | (simp; done) | (simp; omega) | omega)) (hb1.mono (by first | (simp; done) | (simp; omega) | omega))⟩

set_option maxHeartbeats 400000 in
theorem mclo_any (m : Mt) (w : World) :
    Calls Try.prog 78 #[.agg #[.int .i64 m.keep.lo, .int .i64 m.keep.hi, .int .i64 m.fixed.lo, .int .i64 m.fixed.hi]] w fun e w' => e = .returned (.bool (!okM m)) ∧ Below w.heap.size w w' := by
  have e : Hid (okM m = (okR m.keep 1000 && okR m.fixed 1000)) := rfl
  by_cases ok1 : okR m.keep 1000 = true <;> by_cases ok2 : okR m.fixed 1000 = true
  all_goals
    go_enter Try.func78, Try.ntmps78
    go_wp2_with (first | (go_at_call 70; refine (isRange_any _ _ _).mono ?_; rintro e w1 ⟨rfl, hb1⟩; obtain ⟨hc1, hf1⟩ := bcell hb1; have hbel : Below w.heap.size w w1 := Below.trans (by repeat' (first | with_reducible assumption | with_reducible exact Below.refl _ _ | refine Below.alloc ?_ ?_ _ | refine Below.setCell ?_ ?_ _ | refine Below.drew ?_ | refine below_drewN ?_ _ | (simp; done) | (simp; omega) | omega)) (hb1.mono (by first | (simp; done) | (simp; omega) | omega)); have hsz := hbel.size; have hz1 := hb1.size; (try simp only [World.size_alloc] at hz1); (try have hq0 : w.heap.size < w1.heap.size := by omega); (try have hq1 : w.heap.size + 1 < w1.heap.size := by omega); (try have hq2 : w.heap.size + 1 + 1 < w1.heap.size := by omega); (try have hq3 : w.heap.size + 1 + 1 + 1 < w1.heap.size := by omega)))
    go_ret
    exact ⟨by rw [e.out]; simp [ok1, ok2], (by repeat' (first | with_reducible assumption | with_reducible exact Below.refl _ _ | refine Below.alloc ?_ ?_ _ | refine Below.setCell ?_ ?_ _ | refine Below.drew ?_ | refine below_drewN ?_ _ | (simp; done) | (simp; omega) | omega))⟩
set_option maxHeartbeats 400000 in
theorem rclo_any (r : Rg) (w : World) :
    Calls Try.prog 85 #[.agg #[.int .i64 r.lo, .int .i64 r.hi]] w fun e w' => e = .returned (.bool (!okW r)) ∧ Below w.heap.size w w' := by
  have e : Hid (okW r = okR r 1000000) := rfl
  by_cases ok1 : okR r 1000000 = true
  all_goals
    go_enter Try.func85, Try.ntmps85
    go_wp2_with (first | (go_at_call 70; refine (isRange_any _ _ _).mono ?_; rintro e w1 ⟨rfl, hb1⟩; obtain ⟨hc1, hf1⟩ := bcell hb1; have hbel : Below w.heap.size w w1 := Below.trans (by repeat' (first | with_reducible assumption | with_reducible exact Below.refl _ _ | refine Below.alloc ?_ ?_ _ | refine Below.setCell ?_ ?_ _ | refine Below.drew ?_ | refine below_drewN ?_ _ | (simp; done) | (simp; omega) | omega)) (hb1.mono (by first | (simp; done) | (simp; omega) | omega)); have hsz := hbel.size; have hz1 := hb1.size; (try simp only [World.size_alloc] at hz1); (try have hq0 : w.heap.size < w1.heap.size := by omega); (try have hq1 : w.heap.size + 1 < w1.heap.size := by omega); (try have hq2 : w.heap.size + 1 + 1 < w1.heap.size := by omega); (try have hq3 : w.heap.size + 1 + 1 + 1 < w1.heap.size := by omega)))
    go_ret
    exact ⟨by rw [e.out]; simp [ok1], (by repeat' (first | with_reducible assumption | with_reducible exact Below.refl _ _ | refine Below.alloc ?_ ?_ _ | refine Below.setCell ?_ ?_ _ | refine Below.drew ?_ | refine below_drewN ?_ _ | (simp; done) | (simp; omega) | omega))⟩

set_option maxHeartbeats 400000 in
theorem idxM_any (A : Option Addr) (n c : Nat) (l : List Mt) (w : World) (hl : MtS w w.heap.size A n l) (hn : n ≤ 100) :
    Calls Try.prog 107 #[.slice A n c, .func (.func 78) #[] #[]] w (IdxPost (l.all okM) w.heap.size w) := by
  have hlen := hid hl.len
  go_enter Try.func107, Try.ntmps107
  go_wp2
  go_loopw [8] (fun i wr => ∃ k : Nat, k ≤ n ∧ i = .int .i64 k ∧ Hid ((l.take k).all okM = true) ∧ Below w.heap.size w wr) (fun i _ => n - (intOf i).toNat)
  case atStart => exact ⟨0, by omega, rfl, rfl, Below.refl _ _⟩
  case round =>
    obtain ⟨k, hk, rfl, hall, hbel⟩ := hrel
    have hsz := hbel.size
    by_cases hlt : k < n
    · obtain ⟨b, off, x, rfl, hb, hm, c0, c1, c2, c3⟩ := (hl.below hbel (Nat.le_refl _)).at_ hlt
      have Hm := hid hm
      clear hm
      cases hx : okM x
      · go_wp2_with (first | (go_at_call 78; refine (mclo_any x _).mono ?_; rw [hx]; rintro e w1 ⟨rfl, hb1⟩))
        go_ret
        exact ⟨k, rfl, by simp [all_false Hm.out hx], hbel.trans (hb1.mono hsz)⟩
      · go_wp2_with (first | (go_at_call 78; refine (mclo_any x _).mono ?_; rw [hx]; rintro e w1 ⟨rfl, hb1⟩))
        exact ⟨⟨k + 1, by omega, by go_num, all_take_succ hall.out Hm.out hx, hbel.trans (hb1.mono hsz)⟩, by simp [intOf]; omega⟩
    · have hfin : Hid (l.all okM = true) := by have := hall.out; rwa [List.take_of_length_le (by rw [hlen.out]; omega)] at this
      go_wp2
      go_ret
      exact ⟨-1, rfl, by simp [hfin.out], hbel⟩
set_option maxHeartbeats 400000 in
theorem idxR_any (A : Option Addr) (n c : Nat) (l : List Rg) (w : World) (hl : RgS w w.heap.size A n l) (hn : n ≤ 100) :
    Calls Try.prog 109 #[.slice A n c, .func (.func 85) #[] #[]] w (IdxPost (l.all okW) w.heap.size w) := by
  have hlen := hid hl.len
  go_enter Try.func109, Try.ntmps109
  go_wp2
  go_loopw [8] (fun i wr => ∃ k : Nat, k ≤ n ∧ i = .int .i64 k ∧ Hid ((l.take k).all okW = true) ∧ Below w.heap.size w wr) (fun i _ => n - (intOf i).toNat)
  case atStart => exact ⟨0, by omega, rfl, rfl, Below.refl _ _⟩
  case round =>
    obtain ⟨k, hk, rfl, hall, hbel⟩ := hrel
    have hsz := hbel.size
    by_cases hlt : k < n
    · obtain ⟨b, off, x, rfl, hb, hm, c0, c1⟩ := (hl.below hbel (Nat.le_refl _)).at_ hlt
      have Hm := hid hm
      clear hm
      cases hx : okW x
      · go_wp2_with (first | (go_at_call 85; refine (rclo_any x _).mono ?_; rw [hx]; rintro e w1 ⟨rfl, hb1⟩))
        go_ret
        exact ⟨k, rfl, by simp [all_false Hm.out hx], hbel.trans (hb1.mono hsz)⟩
      · go_wp2_with (first | (go_at_call 85; refine (rclo_any x _).mono ?_; rw [hx]; rintro e w1 ⟨rfl, hb1⟩))
        exact ⟨⟨k + 1, by omega, by go_num, all_take_succ hall.out Hm.out hx, hbel.trans (hb1.mono hsz)⟩, by simp [intOf]; omega⟩
    · have hfin : Hid (l.all okW = true) := by have := hall.out; rwa [List.take_of_length_le (by rw [hlen.out]; omega)] at this
      go_wp2
      go_ret
      exact ⟨-1, rfl, by simp [hfin.out], hbel⟩
set_option maxHeartbeats 400000 in
theorem containsM_any (A : Option Addr) (n c : Nat) (l : List Mt) (w : World) (hl : MtS w w.heap.size A n l) (hn : n ≤ 100) :
    Calls Try.prog 79 #[.slice A n c, .func (.func 78) #[] #[]] w fun e w' => e = .returned (.bool (!(l.all okM))) ∧ Below w.heap.size w w' := by
  cases hg : (l.all okM)
  · have Hg := hid hg
    clear hg
    go_enter Try.func79, Try.ntmps79
    go_wp2_with (first | (go_at_call 107; refine (idxM_any A n c l _ hl hn).mono ?_; rintro e w1 ⟨z, rfl, hz, hb1⟩; have hz2 := idx_f hz Hg.out; clear hz))
    go_ret
    exact ⟨by first | rfl | (simp; done) | simp [hz2], hb1⟩
  · have Hg := hid hg
    clear hg
    go_enter Try.func79, Try.ntmps79
    go_wp2_with (first | (go_at_call 107; refine (idxM_any A n c l _ hl hn).mono ?_; rintro e w1 ⟨z, rfl, hz, hb1⟩; have hz2 := idx_t hz Hg.out; clear hz))
    go_ret
    exact ⟨by first | rfl | (simp; done) | simp [hz2], hb1⟩
set_option maxHeartbeats 400000 in
theorem containsR_any (A : Option Addr) (n c : Nat) (l : List Rg) (w : World) (hl : RgS w w.heap.size A n l) (hn : n ≤ 100) :
    Calls Try.prog 86 #[.slice A n c, .func (.func 85) #[] #[]] w fun e w' => e = .returned (.bool (!(l.all okW))) ∧ Below w.heap.size w w' := by
  cases hg : (l.all okW)
  · have Hg := hid hg
    clear hg
    go_enter Try.func86, Try.ntmps86
    go_wp2_with (first | (go_at_call 109; refine (idxR_any A n c l _ hl hn).mono ?_; rintro e w1 ⟨z, rfl, hz, hb1⟩; have hz2 := idx_f hz Hg.out; clear hz))
    go_ret
    exact ⟨by first | rfl | (simp; done) | simp [hz2], hb1⟩
  · have Hg := hid hg
    clear hg
    go_enter Try.func86, Try.ntmps86
    go_wp2_with (first | (go_at_call 109; refine (idxR_any A n c l _ hl hn).mono ?_; rintro e w1 ⟨z, rfl, hz, hb1⟩; have hz2 := idx_t hz Hg.out; clear hz))
    go_ret
    exact ⟨by first | rfl | (simp; done) | simp [hz2], hb1⟩

set_option maxHeartbeats 400000 in
theorem dCheckRow_any (w : World) (A : Option Addr) (n c : Nat) (row : List Mt) (hr : MtS w w.heap.size A n row) (hn : n ≤ 12) :
    Calls Try.prog 24 #[.slice A n c] w fun e w' => e = .returned (.int .i64 (checkRow row)) ∧ Below w.heap.size w w' := by
  have hlen := hr.len
  have Hlen := hid hlen
  cases hw : [(n : Int)].all (inR ⟨1, 7⟩)
  · have Hw := hid hw
    have h1 : Hid (checkRow row = 6) := checkRow_six (by simp [inR] at hw; omega)
    clear hw hlen
    go_enter Try.func24, Try.ntmps24
    go_wp2_with (first | (go_at_call 74; refine (within_any _ _ _ [(n : Int)] 1 7 _ (inS_lit1 _ (by first | (simp; done) | (simp; omega) | omega) (by first | (simp; done) | (simp; omega) | omega)) (by omega)).mono ?_; rw [Hw.out]; rintro e w1 ⟨rfl, hb1⟩; have hbel : Below w.heap.size w w1 := Below.trans (by repeat' (first | with_reducible assumption | with_reducible exact Below.refl _ _ | refine Below.alloc ?_ ?_ _ | refine Below.setCell ?_ ?_ _ | refine Below.drew ?_ | refine below_drewN ?_ _ | (simp; done) | (simp; omega) | omega)) (hb1.mono (by first | (simp; done) | (simp; omega) | omega)); have hsz := hbel.size))
    go_ret
    exact ⟨by rw [h1.out]; rfl, (by repeat' (first | with_reducible assumption | with_reducible exact Below.refl _ _ | refine Below.alloc ?_ ?_ _ | refine Below.setCell ?_ ?_ _ | refine Below.drew ?_ | refine below_drewN ?_ _ | (simp; done) | (simp; omega) | omega))⟩
  · have Hw := hid hw
    have h1 : 1 ≤ row.length ∧ row.length ≤ 7 := by simp [inR] at hw; omega
    cases ho : row.all okM
    · have Ho := hid ho
      have h2 : Hid (checkRow row = 3) := by unfold checkRow; rw [if_neg (by omega), ho]; simp; trivial
      clear hw hlen h1 ho
      go_enter Try.func24, Try.ntmps24
      go_wp2_with (first | (go_at_call 74; refine (within_any _ _ _ [(n : Int)] 1 7 _ (inS_lit1 _ (by first | (simp; done) | (simp; omega) | omega) (by first | (simp; done) | (simp; omega) | omega)) (by omega)).mono ?_; rw [Hw.out]; rintro e w1 ⟨rfl, hb1⟩; have hbel : Below w.heap.size w w1 := Below.trans (by repeat' (first | with_reducible assumption | with_reducible exact Below.refl _ _ | refine Below.alloc ?_ ?_ _ | refine Below.setCell ?_ ?_ _ | refine Below.drew ?_ | refine below_drewN ?_ _ | (simp; done) | (simp; omega) | omega)) (hb1.mono (by first | (simp; done) | (simp; omega) | omega)); have hsz := hbel.size) | (go_at_call 79; refine (containsM_any A n c row _ (hr.below (by repeat' (first | with_reducible assumption | with_reducible exact Below.refl _ _ | refine Below.alloc ?_ ?_ _ | refine Below.setCell ?_ ?_ _ | refine Below.drew ?_ | refine below_drewN ?_ _ | (simp; done) | (simp; omega) | omega)) (by first | (simp; done) | (simp; omega) | omega)) (by omega)).mono ?_; rw [Ho.out]; rintro e w1 ⟨rfl, hb1⟩; have hbel : Below w.heap.size w w1 := Below.trans (by repeat' (first | with_reducible assumption | with_reducible exact Below.refl _ _ | refine Below.alloc ?_ ?_ _ | refine Below.setCell ?_ ?_ _ | refine Below.drew ?_ | refine below_drewN ?_ _ | (simp; done) | (simp; omega) | omega)) (hb1.mono (by first | (simp; done) | (simp; omega) | omega))))
      go_ret
      exact ⟨by rw [h2.out]; rfl, (by repeat' (first | with_reducible assumption | with_reducible exact Below.refl _ _ | refine Below.alloc ?_ ?_ _ | refine Below.setCell ?_ ?_ _ | refine Below.drew ?_ | refine below_drewN ?_ _ | (simp; done) | (simp; omega) | omega))⟩
    · have Ho := hid ho
      have h2 : Hid (checkRow row = 0) := checkRow_zero h1.1 h1.2 ho
      clear hw hlen h1 ho
      go_enter Try.func24, Try.ntmps24
      go_wp2_with (first | (go_at_call 74; refine (within_any _ _ _ [(n : Int)] 1 7 _ (inS_lit1 _ (by first | (simp; done) | (simp; omega) | omega) (by first | (simp; done) | (simp; omega) | omega)) (by omega)).mono ?_; rw [Hw.out]; rintro e w1 ⟨rfl, hb1⟩; have hbel : Below w.heap.size w w1 := Below.trans (by repeat' (first | with_reducible assumption | with_reducible exact Below.refl _ _ | refine Below.alloc ?_ ?_ _ | refine Below.setCell ?_ ?_ _ | refine Below.drew ?_ | refine below_drewN ?_ _ | (simp; done) | (simp; omega) | omega)) (hb1.mono (by first | (simp; done) | (simp; omega) | omega)); have hsz := hbel.size) | (go_at_call 79; refine (containsM_any A n c row _ (hr.below (by repeat' (first | with_reducible assumption | with_reducible exact Below.refl _ _ | refine Below.alloc ?_ ?_ _ | refine Below.setCell ?_ ?_ _ | refine Below.drew ?_ | refine below_drewN ?_ _ | (simp; done) | (simp; omega) | omega)) (by first | (simp; done) | (simp; omega) | omega)) (by omega)).mono ?_; rw [Ho.out]; rintro e w1 ⟨rfl, hb1⟩; have hbel : Below w.heap.size w w1 := Below.trans (by repeat' (first | with_reducible assumption | with_reducible exact Below.refl _ _ | refine Below.alloc ?_ ?_ _ | refine Below.setCell ?_ ?_ _ | refine Below.drew ?_ | refine below_drewN ?_ _ | (simp; done) | (simp; omega) | omega)) (hb1.mono (by first | (simp; done) | (simp; omega) | omega))))
      go_ret
      exact ⟨by rw [h2.out]; rfl, (by repeat' (first | with_reducible assumption | with_reducible exact Below.refl _ _ | refine Below.alloc ?_ ?_ _ | refine Below.setCell ?_ ?_ _ | refine Below.drew ?_ | refine below_drewN ?_ _ | (simp; done) | (simp; omega) | omega))⟩
end Go.Proofs.Ytdcglphekafpdaa
namespace Go.Proofs.Ytdcglphekafpdaa
open Go.RowKit

set_option maxHeartbeats 400000 in
theorem dCheckScales_any (w : World) (A A' : Option Addr) (n c n' c' : Nat) (row : List Mt) (sc : List Rg) (hr : MtS w w.heap.size A n row) (hn : n ≤ 12) (hr' : RgS w w.heap.size A' n' sc) (hn' : n' ≤ 12) :
    Calls Try.prog 30 #[.slice A n c, .slice A' n' c'] w fun e w' => e = .returned (.int .i64 (checkScales row sc)) ∧ Below w.heap.size w w' := by
  have hlen := hid hr.len
  have hlen' := hid hr'.len
  by_cases h0 : checkRow row = 0
  · have hc : (checkRow row != 0) = false := by simp [h0]
    by_cases h1 : n' = n + 1
    · have h1' : ((n' : Int) != (n : Int) + 1) = false := by rw [h1]; simp
      cases ho : sc.all okW
      · have Ho := hid ho
        have he : Hid (checkScales row sc = 3) := by unfold checkScales; rw [if_neg (by simp [h0]), if_neg (by rw [hlen.out, hlen'.out]; omega), if_neg (by simp [ho])]; trivial
        clear h0 h1 ho
        go_enter Try.func30, Try.ntmps30
        go_wp2_with (first | (go_at_call 24; refine (dCheckRow_any _ _ _ _ row (hr.below (by repeat' (first | with_reducible assumption | with_reducible exact Below.refl _ _ | refine Below.alloc ?_ ?_ _ | refine Below.setCell ?_ ?_ _ | refine Below.drew ?_ | refine below_drewN ?_ _ | (simp; done) | (simp; omega) | omega)) (by first | (simp; done) | (simp; omega) | omega)) hn).mono ?_; rintro e w1 ⟨rfl, hb1⟩; have hbel : Below w.heap.size w w1 := Below.trans (by repeat' (first | with_reducible assumption | with_reducible exact Below.refl _ _ | refine Below.alloc ?_ ?_ _ | refine Below.setCell ?_ ?_ _ | refine Below.drew ?_ | refine below_drewN ?_ _ | (simp; done) | (simp; omega) | omega)) (hb1.mono (by first | (simp; done) | (simp; omega) | omega)); have hsz := hbel.size) | (go_at_call 86; refine (containsR_any _ _ _ sc _ (hr'.below (by repeat' (first | with_reducible assumption | with_reducible exact Below.refl _ _ | refine Below.alloc ?_ ?_ _ | refine Below.setCell ?_ ?_ _ | refine Below.drew ?_ | refine below_drewN ?_ _ | (simp; done) | (simp; omega) | omega)) (by first | (simp; done) | (simp; omega) | omega)) (by omega)).mono ?_; rw [Ho.out]; rintro e w1 ⟨rfl, hb1⟩; have hbel : Below w.heap.size w w1 := Below.trans (by repeat' (first | with_reducible assumption | with_reducible exact Below.refl _ _ | refine Below.alloc ?_ ?_ _ | refine Below.setCell ?_ ?_ _ | refine Below.drew ?_ | refine below_drewN ?_ _ | (simp; done) | (simp; omega) | omega)) (hb1.mono (by first | (simp; done) | (simp; omega) | omega)); have hsz := hbel.size))
        go_ret
        exact ⟨by rw [he.out]; rfl, (by repeat' (first | with_reducible assumption | with_reducible exact Below.refl _ _ | refine Below.alloc ?_ ?_ _ | refine Below.setCell ?_ ?_ _ | refine Below.drew ?_ | refine below_drewN ?_ _ | (simp; done) | (simp; omega) | omega))⟩
      · have Ho := hid ho
        have he : Hid (checkScales row sc = 0) := by unfold checkScales; rw [if_neg (by simp [h0]), if_neg (by rw [hlen.out, hlen'.out]; omega), if_pos ho]; trivial
        clear h0 h1 ho
        go_enter Try.func30, Try.ntmps30
        go_wp2_with (first | (go_at_call 24; refine (dCheckRow_any _ _ _ _ row (hr.below (by repeat' (first | with_reducible assumption | with_reducible exact Below.refl _ _ | refine Below.alloc ?_ ?_ _ | refine Below.setCell ?_ ?_ _ | refine Below.drew ?_ | refine below_drewN ?_ _ | (simp; done) | (simp; omega) | omega)) (by first | (simp; done) | (simp; omega) | omega)) hn).mono ?_; rintro e w1 ⟨rfl, hb1⟩; have hbel : Below w.heap.size w w1 := Below.trans (by repeat' (first | with_reducible assumption | with_reducible exact Below.refl _ _ | refine Below.alloc ?_ ?_ _ | refine Below.setCell ?_ ?_ _ | refine Below.drew ?_ | refine below_drewN ?_ _ | (simp; done) | (simp; omega) | omega)) (hb1.mono (by first | (simp; done) | (simp; omega) | omega)); have hsz := hbel.size) | (go_at_call 86; refine (containsR_any _ _ _ sc _ (hr'.below (by repeat' (first | with_reducible assumption | with_reducible exact Below.refl _ _ | refine Below.alloc ?_ ?_ _ | refine Below.setCell ?_ ?_ _ | refine Below.drew ?_ | refine below_drewN ?_ _ | (simp; done) | (simp; omega) | omega)) (by first | (simp; done) | (simp; omega) | omega)) (by omega)).mono ?_; rw [Ho.out]; rintro e w1 ⟨rfl, hb1⟩; have hbel : Below w.heap.size w w1 := Below.trans (by repeat' (first | with_reducible assumption | with_reducible exact Below.refl _ _ | refine Below.alloc ?_ ?_ _ | refine Below.setCell ?_ ?_ _ | refine Below.drew ?_ | refine below_drewN ?_ _ | (simp; done) | (simp; omega) | omega)) (hb1.mono (by first | (simp; done) | (simp; omega) | omega)); have hsz := hbel.size))
        go_ret
        exact ⟨by rw [he.out]; rfl, (by repeat' (first | with_reducible assumption | with_reducible exact Below.refl _ _ | refine Below.alloc ?_ ?_ _ | refine Below.setCell ?_ ?_ _ | refine Below.drew ?_ | refine below_drewN ?_ _ | (simp; done) | (simp; omega) | omega))⟩
    · have h1' : ((n' : Int) != (n : Int) + 1) = true := by rw [bne_iff_ne]; omega
      have he : Hid (checkScales row sc = 15) := by unfold checkScales; rw [if_neg (by simp [h0]), if_pos (by rw [hlen.out, hlen'.out]; omega)]; trivial
      clear h0 h1
      go_enter Try.func30, Try.ntmps30
      go_wp2_with (first | (go_at_call 24; refine (dCheckRow_any _ _ _ _ row (hr.below (by repeat' (first | with_reducible assumption | with_reducible exact Below.refl _ _ | refine Below.alloc ?_ ?_ _ | refine Below.setCell ?_ ?_ _ | refine Below.drew ?_ | refine below_drewN ?_ _ | (simp; done) | (simp; omega) | omega)) (by first | (simp; done) | (simp; omega) | omega)) hn).mono ?_; rintro e w1 ⟨rfl, hb1⟩; have hbel : Below w.heap.size w w1 := Below.trans (by repeat' (first | with_reducible assumption | with_reducible exact Below.refl _ _ | refine Below.alloc ?_ ?_ _ | refine Below.setCell ?_ ?_ _ | refine Below.drew ?_ | refine below_drewN ?_ _ | (simp; done) | (simp; omega) | omega)) (hb1.mono (by first | (simp; done) | (simp; omega) | omega)); have hsz := hbel.size))
      go_ret
      exact ⟨by rw [he.out]; rfl, (by repeat' (first | with_reducible assumption | with_reducible exact Below.refl _ _ | refine Below.alloc ?_ ?_ _ | refine Below.setCell ?_ ?_ _ | refine Below.drew ?_ | refine below_drewN ?_ _ | (simp; done) | (simp; omega) | omega))⟩
  · have hc : (checkRow row != 0) = true := by simp [h0]
    have he : Hid (checkScales row sc = checkRow row) := by unfold checkScales; rw [if_pos h0]; trivial
    clear h0
    go_enter Try.func30, Try.ntmps30
    go_wp2_with (first | (go_at_call 24; refine (dCheckRow_any _ _ _ _ row (hr.below (by repeat' (first | with_reducible assumption | with_reducible exact Below.refl _ _ | refine Below.alloc ?_ ?_ _ | refine Below.setCell ?_ ?_ _ | refine Below.drew ?_ | refine below_drewN ?_ _ | (simp; done) | (simp; omega) | omega)) (by first | (simp; done) | (simp; omega) | omega)) hn).mono ?_; rintro e w1 ⟨rfl, hb1⟩; have hbel : Below w.heap.size w w1 := Below.trans (by repeat' (first | with_reducible assumption | with_reducible exact Below.refl _ _ | refine Below.alloc ?_ ?_ _ | refine Below.setCell ?_ ?_ _ | refine Below.drew ?_ | refine below_drewN ?_ _ | (simp; done) | (simp; omega) | omega)) (hb1.mono (by first | (simp; done) | (simp; omega) | omega)); have hsz := hbel.size))
    go_ret
    exact ⟨by rw [he.out]; rfl, (by repeat' (first | with_reducible assumption | with_reducible exact Below.refl _ _ | refine Below.alloc ?_ ?_ _ | refine Below.setCell ?_ ?_ _ | refine Below.drew ?_ | refine below_drewN ?_ _ | (simp; done) | (simp; omega) | omega))⟩

set_option maxHeartbeats 400000 in
theorem left_any (w : World) (A : Option Addr) (n c : Nat) (row : List Mt) (r : Rg) (hr : MtS w w.heap.size A n row) (hn : n ≤ 12) (hok : row.all okM = true)
    (h9 : 0 ≤ r.lo) (h10 : r.lo ≤ r.hi) (h11 : r.hi ≤ 1000000) :
    Calls Try.prog 71 #[.agg #[.slice A n c], .agg #[.int .i64 r.lo, .int .i64 r.hi]] w fun e w' =>
      e = .returned (.agg #[.int .i64 (leftOf row r).lo, .int .i64 (leftOf row r).hi]) ∧ Below w.heap.size w w' := by
  have hlen := hid hr.len
  have hok' := hid hok
  clear hok
  go_enter Try.func71, Try.ntmps71
  go_wp2
  go_loopw [10] (fun i wr => ∃ k : Nat, k ≤ n ∧ i = .int .i64 k ∧ ∃ r1 : Rg, Hid (r1 = leftOf (row.take k) r) ∧ 0 ≤ r1.lo ∧ r1.lo ≤ r1.hi ∧ r1.hi ≤ 1000000 ∧ Blk wr (w.heap.size + 1) 24 #[.int .i64 r1.lo, .int .i64 r1.hi] ∧ Blk wr (w.heap.size + 1 + 1) 24 #[.int .i64 0, .int .i64 0] ∧ Below w.heap.size w wr) (fun i _ => n - (intOf i).toNat)
  case atStart => exact ⟨0, by omega, rfl, r, rfl, h9, h10, h11, (Blk.new' (by first | (simp; done) | (simp; omega) | omega)).alloc _, Blk.new' (by first | (simp; done) | (simp; omega) | omega), (by repeat' (first | with_reducible assumption | with_reducible exact Below.refl _ _ | refine Below.alloc ?_ ?_ _ | refine Below.setCell ?_ ?_ _ | refine Below.drew ?_ | refine below_drewN ?_ _ | (simp; done) | (simp; omega) | omega))⟩
  case round =>
    obtain ⟨k, hk, rfl, r1, hr1, g1, g2, g3, b1, b2, hbel⟩ := hrel
    have hsz := b2.lt
    by_cases hlt : k < n
    · obtain ⟨b, off, m, rfl, hb, hm, c0, c1, c2, c3⟩ := (hr.below hbel (Nat.le_refl _)).at_ hlt
      have Hm := hid hm
      have hokm : Hid (okM m = true) := List.all_eq_true.1 hok'.out m (List.mem_of_getElem? hm)
      clear hm
      have d0 := b1.cell 0
      have d1 := b1.cell 1
      have hs0 : w.heap.size + 1 < wr.heap.size := by omega
      go_wp2_with (first | (go_at_call 102; refine (melted_any m r1 _ hokm.out g1 (by omega) (by omega) (by omega)).mono ?_; rintro e W2 ⟨rfl, hW2⟩; have e1 := (b1.alloc _).below hW2 (by first | (simp; done) | (simp; omega) | omega); have f0 := e1.cell 0; have f1 := e1.cell 1; have f2 := e1.frozen 0; have f3 := e1.frozen 1))
      obtain ⟨p1, p2, p3⟩ := melted_ok hokm.out g1 g2 g3
      have hbel2 : Below w.heap.size w W2 := Below.trans (by repeat' (first | with_reducible assumption | with_reducible exact Below.refl _ _ | refine Below.alloc ?_ ?_ _ | refine Below.setCell ?_ ?_ _ | refine Below.drew ?_ | refine below_drewN ?_ _ | (simp; done) | (simp; omega) | omega)) (hW2.mono (by first | (simp; done) | (simp; omega) | omega))
      refine ⟨⟨k + 1, by omega, by go_num, melted m r1, ?_, p1, p2, by omega, e1.set2, (((b2.alloc _).below hW2 (by first | (simp; done) | (simp; omega) | omega)).far (by simp) _).far (by simp) _, (hbel2.setCell (by simp) _).setCell (by simp) _⟩, by simp [intOf]; omega⟩
      show melted m r1 = leftOf (row.take (k + 1)) r
      rw [List.take_add_one, Hm.out, hr1.out, leftOf, leftOf, List.foldl_append]
      rfl
    · have e1 := b1.cell 0
      have e2 := b1.cell 1
      have e3 := b2.cell 0
      have e4 := b2.cell 1
      have e5 := b2.frozen 0
      have e6 := b2.frozen 1
      have hfin : Hid (r1 = leftOf row r) := by
        have := hr1.out
        rwa [List.take_of_length_le (by rw [hlen.out]; omega)] at this
      go_wp2
      have hB := b2.set2 (a := .int .i64 r1.lo) (b := .int .i64 r1.hi)
      have k0 := hB.cell 0
      have k1 := hB.cell 1
      refine bodyPost_ret (v := .agg #[.int .i64 r1.lo, .int .i64 r1.hi]) (by simp [results, Try.results71, go_sem, k0, k1]) rfl ⟨by rw [hfin.out], (hbel.setCell (by simp; omega) _).setCell (by simp; omega) _⟩

set_option maxHeartbeats 400000 in
theorem dLeft_any (w : World) (A : Option Addr) (n c : Nat) (row : List Mt) (r : Rg) (hr : MtS w w.heap.size A n row) (hn : n ≤ 12) :
    Calls Try.prog 20 #[.slice A n c, .agg #[.int .i64 r.lo, .int .i64 r.hi]] w fun e w' =>
      e = .returned (.tuple #[.agg #[.int .i64 (leftS row r).lo, .int .i64 (leftS row r).hi], .int .i64 (leftE row r)]) ∧ Below w.heap.size w w' := by
  by_cases h0 : checkRow row = 0
  · have hc : (checkRow row != 0) = false := by simp [h0]
    obtain ⟨_, _, hok⟩ := checkRow_ok h0
    have hok' := hid hok
    clear hok
    by_cases h1 : okR r 1000000 = true
    · obtain ⟨g1, g2, g3⟩ := okR_t.1 h1
      have hs : Hid (leftS row r = leftOf row r) := by unfold leftS; rw [if_pos ⟨h0, h1⟩]; trivial
      have he : Hid (leftE row r = 0) := by unfold leftE; rw [if_neg (by simp [h0]), if_pos h1]; trivial
      clear h0
      go_enter Try.func20, Try.ntmps20
      go_wp2_with (first | (go_at_call 24; refine (dCheckRow_any _ _ _ _ row (hr.below (by repeat' (first | with_reducible assumption | with_reducible exact Below.refl _ _ | refine Below.alloc ?_ ?_ _ | refine Below.setCell ?_ ?_ _ | refine Below.drew ?_ | refine below_drewN ?_ _ | (simp; done) | (simp; omega) | omega)) (by first | (simp; done) | (simp; omega) | omega)) hn).mono ?_; rintro e w1 ⟨rfl, hb1⟩; obtain ⟨hc1, hf1⟩ := bcell hb1; have hbel : Below w.heap.size w w1 := Below.trans (by repeat' (first | with_reducible assumption | with_reducible exact Below.refl _ _ | refine Below.alloc ?_ ?_ _ | refine Below.setCell ?_ ?_ _ | refine Below.drew ?_ | refine below_drewN ?_ _ | (simp; done) | (simp; omega) | omega)) (hb1.mono (by first | (simp; done) | (simp; omega) | omega)); have hsz := hbel.size; have hz1 := hb1.size; (try simp only [World.size_alloc] at hz1); (try have hq0 : w.heap.size < w1.heap.size := by omega); (try have hq1 : w.heap.size + 1 < w1.heap.size := by omega); (try have hq2 : w.heap.size + 1 + 1 < w1.heap.size := by omega); (try have hq3 : w.heap.size + 1 + 1 + 1 < w1.heap.size := by omega)) | (go_at_call 70; refine (isRange_any r 1000000 _).mono ?_; rintro e w1 ⟨rfl, hb1⟩; obtain ⟨hc1, hf1⟩ := bcell hb1; have hbel : Below w.heap.size w w1 := Below.trans (by repeat' (first | with_reducible assumption | with_reducible exact Below.refl _ _ | refine Below.alloc ?_ ?_ _ | refine Below.setCell ?_ ?_ _ | refine Below.drew ?_ | refine below_drewN ?_ _ | (simp; done) | (simp; omega) | omega)) (hb1.mono (by first | (simp; done) | (simp; omega) | omega)); have hsz := hbel.size; have hz1 := hb1.size; (try simp only [World.size_alloc] at hz1); (try have hq0 : w.heap.size < w1.heap.size := by omega); (try have hq1 : w.heap.size + 1 < w1.heap.size := by omega); (try have hq2 : w.heap.size + 1 + 1 < w1.heap.size := by omega); (try have hq3 : w.heap.size + 1 + 1 + 1 < w1.heap.size := by omega)) | (go_at_call 71; refine (left_any _ _ _ _ row r (hr.below (by repeat' (first | with_reducible assumption | with_reducible exact Below.refl _ _ | refine Below.alloc ?_ ?_ _ | refine Below.setCell ?_ ?_ _ | refine Below.drew ?_ | refine below_drewN ?_ _ | (simp; done) | (simp; omega) | omega)) (by first | (simp; done) | (simp; omega) | omega)) hn hok'.out g1 g2 g3).mono ?_; rintro e w1 ⟨rfl, hb1⟩; obtain ⟨hc1, hf1⟩ := bcell hb1; have hbel : Below w.heap.size w w1 := Below.trans (by repeat' (first | with_reducible assumption | with_reducible exact Below.refl _ _ | refine Below.alloc ?_ ?_ _ | refine Below.setCell ?_ ?_ _ | refine Below.drew ?_ | refine below_drewN ?_ _ | (simp; done) | (simp; omega) | omega)) (hb1.mono (by first | (simp; done) | (simp; omega) | omega)); have hsz := hbel.size; have hz1 := hb1.size; (try simp only [World.size_alloc] at hz1); (try have hq0 : w.heap.size < w1.heap.size := by omega); (try have hq1 : w.heap.size + 1 < w1.heap.size := by omega); (try have hq2 : w.heap.size + 1 + 1 < w1.heap.size := by omega); (try have hq3 : w.heap.size + 1 + 1 + 1 < w1.heap.size := by omega)))
      refine bodyPost_ret (v := .tuple #[.agg #[.int .i64 (leftOf row r).lo, .int .i64 (leftOf row r).hi], .int .i64 0]) (by first | (simp [results, Try.results20, go_sem]; done) | (simp [results, Try.results20, go_sem, World.cell?_setCell_same', *]; done) | (simp [results, Try.results20, go_sem]; first | exact ⟨rfl, rfl⟩ | rfl)) rfl ⟨by rw [hs.out, he.out], (by repeat' (first | with_reducible assumption | with_reducible exact Below.refl _ _ | refine Below.alloc ?_ ?_ _ | refine Below.setCell ?_ ?_ _ | refine Below.drew ?_ | refine below_drewN ?_ _ | (simp; done) | (simp; omega) | omega))⟩
    · have hs : Hid (leftS row r = ⟨0, 0⟩) := by unfold leftS; rw [if_neg (by simp [h1])]; trivial
      have he : Hid (leftE row r = 3) := by unfold leftE; rw [if_neg (by simp [h0]), if_neg h1]; trivial
      clear h0
      go_enter Try.func20, Try.ntmps20
      go_wp2_with (first | (go_at_call 24; refine (dCheckRow_any _ _ _ _ row (hr.below (by repeat' (first | with_reducible assumption | with_reducible exact Below.refl _ _ | refine Below.alloc ?_ ?_ _ | refine Below.setCell ?_ ?_ _ | refine Below.drew ?_ | refine below_drewN ?_ _ | (simp; done) | (simp; omega) | omega)) (by first | (simp; done) | (simp; omega) | omega)) hn).mono ?_; rintro e w1 ⟨rfl, hb1⟩; obtain ⟨hc1, hf1⟩ := bcell hb1; have hbel : Below w.heap.size w w1 := Below.trans (by repeat' (first | with_reducible assumption | with_reducible exact Below.refl _ _ | refine Below.alloc ?_ ?_ _ | refine Below.setCell ?_ ?_ _ | refine Below.drew ?_ | refine below_drewN ?_ _ | (simp; done) | (simp; omega) | omega)) (hb1.mono (by first | (simp; done) | (simp; omega) | omega)); have hsz := hbel.size; have hz1 := hb1.size; (try simp only [World.size_alloc] at hz1); (try have hq0 : w.heap.size < w1.heap.size := by omega); (try have hq1 : w.heap.size + 1 < w1.heap.size := by omega); (try have hq2 : w.heap.size + 1 + 1 < w1.heap.size := by omega); (try have hq3 : w.heap.size + 1 + 1 + 1 < w1.heap.size := by omega)) | (go_at_call 70; refine (isRange_any r 1000000 _).mono ?_; rintro e w1 ⟨rfl, hb1⟩; obtain ⟨hc1, hf1⟩ := bcell hb1; have hbel : Below w.heap.size w w1 := Below.trans (by repeat' (first | with_reducible assumption | with_reducible exact Below.refl _ _ | refine Below.alloc ?_ ?_ _ | refine Below.setCell ?_ ?_ _ | refine Below.drew ?_ | refine below_drewN ?_ _ | (simp; done) | (simp; omega) | omega)) (hb1.mono (by first | (simp; done) | (simp; omega) | omega)); have hsz := hbel.size; have hz1 := hb1.size; (try simp only [World.size_alloc] at hz1); (try have hq0 : w.heap.size < w1.heap.size := by omega); (try have hq1 : w.heap.size + 1 < w1.heap.size := by omega); (try have hq2 : w.heap.size + 1 + 1 < w1.heap.size := by omega); (try have hq3 : w.heap.size + 1 + 1 + 1 < w1.heap.size := by omega)))
      refine bodyPost_ret (v := .tuple #[.agg #[.int .i64 0, .int .i64 0], .int .i64 3]) (by first | (simp [results, Try.results20, go_sem]; done) | (simp [results, Try.results20, go_sem, World.cell?_setCell_same', *]; done) | (simp [results, Try.results20, go_sem]; first | exact ⟨rfl, rfl⟩ | rfl)) rfl ⟨by rw [hs.out, he.out], (by repeat' (first | with_reducible assumption | with_reducible exact Below.refl _ _ | refine Below.alloc ?_ ?_ _ | refine Below.setCell ?_ ?_ _ | refine Below.drew ?_ | refine below_drewN ?_ _ | (simp; done) | (simp; omega) | omega))⟩
  · have hc : (checkRow row != 0) = true := by simp [h0]
    have hs : Hid (leftS row r = ⟨0, 0⟩) := by unfold leftS; rw [if_neg (by simp [h0])]; trivial
    have he : Hid (leftE row r = checkRow row) := by unfold leftE; rw [if_pos h0]; trivial
    clear h0
    go_enter Try.func20, Try.ntmps20
    go_wp2_with (first | (go_at_call 24; refine (dCheckRow_any _ _ _ _ row (hr.below (by repeat' (first | with_reducible assumption | with_reducible exact Below.refl _ _ | refine Below.alloc ?_ ?_ _ | refine Below.setCell ?_ ?_ _ | refine Below.drew ?_ | refine below_drewN ?_ _ | (simp; done) | (simp; omega) | omega)) (by first | (simp; done) | (simp; omega) | omega)) hn).mono ?_; rintro e w1 ⟨rfl, hb1⟩; obtain ⟨hc1, hf1⟩ := bcell hb1; have hbel : Below w.heap.size w w1 := Below.trans (by repeat' (first | with_reducible assumption | with_reducible exact Below.refl _ _ | refine Below.alloc ?_ ?_ _ | refine Below.setCell ?_ ?_ _ | refine Below.drew ?_ | refine below_drewN ?_ _ | (simp; done) | (simp; omega) | omega)) (hb1.mono (by first | (simp; done) | (simp; omega) | omega)); have hsz := hbel.size; have hz1 := hb1.size; (try simp only [World.size_alloc] at hz1); (try have hq0 : w.heap.size < w1.heap.size := by omega); (try have hq1 : w.heap.size + 1 < w1.heap.size := by omega); (try have hq2 : w.heap.size + 1 + 1 < w1.heap.size := by omega); (try have hq3 : w.heap.size + 1 + 1 + 1 < w1.heap.size := by omega)))
    refine bodyPost_ret (v := .tuple #[.agg #[.int .i64 0, .int .i64 0], .int .i64 (checkRow row)]) (by first | (simp [results, Try.results20, go_sem]; done) | (simp [results, Try.results20, go_sem, World.cell?_setCell_same', *]; done) | (simp [results, Try.results20, go_sem]; first | exact ⟨rfl, rfl⟩ | rfl)) rfl ⟨by rw [hs.out, he.out], (by repeat' (first | with_reducible assumption | with_reducible exact Below.refl _ _ | refine Below.alloc ?_ ?_ _ | refine Below.setCell ?_ ?_ _ | refine Below.drew ?_ | refine below_drewN ?_ _ | (simp; done) | (simp; omega) | omega))⟩
end Go.Proofs.Ytdcglphekafpdaa
/- The law on a region that draws its order (YtdcglphekafpdaaH), in a round of a range over a function: at the fence that shuts nothing out. Over any program. -/
namespace Go.Proofs.Ytdcglphekafpdaa
open Go

/-- The fence that shuts nothing out, in a round or not. -/
def Wd (ro : Option Nat) : Fence := { Fence.wide with round := ro }
@[go_sem, simp] theorem Wd_round (ro : Option Nat) : (Wd ro).round = ro := rfl
@[go_sem, simp] theorem Wd_depth (ro : Option Nat) : (Wd ro).depth = none := rfl
@[go_sem, simp] theorem Wd_fn (ro : Option Nat) (f : FuncId) : (Wd ro).fn f = True := rfl
@[go_sem, simp] theorem Wd_in (ro : Option Nat) (l : Nat) : (Wd ro).inRound l = Wd (some l) := rfl
theorem calls_wd {ro : Option Nat} {n : Nat} {P : Program} {f : FuncId} {args : Array Value} {w : World} {R : Ending → World → Prop} (h : Calls P f args w R) : CallsIn (Wd ro) n P f args w R :=
  (callsIn_wide (n := n)).2 h

section
variable {P : Program} {ops : Array Oper} {md : Region.Mode} {S : World → Prop} {ro : Option Nat} {n : Nat}

def noDefer (ops : Array Oper) : Bool := ops.all fun o => match o.op with | .defer _ => false | _ => true
theorem noDefer_spec (h : noDefer ops = true) (j : Nat) (o : Oper) (ho : ops[j]? = some o) : ∀ c, o.op ≠ .defer c := by
  intro c hc
  have hm : o ∈ ops := Array.mem_of_getElem? ho
  have := Array.all_eq_true'.1 h o hm
  rw [hc] at this
  cases this

theorem wpOpIn_of_hOp {i : Nat} {a : Act} {w : World} {K : Act → Prop} {K' : Act → World → Prop} {Q' : Exit → Act → World → Prop} (hd : noDefer ops = true) (hS : S w) (h : ∀ a w, S w → K a → K' a w)
    (hh : hOp P ops S i K a) : wpOpIn (Wd ro) n P ops Q' i K' a w := by
  unfold hOp at hh
  unfold wpOpIn
  split
  · rename_i ho; simp only [ho] at hh; exact h _ _ hS hh
  · rename_i o ho
    simp only [ho] at hh
    obtain ⟨v, hy, hk⟩ := hh
    rcases hy with ⟨hw, hy⟩ | ⟨hw, rfl⟩
    · simp only [hw, if_true]
      have h1 := hy w hS
      unfold Oper.wpIn
      refine ⟨fun f _ => trivial, ?_⟩
      rw [Oper.semAt_eq _ _ _ (noDefer_spec hd i o ho)]
      generalize (execOp a.eval o).run P w = r at h1
      cases r with
      | ok n w' =>
        cases n <;> simp only [HUpon] at h1 <;> simp only [Oper.uponIn]
        case value u => obtain ⟨rfl, h2⟩ := h1; exact h _ _ h2 hk
        case skip => obtain ⟨rfl, h2⟩ := h1; exact h _ _ h2 hk
        case enter f args =>
          refine ⟨fun hx => (by cases hx), calls_wd (h1.mono ?_)⟩
          rintro e w'' ⟨rfl, hw'⟩
          exact h _ _ hw' hk
      | halt x w' => simp only [HUpon] at h1
    · simp only [hw, Bool.false_eq_true, if_false]; exact ⟨fun f _ => trivial, h _ _ hS hk⟩

theorem wpAnyIn_of_hd {m g : Nat} {L : Array Bool → Act → Prop} {Q' : Exit → Act → World → Prop} (hd : noDefer ops = true) (hL : ∀ listed a w, S w → L listed a → wpAnyIn (Wd ro) n P md ops Q' g listed a w) :
    ∀ (f : Nat) (listed : Array Bool) (a : Act) (w : World), S w → wpAnyD P md ops S m L f listed a → wpAnyIn (Wd ro) n P md ops Q' (f + g) listed a w
  | 0, listed, a, w, hS, h => by rw [Nat.zero_add]; exact hL _ _ _ hS h
  | f + 1, listed, a, w, hS, h => by
    rw [show f + 1 + g = (f + g) + 1 by omega]
    exact ⟨fun h0 => absurd h0 h.1, fun i hi => wpOpIn_of_hOp hd hS (fun a' w' hS' h' => wpAnyIn_of_hd hd hL f _ a' w' hS' h') (h.2 i hi).2⟩

theorem wpAnyIn_of_seq {Q' : Exit → Act → World → Prop} : ∀ (l : List Oper) (k : Nat) (listed : Array Bool) (a : Act) (w : World), (∀ j, l[j]? = ops[k + j]?) →
    Region.seqB md ops l.length k listed = true → wpListIn (Wd ro) n P ops Q' l a w → wpAnyIn (Wd ro) n P md ops Q' l.length listed a w
  | [], _, _, _, _, _, hB, h => ⟨by simpa [Region.seqB] using hB, h⟩
  | o :: l, k, listed, a, w, hl, hB, h => by
    have h0 : ops[k]? = some o := by simpa using (hl 0).symm
    simp only [List.length_cons, Region.seqB, Bool.and_eq_true, decide_eq_true_eq] at hB
    refine ⟨fun h1 => (by rw [hB.1] at h1; cases h1), fun i hi => ?_⟩
    rw [hB.1] at hi
    have hik : i = k := by simpa using hi
    subst hik
    have hw : wpOpIn (Wd ro) n P ops Q' i (wpListIn (Wd ro) n P ops Q' l) a w := by unfold wpOpIn; simp only [h0]; exact h
    exact wpOpIn_mono (fun a' w' h' => wpAnyIn_of_seq l (i + 1) _ a' w' (fun j => by have := hl (j + 1); simpa [Nat.add_assoc, Nat.add_comm 1 j] using this) hB.2 h') hw

/-- A region with a tail that is forced, in a round. -/
theorem wpIn_region_hd {id : Nat} {Q : Exit → Act → World → Prop} {a : Act} {w : World} {l : List Oper} (m : Nat) (S : World → Prop) (hm : P.follows .mixedOrders = true) (hB : (Region.lexTailB .any l.toArray m && noDefer l.toArray) = true)
    (hS : S w.drew) (h : wpHd P l.toArray S (fun a' => ∀ W, S W → wpListIn (Wd ro) n P l.toArray Q (l.drop m) a' W) (l.take m) a) : (Code.region id l.toArray true).wpIn (Wd ro) n P Q a w := by
  simp only [Region.lexTailB, Bool.and_eq_true, decide_eq_true_eq] at hB
  obtain ⟨⟨⟨⟨⟨hsel, hn⟩, hs⟩, hc⟩, hlex⟩, hd⟩ := hB
  have hn' : m < l.length := by simpa using hn
  have htl : (l.take m).length = m := by simp; omega
  have hdl : (l.drop m).length = l.toArray.size - m := by simp
  have inv0 : HeadInv .any l.toArray m (Array.replicate l.toArray.size false) :=
    ⟨by simp, fun j oj _ hl => (by rw [getD_replicate_false] at hl; cases hl), fun t _ ht => getD_in (by simpa using ht) (getD_replicate_false _ _)⟩
  have H := wpAnyD_lex (md := .any) (g := l.toArray.size - m) hsel (fun i hi listed inv hun => tail_waits hs hc hn inv _ i rfl hi hun) (l.take m) 0 _ a (fun j hj => by
    have hj' : j < m := by rw [htl] at hj; exact hj
    simp [hj']) (by simpa using htl) inv0 (by rw [htl]; exact hlex) h
  refine wpIn_region_any hm ?_
  have := wpAnyIn_of_hd (ro := ro) (n := n) (Q' := Q) (g := l.toArray.size - m) hd (fun listed a' w' hS' hL => by
    have := wpAnyIn_of_seq (ro := ro) (n := n) (md := .any) (Q' := Q) (l.drop m) m listed a' w' (fun j => by simp [List.getElem?_drop]) (by rw [hdl]; exact hL.1) (hL.2 w' hS')
    rwa [hdl] at this) _ _ _ _ hS H
  rw [htl, show m + (l.toArray.size - m) = l.toArray.size by omega] at this
  exact this

/-- A region without such a tail, in a round. -/
theorem wpIn_region_hd_all {id : Nat} {Q : Exit → Act → World → Prop} {a : Act} {w : World} {l : List Oper} (S : World → Prop) (hm : P.follows .mixedOrders = true) (hB : (Region.lexB .any l.toArray && noDefer l.toArray) = true)
    (hS : S w.drew) (h : wpHd P l.toArray S (fun a' => ∀ W, S W → wpListIn (Wd ro) n P l.toArray Q [] a' W) l a) : (Code.region id l.toArray true).wpIn (Wd ro) n P Q a w := by
  simp only [Region.lexB, Bool.and_eq_true] at hB
  obtain ⟨hB, hd⟩ := hB
  have hsz : l.toArray.size = l.length := by simp
  have inv0 : HeadInv .any l.toArray l.length (Array.replicate l.toArray.size false) :=
    ⟨by simp, fun j oj _ hl => (by rw [getD_replicate_false] at hl; cases hl), fun t h1 h2 => by rw [hsz] at h2; omega⟩
  have H := wpAnyD_lex (md := .any) (g := 0) hB.1 (fun i hi listed inv hun t ht hr => by
    have := (mem_ready.1 hr).2
    obtain ⟨ot, hot, _⟩ := this
    have := (Array.getElem?_eq_some_iff.1 hot).1
    rw [hsz] at this
    omega) l 0 _ a (fun j hj => by simp) (by simp) inv0 (by rw [← hsz]; exact lexHead_of_lexFrom _ _ _ hB.2) h
  refine wpIn_region_any hm ?_
  have := wpAnyIn_of_hd (ro := ro) (n := n) (Q' := Q) (g := 0) hd (fun listed a' w' hS' hL => ⟨by simpa [Region.seqB] using hL.1, hL.2 w' hS'⟩) _ _ _ _ hS H
  simpa using this
end

/-! Leaving a function that holds marks. -/
/-- The marks have been taken; all else is as it was. -/
structure Off (Ds : List Nat) (w w' : World) : Prop where
  os : w'.os = w.os
  tape : w'.tape = w.tape
  output : w'.output = w.output
  size : w'.heap.size = w.heap.size
  block : ∀ k, k ∉ Ds → w'.heap[k]? = w.heap[k]?
  was : ∀ D, D ∈ Ds → w.heap[D]? = some (.deferred (some []))
  now : ∀ D, D ∈ Ds → w'.heap[D]? = some (.deferred none)
theorem Off.cell {Ds : List Nat} {w w' : World} (h : Off Ds w w') (a : Addr) : w'.cell? a = w.cell? a := by
  by_cases hm : a.block ∈ Ds
  · simp [World.cell?, h.was _ hm, h.now _ hm]
  · exact World.cell?_of_block (h.block _ hm)
theorem Off.below {Ds : List Nat} {w w' w0 : World} {B : Nat} (h : Off Ds w w') (hb : RowKit.Below B w0 w) (hD : ∀ D ∈ Ds, B ≤ D) : RowKit.Below B w0 w' :=
  hb.trans ⟨h.os, h.tape, h.output, by rw [h.size]; exact Nat.le_refl _, fun k hk => h.block k (fun hm => by have := hD k hm; omega)⟩
theorem Off.blk {Ds : List Nat} {w w' : World} (h : Off Ds w w') {g : Nat} {cs : Array Value} {t : TypeId} {fr : Nat × Nat} (hb : w.heap[g]? = some (.cells cs t fr)) : w'.heap[g]? = some (.cells cs t fr) :=
  (h.block g (fun hm => by rw [h.was g hm] at hb; cases hb)).trans hb

def markOf (D : Nat) : Deferred := { target := .collected D, args := #[] }
theorem leavesM_marks {P : Program} {n : Nat} {fn : Func} {tmps : Array Value} {R : Ending → World → Prop} : ∀ (Ds : List Nat) (w : World), Ds.Nodup → (∀ D, D ∈ Ds → w.heap[D]? = some (.deferred (some []))) →
    (∀ w', Off Ds w w' → ∃ v, (results fn tmps).run P w' = .ok v w' ∧ R (.returned v) w') → LeavesInM (Wd none) n P fn tmps R (Ds.map markOf) .returning w
  | [], w, _, _, h => h w ⟨rfl, rfl, rfl, rfl, fun _ _ => rfl, fun _ hm => (by cases hm), fun _ hm => (by cases hm)⟩
  | D :: Ds, w, hnd, hD, h => by
    obtain ⟨hn1, hn2⟩ := List.nodup_cons.1 hnd
    have h0 := hD D (by simp)
    refine ⟨by simp, .inl ⟨D, _, rfl, run_takeDeferred h0, ?_⟩⟩
    refine leavesM_marks Ds (w.putObj D (.deferred none)) hn2 (fun D' hm => ?_) (fun w' ho => h w' ?_)
    · rw [World.putObj_heap_other (fun e => hn1 (by rw [← e]; exact hm))]
      exact hD D' (by simp [hm])
    · refine ⟨ho.os, ho.tape, ho.output, ho.size.trans (by simp [World.putObj]), fun k hk => ?_, hD, fun D' hm => ?_⟩
      · simp only [List.mem_cons, not_or] at hk
        rw [ho.block k hk.2, World.putObj_heap_other hk.1]
      · rcases List.mem_cons.1 hm with rfl | hm
        · rw [ho.block D' hn1, World.putObj_heap_same (Array.getElem?_eq_some_iff.1 h0).1]
        · exact ho.now D' hm

/-! For a range over a function: what lies in cells, or below, abides the law's own book-keeping. -/
theorem Blk.ownk {A B : World} {row : Option Nat} {g : Nat} {t : TypeId} {cs : Array Value} (h : Blk A g t cs) (hg : A.grownBy B row) (hr : ∀ r, row = some r → ∃ o : Obj, A.heap[r]? = some o ∧ o.isCells = false) : Blk B g t cs :=
  h.grown hg (fun e => by
    obtain ⟨o, ho, hc⟩ := hr g e.symm
    rw [show A.heap[g]? = _ from h] at ho
    cases ho
    cases hc)
theorem Below.ownk {w A B : World} {row : Option Nat} {B0 : Nat} (h : RowKit.Below B0 w A) (hg : A.grownBy B row) (h0 : B0 ≤ A.heap.size) (hr : ∀ r, row = some r → B0 ≤ r) : RowKit.Below B0 w B := h.grown hg h0 hr
theorem with_frame {F : Fence} {n : Nat} {P : Program} {c : Code} {Q : Exit → Act → World → Prop} {tmps : Array Value} {ds : List Deferred} {w : World} (h : ∀ T, T = tmps → c.wpIn F n P Q { tmps := T, defers := ds } w) : c.wpIn F n P Q { tmps, defers := ds } w := h _ rfl
theorem keepsFrom_below {B : Nat} {W W' : World} (h : RowKit.Below W.heap.size W W') : KeepsFrom B W W' :=
  ⟨h.size, fun k _ _ hk _ => (h.block k (Array.getElem?_eq_some_iff.1 hk).1).trans hk⟩
end Go.Proofs.Ytdcglphekafpdaa
namespace Go.Proofs.Ytdcglphekafpdaa
open Go.RowKit
attribute [local go_sem] Oper.semAt_some

/-- What has come when k rounds are over. -/
def upto {α : Type} (f : Nat → α) (k : Nat) : List α := (List.range k).map f
theorem upto_succ {α : Type} (f : Nat → α) (k : Nat) : upto f (k + 1) = upto f k ++ [f k] := by simp [upto, List.range_succ]
theorem upto_length {α : Type} (f : Nat → α) (k : Nat) : (upto f k).length = k := by simp [upto]

/-- Below n₀ all blocks but some lie as they lay. -/
def KpG (n₀ : Nat) (G : Nat → Prop) (W W' : World) : Prop := W.heap.size ≤ W'.heap.size ∧ ∀ k, k < n₀ → ¬ G k → W'.heap[k]? = W.heap[k]?
theorem KpG.refl (n₀ : Nat) (G : Nat → Prop) (W : World) : KpG n₀ G W W := ⟨Nat.le_refl _, fun _ _ _ => rfl⟩
theorem KpG.trans {n₀ : Nat} {G : Nat → Prop} {A B C : World} (h : KpG n₀ G A B) (k : KpG n₀ G B C) : KpG n₀ G A C := ⟨Nat.le_trans h.1 k.1, fun i hi hg => (k.2 i hi hg).trans (h.2 i hi hg)⟩
theorem KpG.putObj {n₀ : Nat} {G : Nat → Prop} {w : World} (hn : n₀ ≤ w.heap.size) (W : World) (l : Nat) (o o' : Obj) (hl : w.heap.size ≤ l) (h : W.heap[l]? = some o) (_ : o.isCells = false) (_ : o.isWalk = false) : KpG n₀ G W (W.putObj l o') :=
  have hb := belowK_b hn W l o o' hl h ‹_› ‹_›
  ⟨hb.size, fun k hk _ => hb.block k hk⟩
theorem KpG.cell {n₀ : Nat} {G : Nat → Prop} {W W' : World} (h : KpG n₀ G W W') {p : Addr} (hp : p.block < n₀) (hg : ¬ G p.block) : W'.cell? p = W.cell? p := World.cell?_of_block (h.2 _ hp hg)
theorem KpG.of_below {n₀ : Nat} {G : Nat → Prop} {W W' : World} (h : Below n₀ W W') : KpG n₀ G W W' := ⟨h.size, fun k hk _ => h.block k hk⟩

theorem KpG.setCell {n₀ : Nat} {G : Nat → Prop} (W : World) {p : Addr} (hp : G p.block) (u : Value) : KpG n₀ G W (W.setCell p u) :=
  ⟨by simp [World.setCell], fun k _ hg => Below.heap_setCell _ _ _ _ (fun e => hg (by rw [e]; exact hp))⟩
theorem KpG.alloc {n₀ : Nat} {G : Nat → Prop} (W : World) (h : n₀ ≤ W.heap.size) (o : Obj) : KpG n₀ G W (W.alloc o) := KpG.of_below ((Below.refl _ W).alloc h o)
def mAt (row : List Mt) (i : Nat) : Mt := (row[i]?).getD ⟨⟨0, 0⟩, ⟨0, 0⟩⟩
theorem mAt_of {row : List Mt} {i : Nat} {m : Mt} (h : row[i]? = some m) : mAt row i = m := by simp [mAt, h]
/-- An index of a row of n melts. -/
def Ix (n : Nat) : Type := { i : Nat // n = 0 ∨ i < n }
/-- The j-th index of slices.Backward. -/
def backAt (n : Nat) (j : Nat) : Ix n := ⟨n - 1 - j, by omega⟩
def encBack (row : List Mt) {n : Nat} (x : Ix n) : Array Value := #[.int .i64 (x.1 : Int), .agg #[.int .i64 (mAt row x.1).keep.lo, .int .i64 (mAt row x.1).keep.hi, .int .i64 (mAt row x.1).fixed.lo, .int .i64 (mAt row x.1).fixed.hi]]

set_option maxHeartbeats 400000 in
theorem backward_any (A : Option Addr) (n c : Nat) (w : World) :
    Calls Try.prog 75 #[.slice A n c] w fun e w' => e = .returned (.func (.func 105) #[] #[.pointer (some ⟨w.heap.size, 0, none⟩)]) ∧ w.alloc (.cells #[.slice A n c] 22) = w' := by
  go_enter Try.func75, Try.ntmps75
  go_wp2
  go_ret
  exact ⟨rfl, rfl⟩

set_option maxRecDepth 100000 in
set_option maxHeartbeats 2000000 in
theorem back1_in (d l Bs n₀ : Nat) (G : Nat → Prop) (A : Option Addr) (n c : Nat) (row : List Mt) (hn : n ≤ 100) (hBs : Bs < n₀) (hG : ¬ G Bs) (hGr : 0 < n → ∀ b off, A = some ⟨b, off, none⟩ → ¬ G b) (J Jx : List (Ix n) → World → Prop)
    (hY : ∀ pre x W, J pre W → pre.length < n → YieldAt (Wd none) (d - 1) Try.prog l (encBack row x) W fun e W' =>
      (e = .returned (.bool true) ∧ J (pre ++ [x]) W' ∧ KpG n₀ G W W') ∨ (e = .returned (.bool false) ∧ Jx (pre ++ [x]) W'))
    (W : World) (hB : W.cell? ⟨Bs, 0, none⟩ = some (.slice A n c)) (hr : MtS W n₀ A n row) (h0 : J [] W) :
    CallsIn (Wd none) d Try.prog 105 #[.func (.yield l) #[] #[], .pointer (some ⟨Bs, 0, none⟩)] W fun e W' => (∃ v, e = .returned v) ∧
      ((∃ ys, ys = upto (backAt n) n ∧ J ys W') ∨ (∃ pre, (∃ k, k ≤ n ∧ pre = upto (backAt n) k) ∧ Jx pre W')) := by
  have hlen := hid hr.len
  refine callsIn_of_wp Try.func105 rfl trivial ?_ rfl
  simp only [Try.ntmps105, List.size_toArray, List.length_cons, List.length_nil, Nat.reduceAdd, Nat.reduceSub, Array.replicate_succ, Array.replicate_zero, List.push_toArray, List.append_toArray, List.nil_append, List.cons_append]
  gi_wp2
  gi_loopw [3] (fun i wr => ∃ k : Nat, k ≤ n ∧ i = .int .i64 ((n : Int) - 1 - k) ∧ J (upto (backAt n) k) wr ∧ KpG n₀ G W wr) (fun i _ => (intOf i + 1).toNat)
  case atStart => exact ⟨0, by omega, by simp, h0, KpG.refl _ _ _⟩
  case round =>
    obtain ⟨k, hk, rfl, hJs, hnx⟩ := hrel
    have hB' := (hnx.cell (p := ⟨Bs, 0, none⟩) hBs hG).trans hB
    by_cases hlt : k < n
    · obtain ⟨b, off, m, rfl, hb, hm, c0, c1, c2, c3⟩ := hr.at_ (k := n - 1 - k) (by omega)
      have hgb := hGr (by omega) b off rfl
      have k0 := (hnx.cell (p := ⟨b, off + (n - 1 - k) * 4, none⟩) hb hgb).trans c0
      have k1 := (hnx.cell (p := ⟨b, off + (n - 1 - k) * 4 + 1, none⟩) hb hgb).trans c1
      have k2 := (hnx.cell (p := ⟨b, off + (n - 1 - k) * 4 + 2, none⟩) hb hgb).trans c2
      have k3 := (hnx.cell (p := ⟨b, off + (n - 1 - k) * 4 + 3, none⟩) hb hgb).trans c3
      clear c0 c1 c2 c3
      have hz : (n : Int) - 1 - k = ((n - 1 - k : Nat) : Int) := by omega
      have hmm : mAt row (n - 1 - k) = m := mAt_of hm
      obtain ⟨fn, tmps, assign, body, hy, hR⟩ := hY _ (backAt n k) wr hJs (by rw [upto_length]; exact hlt)
      simp only [encBack, backAt, hmm] at hy
      clear hm hmm
      rw [hz]
      have hj : n - 1 - k < n := by omega
      generalize hg : n - 1 - k = j at *
      have hjk := hid hg
      have hzz := hid hz
      clear hg hz
      gi_wp2
      refine hR.mono ?_
      rintro e W3 (⟨rfl, hJ3, hk3⟩ | ⟨rfl, hJx3⟩)
      · gi_wp2
        exact ⟨⟨k + 1, by omega, by have := hzz.out; congr 1; omega, by rw [upto_succ]; exact hJ3, hnx.trans hk3⟩, by simp [intOf]⟩
      · gi_wp2
        refine bodyPost_ret (results_none rfl _ _ _) rfl ?_
        exact ⟨⟨_, rfl⟩, .inr ⟨_, ⟨k + 1, by omega, by rw [upto_succ]⟩, hJx3⟩⟩
    · obtain rfl : k = n := by omega
      have hz : ((k : Int) - 1 - k) = -1 := by omega
      rw [hz]
      gi_wp2
      go_end0
      exact ⟨⟨_, rfl⟩, .inl ⟨_, rfl, hJs⟩⟩

theorem back_stops (d Bs n₀ : Nat) (G : Nat → Prop) (A : Option Addr) (n c : Nat) (row : List Mt) (hn : n ≤ 100) (hBs : Bs < n₀) (hG : ¬ G Bs) (hGr : 0 < n → ∀ b off, A = some ⟨b, off, none⟩ → ¬ G b)
    (w : World) (hn₀ : n₀ ≤ w.heap.size) (hB : w.cell? ⟨Bs, 0, none⟩ = some (.slice A n c)) (hr : MtS w n₀ A n row) :
    SeqStopsK (Wd none) d Try.prog 105 #[.pointer (some ⟨Bs, 0, none⟩)] (encBack row) (KpG n₀ G) (fun ys => ys = upto (backAt n) n) (fun pre => ∃ k, k ≤ n ∧ pre = upto (backAt n) k) n w := fun l J Jx W hW _ _ hY h0 =>
  back1_in d l Bs n₀ G A n c row hn hBs hG hGr J Jx hY W ((hW.cell (p := ⟨Bs, 0, none⟩) (by simp; omega)).trans hB) (hr.below (hW.mono hn₀) (Nat.le_refl _)) h0

end Go.Proofs.Ytdcglphekafpdaa
namespace Go.Proofs.Ytdcglphekafpdaa
open Go.RowKit
attribute [local go_sem] Oper.semAt_some

theorem ret_int {a b : Int} (h : a = b) : Ending.returned (.int .i64 a) = .returned (.int .i64 b) := by rw [h]
set_option maxHeartbeats 800000 in
theorem needed_any (m : Mt) (left : Int) (sure : Bool) (w : World) (hm : okM m = true) (hl : left ≤ 1000001) :
    Calls Try.prog 76 #[.agg #[.int .i64 m.keep.lo, .int .i64 m.keep.hi, .int .i64 m.fixed.lo, .int .i64 m.fixed.hi], .int .i64 left, .bool sure] w fun e w' =>
      e = .returned (.int .i64 (need m left sure)) ∧ Below w.heap.size w w' := by
  obtain ⟨h1, h2, h3, h4, h5, h6⟩ := okM_t.1 hm
  clear hm
  cases sure
  · have e : need m left false = if left ≤ 0 then 0 else if m.keep.hi = 0 then 1000001 else min 1000001 (((left + m.fixed.lo) * 1000 + m.keep.hi - 1) / m.keep.hi) := rfl
    by_cases hl0 : left ≤ 0
    · have hfin : Hid (need m left false = 0) := by rw [e, if_pos hl0]; trivial
      clear e
      go_enter Try.func76, Try.ntmps76
      (go_wp2; go_quiet (fail); go_wp2)
      go_ret
      exact ⟨by rw [hfin.out]; rfl, below_drewN (by repeat' (first | with_reducible assumption | with_reducible exact Below.refl _ _ | refine Below.alloc ?_ ?_ _ | refine Below.setCell ?_ ?_ _ | refine Below.drew ?_ | refine below_drewN ?_ _ | (simp; done) | (simp; omega) | omega)) _⟩
    · by_cases hk : m.keep.hi = 0
      · have hk' : (m.keep.hi == 0) = true := by simp [hk]
        have hfin : Hid (need m left false = 1000001) := by rw [e, if_neg hl0, if_pos hk]; trivial
        clear hk e
        go_enter Try.func76, Try.ntmps76
        (go_wp2; go_quiet (fail); go_wp2)
        go_ret
        exact ⟨by rw [hfin.out]; rfl, below_drewN (by repeat' (first | with_reducible assumption | with_reducible exact Below.refl _ _ | refine Below.alloc ?_ ?_ _ | refine Below.setCell ?_ ?_ _ | refine Below.drew ?_ | refine below_drewN ?_ _ | (simp; done) | (simp; omega) | omega)) _⟩
      · have hk' : (m.keep.hi == 0) = false := by simp [hk]
        have hfin : Hid (need m left false = min 1000001 (((left + m.fixed.lo) * 1000 + m.keep.hi - 1) / m.keep.hi)) := by rw [e, if_neg hl0, if_neg hk]; trivial
        have hk1 : 1 ≤ m.keep.hi := by omega
        clear hk e
        have hq := Int.ediv_nonneg (a := (left + m.fixed.lo) * 1000 + m.keep.hi - 1) (b := m.keep.hi) (by omega) (by omega)
        have hq2 := Int.ediv_le_self (a := (left + m.fixed.lo) * 1000 + m.keep.hi - 1) m.keep.hi (by omega)
        go_enter Try.func76, Try.ntmps76
        (go_wp2; go_quiet (fail); go_wp2)
        all_goals
          go_ret
          exact ⟨ret_int (by rw [hfin.out]; omega), below_drewN (by repeat' (first | with_reducible assumption | with_reducible exact Below.refl _ _ | refine Below.alloc ?_ ?_ _ | refine Below.setCell ?_ ?_ _ | refine Below.drew ?_ | refine below_drewN ?_ _ | (simp; done) | (simp; omega) | omega)) _⟩
  · have e : need m left true = if left ≤ 0 then 0 else if m.keep.lo = 0 then 1000001 else min 1000001 (((left + m.fixed.hi) * 1000 + m.keep.lo - 1) / m.keep.lo) := rfl
    by_cases hl0 : left ≤ 0
    · have hfin : Hid (need m left true = 0) := by rw [e, if_pos hl0]; trivial
      clear e
      go_enter Try.func76, Try.ntmps76
      (go_wp2; go_quiet (fail); go_wp2; go_quiet (fail); go_wp2)
      go_ret
      exact ⟨by rw [hfin.out]; rfl, below_drewN (by repeat' (first | with_reducible assumption | with_reducible exact Below.refl _ _ | refine Below.alloc ?_ ?_ _ | refine Below.setCell ?_ ?_ _ | refine Below.drew ?_ | refine below_drewN ?_ _ | (simp; done) | (simp; omega) | omega)) _⟩
    · by_cases hk : m.keep.lo = 0
      · have hk' : (m.keep.lo == 0) = true := by simp [hk]
        have hfin : Hid (need m left true = 1000001) := by rw [e, if_neg hl0, if_pos hk]; trivial
        clear hk e
        go_enter Try.func76, Try.ntmps76
        (go_wp2; go_quiet (fail); go_wp2; go_quiet (fail); go_wp2)
        go_ret
        exact ⟨by rw [hfin.out]; rfl, below_drewN (by repeat' (first | with_reducible assumption | with_reducible exact Below.refl _ _ | refine Below.alloc ?_ ?_ _ | refine Below.setCell ?_ ?_ _ | refine Below.drew ?_ | refine below_drewN ?_ _ | (simp; done) | (simp; omega) | omega)) _⟩
      · have hk' : (m.keep.lo == 0) = false := by simp [hk]
        have hfin : Hid (need m left true = min 1000001 (((left + m.fixed.hi) * 1000 + m.keep.lo - 1) / m.keep.lo)) := by rw [e, if_neg hl0, if_neg hk]; trivial
        have hk1 : 1 ≤ m.keep.lo := by omega
        clear hk e
        have hq := Int.ediv_nonneg (a := (left + m.fixed.hi) * 1000 + m.keep.lo - 1) (b := m.keep.lo) (by omega) (by omega)
        have hq2 := Int.ediv_le_self (a := (left + m.fixed.hi) * 1000 + m.keep.lo - 1) m.keep.lo (by omega)
        go_enter Try.func76, Try.ntmps76
        (go_wp2; go_quiet (fail); go_wp2; go_quiet (fail); go_wp2)
        all_goals
          go_ret
          exact ⟨ret_int (by rw [hfin.out]; omega), below_drewN (by repeat' (first | with_reducible assumption | with_reducible exact Below.refl _ _ | refine Below.alloc ?_ ?_ _ | refine Below.setCell ?_ ?_ _ | refine Below.drew ?_ | refine below_drewN ?_ _ | (simp; done) | (simp; omega) | omega)) _⟩
end Go.Proofs.Ytdcglphekafpdaa
namespace Go.Proofs.Ytdcglphekafpdaa
open Go.RowKit Go.Shelf
attribute [local go_sem] Oper.semAt_some

/-- What is needed of the weight ahead of the melts that have come; none: more than any weight. -/
def foldO (row : List Mt) (sure : Bool) (left : Int) {n : Nat} (pre : List (Ix n)) : Option Int :=
  pre.foldl (fun o x => o.bind fun l => if need (mAt row x.1) l sure ≤ 1000000 then some (need (mAt row x.1) l sure) else none) (some left)
theorem foldO_snoc (row : List Mt) (sure : Bool) (left : Int) {n : Nat} (pre : List (Ix n)) (x : Ix n) :
    foldO row sure left (pre ++ [x]) = (foldO row sure left pre).bind fun l => if need (mAt row x.1) l sure ≤ 1000000 then some (need (mAt row x.1) l sure) else none := by
  simp [foldO, List.foldl_append]
theorem foldO_upto (row : List Mt) (sure : Bool) {left : Int} (hl : left ≤ 1000000) : ∀ k, k ≤ row.length →
    foldO row sure left (upto (backAt row.length) k) = if neededAll sure left (row.drop (row.length - k)) ≤ 1000000 then some (neededAll sure left (row.drop (row.length - k))) else none
  | 0, _ => by
    have e : row.drop (row.length - 0) = [] := by simp
    rw [e]
    simp [upto, foldO, neededAll, hl]
  | k + 1, hk => by
    have hi : row.length - 1 - k < row.length := by omega
    have e : row.drop (row.length - (k + 1)) = row[row.length - 1 - k] :: row.drop (row.length - k) := by
      rw [show row.length - (k + 1) = row.length - 1 - k by omega, List.drop_eq_getElem_cons hi]
      congr 2; omega
    have em : mAt row (row.length - 1 - k) = row[row.length - 1 - k] := mAt_of (List.getElem?_eq_getElem hi)
    rw [upto_succ, foldO_snoc, foldO_upto row sure hl k (by omega), e]
    have e2 : ∀ m rest, neededAll sure left (m :: rest) = if neededAll sure left rest > 1000000 then 1000001 else need m (neededAll sure left rest) sure := fun _ _ => rfl
    rw [e2]
    simp only [backAt, em]
    by_cases h : neededAll sure left (row.drop (row.length - k)) ≤ 1000000
    · have h' : ¬ neededAll sure left (row.drop (row.length - k)) > 1000000 := by omega
      simp only [if_pos h, if_neg h', Option.bind_some]
    · have h' : neededAll sure left (row.drop (row.length - k)) > 1000000 := by omega
      simp [if_neg h, if_pos h']
theorem foldO_none (row : List Mt) (sure : Bool) (left : Int) {n k : Nat} (h : foldO row sure left (upto (backAt n) k) = none) : ∀ j, foldO row sure left (upto (backAt n) (k + j)) = none
  | 0 => h
  | j + 1 => by rw [← Nat.add_assoc, upto_succ, foldO_snoc, foldO_none row sure left h j]; rfl
set_option maxHeartbeats 400000 in
theorem dNeeded_any (w : World) (A : Option Addr) (n c : Nat) (row : List Mt) (left : Int) (sure : Bool) (hr : MtS w w.heap.size A n row) (hn : n ≤ 12) :
    Calls Try.prog 22 #[.slice A n c, .int .i64 left, .bool sure] w fun e w' =>
      e = .returned (.tuple #[.int .i64 (needS row left sure), .int .i64 (needE row left sure)]) ∧ Below w.heap.size w w' := by
  by_cases h0 : checkRow row = 0
  · have hc : (checkRow row != 0) = false := by simp [h0]
    obtain ⟨hl1, _, hok⟩ := checkRow_ok h0
    have hok' := hid hok
    clear hok
    cases hw : [left].all (inR ⟨0, 1000000⟩)
    · have Hw := hid hw
      have h1 : ¬ (0 ≤ left ∧ left ≤ 1000000) := by simp [inR] at hw; omega
      have hs : Hid (needS row left sure = 0) := if_neg (by omega)
      have he : Hid (needE row left sure = 3) := by unfold needE; rw [if_neg (by simp [h0]), if_pos (by omega)]; trivial
      clear h0 hw h1
      (refine (callsIn_wide (n := 9)).1 ?_; refine callsIn_of_wp_marks (F := Wd none) Try.func22 rfl trivial ?_ rfl; simp only [Try.ntmps22, List.size_toArray, List.length_cons, List.length_nil, Nat.reduceAdd, Nat.reduceSub, Array.replicate_succ, Array.replicate_zero, List.push_toArray, List.append_toArray, List.nil_append, List.cons_append])
      gi_wp2_with (first | (gi_at_call 24; refine (calls_wd (dCheckRow_any _ _ _ _ row (hr.below (by repeat' (first | with_reducible assumption | with_reducible exact Below.refl _ _ | refine Below.alloc ?_ ?_ _ | refine Below.setCell ?_ ?_ _ | refine Below.drew ?_ | refine below_drewN ?_ _ | (simp; done) | (simp; omega) | omega)) (by first | (simp; done) | (simp; omega) | omega)) hn)).mono ?_; rintro e w1 ⟨rfl, hb1⟩; obtain ⟨hc1, hf1⟩ := bcell hb1; have hbel : Below w.heap.size w w1 := Below.trans (by repeat' (first | with_reducible assumption | with_reducible exact Below.refl _ _ | refine Below.alloc ?_ ?_ _ | refine Below.setCell ?_ ?_ _ | refine Below.drew ?_ | refine below_drewN ?_ _ | (simp; done) | (simp; omega) | omega)) (hb1.mono (by first | (simp; done) | (simp; omega) | omega)); have hsz := hbel.size; have hz1 := hb1.size; (try simp only [World.size_alloc] at hz1); (try have hq0 : w.heap.size < w1.heap.size := by omega); (try have hq1 : w.heap.size + 1 < w1.heap.size := by omega); (try have hq2 : w.heap.size + 1 + 1 < w1.heap.size := by omega); (try have hq3 : w.heap.size + 1 + 1 + 1 < w1.heap.size := by omega)) | (gi_at_call 74; refine (calls_wd (within_any _ _ _ [left] 0 1000000 _ (inS_lit1 _ (by first | (simp; done) | (simp; omega) | omega) (by first | (simp; done) | (simp; omega) | omega)) (by omega))).mono ?_; rw [Hw.out]; rintro e w1 ⟨rfl, hb1⟩; obtain ⟨hc1, hf1⟩ := bcell hb1; have hbel : Below w.heap.size w w1 := Below.trans (by repeat' (first | with_reducible assumption | with_reducible exact Below.refl _ _ | refine Below.alloc ?_ ?_ _ | refine Below.setCell ?_ ?_ _ | refine Below.drew ?_ | refine below_drewN ?_ _ | (simp; done) | (simp; omega) | omega)) (hb1.mono (by first | (simp; done) | (simp; omega) | omega)); have hsz := hbel.size; have hz1 := hb1.size; (try simp only [World.size_alloc] at hz1); (try have hq0 : w.heap.size < w1.heap.size := by omega); (try have hq1 : w.heap.size + 1 < w1.heap.size := by omega); (try have hq2 : w.heap.size + 1 + 1 < w1.heap.size := by omega); (try have hq3 : w.heap.size + 1 + 1 + 1 < w1.heap.size := by omega)))
      (refine leavesM_marks [] _ (by simp) (by simp) (fun w' ho => ⟨.tuple #[.int .i64 0, .int .i64 3], by simp [results, Try.results22, go_sem, ho.cell, World.cell?_setCell_same', *], by rw [hs.out, he.out], ho.below (by repeat' (first | with_reducible assumption | with_reducible exact Below.refl _ _ | refine Below.alloc ?_ ?_ _ | refine Below.setCell ?_ ?_ _ | refine Below.drew ?_ | refine below_drewN ?_ _ | (simp; done) | (simp; omega) | omega)) (by simp)⟩))
    · have Hw := hid hw
      have h1 : 0 ≤ left ∧ left ≤ 1000000 := by simp [inR] at hw; omega
      obtain ⟨h1, h2⟩ := h1
      have hs : Hid (needS row left sure = if neededAll sure left row ≤ 1000000 then neededAll sure left row else 0) := by
        unfold needS
        by_cases h3 : neededAll sure left row ≤ 1000000
        · rw [if_pos ⟨h0, h1, h2, h3⟩, if_pos h3]; trivial
        · rw [if_neg (by omega), if_neg h3]; trivial
      have he : Hid (needE row left sure = if neededAll sure left row ≤ 1000000 then 0 else 4) := by
        unfold needE
        rw [if_neg (by simp [h0]), if_neg (by omega)]
        by_cases h3 : neededAll sure left row ≤ 1000000
        · rw [if_neg (by omega), if_pos h3]; trivial
        · rw [if_pos (by omega), if_neg h3]; trivial
      clear h0 hw
      have B0 : Blk ((((w.alloc (.cells #[.int .i64 left] 2)).alloc (.cells #[.bool sure] 4)).alloc (.cells #[.int .i64 0] 2)).alloc (.cells #[.int .i64 0] 27)) w.heap.size 2 #[.int .i64 left] := (((Blk.new' rfl).alloc _).alloc _).alloc _
      have B1 : Blk ((((w.alloc (.cells #[.int .i64 left] 2)).alloc (.cells #[.bool sure] 4)).alloc (.cells #[.int .i64 0] 2)).alloc (.cells #[.int .i64 0] 27)) (w.heap.size + 1) 4 #[.bool sure] := ((Blk.new' (by first | (simp; done) | (simp; omega) | omega)).alloc _).alloc _
      have B2 : Blk ((((w.alloc (.cells #[.int .i64 left] 2)).alloc (.cells #[.bool sure] 4)).alloc (.cells #[.int .i64 0] 2)).alloc (.cells #[.int .i64 0] 27)) (w.heap.size + 1 + 1) 2 #[.int .i64 0] := (Blk.new' (by first | (simp; done) | (simp; omega) | omega)).alloc _
      have B3 : Blk ((((w.alloc (.cells #[.int .i64 left] 2)).alloc (.cells #[.bool sure] 4)).alloc (.cells #[.int .i64 0] 2)).alloc (.cells #[.int .i64 0] 27)) (w.heap.size + 1 + 1 + 1) 27 #[.int .i64 0] := Blk.new' (by first | (simp; done) | (simp; omega) | omega)
      (refine (callsIn_wide (n := 9)).1 ?_; refine callsIn_of_wp_marks (F := Wd none) Try.func22 rfl trivial ?_ rfl; simp only [Try.ntmps22, List.size_toArray, List.length_cons, List.length_nil, Nat.reduceAdd, Nat.reduceSub, Array.replicate_succ, Array.replicate_zero, List.push_toArray, List.append_toArray, List.nil_append, List.cons_append])
      gi_wp2_with (first | (gi_at_call 24; refine (calls_wd (dCheckRow_any _ _ _ _ row (hr.below (by repeat' (first | with_reducible assumption | with_reducible exact Below.refl _ _ | refine Below.alloc ?_ ?_ _ | refine Below.setCell ?_ ?_ _ | refine Below.drew ?_ | refine below_drewN ?_ _ | (simp; done) | (simp; omega) | omega)) (by first | (simp; done) | (simp; omega) | omega)) hn)).mono ?_; rintro e w1 ⟨rfl, hb1⟩; obtain ⟨hc1, hf1⟩ := bcell hb1; have hbel : Below w.heap.size w w1 := Below.trans (by repeat' (first | with_reducible assumption | with_reducible exact Below.refl _ _ | refine Below.alloc ?_ ?_ _ | refine Below.setCell ?_ ?_ _ | refine Below.drew ?_ | refine below_drewN ?_ _ | (simp; done) | (simp; omega) | omega)) (hb1.mono (by first | (simp; done) | (simp; omega) | omega)); have hsz := hbel.size; have hz1 := hb1.size; (try simp only [World.size_alloc] at hz1); (try have hq0 : w.heap.size < w1.heap.size := by omega); (try have hq1 : w.heap.size + 1 < w1.heap.size := by omega); (try have hq2 : w.heap.size + 1 + 1 < w1.heap.size := by omega); (try have hq3 : w.heap.size + 1 + 1 + 1 < w1.heap.size := by omega); have B0 := (by first | exact (B0).below hb1 (by first | (simp; done) | (simp; omega) | omega) | exact ((B0).alloc _).below hb1 (by first | (simp; done) | (simp; omega) | omega)); have B1 := (by first | exact (B1).below hb1 (by first | (simp; done) | (simp; omega) | omega) | exact ((B1).alloc _).below hb1 (by first | (simp; done) | (simp; omega) | omega)); have B2 := (by first | exact (B2).below hb1 (by first | (simp; done) | (simp; omega) | omega) | exact ((B2).alloc _).below hb1 (by first | (simp; done) | (simp; omega) | omega)); have B3 := (by first | exact (B3).below hb1 (by first | (simp; done) | (simp; omega) | omega) | exact ((B3).alloc _).below hb1 (by first | (simp; done) | (simp; omega) | omega))) | (gi_at_call 74; refine (calls_wd (within_any _ _ _ [left] 0 1000000 _ (inS_lit1 _ (by first | (simp; done) | (simp; omega) | omega) (by first | (simp; done) | (simp; omega) | omega)) (by omega))).mono ?_; rw [Hw.out]; rintro e w1 ⟨rfl, hb1⟩; obtain ⟨hc1, hf1⟩ := bcell hb1; have hbel : Below w.heap.size w w1 := Below.trans (by repeat' (first | with_reducible assumption | with_reducible exact Below.refl _ _ | refine Below.alloc ?_ ?_ _ | refine Below.setCell ?_ ?_ _ | refine Below.drew ?_ | refine below_drewN ?_ _ | (simp; done) | (simp; omega) | omega)) (hb1.mono (by first | (simp; done) | (simp; omega) | omega)); have hsz := hbel.size; have B0 := (by first | exact (B0).below hb1 (by first | (simp; done) | (simp; omega) | omega) | exact ((B0).alloc _).below hb1 (by first | (simp; done) | (simp; omega) | omega)); have B1 := (by first | exact (B1).below hb1 (by first | (simp; done) | (simp; omega) | omega) | exact ((B1).alloc _).below hb1 (by first | (simp; done) | (simp; omega) | omega)); have B2 := (by first | exact (B2).below hb1 (by first | (simp; done) | (simp; omega) | omega) | exact ((B2).alloc _).below hb1 (by first | (simp; done) | (simp; omega) | omega)); have B3 := (by first | exact (B3).below hb1 (by first | (simp; done) | (simp; omega) | omega) | exact ((B3).alloc _).below hb1 (by first | (simp; done) | (simp; omega) | omega))))
      refine (calls_wd (backward_any A n c _)).mono ?_
      rintro e w2 ⟨rfl, hw2⟩
      have hBs : w.heap.size + 1 + 1 + 1 < w1.heap.size := B3.lt
      have B0 := B0.alloc (.cells #[.slice A n c] 22)
      have B1 := B1.alloc (.cells #[.slice A n c] 22)
      have B2 := B2.alloc (.cells #[.slice A n c] 22)
      have B3 := B3.alloc (.cells #[.slice A n c] 22)
      have hbel := hbel.alloc hbel.size (.cells #[.slice A n c] 22)
      have Bs := Blk.new w1 22 #[.slice A n c]
      have hS := World.size_alloc w1 (.cells #[.slice A n c] 22)
      rw [hw2] at B0 B1 B2 B3 hbel Bs hS
      clear hw2
      generalize w1.heap.size = Sz at *
      gi_wp2
      have hlen := hid hr.len
      refine with_frame fun T hT => ?_
      refine wpIn_rangeFunc_ownH (F := Wd none) (n := 9) rfl (by omega) (gf := 105) (lb := #[.pointer (some ⟨Sz, 0, none⟩)]) (by rw [hT]; rfl) trivial (enters_of Try.func105 (by kernel_rfl) rfl)
        (back_stops 8 Sz (Sz + 1) (fun k => k = w.heap.size ∨ k = w.heap.size + 1 + 1 ∨ k = w.heap.size + 1 + 1 + 1) A n c row (by omega) (by omega) (by omega) (fun _ b off e => ?hG) w2 (by omega) (Bs.cell 0) (hr.below hbel (by omega)))
        (fun h k => h.trans k) (KpG.putObj (by omega)) (Below.refl _ _) (fun _ => rfl)
        (fun pre W => (∃ x, Hid (foldO row sure left pre = some x) ∧ 0 ≤ x ∧ x ≤ 1000000 ∧ Blk W w.heap.size 2 #[.int .i64 x] ∧ Blk W (w.heap.size + 1) 4 #[.bool sure] ∧ Blk W (w.heap.size + 1 + 1) 2 #[.int .i64 0] ∧ Blk W (w.heap.size + 1 + 1 + 1) 27 #[.int .i64 0]) ∧ Below w.heap.size w W ∧ Sz + 1 ≤ W.heap.size)
        (fun c pre W => (c = .ret ∧ Hid (foldO row sure left pre = none) ∧ Blk W (w.heap.size + 1 + 1) 2 #[.int .i64 0] ∧ Blk W (w.heap.size + 1 + 1 + 1) 27 #[.int .i64 4]) ∧ Below w.heap.size w W ∧ Sz + 1 ≤ W.heap.size)
        (fun s X Y rw_ hs hg hrow => ?hI) (fun c s X Y rw_ hs hg hrow => ?hIx) ⟨⟨left, rfl, h1, h2, B0, B1, B2, B3⟩, hbel, by omega⟩
        (fun x a' W => ∃ Bx, Sz + 1 ≤ Bx ∧ Blk W Bx 85 #[.int .i64 (mAt row x.1).keep.lo, .int .i64 (mAt row x.1).keep.hi, .int .i64 (mAt row x.1).fixed.lo, .int .i64 (mAt row x.1).fixed.hi] ∧
          a' = { tmps := ((T.setIfInBounds 24 (.int .i64 (x.1 : Int))).setIfInBounds 25 (.agg #[.int .i64 (mAt row x.1).keep.lo, .int .i64 (mAt row x.1).keep.hi, .int .i64 (mAt row x.1).fixed.lo, .int .i64 (mAt row x.1).fixed.hi])).setIfInBounds 10 (.pointer (some ⟨Bx, 0, none⟩)), defers := [] })
        (fun x a' s X Y rw_ hs hg hrow => ?hAx) ?assign ?body ?done ?stop
      case hG =>
        obtain ⟨b', off', e', hb', _⟩ := hr.2 (by have := hr.len; omega)
        rw [e] at e'
        cases e'
        rintro (h | h | h) <;> omega
      case hI =>
        obtain ⟨⟨x, hx, g1, g2, b0, b1, b2, b3⟩, hb, hz⟩ := hs
        have hr' : ∀ r, rw_ = some r → ∃ o : Obj, X.heap[r]? = some o ∧ o.isCells = false := fun r e => (hrow r e).2
        exact ⟨⟨x, hx, g1, g2, b0.ownk hg hr', b1.ownk hg hr', b2.ownk hg hr', b3.ownk hg hr'⟩, Below.ownk hb hg hb.size (fun r e => by have := (hrow r e).1; omega), by have := hg.size; omega⟩
      case hIx =>
        obtain ⟨⟨x, hx, b2, b3⟩, hb, hz⟩ := hs
        have hr' : ∀ r, rw_ = some r → ∃ o : Obj, X.heap[r]? = some o ∧ o.isCells = false := fun r e => (hrow r e).2
        exact ⟨⟨x, hx, b2.ownk hg hr', b3.ownk hg hr'⟩, Below.ownk hb hg hb.size (fun r e => by have := (hrow r e).1; omega), by have := hg.size; omega⟩
      case hAx =>
        obtain ⟨Bx, hx, hX, e⟩ := hs
        exact ⟨Bx, hx, hX.ownk hg (fun r e => (hrow r e).2), e⟩
      case assign =>
        rintro l pre x W K ⟨⟨y, hy, g1, g2, b0, b1, b2, b3⟩, hb, hz⟩ hK
        simp only [encBack, hT]
        clear hs he B0 B1 B2 B3 hbel hr hlen h1 h2 hsz hBs Bs hS Hw hc
        gi_wp2
        exact hK _ _ ((KeepsOthers.alloc _ _).from _) (KpG.alloc _ hz _) ⟨⟨y, hy, g1, g2, b0.alloc _, b1.alloc _, b2.alloc _, b3.alloc _⟩, hb.alloc hb.size _, by simp; omega⟩ ⟨W.heap.size, hz, Blk.new _ _ _, by rw [hT]; rfl⟩
      case body =>
        rintro l pre x a' W hl _ ⟨⟨y, hy, g1, g2, b0, b1, b2, b3⟩, hb, hz⟩ ⟨Bx, hBx, bX, rfl⟩ hlt
        have hxn : x.1 < row.length := by rcases x.2 with h | h <;> have := hlen.out <;> omega
        have hokm : Hid (okM (mAt row x.1) = true) := List.all_eq_true.1 hok'.out _ (by rw [mAt_of (List.getElem?_eq_getElem hxn)]; exact List.getElem_mem _)
        have hsn := foldO_snoc row sure left pre x
        rw [hy.out, Option.bind_some] at hsn
        have hSn := hid hsn
        simp only [hT, List.setIfInBounds_toArray, List.set_cons_zero, List.set_cons_succ]
        clear hsn hs he B0 B1 B2 B3 hbel hr hlen h1 h2 Bs Hw hc hxn hT
        have c0 := bX.cell 0
        have c1 := bX.cell 1
        have c2 := bX.cell 2
        have c3 := bX.cell 3
        have d0 := b0.cell 0
        have d1 := b1.cell 0
        have hsW : w.heap.size + 1 + 1 + 1 < W.heap.size := by omega
        by_cases hnd : need (mAt row x.1) y sure ≤ 1000000
        · have hS' : Hid (foldO row sure left (pre ++ [x]) = some (need (mAt row x.1) y sure)) := by rw [hSn.out, if_pos hnd]; trivial
          have hnb := (need_bd hokm.out (left := y) (sure := sure)).1
          gi_wp2_with (first | (gi_at_call 76; refine (calls_wd (needed_any (mAt row x.1) y sure _ hokm.out (by omega))).mono ?_; rintro e w3 ⟨rfl, hb3⟩; have b0 := b0.below hb3 (by first | (simp; done) | (simp; omega) | omega); have b1 := b1.below hb3 (by first | (simp; done) | (simp; omega) | omega); have b2 := b2.below hb3 (by first | (simp; done) | (simp; omega) | omega); have b3 := b3.below hb3 (by first | (simp; done) | (simp; omega) | omega); have f0 := b0.cell 0; have f1 := b0.frozen 0))
          exact ⟨(keepsFrom_below hb3).trans ((KeepsOthers.setCell _ _ _).from _), (KpG.of_below (hb3.mono hz)).trans (KpG.setCell _ (Or.inl rfl) _), ⟨_, hS', hnb, hnd, b0.set_ 0 _, b1.far (by first | (simp; done) | (simp; omega) | omega) _, b2.far (by first | (simp; done) | (simp; omega) | omega) _, b3.far (by first | (simp; done) | (simp; omega) | omega) _⟩, (hb.trans (hb3.mono hb.size)).setCell (by first | (simp; done) | (simp; omega) | omega) _, by have := hb3.size; simp; omega⟩
        · have hS' : Hid (foldO row sure left (pre ++ [x]) = none) := by rw [hSn.out, if_neg hnd]; trivial
          gi_wp2_with (first | (gi_at_call 76; refine (calls_wd (needed_any (mAt row x.1) y sure _ hokm.out (by omega))).mono ?_; rintro e w3 ⟨rfl, hb3⟩; have b0 := b0.below hb3 (by first | (simp; done) | (simp; omega) | omega); have b1 := b1.below hb3 (by first | (simp; done) | (simp; omega) | omega); have b2 := b2.below hb3 (by first | (simp; done) | (simp; omega) | omega); have b3 := b3.below hb3 (by first | (simp; done) | (simp; omega) | omega); have f0 := b0.cell 0; have f1 := b0.frozen 0; have f2 := b2.cell 0; have f3 := b2.frozen 0; have f4 := b3.cell 0; have f5 := b3.frozen 0))
          exact ⟨(keepsFrom_below hb3).trans ((((KeepsOthers.setCell _ _ _).trans (KeepsOthers.setCell _ _ _)).trans (KeepsOthers.setCell _ _ _)).from _), ⟨rfl, hS', (((b2.far (by first | (simp; done) | (simp; omega) | omega) _).set_ 0 _).far (by first | (simp; done) | (simp; omega) | omega) _), ((b3.far (by first | (simp; done) | (simp; omega) | omega) _).far (by first | (simp; done) | (simp; omega) | omega) _).set_ 0 _⟩, (((hb.trans (hb3.mono hb.size)).setCell (by first | (simp; done) | (simp; omega) | omega) _).setCell (by first | (simp; done) | (simp; omega) | omega) _).setCell (by first | (simp; done) | (simp; omega) | omega) _, by have := hb3.size; simp; omega⟩
      case done =>
        rintro D ys W hD rfl ⟨⟨y, hy, g1, g2, b0, b1, b2, b3⟩, hb, hz⟩ hK
        have hfin := foldO_upto row sure h2 row.length (Nat.le_refl _)
        rw [hlen.out, hy.out, Nat.sub_self, List.drop_zero] at hfin
        have h3 : neededAll sure left row ≤ 1000000 := by
          by_cases h : neededAll sure left row ≤ 1000000
          · exact h
          · rw [if_neg h] at hfin; cases hfin
        rw [if_pos h3] at hfin
        have hf := hid (Option.some.inj hfin)
        have hs' : Hid (needS row left sure = y) := by rw [hs.out, if_pos h3, hf.out]; trivial
        have he' : Hid (needE row left sure = 0) := by rw [he.out, if_pos h3]; trivial
        clear hs he hfin h3 B0 B1 B2 B3 hr hlen h1 Bs Hw hc hf
        have d0 := b0.cell 0
        have d2 := b2.cell 0
        have d3 := b3.cell 0
        have f2 := b2.frozen 0
        have f3 := b3.frozen 0
        simp only [hT]
        gi_wp2
        refine leavesM_marks [D] _ (by simp) (by intro D' e; rw [List.mem_singleton] at e; rw [e]; exact ((KeepsOthers.setCell _ _ _).trans (KeepsOthers.setCell _ _ _)).same D _ hK rfl) (fun w' ho => ⟨.tuple #[.int .i64 y, .int .i64 0], ?_, by rw [hs'.out, he'.out], ho.below ((hb.setCell (by first | (simp; done) | (simp; omega) | omega) _).setCell (by first | (simp; done) | (simp; omega) | omega) _) (by simp; omega)⟩)
        simp [results, Try.results22, go_sem, ho.cell, World.cell?_setCell_same', *]
      case stop =>
        rintro D c pre W hD ⟨k, hk, rfl⟩ ⟨⟨rfl, hnone, b2, b3⟩, hb, hz⟩ hK
        have hfin := foldO_upto row sure h2 row.length (Nat.le_refl _)
        have hn2 := foldO_none row sure left hnone.out (n - k)
        rw [show k + (n - k) = n by omega] at hn2
        rw [hlen.out, hn2, Nat.sub_self, List.drop_zero] at hfin
        have h3 : ¬ neededAll sure left row ≤ 1000000 := fun h => by rw [if_pos h] at hfin; cases hfin
        have hs' : Hid (needS row left sure = 0) := by rw [hs.out, if_neg h3]; trivial
        have he' : Hid (needE row left sure = 4) := by rw [he.out, if_neg h3]; trivial
        clear hs he hfin h3 hn2 B0 B1 B2 B3 hr hlen h1 Bs Hw hc
        have d2 := b2.cell 0
        have d3 := b3.cell 0
        simp only [hT]
        gi_wp2
        refine leavesM_marks [D] _ (by simp) (by simpa using hK) (fun w' ho => ⟨.tuple #[.int .i64 0, .int .i64 4], ?_, by rw [hs'.out, he'.out], ho.below hb (by simp; omega)⟩)
        simp [results, Try.results22, go_sem, ho.cell, *]
  · have hc : (checkRow row != 0) = true := by simp [h0]
    have hs : Hid (needS row left sure = 0) := if_neg (by simp [h0])
    have he : Hid (needE row left sure = checkRow row) := by unfold needE; rw [if_pos h0]; trivial
    clear h0
    (refine (callsIn_wide (n := 9)).1 ?_; refine callsIn_of_wp_marks (F := Wd none) Try.func22 rfl trivial ?_ rfl; simp only [Try.ntmps22, List.size_toArray, List.length_cons, List.length_nil, Nat.reduceAdd, Nat.reduceSub, Array.replicate_succ, Array.replicate_zero, List.push_toArray, List.append_toArray, List.nil_append, List.cons_append])
    gi_wp2_with (first | (gi_at_call 24; refine (calls_wd (dCheckRow_any _ _ _ _ row (hr.below (by repeat' (first | with_reducible assumption | with_reducible exact Below.refl _ _ | refine Below.alloc ?_ ?_ _ | refine Below.setCell ?_ ?_ _ | refine Below.drew ?_ | refine below_drewN ?_ _ | (simp; done) | (simp; omega) | omega)) (by first | (simp; done) | (simp; omega) | omega)) hn)).mono ?_; rintro e w1 ⟨rfl, hb1⟩; obtain ⟨hc1, hf1⟩ := bcell hb1; have hbel : Below w.heap.size w w1 := Below.trans (by repeat' (first | with_reducible assumption | with_reducible exact Below.refl _ _ | refine Below.alloc ?_ ?_ _ | refine Below.setCell ?_ ?_ _ | refine Below.drew ?_ | refine below_drewN ?_ _ | (simp; done) | (simp; omega) | omega)) (hb1.mono (by first | (simp; done) | (simp; omega) | omega)); have hsz := hbel.size; have hz1 := hb1.size; (try simp only [World.size_alloc] at hz1); (try have hq0 : w.heap.size < w1.heap.size := by omega); (try have hq1 : w.heap.size + 1 < w1.heap.size := by omega); (try have hq2 : w.heap.size + 1 + 1 < w1.heap.size := by omega); (try have hq3 : w.heap.size + 1 + 1 + 1 < w1.heap.size := by omega)))
    (refine leavesM_marks [] _ (by simp) (by simp) (fun w' ho => ⟨.tuple #[.int .i64 0, .int .i64 (checkRow row)], by simp [results, Try.results22, go_sem, ho.cell, World.cell?_setCell_same', *], by rw [hs.out, he.out], ho.below (by repeat' (first | with_reducible assumption | with_reducible exact Below.refl _ _ | refine Below.alloc ?_ ?_ _ | refine Below.setCell ?_ ?_ _ | refine Below.drew ?_ | refine below_drewN ?_ _ | (simp; done) | (simp; omega) | omega)) (by simp)⟩))
end Go.Proofs.Ytdcglphekafpdaa
/- Plain law: what is known of weights is narrowed, forwards and backwards. No program in sight. -/
namespace Go.Proofs.Ytdcglphekafpdaa

def upd (s : Nat → Rg) (i : Nat) (r : Rg) : Nat → Rg := fun j => if j = i then r else s j
theorem upd_same (s : Nat → Rg) (i : Nat) (r : Rg) : upd s i r i = r := if_pos rfl
theorem upd_ne (s : Nat → Rg) {i j : Nat} (r : Rg) (h : j ≠ i) : upd s i r j = s j := if_neg h

/-- Weights are a truth: of n melts M, and scales s. -/
def Truth (n : Nat) (M : Nat → Mt) (s : Nat → Rg) (T : Nat → Int) : Prop :=
  (∀ i, i ≤ n → (s i).lo ≤ T i ∧ T i ≤ (s i).hi) ∧ ∀ i, i < n → one (M i) true (T i) ≤ T (i + 1) ∧ T (i + 1) ≤ one (M i) false (T i)
def Sub (s t : Nat → Rg) : Prop := ∀ i, (t i).lo ≤ (s i).lo ∧ (s i).hi ≤ (t i).hi
theorem Sub.refl (s : Nat → Rg) : Sub s s := fun _ => ⟨Int.le_refl _, Int.le_refl _⟩
theorem Sub.trans {s t u : Nat → Rg} (h : Sub s t) (k : Sub t u) : Sub s u := fun i => ⟨Int.le_trans (k i).1 (h i).1, Int.le_trans (h i).2 (k i).2⟩
def okS (s : Nat → Rg) : Prop := ∀ i, 0 ≤ (s i).lo ∧ (s i).lo ≤ 1000000 ∧ 0 ≤ (s i).hi ∧ (s i).hi ≤ 1000000
/-- Narrowed, and no truth lost. -/
def Nar (n : Nat) (M : Nat → Mt) (s s' : Nat → Rg) : Prop := Sub s' s ∧ ∀ T, Truth n M s T → Truth n M s' T
theorem Nar.refl (n : Nat) (M : Nat → Mt) (s : Nat → Rg) : Nar n M s s := ⟨Sub.refl s, fun _ h => h⟩
theorem Nar.trans {n : Nat} {M : Nat → Mt} {s t u : Nat → Rg} (h : Nar n M s t) (k : Nar n M t u) : Nar n M s u := ⟨k.1.trans h.1, fun T hT => k.2 T (h.2 T hT)⟩

def fwd (M : Nat → Mt) (s : Nat → Rg) (k : Nat) : Rg := meet (s (k + 1)) (melted (M k) (s k))
def bwd (M : Nat → Mt) (s : Nat → Rg) (k : Nat) : Rg := meet (s k) ⟨need (M k) (s (k + 1)).lo false, need (M k) ((s (k + 1)).hi + 1) true - 1⟩
theorem meet_sub_upd (s : Nat → Rg) (k : Nat) (r : Rg) : Sub (upd s k (meet (s k) r)) s := fun i => by
  by_cases h : i = k
  · subst h; rw [upd_same]; simp only [meet]; omega
  · rw [upd_ne _ _ h]; omega
theorem melted_lo (m : Mt) (r : Rg) : (melted m r).lo = one m true r.lo := rfl
theorem melted_hi (m : Mt) (r : Rg) : (melted m r).hi = one m false r.hi := rfl
theorem fwd_nar {n k : Nat} {M : Nat → Mt} {s : Nat → Rg} (hk : k < n) (hM : okM (M k) = true) : Nar n M s (upd s (k + 1) (fwd M s k)) := by
  refine ⟨meet_sub_upd s (k + 1) _, fun T hT => ⟨fun i hi => ?_, hT.2⟩⟩
  by_cases h : i = k + 1
  · subst h
    rw [upd_same]
    have h1 := hT.1 (k + 1) hi
    have h2 := hT.1 k (by omega)
    have h3 := hT.2 k hk
    have h4 := one_mono hM true h2.1
    have h5 := one_mono hM false h2.2
    simp only [fwd, meet, melted_lo, melted_hi]
    omega
  · rw [upd_ne _ _ h]; exact hT.1 i hi
theorem bwd_nar {n k : Nat} {M : Nat → Mt} {s : Nat → Rg} (hk : k < n) (hM : okM (M k) = true) (hs : okS s) : Nar n M s (upd s k (bwd M s k)) := by
  refine ⟨meet_sub_upd s k _, fun T hT => ⟨fun i hi => ?_, hT.2⟩⟩
  by_cases h : i = k
  · subst h
    rw [upd_same]
    have h1 := hT.1 (i + 1) (by omega)
    have h2 := hT.1 i hi
    have h3 := hT.2 i hk
    have h4 := hs i
    have h5 := (need_iff hM (sure := false) (left := (s (i + 1)).lo) (x := T i) (by omega) (by omega)).1 (by omega)
    have h6 : ¬ need (M i) ((s (i + 1)).hi + 1) true ≤ T i := fun h => by
      have := (need_iff hM (sure := true) (left := (s (i + 1)).hi + 1) (x := T i) (by omega) (by omega)).2 h
      omega
    simp only [bwd, meet]
    omega
  · rw [upd_ne _ _ h]; exact hT.1 i hi
theorem no_truth {n k : Nat} {M : Nat → Mt} {s : Nat → Rg} (hk : k ≤ n) (h : (s k).hi < (s k).lo) (T : Nat → Int) : ¬ Truth n M s T := fun hT => by
  have := hT.1 k hk
  omega
theorem Nar.none {n : Nat} {M : Nat → Mt} {s s' : Nat → Rg} (h : Nar n M s s') (hn : ∀ T, ¬ Truth n M s' T) (T : Nat → Int) : ¬ Truth n M s T := fun hT => hn T (h.2 T hT)
theorem okS_upd {s : Nat → Rg} (h : okS s) {k : Nat} {r : Rg} (h1 : 0 ≤ r.lo) (h2 : r.lo ≤ r.hi) (h3 : r.hi ≤ 1000000) : okS (upd s k r) := fun i => by
  by_cases hi : i = k
  · subst hi; rw [upd_same]; omega
  · rw [upd_ne _ _ hi]; exact h i
theorem fwd_bd {M : Nat → Mt} {s : Nat → Rg} {k : Nat} (hM : okM (M k) = true) (hs : okS s) : 0 ≤ (fwd M s k).lo ∧ (fwd M s k).lo ≤ 1000000 ∧ 0 ≤ (fwd M s k).hi ∧ (fwd M s k).hi ≤ 1000000 := by
  have h1 := hs k
  have h2 := hs (k + 1)
  have h3 := one_bd hM true h1.1 h1.2.1
  have h4 := one_bd hM false h1.2.2.1 h1.2.2.2
  simp only [fwd, meet, melted_lo, melted_hi]
  omega
theorem bwd_bd {M : Nat → Mt} {s : Nat → Rg} {k : Nat} (hs : okS s) : 0 ≤ (bwd M s k).lo ∧ (bwd M s k).hi ≤ 1000000 := by
  have h1 := hs k
  simp only [bwd, meet]
  omega

/-- The first k melts leave what the scales behind them say, forwards. -/
def FwdC (M : Nat → Mt) (s : Nat → Rg) (k : Nat) : Prop := ∀ i, i < k → (melted (M i) (s i)).lo ≤ (s (i + 1)).lo ∧ (s (i + 1)).hi ≤ (melted (M i) (s i)).hi ∧ (s (i + 1)).lo ≤ (s (i + 1)).hi
/-- The melts from k on do, backwards. -/
def BwdC (n : Nat) (M : Nat → Mt) (s : Nat → Rg) (k : Nat) : Prop :=
  ∀ i, k ≤ i → i < n → need (M i) (s (i + 1)).lo false ≤ (s i).lo ∧ (s i).hi ≤ need (M i) ((s (i + 1)).hi + 1) true - 1 ∧ (s i).lo ≤ (s i).hi
theorem fwdC_upd {M : Nat → Mt} {s : Nat → Rg} {k : Nat} (h : FwdC M s k) (hne : (fwd M s k).lo ≤ (fwd M s k).hi) : FwdC M (upd s (k + 1) (fwd M s k)) (k + 1) := fun i hi => by
  by_cases h1 : i = k
  · subst h1
    rw [upd_same, upd_ne _ _ (by omega)]
    refine ⟨?_, ?_, hne⟩ <;> simp only [fwd, meet] <;> omega
  · rw [upd_ne _ _ (show i + 1 ≠ k + 1 by omega), upd_ne _ _ (show i ≠ k + 1 by omega)]
    exact h i (by omega)
theorem bwdC_upd {n : Nat} {M : Nat → Mt} {s : Nat → Rg} {k : Nat} (h : BwdC n M s (k + 1)) (hne : (bwd M s k).lo ≤ (bwd M s k).hi) : BwdC n M (upd s k (bwd M s k)) k := fun i h1 h2 => by
  by_cases h3 : i = k
  · subst h3
    rw [upd_same, upd_ne _ _ (show i + 1 ≠ i by omega)]
    refine ⟨?_, ?_, hne⟩ <;> simp only [bwd, meet] <;> omega
  · rw [upd_ne _ _ h3, upd_ne _ _ (show i + 1 ≠ k by omega)]
    exact h i (by omega) h2

/-- Nothing is left to narrow. -/
structure Settled (n : Nat) (M : Nat → Mt) (s s' : Nat → Rg) : Prop where
  nar : Nar n M s s'
  ok : okS s'
  fwd : FwdC M s' n
  bwd : BwdC n M s' 0
  first : (s' 0).lo ≤ (s' 0).hi
theorem Settled.ne {n : Nat} {M : Nat → Mt} {s s' : Nat → Rg} (h : Settled n M s s') {i : Nat} (hi : i ≤ n) : (s' i).lo ≤ (s' i).hi := by
  cases i with
  | zero => exact h.first
  | succ i => exact (h.fwd i (by omega)).2.2

/-- Of a weight y behind a melt some weight ahead of it is one that may leave it. -/
theorem back_wit {m : Mt} (hm : okM m = true) {r : Rg} (h0 : 0 ≤ r.lo) (h1 : r.lo ≤ r.hi) (h2 : r.hi ≤ 1000000) {y : Int} (hy1 : one m true r.lo ≤ y) (hy2 : y ≤ one m false r.hi) :
    ∃ x, r.lo ≤ x ∧ x ≤ r.hi ∧ one m true x ≤ y ∧ y ≤ one m false x := by
  by_cases hc : y ≤ one m false r.lo
  · exact ⟨r.lo, by omega, h1, hy1, hc⟩
  · have hb := need_bd hm (left := y) (sure := false)
    have hn1 := (need_iff hm (sure := false) (left := y) (x := r.hi) (by omega) h2).1 hy2
    have hn2 : ¬ need m y false ≤ r.lo := fun h => hc ((need_iff hm (sure := false) (by omega) (by omega)).2 h)
    refine ⟨need m y false, by omega, hn1, ?_, (need_iff hm (sure := false) (by omega) (by omega)).2 (Int.le_refl _)⟩
    -- one less leaves at most y - 1; of one more no more than one more is left
    have h3 : ¬ y ≤ one m false (need m y false - 1) := fun h => by
      have := (need_iff hm (sure := false) (x := need m y false - 1) (by omega) (by omega)).1 h
      omega
    obtain ⟨k1, k2, k3, k4, k5, k6⟩ := okM_t.1 hm
    generalize need m y false = x at *
    have e1 : x * m.keep.lo = (x - 1) * m.keep.lo + m.keep.lo := by rw [Int.sub_mul, Int.one_mul]; omega
    have e2 : (x - 1) * m.keep.lo ≤ (x - 1) * m.keep.hi := Int.mul_le_mul_of_nonneg_left k2 (by omega)
    simp only [one, if_true, Bool.false_eq_true, if_false] at *
    omega
/-- Of a weight x ahead of a melt some weight behind it is one that may be left. -/
theorem fore_wit {m : Mt} (hm : okM m = true) {r : Rg} {x : Int} (h0 : 0 ≤ x) (h2 : x ≤ 1000000) (hr : r.lo ≤ r.hi) (hx1 : need m r.lo false ≤ x) (hx2 : x ≤ need m (r.hi + 1) true - 1) :
    ∃ y, r.lo ≤ y ∧ y ≤ r.hi ∧ one m true x ≤ y ∧ y ≤ one m false x := by
  have h3 := (need_iff hm (sure := false) h0 h2).2 hx1
  have h4 : ¬ r.hi + 1 ≤ one m true x := fun h => by have := (need_iff hm (sure := true) h0 h2).1 h; omega
  obtain ⟨k1, k2, k3, k4, k5, k6⟩ := okM_t.1 hm
  have e2 : x * m.keep.lo ≤ x * m.keep.hi := Int.mul_le_mul_of_nonneg_left k2 h0
  have h5 : one m true x ≤ one m false x := by simp only [one, if_true, Bool.false_eq_true, if_false]; omega
  refine ⟨max r.lo (one m true x), ?_, ?_, ?_, ?_⟩ <;> omega

/-- What is left of each scale is in a truth. -/
theorem Settled.wit {n : Nat} {M : Nat → Mt} {s s' : Nat → Rg} (h : Settled n M s s') (hM : ∀ i, i < n → okM (M i) = true) {j : Nat} (hj : j ≤ n) {v : Int} (h1 : (s' j).lo ≤ v) (h2 : v ≤ (s' j).hi) :
    ∃ T, Truth n M s' T ∧ T j = v := by
  -- from j back to 0
  have hb : ∀ k, k ≤ j → ∃ T : Nat → Int, T j = v ∧ (∀ i, j - k ≤ i → i ≤ j → (s' i).lo ≤ T i ∧ T i ≤ (s' i).hi) ∧ ∀ i, j - k ≤ i → i < j → one (M i) true (T i) ≤ T (i + 1) ∧ T (i + 1) ≤ one (M i) false (T i) := by
    intro k
    induction k with
    | zero =>
      intro _
      refine ⟨fun _ => v, rfl, fun i a b => ?_, fun i a b => by omega⟩
      have : i = j := by omega
      subst this; exact ⟨h1, h2⟩
    | succ k ih =>
      intro hk
      obtain ⟨T, hv, hT1, hT2⟩ := ih (by omega)
      have hi := h.fwd (j - (k + 1)) (by omega)
      have hn := hT1 (j - k) (by omega) (by omega)
      have e : j - (k + 1) + 1 = j - k := by omega
      rw [e] at hi
      have ho := h.ok (j - (k + 1))
      obtain ⟨x, hx1, hx2, hx3, hx4⟩ := back_wit (hM (j - (k + 1)) (by omega)) (r := s' (j - (k + 1))) ho.1 (h.ne (by omega)) ho.2.2.2 (y := T (j - k)) (by have := hi.1; rw [melted_lo] at this; omega) (by have := hi.2.1; rw [melted_hi] at this; omega)
      refine ⟨fun i => if i = j - (k + 1) then x else T i, by dsimp only; rw [if_neg (by omega)]; exact hv, fun i a b => ?_, fun i a b => ?_⟩
      · by_cases hc : i = j - (k + 1)
        · dsimp only; rw [if_pos hc, hc]; exact ⟨hx1, hx2⟩
        · dsimp only; rw [if_neg hc]; exact hT1 i (by omega) b
      · by_cases hc : i = j - (k + 1)
        · dsimp only; rw [if_pos hc, if_neg (by omega), hc, e]; exact ⟨hx3, hx4⟩
        · dsimp only; rw [if_neg hc, if_neg (by omega)]; exact hT2 i (by omega) b
  -- from j on to n
  have hf : ∀ k, j + k ≤ n → ∃ T : Nat → Int, T j = v ∧ (∀ i, i ≤ j + k → (s' i).lo ≤ T i ∧ T i ≤ (s' i).hi) ∧ ∀ i, i < j + k → one (M i) true (T i) ≤ T (i + 1) ∧ T (i + 1) ≤ one (M i) false (T i) := by
    intro k
    induction k with
    | zero =>
      intro _
      obtain ⟨T, hv, hT1, hT2⟩ := hb j (Nat.le_refl _)
      exact ⟨T, hv, fun i a => hT1 i (by omega) (by omega), fun i a => hT2 i (by omega) (by omega)⟩
    | succ k ih =>
      intro hk
      obtain ⟨T, hv, hT1, hT2⟩ := ih (by omega)
      have hi := h.bwd (j + k) (by omega) (by omega)
      have hn := hT1 (j + k) (Nat.le_refl _)
      have ho := h.ok (j + k)
      obtain ⟨y, hy1, hy2, hy3, hy4⟩ := fore_wit (hM (j + k) (by omega)) (r := s' (j + k + 1)) (x := T (j + k)) (by omega) (by omega) (h.ne (by omega)) (by omega) (by omega)
      refine ⟨fun i => if i = j + k + 1 then y else T i, by dsimp only; rw [if_neg (by omega)]; exact hv, fun i a => ?_, fun i a => ?_⟩
      · by_cases hc : i = j + k + 1
        · dsimp only; rw [if_pos hc, hc]; exact ⟨hy1, hy2⟩
        · dsimp only; rw [if_neg hc]; exact hT1 i (by omega)
      · by_cases hc : i = j + k
        · dsimp only; rw [if_neg (by omega), if_pos (by omega), hc]; exact ⟨hy3, hy4⟩
        · dsimp only; rw [if_neg (by omega), if_neg (by omega)]; exact hT2 i (by omega)
  obtain ⟨T, hv, hT1, hT2⟩ := hf (n - j) (by omega)
  exact ⟨T, ⟨fun i hi => hT1 i (by omega), fun i hi => hT2 i (by omega)⟩, hv⟩

/-- How much is left to narrow. -/
def mu (s : Nat → Rg) : Nat := ((List.range 8).map fun i => ((s i).hi - (s i).lo + 1000001).toNat).sum
theorem sum_le {f g : Nat → Nat} : ∀ l : List Nat, (∀ i ∈ l, f i ≤ g i) → (l.map f).sum ≤ (l.map g).sum
  | [], _ => Nat.le_refl _
  | a :: l, h => by
    simp only [List.map_cons, List.sum_cons]
    have h1 := h a (by simp)
    have h2 := sum_le l (fun i hi => h i (by simp [hi]))
    omega
theorem sum_lt {f g : Nat → Nat} : ∀ l : List Nat, (∀ i ∈ l, f i ≤ g i) → (∃ i ∈ l, f i < g i) → (l.map f).sum < (l.map g).sum
  | [], _, ⟨i, hi, _⟩ => by simp at hi
  | a :: l, h, ⟨i, hi, hlt⟩ => by
    simp only [List.map_cons, List.sum_cons]
    have h1 := h a (by simp)
    have h2 := sum_le l (fun i hi => h i (by simp [hi]))
    rcases List.mem_cons.1 hi with rfl | hi
    · omega
    · have := sum_lt l (fun i hi => h i (by simp [hi])) ⟨i, hi, hlt⟩
      omega
theorem mu_lt {s t : Nat → Rg} (hs : okS s) (h : Sub s t) (hne : ∃ i, i < 8 ∧ s i ≠ t i) : mu s < mu t := by
  obtain ⟨i, hi, hn⟩ := hne
  refine sum_lt _ (fun j _ => by have := h j; have := hs j; omega) ⟨i, List.mem_range.2 hi, ?_⟩
  have h1 := h i
  have h2 := hs i
  have : ¬ ((s i).lo = (t i).lo ∧ (s i).hi = (t i).hi) := fun ⟨a, b⟩ => hn (Rg.eq_of a b)
  omega
end Go.Proofs.Ytdcglphekafpdaa
