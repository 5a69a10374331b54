/- Texts of the proof, laid together by program. -/
import Derived.Test.YtpgdfipikfbjeaaMa
import Derived.Test.YtpgdfipikfbjeaaProg
import Derived.Deep.QuietTactic
import Derived.BigQuiet
import Derived.LoopTactic
import Derived.Laws.AppendOwnNone
set_option linter.unusedSimpArgs false
set_option linter.unusedVariables false
/- Walks: ranges of numbers. -/
namespace Go.Proofs.Ytpgdfipikfbjeaa
open Go.RowKit
def inR (lo hi x : Int) : Bool := decide (lo ≤ x ∧ x ≤ hi)
theorem inR_t {lo hi x : Int} : inR lo hi x = true ↔ lo ≤ x ∧ x ≤ hi := by simp [inR]
theorem inR_f {lo hi x : Int} : inR lo hi x = false ↔ x < lo ∨ hi < x := by simp [inR]; omega
theorem all_take_succ {α : Type} {p : α → Bool} {l : List α} {k : Nat} {x : α} (h : (l.take k).all p = true) (hx : l[k]? = some x) (hp : p x = true) : (l.take (k + 1)).all p = true := by
  rw [List.take_add_one, hx, List.all_append, h]
  simp [hp]
set_option maxHeartbeats 400000 in
theorem wclo_any (x lo hi : Int) (b1 b2 : Nat) (w : World) (c1 : w.cell? ⟨b1, 0, none⟩ = some (.int .i64 lo)) (c2 : w.cell? ⟨b2, 0, none⟩ = some (.int .i64 hi)) :
    Calls Try.prog 103 #[.int .i64 x, .pointer (some ⟨b1, 0, none⟩), .pointer (some ⟨b2, 0, none⟩)] w fun e w' => e = .returned (.bool (!inR lo hi x)) ∧ w = w' := by
  have e : Hid (inR lo hi x = decide (lo ≤ x ∧ x ≤ hi)) := rfl
  by_cases h1 : x < lo <;> by_cases h2 : hi < x
  all_goals
    go_enter Try.func103, Try.ntmps103
    go_wp2
    go_ret
    refine ⟨?_, rfl⟩
    rw [e.out]
    first | (rw [decide_eq_true (by omega)]; rfl) | (rw [decide_eq_false (by omega)]; rfl)

/-- An index that is below 0 just if all are good. -/
def IdxPost (good : Bool) (B : Nat) (w : World) (e : Ending) (w' : World) : Prop := ∃ z : Int, e = .returned (.int .i64 z) ∧ (0 ≤ z ↔ good = false) ∧ Below B w w'

theorem all_false {α : Type} {p : α → Bool} {l : List α} {k : Nat} {x : α} (hx : l[k]? = some x) (hp : p x = false) : l.all p = false := by
  cases h : l.all p
  · rfl
  · have := List.all_eq_true.1 h x (List.mem_of_getElem? hx)
    rw [hp] at this; cases this

set_option maxHeartbeats 400000 in
theorem idxI_any (A : Option Addr) (n c : Nat) (l : List Int) (lo hi : Int) (b1 b2 : Nat) (w : World) (hl : InS w w.heap.size A n l) (hn : n ≤ 100) (c1 : w.cell? ⟨b1, 0, none⟩ = some (.int .i64 lo)) (c2 : w.cell? ⟨b2, 0, none⟩ = some (.int .i64 hi)) :
    Calls Try.prog 108 #[.slice A n c, .func (.func 103) #[] #[.pointer (some ⟨b1, 0, none⟩), .pointer (some ⟨b2, 0, none⟩)]] w (IdxPost (l.all (inR lo hi)) w.heap.size w) := by
  have hlen := hid hl.len
  go_enter Try.func108, Try.ntmps108
  go_wp2
  go_loop [8] (fun i => ∃ k : Nat, k ≤ n ∧ i = .int .i64 k ∧ Hid ((l.take k).all (inR lo hi) = true)) (fun i => n - (intOf i).toNat)
  case atStart => exact ⟨0, by omega, rfl, rfl⟩
  case round =>
    obtain ⟨k, hk, rfl, hall⟩ := hrel
    by_cases hlt : k < n
    · obtain ⟨b, off, x, rfl, hb, hm, c0⟩ := hl.at_ hlt
      have Hm := hid hm
      clear hm
      cases hx : inR lo hi x
      · go_wp2_with (first | (go_at_call 103; refine (wclo_any x lo hi b1 b2 _ c1 c2).mono ?_; rw [hx]; rintro e w1 ⟨rfl, rfl⟩))
        go_ret
        exact ⟨k, rfl, by simp [all_false Hm.out hx], Below.refl _ _⟩
      · go_wp2_with (first | (go_at_call 103; refine (wclo_any x lo hi b1 b2 _ c1 c2).mono ?_; rw [hx]; rintro e w1 ⟨rfl, rfl⟩))
        exact ⟨⟨k + 1, by omega, by go_num, all_take_succ hall.out Hm.out hx⟩, by simp [intOf]; omega⟩
    · have hfin : Hid (l.all (inR lo hi) = true) := by have := hall.out; rwa [List.take_of_length_le (by rw [hlen.out]; omega)] at this
      go_wp2
      go_ret
      exact ⟨-1, rfl, by simp [hfin.out], Below.refl _ _⟩

theorem idx_t {good : Bool} {z : Int} (h : 0 ≤ z ↔ good = false) (hg : good = true) : z < 0 := by subst hg; simp at h; exact h
theorem idx_f {good : Bool} {z : Int} (h : 0 ≤ z ↔ good = false) (hg : good = false) : 0 ≤ z := h.2 hg
set_option maxHeartbeats 400000 in
theorem containsI_any (A : Option Addr) (n c : Nat) (l : List Int) (lo hi : Int) (b1 b2 : Nat) (w : World) (hl : InS w w.heap.size A n l) (hn : n ≤ 100) (c1 : w.cell? ⟨b1, 0, none⟩ = some (.int .i64 lo)) (c2 : w.cell? ⟨b2, 0, none⟩ = some (.int .i64 hi)) :
    Calls Try.prog 102 #[.slice A n c, .func (.func 103) #[] #[.pointer (some ⟨b1, 0, none⟩), .pointer (some ⟨b2, 0, none⟩)]] w fun e w' => e = .returned (.bool (!(l.all (inR lo hi)))) ∧ Below w.heap.size w w' := by
  cases hg : (l.all (inR lo hi))
  · have Hg := hid hg
    clear hg
    go_enter Try.func102, Try.ntmps102
    go_wp2_with (first | (go_at_call 108; refine (idxI_any A n c l lo hi b1 b2 _ hl hn c1 c2).mono ?_; rintro e w1 ⟨z, rfl, hz, hb1⟩; have hz2 := idx_f hz Hg.out; clear hz))
    go_ret
    exact ⟨by first | rfl | (simp; done) | simp [hz2], hb1⟩
  · have Hg := hid hg
    clear hg
    go_enter Try.func102, Try.ntmps102
    go_wp2_with (first | (go_at_call 108; refine (idxI_any A n c l lo hi b1 b2 _ hl hn c1 c2).mono ?_; rintro e w1 ⟨z, rfl, hz, hb1⟩; have hz2 := idx_t hz Hg.out; clear hz))
    go_ret
    exact ⟨by first | rfl | (simp; done) | simp [hz2], hb1⟩

set_option maxHeartbeats 400000 in
theorem within_any (A : Option Addr) (n c : Nat) (l : List Int) (lo hi : Int) (w : World) (hl : InS w w.heap.size A n l) (hn : n ≤ 100) :
    Calls Try.prog 90 #[.int .i64 lo, .int .i64 hi, .slice A n c] w fun e w' => e = .returned (.bool (l.all (inR lo hi))) ∧ Below w.heap.size w w' := by
  cases hg : l.all (inR lo hi)
  all_goals
    go_enter Try.func90, Try.ntmps90
    go_wp2_with (first | (go_at_call 102; refine (containsI_any A n c l lo hi _ _ _ (hl.below (by repeat' (first | with_reducible assumption | with_reducible exact Below.refl _ _ | refine Below.alloc ?_ ?_ _ | refine Below.setCell ?_ ?_ _ | refine Below.drew ?_ | refine below_drewN ?_ _ | (simp; done) | (simp; omega) | omega)) (by first | (simp; done) | (simp; omega) | omega)) hn (by go_simp) (by go_simp)).mono ?_; rw [hg]; rintro e w1 ⟨rfl, hb1⟩))
    go_ret
    exact ⟨rfl, Below.trans (by repeat' (first | with_reducible assumption | with_reducible exact Below.refl _ _ | refine Below.alloc ?_ ?_ _ | refine Below.setCell ?_ ?_ _ | refine Below.drew ?_ | refine below_drewN ?_ _ | (simp; done) | (simp; omega) | omega)) (hb1.mono (by first | (simp; done) | (simp; omega) | omega))⟩

theorem inS_lit1 {w : World} {g B : Nat} (x : Int) (hg : w.heap.size = g) (hB : g < B) : InS (w.alloc (.cells #[.int .i64 x] 3)) B (some ⟨g, 0, none⟩) 1 [x] := by
  refine ⟨rfl, fun hn => ⟨g, 0, rfl, hB, fun j u hu => ?_⟩⟩
  rw [(Blk.new' hg).cell, Nat.zero_add]
  simpa [cI] using hu
theorem inS_lit2 {w : World} {g B : Nat} (x y : Int) (hg : w.heap.size = g) (hB : g < B) : InS (w.alloc (.cells #[.int .i64 x, .int .i64 y] 3)) B (some ⟨g, 0, none⟩) 2 [x, y] := by
  refine ⟨rfl, fun hn => ⟨g, 0, rfl, hB, fun j u hu => ?_⟩⟩
  rw [(Blk.new' hg).cell, Nat.zero_add]
  simpa [cI] using hu

end Go.Proofs.Ytpgdfipikfbjeaa
/- Walks: lists of numbers: equal, has, meets. -/
namespace Go.Proofs.Ytpgdfipikfbjeaa
open Go.RowKit
attribute [local go_sem] Oper.semAt_some
theorem take_eq_succ {α : Type} {a b : List α} {k : Nat} {x : α} (h : a.take k = b.take k) (ha : a[k]? = some x) (hb : b[k]? = some x) : a.take (k + 1) = b.take (k + 1) := by
  rw [List.take_add_one, List.take_add_one, h, ha, hb]
theorem ne_of_at {α : Type} {a b : List α} {k : Nat} {x y : α} (ha : a[k]? = some x) (hb : b[k]? = some y) (h : x ≠ y) : a ≠ b := fun e => by
  rw [e, hb] at ha; exact h (Option.some.inj ha).symm
def eqI (a b : List Int) : Bool := decide (a = b)
theorem eqI_t {a b : List Int} : eqI a b = true ↔ a = b := by simp [eqI]
set_option maxRecDepth 10000 in
set_option maxHeartbeats 800000 in
theorem same_any (w : World) (A B : Option Addr) (n c m d : Nat) (a b : List Int) (ha : InS w w.heap.size A n a) (hb : InS w w.heap.size B m b) (hn : n ≤ 1000000) :
    Calls Try.prog 69 #[.slice A n c, .slice B m d] w fun e w' => e = .returned (.bool (eqI a b)) ∧ Below w.heap.size w w' := by
  have la := hid ha.len
  have lb := hid hb.len
  by_cases hnm : n = m
  · subst hnm
    have t0 : ((n : Int) != (n : Int)) = false := by simp
    go_enter Try.func69, Try.ntmps69
    go_wp2
    go_loopw [5] (fun i wr => ∃ k : Nat, k ≤ n ∧ i = .int .i64 k ∧ Hid (a.take k = b.take k) ∧ Below w.heap.size w wr) (fun i _ => n - (intOf i).toNat)
    case atStart => exact ⟨0, by omega, rfl, by simp [Hid], Below.refl _ _⟩
    case round =>
      obtain ⟨k, hk, rfl, heq, hbel⟩ := hrel
      have hsz := hbel.size
      by_cases hlt : k < n
      · obtain ⟨b1, o1, x, rfl, hb1, hx, c1⟩ := (ha.below hbel (Nat.le_refl _)).at_ hlt
        obtain ⟨b2, o2, y, rfl, hb2, hy, d1⟩ := (hb.below hbel (Nat.le_refl _)).at_ hlt
        have HX := hid hx
        have HY := hid hy
        have hlti : (k : Int) < n := by omega
        have hk0 : (0 : Int) ≤ k := by omega
        clear hx hy
        by_cases hxy : x = y
        · subst hxy
          have t1 : (x != x) = false := by simp
          go_wp2
          go_quiet (fail)
          go_wp2
          exact ⟨⟨k + 1, by omega, by go_num, take_eq_succ heq.out HX.out HY.out, below_drewN hbel _⟩, by simp [intOf]; omega⟩
        · have t1 : (x != y) = true := by simpa using hxy
          have hfin : Hid (eqI a b = false) := hid (by cases h : eqI a b; exact rfl; exact absurd (eqI_t.1 h) (ne_of_at HX.out HY.out hxy))
          clear hxy
          go_wp2
          go_quiet (fail)
          go_wp2
          go_ret
          exact ⟨by rw [hfin.out]; rfl, below_drewN hbel _⟩
      · obtain rfl : k = n := by omega
        have hfin : Hid (eqI a b = true) := hid (eqI_t.2 (by have := heq.out; rwa [List.take_of_length_le (by rw [la.out]; omega), List.take_of_length_le (by rw [lb.out]; omega)] at this))
        go_wp2
        go_ret
        exact ⟨by rw [hfin.out]; rfl, hbel⟩
  · have t0 : ((n : Int) != (m : Int)) = true := by simp; omega
    have hfin : Hid (eqI a b = false) := hid (by cases h : eqI a b; exact rfl; exact absurd (eqI_t.1 h) (fun e => hnm (by rw [← la.out, ← lb.out, e])))
    clear hnm
    go_enter Try.func69, Try.ntmps69
    go_wp2
    go_ret
    exact ⟨by rw [hfin.out]; rfl, Below.refl _ _⟩
set_option maxRecDepth 10000 in
set_option maxHeartbeats 800000 in
theorem equal_any (w : World) (A B : Option Addr) (n c m d : Nat) (a b : List Int) (ha : InS w w.heap.size A n a) (hb : InS w w.heap.size B m b) (hn : n ≤ 1000000) :
    Calls Try.prog 68 #[.slice A n c, .slice B m d] w fun e w' => e = .returned (.bool (eqI a b)) ∧ Below w.heap.size w w' := by
  have la := hid ha.len
  have lb := hid hb.len
  by_cases hnm : n = m
  · subst hnm
    have t0 : ((n : Int) != (n : Int)) = false := by simp
    go_enter Try.func68, Try.ntmps68
    go_wp2
    go_loopw [13] (fun i wr => ∃ k : Nat, k ≤ n ∧ i = .int .i64 k ∧ Hid (a.take k = b.take k) ∧ Below w.heap.size w wr) (fun i _ => n - (intOf i).toNat)
    case atStart => exact ⟨0, by omega, rfl, by simp [Hid], Below.refl _ _⟩
    case round =>
      obtain ⟨k, hk, rfl, heq, hbel⟩ := hrel
      have hsz := hbel.size
      by_cases hlt : k < n
      · obtain ⟨b1, o1, x, rfl, hb1, hx, c1⟩ := (ha.below hbel (Nat.le_refl _)).at_ hlt
        obtain ⟨b2, o2, y, rfl, hb2, hy, d1⟩ := (hb.below hbel (Nat.le_refl _)).at_ hlt
        have HX := hid hx
        have HY := hid hy
        have hlti : (k : Int) < n := by omega
        have hk0 : (0 : Int) ≤ k := by omega
        clear hx hy
        by_cases hxy : x = y
        · subst hxy
          have t1 : (x != x) = false := by simp
          go_wp2
          go_quiet (fail)
          go_wp2
          exact ⟨⟨k + 1, by omega, by go_num, take_eq_succ heq.out HX.out HY.out, below_drewN hbel _⟩, by simp [intOf]; omega⟩
        · have t1 : (x != y) = true := by simpa using hxy
          have hfin : Hid (eqI a b = false) := hid (by cases h : eqI a b; exact rfl; exact absurd (eqI_t.1 h) (ne_of_at HX.out HY.out hxy))
          clear hxy
          go_wp2
          go_quiet (fail)
          go_wp2
          go_ret
          exact ⟨by rw [hfin.out]; rfl, below_drewN hbel _⟩
      · obtain rfl : k = n := by omega
        have hfin : Hid (eqI a b = true) := hid (eqI_t.2 (by have := heq.out; rwa [List.take_of_length_le (by rw [la.out]; omega), List.take_of_length_le (by rw [lb.out]; omega)] at this))
        go_wp2
        go_ret
        exact ⟨by rw [hfin.out]; rfl, hbel⟩
  · have t0 : ((n : Int) != (m : Int)) = true := by simp; omega
    have hfin : Hid (eqI a b = false) := hid (by cases h : eqI a b; exact rfl; exact absurd (eqI_t.1 h) (fun e => hnm (by rw [← la.out, ← lb.out, e])))
    clear hnm
    go_enter Try.func68, Try.ntmps68
    go_wp2
    go_ret
    exact ⟨by rw [hfin.out]; rfl, Below.refl _ _⟩
theorem ints_any (w : World) (A B : Option Addr) (n c m d : Nat) (a b : List Int) (ha : InS w w.heap.size A n a) (hb : InS w w.heap.size B m b) (hn : n ≤ 1000000) :
    Calls Try.prog 24 #[.slice A n c, .slice B m d] w fun e w' => e = .returned (.bool (eqI a b)) ∧ Below w.heap.size w w' := by
  obtain ⟨bv, hbv⟩ : ∃ bv, eqI a b = bv := ⟨_, rfl⟩
  have Hbv := hid hbv
  rw [hbv]
  clear hbv
  go_enter Try.func24, Try.ntmps24
  go_wp2_with (first | (go_at_call 69; refine (same_any _ A B n c m d a b ha hb hn).mono ?_; rw [Hbv.out]; rintro e w1 ⟨rfl, hb1⟩))
  refine bodyPost_ret (v := .bool bv) (by first | (simp [results, Try.results24, go_sem]; done) | (simp [results, Try.results24, go_sem, *]; done) | (simp [results, Try.results24, go_sem, World.cell?_setCell_same', *]; done) | (simp [results, Try.results24, go_sem]; first | exact ⟨rfl, rfl⟩ | rfl)) rfl ⟨rfl, hb1⟩
theorem great_any (A : Option Addr) (n c : Nat) (w : World) : Calls Try.prog 16 #[.slice A n c] w fun e w' => e = .returned (.bool (decide (12 < n))) ∧ Below w.heap.size w w' := by
  go_enter Try.func16, Try.ntmps16
  go_wp2
  go_ret
  exact ⟨by simp; omega, Below.refl _ _⟩
theorem has_at {l : List Int} {k : Nat} {x : Int} (h : l[k]? = some x) : has l x = true := by
  unfold has
  exact List.any_eq_true.2 ⟨x, List.mem_of_getElem? h, by simp⟩
theorem has_no {l : List Int} {v : Int} (h : (l.take l.length).any (· == v) = false) : has l v = false := by rwa [List.take_length] at h
theorem any_succ {l : List Int} {k : Nat} {x v : Int} (h : (l.take k).any (· == v) = false) (hx : l[k]? = some x) (hne : x ≠ v) : (l.take (k + 1)).any (· == v) = false := by
  rw [List.take_add_one, hx, List.any_append, h]
  simp [hne]
set_option maxHeartbeats 800000 in
theorem has_any (A : Option Addr) (n c : Nat) (l : List Int) (v : Int) (w : World) (hl : InS w w.heap.size A n l) (hn : n ≤ 1000000) :
    Calls Try.prog 43 #[.slice A n c, .int .i64 v] w fun e w' => e = .returned (.bool (has l v)) ∧ w = w' := by
  have hlen := hid hl.len
  go_enter Try.func43, Try.ntmps43
  go_wp2
  go_loopw [5] (fun i wr => ∃ k : Nat, k ≤ n ∧ i = .int .i64 k ∧ Hid ((l.take k).any (· == v) = false) ∧ w = wr) (fun i _ => n - (intOf i).toNat)
  case atStart => exact ⟨0, by omega, rfl, hid (by simp), rfl⟩
  case round =>
    obtain ⟨k, hk, rfl, hno, rfl⟩ := hrel
    by_cases hlt : k < n
    · obtain ⟨b, off, x, rfl, hb, hm, c0⟩ := hl.at_ hlt
      have Hm := hid hm
      have hlti : (k : Int) < n := by omega
      clear hm
      by_cases hx : x = v
      · subst hx
        have hf := hid (has_at Hm.out)
        go_wp2
        refine bodyPost_ret (v := .bool true) (by first | (simp [results, Try.results43, go_sem]; done) | (simp [results, Try.results43, go_sem, *]; done) | (simp [results, Try.results43, go_sem, World.cell?_setCell_same', *]; done) | (simp [results, Try.results43, go_sem]; first | exact ⟨rfl, rfl⟩ | rfl)) rfl ⟨by rw [hf.out], rfl⟩
      · have dx : (x == v) = false := by simpa using hx
        have hs := hid (any_succ hno.out Hm.out hx)
        clear hx
        go_wp2
        exact ⟨⟨k + 1, by omega, by go_num, hs, trivial⟩, by simp [intOf]; omega⟩
    · obtain rfl : k = n := by omega
      have hf := hid (has_no (by rw [hlen.out]; exact hno.out) : has l v = false)
      go_wp2
      refine bodyPost_ret (v := .bool false) (by first | (simp [results, Try.results43, go_sem]; done) | (simp [results, Try.results43, go_sem, *]; done) | (simp [results, Try.results43, go_sem, World.cell?_setCell_same', *]; done) | (simp [results, Try.results43, go_sem]; first | exact ⟨rfl, rfl⟩ | rfl)) rfl ⟨by rw [hf.out], rfl⟩
set_option maxHeartbeats 800000 in
theorem index_any (A : Option Addr) (n c : Nat) (l : List Int) (v : Int) (w : World) (hl : InS w w.heap.size A n l) (hn : n ≤ 1000000) :
    Calls Try.prog 96 #[.slice A n c, .int .i64 v] w fun e w' => ∃ z : Int, e = .returned (.int .i64 z) ∧ (decide (0 ≤ z) = has l v) ∧ w = w' := by
  have hlen := hid hl.len
  go_enter Try.func96, Try.ntmps96
  go_wp2
  go_loopw [8] (fun i wr => ∃ k : Nat, k ≤ n ∧ i = .int .i64 k ∧ Hid ((l.take k).any (· == v) = false) ∧ w = wr) (fun i _ => n - (intOf i).toNat)
  case atStart => exact ⟨0, by omega, rfl, hid (by simp), rfl⟩
  case round =>
    obtain ⟨k, hk, rfl, hno, rfl⟩ := hrel
    by_cases hlt : k < n
    · obtain ⟨b, off, x, rfl, hb, hm, c0⟩ := hl.at_ hlt
      have Hm := hid hm
      have hlti : (k : Int) < n := by omega
      clear hm
      by_cases hx : x = v
      · subst hx
        have hf := hid (has_at Hm.out)
        go_wp2
        refine bodyPost_ret (v := .int .i64 k) (by first | (simp [results, Try.results96, go_sem]; done) | (simp [results, Try.results96, go_sem, *]; done) | (simp [results, Try.results96, go_sem, World.cell?_setCell_same', *]; done) | (simp [results, Try.results96, go_sem]; first | exact ⟨rfl, rfl⟩ | rfl)) rfl ⟨k, rfl, by rw [hf.out]; simp, rfl⟩
      · have dx : (v == x) = false := by simpa using fun e : v = x => hx e.symm
        have hs := hid (any_succ hno.out Hm.out hx)
        clear hx
        go_wp2
        exact ⟨⟨k + 1, by omega, by go_num, hs, trivial⟩, by simp [intOf]; omega⟩
    · obtain rfl : k = n := by omega
      have hf := hid (has_no (by rw [hlen.out]; exact hno.out) : has l v = false)
      go_wp2
      refine bodyPost_ret (v := .int .i64 (-1)) (by first | (simp [results, Try.results96, go_sem]; done) | (simp [results, Try.results96, go_sem, *]; done) | (simp [results, Try.results96, go_sem, World.cell?_setCell_same', *]; done) | (simp [results, Try.results96, go_sem]; first | exact ⟨rfl, rfl⟩ | rfl)) rfl ⟨-1, rfl, by rw [hf.out]; simp, rfl⟩
theorem contains_any (A : Option Addr) (n c : Nat) (l : List Int) (v : Int) (w : World) (hl : InS w w.heap.size A n l) (hn : n ≤ 1000000) :
    Calls Try.prog 73 #[.slice A n c, .int .i64 v] w fun e w' => e = .returned (.bool (has l v)) ∧ w = w' := by
  obtain ⟨bv, hbv⟩ : ∃ bv, has l v = bv := ⟨_, rfl⟩
  have Hbv := hid hbv
  rw [hbv]
  clear hbv
  go_enter Try.func73, Try.ntmps73
  go_wp2_with (first | (go_at_call 96; refine (index_any A n c l v _ hl hn).mono ?_; rw [Hbv.out]; rintro e w1 ⟨z, rfl, hz, rfl⟩))
  refine bodyPost_ret (v := .bool bv) (by first | (simp [results, Try.results73, go_sem]; done) | (simp [results, Try.results73, go_sem, *]; done) | (simp [results, Try.results73, go_sem, World.cell?_setCell_same', *]; done) | (simp [results, Try.results73, go_sem]; first | exact ⟨rfl, rfl⟩ | rfl)) rfl ⟨rfl, rfl⟩
theorem meet_at {a b : List Int} {k : Nat} {x : Int} (h : a[k]? = some x) (hx : has b x = true) : meet a b = true := List.any_eq_true.2 ⟨x, List.mem_of_getElem? h, hx⟩
theorem anyB_succ {a b : List Int} {k : Nat} {x : Int} (h : (a.take k).any (has b) = false) (hx : a[k]? = some x) (hne : has b x = false) : (a.take (k + 1)).any (has b) = false := by
  rw [List.take_add_one, hx, List.any_append, h]
  simp [hne]
set_option maxHeartbeats 800000 in
theorem meet_any (A B : Option Addr) (n c m d : Nat) (a b : List Int) (w : World) (ha : InS w w.heap.size A n a) (hb : InS w w.heap.size B m b) (hn : n ≤ 1000000) (hm1 : m ≤ 1000000) :
    Calls Try.prog 85 #[.slice A n c, .slice B m d] w fun e w' => e = .returned (.bool (meet a b)) ∧ w = w' := by
  have hlen := hid ha.len
  go_enter Try.func85, Try.ntmps85
  go_wp2
  go_loopw [5] (fun i wr => ∃ k : Nat, k ≤ n ∧ i = .int .i64 k ∧ Hid ((a.take k).any (has b) = false) ∧ w = wr) (fun i _ => n - (intOf i).toNat)
  case atStart => exact ⟨0, by omega, rfl, hid (by simp), rfl⟩
  case round =>
    obtain ⟨k, hk, rfl, hno, rfl⟩ := hrel
    by_cases hlt : k < n
    · obtain ⟨b1, off, x, rfl, hb1, hm, c0⟩ := ha.at_ hlt
      have Hm := hid hm
      have hlti : (k : Int) < n := by omega
      clear hm
      cases hx : has b x
      · have hs := hid (anyB_succ hno.out Hm.out hx)
        have Hx := hid hx
        clear hx
        go_wp2_with (first | (go_at_call 43; refine (has_any B m d b x _ hb hm1).mono ?_; rw [Hx.out]; rintro e w1 ⟨rfl, rfl⟩))
        exact ⟨⟨k + 1, by omega, by go_num, hs, trivial⟩, by simp [intOf]; omega⟩
      · have hf := hid (meet_at Hm.out hx)
        have Hx := hid hx
        clear hx
        go_wp2_with (first | (go_at_call 43; refine (has_any B m d b x _ hb hm1).mono ?_; rw [Hx.out]; rintro e w1 ⟨rfl, rfl⟩))
        refine bodyPost_ret (v := .bool true) (by first | (simp [results, Try.results85, go_sem]; done) | (simp [results, Try.results85, go_sem, *]; done) | (simp [results, Try.results85, go_sem, World.cell?_setCell_same', *]; done) | (simp [results, Try.results85, go_sem]; first | exact ⟨rfl, rfl⟩ | rfl)) rfl ⟨by rw [hf.out], rfl⟩
    · obtain rfl : k = n := by omega
      have hf : Hid (meet a b = false) := hid (by have := hno.out; rwa [List.take_of_length_le (by rw [hlen.out]; exact Nat.le_refl _)] at this)
      go_wp2
      refine bodyPost_ret (v := .bool false) (by first | (simp [results, Try.results85, go_sem]; done) | (simp [results, Try.results85, go_sem, *]; done) | (simp [results, Try.results85, go_sem, World.cell?_setCell_same', *]; done) | (simp [results, Try.results85, go_sem]; first | exact ⟨rfl, rfl⟩ | rfl)) rfl ⟨by rw [hf.out], rfl⟩
end Go.Proofs.Ytpgdfipikfbjeaa
/- Walks: rising lists, whether a book is valid. -/
namespace Go.Proofs.Ytpgdfipikfbjeaa
open Go.RowKit
attribute [local go_sem] Oper.semAt_some
theorem all_one {x lo hi : Int} : ([x].all (inR lo hi)) = inR lo hi x := by simp
theorem lastL_bd {below : Int} {l : List Int} {k : Nat} (h : isL below 0 (l.take k) = true) : -1 ≤ lastL (l.take k) ∧ (lastL (l.take k) < below ∨ lastL (l.take k) = -1) := by
  unfold lastL
  rw [List.getLastD_eq_getLast?]
  cases hl : (l.take k).getLast? with
  | none => simp
  | some x =>
    have := isL_bd h x (List.mem_of_getLast? hl)
    simp; omega
set_option maxRecDepth 10000 in
set_option maxHeartbeats 800000 in
theorem rising_any (A : Option Addr) (n c : Nat) (l : List Int) (P : Int) (w : World) (hl : InS w w.heap.size A n l) (hn : n ≤ 1000000) (h1 : 1 ≤ P) (h8 : P ≤ 8) :
    Calls Try.prog 86 #[.slice A n c, .int .i64 P] w fun e w' => e = .returned (.bool (isL P 0 l)) ∧ Below w.heap.size w w' := by
  have hlen := hid hl.len
  have HL := hid hl
  have zP : IntKind.i64.wrap (P - 1) = P - 1 := IntWalk.i64_in _ (by omega)
  clear hl
  go_enter Try.func86, Try.ntmps86
  go_wp2
  go_loopw [5, 10] (fun nx i wr => ∃ k : Nat, k ≤ n ∧ i = .int .i64 k ∧ Hid (isL P 0 (l.take k) = true) ∧ nx = .int .i64 (lastL (l.take k) + 1) ∧ Below w.heap.size w wr) (fun _ i _ => n - (intOf i).toNat)
  case atStart => exact ⟨0, by omega, rfl, hid rfl, rfl, Below.refl _ _⟩
  case round =>
    obtain ⟨k, hk, rfl, hok, rfl, hbw⟩ := hrel
    have hszw := hbw.size
    by_cases hlt : k < n
    · obtain ⟨b, off, x, rfl, hb, hm, c0⟩ := (HL.out.below hbw (Nat.le_refl _)).at_ hlt
      have hlti : (k : Int) < n := by omega
      have hit := isL_take (below := P) hm
      rw [hok.out, Bool.true_and] at hit
      have hla := lastL_take hm
      have hbd := lastL_bd hok.out
      obtain ⟨y, hy⟩ : ∃ y, lastL (l.take k) + 1 = y := ⟨_, rfl⟩
      rw [hy] at hit ⊢
      have hir : inR y (P - 1) x = decide (y ≤ x ∧ x < P) := by unfold inR; rw [Bool.eq_iff_iff, decide_eq_true_eq, decide_eq_true_eq]; omega
      have Hla := hid hla
      cases hx : inR y (P - 1) x
      · have hf := hid (isL_off (hit.trans (hir.symm.trans hx)))
        have Hx := hid ((all_one (x := x) (lo := y) (hi := P - 1)).trans hx)
        clear hm hit hla hbd hir hx hy
        go_wp2_with (first | (go_at_call 90; refine (within_any _ 1 1 [x] y (P - 1) _ (inS_lit1 x rfl (by first | (simp; done) | (simp; omega) | omega)) (by omega)).mono ?_; rw [Hx.out]; rintro e w1 ⟨rfl, hb1⟩; have hbel : Below w.heap.size w w1 := Below.trans (by repeat' (first | with_reducible assumption | with_reducible exact Below.refl _ _ | refine Below.alloc ?_ ?_ _ | refine Below.setCell ?_ ?_ _ | refine Below.drew ?_ | refine below_drewN ?_ _ | (simp; done) | (simp; omega) | omega)) (hb1.mono (by first | (simp; done) | (simp; omega) | omega))))
        refine bodyPost_ret (v := .bool false) (by first | (simp [results, Try.results86, go_sem]; done) | (simp [results, Try.results86, go_sem, *]; done) | (simp [results, Try.results86, go_sem, World.cell?_setCell_same', *]; done) | (simp [results, Try.results86, go_sem]; first | exact ⟨rfl, rfl⟩ | rfl)) rfl ⟨by rw [hf.out], hbel⟩
      · have hf := hid (hit.trans (hir.symm.trans hx))
        have hxb := inR_t.1 hx
        have zx : IntKind.i64.wrap (x + 1) = x + 1 := IntWalk.i64_in _ (by omega)
        have Hx := hid ((all_one (x := x) (lo := y) (hi := P - 1)).trans hx)
        clear hm hit hla hir hx hy hbd
        go_wp2_with (first | (go_at_call 90; refine (within_any _ 1 1 [x] y (P - 1) _ (inS_lit1 x rfl (by first | (simp; done) | (simp; omega) | omega)) (by omega)).mono ?_; rw [Hx.out]; rintro e w1 ⟨rfl, hb1⟩; have hbel : Below w.heap.size w w1 := Below.trans (by repeat' (first | with_reducible assumption | with_reducible exact Below.refl _ _ | refine Below.alloc ?_ ?_ _ | refine Below.setCell ?_ ?_ _ | refine Below.drew ?_ | refine below_drewN ?_ _ | (simp; done) | (simp; omega) | omega)) (hb1.mono (by first | (simp; done) | (simp; omega) | omega))))
        exact ⟨⟨k + 1, by omega, by go_num, hf, by rw [Hla.out], hbel⟩, by simp [intOf]; omega⟩
    · obtain rfl : k = n := by omega
      have hf : Hid (isL P 0 l = true) := hid (by have := hok.out; rwa [List.take_of_length_le (by rw [hlen.out]; exact Nat.le_refl _)] at this)
      go_wp2
      refine bodyPost_ret (v := .bool true) (by first | (simp [results, Try.results86, go_sem]; done) | (simp [results, Try.results86, go_sem, *]; done) | (simp [results, Try.results86, go_sem, World.cell?_setCell_same', *]; done) | (simp [results, Try.results86, go_sem]; first | exact ⟨rfl, rfl⟩ | rfl)) rfl ⟨by rw [hf.out], hbw⟩
set_option maxHeartbeats 800000 in
theorem isList_any (A : Option Addr) (n c : Nat) (l : List Int) (P : Int) (w : World) (hl : InS w w.heap.size A n l) (hn : n ≤ 1000000) :
    Calls Try.prog 36 #[.slice A n c, .int .i64 P] w fun e w' => e = .returned (.bool (isL P 0 l)) ∧ Below w.heap.size w w' := by
  have hlen := hid hl.len
  have HL := hid hl
  clear hl
  go_enter Try.func36, Try.ntmps36
  go_wp2
  go_loopw [5] (fun i wr => ∃ k : Nat, k ≤ n ∧ i = .int .i64 k ∧ Hid (isL P 0 (l.take k) = true) ∧ Below w.heap.size w wr) (fun i _ => n - (intOf i).toNat)
  case atStart => exact ⟨0, by omega, rfl, hid rfl, Below.refl _ _⟩
  case round =>
    obtain ⟨k, hk, rfl, hok, hbw⟩ := hrel
    have hszw := hbw.size
    by_cases hlt : k < n
    · obtain ⟨b, off, x, rfl, hb, hm, c0⟩ := (HL.out.below hbw (Nat.le_refl _)).at_ hlt
      have hlti : (k : Int) < n := by omega
      have hit := isL_take (below := P) hm
      rw [hok.out, Bool.true_and] at hit
      have hbd := lastL_bd hok.out
      by_cases hk0 : k = 0
      · subst hk0
        have hl0 : lastL (l.take 0) = -1 := by simp [lastL]
        rw [hl0] at hit
        rw [Nat.add_zero] at c0
        have hbr : b < wr.heap.size := by omega
        cases d1 : decide (x < 0)
        · have e1 := of_decide_eq_false d1
          cases d2 : decide (P ≤ x)
          · have e2 := of_decide_eq_false d2
            have hf := hid (hit.trans (decide_eq_true (by omega)))
            clear hm hit hbd hl0
            go_wp2
            refine wp_region_hd_all (fun W => Below wr.heap.size wr W) (by kernel_rfl) (by kernel_rfl) ((Below.refl _ _).drew) ?_
            iterate 29 (first | (refine wpHd_val (v := ?_) (by rfl) (fun W hW => ?_) ?_; rotate_left; (· obtain ⟨hcW, hfW⟩ := bcell hW; go_simp; with_reducible rfl); simp only [Act.put, List.setIfInBounds_toArray, List.set_cons_zero, List.set_cons_succ]) | (refine wpHd_not (by rfl) ?_; simp only [Act.put, List.setIfInBounds_toArray, List.set_cons_zero, List.set_cons_succ]))
            refine wpHd_nil ?_
            intro W9 hW9
            have hbw9 := hbw.trans (hW9.mono hszw)
            go_wp2
            exact ⟨⟨1, by omega, by go_num, hf, hbw9⟩, by simp [intOf]; omega⟩
          · have e2 := of_decide_eq_true d2
            have hf := hid (isL_off (hit.trans (decide_eq_false (by omega))))
            clear hm hit hbd hl0
            go_wp2
            refine wp_region_hd_all (fun W => Below wr.heap.size wr W) (by kernel_rfl) (by kernel_rfl) ((Below.refl _ _).drew) ?_
            iterate 29 (first | (refine wpHd_val (v := ?_) (by rfl) (fun W hW => ?_) ?_; rotate_left; (· obtain ⟨hcW, hfW⟩ := bcell hW; go_simp; with_reducible rfl); simp only [Act.put, List.setIfInBounds_toArray, List.set_cons_zero, List.set_cons_succ]) | (refine wpHd_not (by rfl) ?_; simp only [Act.put, List.setIfInBounds_toArray, List.set_cons_zero, List.set_cons_succ]))
            refine wpHd_nil ?_
            intro W9 hW9
            have hbw9 := hbw.trans (hW9.mono hszw)
            go_wp2
            refine bodyPost_ret (v := .bool false) (by first | (simp [results, Try.results36, go_sem]; done) | (simp [results, Try.results36, go_sem, *]; done) | (simp [results, Try.results36, go_sem, World.cell?_setCell_same', *]; done) | (simp [results, Try.results36, go_sem]; first | exact ⟨rfl, rfl⟩ | rfl)) rfl ⟨by rw [hf.out], hbw9⟩
        · have e1 := of_decide_eq_true d1
          have hf := hid (isL_off (hit.trans (decide_eq_false (by omega))))
          clear hm hit hbd hl0
          go_wp2
          refine wp_region_hd_all (fun W => Below wr.heap.size wr W) (by kernel_rfl) (by kernel_rfl) ((Below.refl _ _).drew) ?_
          iterate 29 (first | (refine wpHd_val (v := ?_) (by rfl) (fun W hW => ?_) ?_; rotate_left; (· obtain ⟨hcW, hfW⟩ := bcell hW; go_simp; with_reducible rfl); simp only [Act.put, List.setIfInBounds_toArray, List.set_cons_zero, List.set_cons_succ]) | (refine wpHd_not (by rfl) ?_; simp only [Act.put, List.setIfInBounds_toArray, List.set_cons_zero, List.set_cons_succ]))
          refine wpHd_nil ?_
          intro W9 hW9
          have hbw9 := hbw.trans (hW9.mono hszw)
          go_wp2
          refine bodyPost_ret (v := .bool false) (by first | (simp [results, Try.results36, go_sem]; done) | (simp [results, Try.results36, go_sem, *]; done) | (simp [results, Try.results36, go_sem, World.cell?_setCell_same', *]; done) | (simp [results, Try.results36, go_sem]; first | exact ⟨rfl, rfl⟩ | rfl)) rfl ⟨by rw [hf.out], hbw9⟩
      · obtain ⟨j, rfl⟩ : ∃ j, k = j + 1 := ⟨k - 1, by omega⟩
        obtain ⟨b', off', y, hAe, hb', hm', c0'⟩ := (HL.out.below hbw (Nat.le_refl _)).at_ (k := j) (by omega)
        cases hAe
        rw [lastL_take hm'] at hit hbd
        have zj : IntKind.i64.wrap (((j + 1 : Nat) : Int) - 1) = (j : Int) := by rw [Int.natCast_add, Int.natCast_one, Int.add_sub_cancel]; exact IntWalk.i64_in _ (by omega)
        have zj' : IntKind.i64.wrap ((j : Int) + 1 - 1) = (j : Int) := by rw [Int.add_sub_cancel]; exact IntWalk.i64_in _ (by omega)
        have zj2 : IntKind.i64.wrap (j : Int) = (j : Int) := IntWalk.i64_in _ (by omega)
        have hjlt : (j : Int) < n := by omega
        have hjp : (0 : Int) < ((j + 1 : Nat) : Int) := by omega
        have hjp2 : decide ((0 : Int) < ((j + 1 : Nat) : Int)) = true := decide_eq_true hjp
        have hjp3 : decide (0 < j + 1) = true := decide_eq_true (by omega)
        cases d1 : decide (x < 0)
        · have e1 := of_decide_eq_false d1
          cases d2 : decide (P ≤ x)
          · have e2 := of_decide_eq_false d2
            cases d3 : decide (x ≤ y)
            · have e3 := of_decide_eq_false d3
              have hf := hid (hit.trans (decide_eq_true (by omega)))
              clear hm hit hbd hm'
              go_wp2
              go_quiet (fail)
              go_wp2
              exact ⟨⟨j + 1 + 1, by omega, by go_num, hf, below_drewN hbw _⟩, by simp [intOf]; omega⟩
            · have e3 := of_decide_eq_true d3
              have hf := hid (isL_off (hit.trans (decide_eq_false (by omega))))
              clear hm hit hbd hm'
              go_wp2
              go_quiet (fail)
              go_wp2
              refine bodyPost_ret (v := .bool false) (by first | (simp [results, Try.results36, go_sem]; done) | (simp [results, Try.results36, go_sem, *]; done) | (simp [results, Try.results36, go_sem, World.cell?_setCell_same', *]; done) | (simp [results, Try.results36, go_sem]; first | exact ⟨rfl, rfl⟩ | rfl)) rfl ⟨by rw [hf.out], below_drewN hbw _⟩
          · have e2 := of_decide_eq_true d2
            have hf := hid (isL_off (hit.trans (decide_eq_false (by omega))))
            clear hm hit hbd hm'
            go_wp2
            go_quiet (fail)
            go_wp2
            refine bodyPost_ret (v := .bool false) (by first | (simp [results, Try.results36, go_sem]; done) | (simp [results, Try.results36, go_sem, *]; done) | (simp [results, Try.results36, go_sem, World.cell?_setCell_same', *]; done) | (simp [results, Try.results36, go_sem]; first | exact ⟨rfl, rfl⟩ | rfl)) rfl ⟨by rw [hf.out], below_drewN hbw _⟩
        · have e1 := of_decide_eq_true d1
          have hf := hid (isL_off (hit.trans (decide_eq_false (by omega))))
          clear hm hit hbd hm'
          go_wp2
          go_quiet (fail)
          go_wp2
          refine bodyPost_ret (v := .bool false) (by first | (simp [results, Try.results36, go_sem]; done) | (simp [results, Try.results36, go_sem, *]; done) | (simp [results, Try.results36, go_sem, World.cell?_setCell_same', *]; done) | (simp [results, Try.results36, go_sem]; first | exact ⟨rfl, rfl⟩ | rfl)) rfl ⟨by rw [hf.out], below_drewN hbw _⟩
    · obtain rfl : k = n := by omega
      have hf : Hid (isL P 0 l = true) := hid (by have := hok.out; rwa [List.take_of_length_le (by rw [hlen.out]; exact Nat.le_refl _)] at this)
      go_wp2
      refine bodyPost_ret (v := .bool true) (by first | (simp [results, Try.results36, go_sem]; done) | (simp [results, Try.results36, go_sem, *]; done) | (simp [results, Try.results36, go_sem, World.cell?_setCell_same', *]; done) | (simp [results, Try.results36, go_sem]; first | exact ⟨rfl, rfl⟩ | rfl)) rfl ⟨by rw [hf.out], hbw⟩
end Go.Proofs.Ytpgdfipikfbjeaa
/- Walks: whether a book is valid. -/
namespace Go.Proofs.Ytpgdfipikfbjeaa
open Go.RowKit
attribute [local go_sem] Oper.semAt_some
set_option maxHeartbeats 800000 in
theorem checkBook_any (P M : Int) (w : World) : Calls Try.prog 57 #[.agg #[.int .i64 P, .int .i64 M]] w fun e w' => e = .returned (.int .i64 (checkBook P M)) ∧ Below w.heap.size w w' := by
  cases hp : inR 1 8 P
  · have hf : Hid (checkBook P M = 6) := hid (if_pos (inR_f.1 hp))
    have Hp := hid ((all_one (x := P) (lo := 1) (hi := 8)).trans hp)
    clear hp
    go_enter Try.func57, Try.ntmps57
    go_wp2_with (first | (go_at_call 90; refine (within_any _ 1 1 [P] 1 8 _ (inS_lit1 P (by first | (simp; done) | (simp; omega) | omega) (by first | (simp; done) | (simp; omega) | omega)) (by omega)).mono ?_; rw [Hp.out]; rintro e w1 ⟨rfl, hb1⟩; have hbel : Below w.heap.size w w1 := Below.trans (by repeat' (first | with_reducible assumption | with_reducible exact Below.refl _ _ | refine Below.alloc ?_ ?_ _ | refine Below.setCell ?_ ?_ _ | refine Below.drew ?_ | refine below_drewN ?_ _ | (simp; done) | (simp; omega) | omega)) (hb1.mono (by first | (simp; done) | (simp; omega) | omega))))
    refine bodyPost_ret (v := .int .i64 6) (by first | (simp [results, Try.results57, go_sem]; done) | (simp [results, Try.results57, go_sem, *]; done) | (simp [results, Try.results57, go_sem, World.cell?_setCell_same', *]; done) | (simp [results, Try.results57, go_sem]; first | exact ⟨rfl, rfl⟩ | rfl)) rfl ⟨by rw [hf.out], hbel⟩
  · have hp' := inR_t.1 hp
    have Hp := hid ((all_one (x := P) (lo := 1) (hi := 8)).trans hp)
    have hf0 : checkBook P M = if M < 0 ∨ 2 < M then 3 else 0 := if_neg (by omega)
    cases hm : inR 0 2 M
    · have hf : Hid (checkBook P M = 3) := hid (hf0.trans (if_pos (inR_f.1 hm)))
      have Hm := hid ((all_one (x := M) (lo := 0) (hi := 2)).trans hm)
      clear hp hm hf0 hp'
      go_enter Try.func57, Try.ntmps57
      go_wp2_with (first | (have hq := hbel; clear hq; go_at_call 90; refine (within_any _ 1 1 [M] 0 2 _ (inS_lit1 M (by first | (simp; done) | (simp; omega) | omega) (by first | (simp; done) | (simp; omega) | omega)) (by omega)).mono ?_; rw [Hm.out]; rintro e w2 ⟨rfl, hb2⟩; have hbel2 : Below w.heap.size w w2 := Below.trans (Below.alloc hbel hsz _) (hb2.mono (by first | (simp; done) | (simp; omega) | omega))) | (go_at_call 90; refine (within_any _ 1 1 [P] 1 8 _ (inS_lit1 P (by first | (simp; done) | (simp; omega) | omega) (by first | (simp; done) | (simp; omega) | omega)) (by omega)).mono ?_; rw [Hp.out]; rintro e w1 ⟨rfl, hb1⟩; have hbel : Below w.heap.size w w1 := Below.trans (by repeat' (first | with_reducible assumption | with_reducible exact Below.refl _ _ | refine Below.alloc ?_ ?_ _ | refine Below.setCell ?_ ?_ _ | refine Below.drew ?_ | refine below_drewN ?_ _ | (simp; done) | (simp; omega) | omega)) (hb1.mono (by first | (simp; done) | (simp; omega) | omega)); have hsz := hbel.size; have c0 := (hb1.cell (p := ⟨w.heap.size, 1, none⟩) (by first | (simp; done) | (simp; omega) | omega)); have hq0 : w.heap.size < w1.heap.size := (by have := hb1.size; simp at this; omega)))
      refine bodyPost_ret (v := .int .i64 3) (by first | (simp [results, Try.results57, go_sem]; done) | (simp [results, Try.results57, go_sem, *]; done) | (simp [results, Try.results57, go_sem, World.cell?_setCell_same', *]; done) | (simp [results, Try.results57, go_sem]; first | exact ⟨rfl, rfl⟩ | rfl)) rfl ⟨by rw [hf.out], hbel2⟩
    · have hm' := inR_t.1 hm
      have hf : Hid (checkBook P M = 0) := hid (hf0.trans (if_neg (by omega)))
      have Hm := hid ((all_one (x := M) (lo := 0) (hi := 2)).trans hm)
      clear hp hm hf0 hp' hm'
      go_enter Try.func57, Try.ntmps57
      go_wp2_with (first | (have hq := hbel; clear hq; go_at_call 90; refine (within_any _ 1 1 [M] 0 2 _ (inS_lit1 M (by first | (simp; done) | (simp; omega) | omega) (by first | (simp; done) | (simp; omega) | omega)) (by omega)).mono ?_; rw [Hm.out]; rintro e w2 ⟨rfl, hb2⟩; have hbel2 : Below w.heap.size w w2 := Below.trans (Below.alloc hbel hsz _) (hb2.mono (by first | (simp; done) | (simp; omega) | omega))) | (go_at_call 90; refine (within_any _ 1 1 [P] 1 8 _ (inS_lit1 P (by first | (simp; done) | (simp; omega) | omega) (by first | (simp; done) | (simp; omega) | omega)) (by omega)).mono ?_; rw [Hp.out]; rintro e w1 ⟨rfl, hb1⟩; have hbel : Below w.heap.size w w1 := Below.trans (by repeat' (first | with_reducible assumption | with_reducible exact Below.refl _ _ | refine Below.alloc ?_ ?_ _ | refine Below.setCell ?_ ?_ _ | refine Below.drew ?_ | refine below_drewN ?_ _ | (simp; done) | (simp; omega) | omega)) (hb1.mono (by first | (simp; done) | (simp; omega) | omega)); have hsz := hbel.size; have c0 := (hb1.cell (p := ⟨w.heap.size, 1, none⟩) (by first | (simp; done) | (simp; omega) | omega)); have hq0 : w.heap.size < w1.heap.size := (by have := hb1.size; simp at this; omega)))
      refine bodyPost_ret (v := .int .i64 0) (by first | (simp [results, Try.results57, go_sem]; done) | (simp [results, Try.results57, go_sem, *]; done) | (simp [results, Try.results57, go_sem, World.cell?_setCell_same', *]; done) | (simp [results, Try.results57, go_sem]; first | exact ⟨rfl, rfl⟩ | rfl)) rfl ⟨by rw [hf.out], hbel2⟩
set_option maxHeartbeats 800000 in
theorem refCheckBook_any (P M : Int) (w : World) : Calls Try.prog 47 #[.agg #[.int .i64 P, .int .i64 M]] w fun e w' => e = .returned (.int .i64 (checkBook P M)) ∧ Below w.heap.size w w' := by
  cases d1 : decide (P < 1)
  · have e1 := of_decide_eq_false d1
    cases d2 : decide (8 < P)
    · have e2 := of_decide_eq_false d2
      have hf0 : checkBook P M = if M < 0 ∨ 2 < M then 3 else 0 := if_neg (by omega)
      cases d3 : decide (M < 0)
      · have e3 := of_decide_eq_false d3
        cases d4 : decide (2 < M)
        · have e4 := of_decide_eq_false d4
          have hf : Hid (checkBook P M = 0) := hid (hf0.trans (if_neg (by omega)))
          clear hf0
          go_enter Try.func47, Try.ntmps47
          go_wp2
          refine bodyPost_ret (v := .int .i64 0) (by first | (simp [results, Try.results47, go_sem]; done) | (simp [results, Try.results47, go_sem, *]; done) | (simp [results, Try.results47, go_sem, World.cell?_setCell_same', *]; done) | (simp [results, Try.results47, go_sem]; first | exact ⟨rfl, rfl⟩ | rfl)) rfl ⟨by rw [hf.out], (Below.refl _ _).alloc (Nat.le_refl _) _⟩
        · have e4 := of_decide_eq_true d4
          have hf : Hid (checkBook P M = 3) := hid (hf0.trans (if_pos (by omega)))
          clear hf0
          go_enter Try.func47, Try.ntmps47
          go_wp2
          refine bodyPost_ret (v := .int .i64 3) (by first | (simp [results, Try.results47, go_sem]; done) | (simp [results, Try.results47, go_sem, *]; done) | (simp [results, Try.results47, go_sem, World.cell?_setCell_same', *]; done) | (simp [results, Try.results47, go_sem]; first | exact ⟨rfl, rfl⟩ | rfl)) rfl ⟨by rw [hf.out], (Below.refl _ _).alloc (Nat.le_refl _) _⟩
      · have e3 := of_decide_eq_true d3
        have hf : Hid (checkBook P M = 3) := hid (hf0.trans (if_pos (by omega)))
        clear hf0
        go_enter Try.func47, Try.ntmps47
        go_wp2
        refine bodyPost_ret (v := .int .i64 3) (by first | (simp [results, Try.results47, go_sem]; done) | (simp [results, Try.results47, go_sem, *]; done) | (simp [results, Try.results47, go_sem, World.cell?_setCell_same', *]; done) | (simp [results, Try.results47, go_sem]; first | exact ⟨rfl, rfl⟩ | rfl)) rfl ⟨by rw [hf.out], (Below.refl _ _).alloc (Nat.le_refl _) _⟩
    · have e2 := of_decide_eq_true d2
      have hf : Hid (checkBook P M = 6) := hid (if_pos (by omega))
      go_enter Try.func47, Try.ntmps47
      go_wp2
      refine bodyPost_ret (v := .int .i64 6) (by first | (simp [results, Try.results47, go_sem]; done) | (simp [results, Try.results47, go_sem, *]; done) | (simp [results, Try.results47, go_sem, World.cell?_setCell_same', *]; done) | (simp [results, Try.results47, go_sem]; first | exact ⟨rfl, rfl⟩ | rfl)) rfl ⟨by rw [hf.out], (Below.refl _ _).alloc (Nat.le_refl _) _⟩
  · have e1 := of_decide_eq_true d1
    have hf : Hid (checkBook P M = 6) := hid (if_pos (by omega))
    go_enter Try.func47, Try.ntmps47
    go_wp2
    refine bodyPost_ret (v := .int .i64 6) (by first | (simp [results, Try.results47, go_sem]; done) | (simp [results, Try.results47, go_sem, *]; done) | (simp [results, Try.results47, go_sem, World.cell?_setCell_same', *]; done) | (simp [results, Try.results47, go_sem]; first | exact ⟨rfl, rfl⟩ | rfl)) rfl ⟨by rw [hf.out], (Below.refl _ _).alloc (Nat.le_refl _) _⟩
end Go.Proofs.Ytpgdfipikfbjeaa
/- append of what a slice value reads as, nil or not, at a guarded operation, too. -/
namespace Go.Proofs.Ytpgdfipikfbjeaa
open Go.RowKit
theorem wpList_wanted {P : Program} {w : World} {ops : Array Oper} {rest : List Oper} {o : Oper} {a : Act} {Q : Exit → Act → World → Prop} (hw : Region.wanted o (yielded ops a.tmps) = true)
    (h : ∀ K : Act → World → Prop, (∀ a w, wpList P ops Q rest a w → K a w) → o.wp P a w K Q) : wpList P ops Q (o :: rest) a w :=
  wpList_step fun K hK => by simp only [hw, if_true]; exact h K hK
theorem wpList_append_srcG {P : Program} {w : World} {ops : Array Oper} {rest : List Oper} {o : Oper} {a : Act} {Q : Exit → Act → World → Prop} (hw : Region.wanted o (yielded ops a.tmps) = true) (s x : Operand) (t : TypeId)
    (ho : o.op = .call { callee := .builtin .append, args := #[s, x], argTypes := #[t, t] })
    (base : Nat) (e : TypeId) (i : TypeInfo) (z : Value) (size bytes : Nat) (ht : P.underlying t = some (.slice e)) (hi : P.info? e = some i) (hz : i.zero = some z)
    (hsize : i.size = size) (hby : i.bytes = bytes) (hzs : z.cells.size = size) (hsz : 0 < size)
    (v : Value) (n : Nat) (xs : List Value) (hs : a.eval s = v) (hown : w.ownsRow base e size v n xs)
    (A : Option Addr) (m c : Nat) (news : List Value) (hx : a.eval x = .slice A m c) (B : Nat) (hS : Sl w B size A m news) (hA : A = none → m = 0 ∧ c = 0) (h1 : ∀ u ∈ news, u.oneCell' = true)
    (h63 : n + m ≤ maxLen) (hbytes : (n + m) * bytes ≤ 140737488355328) (hbase : base ≤ w.heap.size)
    (h : ∀ v' w', w'.ownsRow base e size v' (n + m) (xs ++ news) → w.grownBy w' v.ownBlock → (v' = .slice none 0 0 ↔ v = .slice none 0 0 ∧ m = 0) → (v'.ownBlock = v.ownBlock ∨ v'.ownBlock = some w.heap.size) → wpList P ops Q rest (a.put o.dst v') w') :
    wpList P ops Q (o :: rest) a w := by
  refine wpList_wanted hw fun K hK => ?_
  cases A with
  | none =>
    obtain ⟨rfl, rfl⟩ := hA rfl
    have hn : news = [] := List.eq_nil_of_length_eq_zero (by rw [hS.1]; omega)
    subst hn
    have hrun := run_append_owned_none (P := P) (w := w) base t o.type e i size ht hi v n xs hown
    unfold Oper.wp
    simp [execOp, ho, resolve, invoke, builtin, hs, hx, hrun, Result.andThen]
    exact hK _ _ (h v w (by rw [List.append_nil, Nat.add_zero]; exact hown) ⟨rfl, rfl, rfl, Nat.le_refl _, fun _ _ _ => rfl⟩ (by simp) (.inl rfl))
  | some ad =>
    have hnews : ∀ j u, news[j]? = some u → w.cell? (ad.add j) = some u := fun j u hj => by
      have hm : 0 < m := by
        rcases Nat.eq_zero_or_pos m with h0 | h0
        · have := hS.1; rw [h0, Nat.zero_mul] at this
          rw [List.eq_nil_of_length_eq_zero this] at hj; simp at hj
        · exact h0
      obtain ⟨b, off, hA', -, hc⟩ := hS.2 hm
      cases hA'
      rw [add_at]
      exact hc j u hj
    obtain ⟨v', w', hr, h2, h3, h4, h5⟩ := run_append_own_at (P := P) w base t o.type e i z size bytes ht hi hz hsize hby hzs hsz v n xs hown ad m c news hS.1 hnews h1 h63 hbytes hbase
    unfold Oper.wp execOp
    simp only [ho, resolve, invoke, builtin, Sem.run_bind, Sem.run_pure, Result.andThen_ok, List.map_toArray, List.map_cons, List.map_nil, hs, hx, hr]
    exact hK _ _ (h v' w' h2 h3 h4 h5)
end Go.Proofs.Ytpgdfipikfbjeaa
/- Words: lists of lists in memory; the reference's cases. -/
namespace Go.Proofs.Ytpgdfipikfbjeaa
open Go.RowKit
attribute [local go_sem] Oper.semAt_some
/-- A list of lists in memory. -/
def LiS (w : World) (B : Nat) (A : Option Addr) (n : Nat) (ls : List (List Int)) : Prop :=
  ls.length = n ∧ ∃ vs : List Value, Sl w B 1 A n vs ∧ ∀ (k : Nat) (l : List Int), ls[k]? = some l → ∃ (A' : Option Addr) (m c' : Nat), vs[k]? = some (Value.slice A' m c') ∧ InS w B A' m l
theorem LiS.below {w w' : World} {B B' n : Nat} {A : Option Addr} {ls : List (List Int)} (h : LiS w B A n ls) (hb : Below B w w') (hB : B ≤ B') : LiS w' B' A n ls := by
  obtain ⟨h1, vs, h2, h3⟩ := h
  exact ⟨h1, vs, h2.below' hb hB, fun k l hk => by obtain ⟨A', m, c', e, h4⟩ := h3 k l hk; exact ⟨A', m, c', e, h4.below hb hB⟩⟩
theorem LiS.at_ {w : World} {B n : Nat} {A : Option Addr} {ls : List (List Int)} (h : LiS w B A n ls) {k : Nat} (hk : k < n) : ∃ b off l A' m c', A = some ⟨b, off, none⟩ ∧ b < B ∧ ls[k]? = some l ∧ w.cell? ⟨b, off + k, none⟩ = some (.slice A' m c') ∧ InS w B A' m l := by
  obtain ⟨h1, vs, h2, h3⟩ := h
  have hl : ls[k]? = some ls[k] := List.getElem?_eq_getElem (by omega)
  obtain ⟨A', m, c', e, h4⟩ := h3 k _ hl
  obtain ⟨b, off, hA, hb, hc⟩ := h2.2 (by omega)
  exact ⟨b, off, _, A', m, c', hA, hb, hl, hc k _ e, h4⟩
/-- The lists that the values vs read as; none lies in block no. -/
def LiAt (w : World) (vs : List Value) (ls : List (List Int)) (no : Option Nat) : Prop :=
  vs.length = ls.length ∧ ∀ (k : Nat) (l : List Int), ls[k]? = some l → ∃ (A : Option Addr) (m c : Nat), vs[k]? = some (.slice A m c) ∧ InS w w.heap.size A m l ∧ ∀ b off, A = some ⟨b, off, none⟩ → b < w.heap.size ∧ no ≠ some b
theorem LiAt.nil (w : World) (no : Option Nat) : LiAt w [] [] no := ⟨rfl, fun k l h => by simp at h⟩
theorem InS.grown {w w' : World} {row : Option Nat} {m B : Nat} {A : Option Addr} {l : List Int} (h : InS w w.heap.size A m l) (hg : w.grownBy w' row) (hne : ∀ b off, A = some ⟨b, off, none⟩ → row ≠ some b) (hB : w.heap.size ≤ B) : InS w' B A m l := by
  refine ⟨h.1, fun hm => ?_⟩
  obtain ⟨b, off, e, hb, hc⟩ := h.2 hm
  exact ⟨b, off, e, by omega, fun j u hu => hg.cell (hc j u hu) (fun e' => hne b off e e'.symm)⟩
theorem LiAt.grown {w w' : World} {vs : List Value} {ls : List (List Int)} {no no' : Option Nat} (h : LiAt w vs ls no) (hg : w.grownBy w' no) (hn : no' = no ∨ no' = some w.heap.size) : LiAt w' vs ls no' := by
  refine ⟨h.1, fun k l hk => ?_⟩
  obtain ⟨A, m, c, h1, h2, h3⟩ := h.2 k l hk
  refine ⟨A, m, c, h1, h2.grown hg (fun b off e => (h3 b off e).2) hg.size, fun b off e => ?_⟩
  obtain ⟨h4, h5⟩ := h3 b off e
  refine ⟨Nat.lt_of_lt_of_le h4 hg.size, ?_⟩
  rcases hn with rfl | rfl
  · exact h5
  · intro e'; injection e' with e'; omega
theorem LiAt.below {w w' : World} {vs : List Value} {ls : List (List Int)} {no : Option Nat} (h : LiAt w vs ls no) (hb : Below w.heap.size w w') : LiAt w' vs ls no := by
  refine ⟨h.1, fun k l hk => ?_⟩
  obtain ⟨A, m, c, h1, h2, h3⟩ := h.2 k l hk
  exact ⟨A, m, c, h1, h2.below hb hb.size, fun b off e => ⟨Nat.lt_of_lt_of_le (h3 b off e).1 hb.size, (h3 b off e).2⟩⟩
theorem LiAt.snoc {w : World} {vs : List Value} {ls : List (List Int)} {no : Option Nat} (h : LiAt w vs ls no) {A : Option Addr} {m c : Nat} {l : List Int} (hl : InS w w.heap.size A m l) (hA : ∀ b off, A = some ⟨b, off, none⟩ → b < w.heap.size ∧ no ≠ some b) : LiAt w (vs ++ [.slice A m c]) (ls ++ [l]) no := by
  refine ⟨by rw [List.length_append, List.length_append, h.1]; rfl, fun k x hk => ?_⟩
  rcases Nat.lt_or_ge k ls.length with h1 | h1
  · rw [List.getElem?_append_left h1] at hk
    obtain ⟨A', m', c', h2, h3⟩ := h.2 k x hk
    exact ⟨A', m', c', by rw [List.getElem?_append_left (by rw [h.1]; exact h1)]; exact h2, h3⟩
  · rw [List.getElem?_append_right h1] at hk
    have hk0 : k - ls.length = 0 := by
      have := (List.getElem?_eq_some_iff.1 hk).1
      simp at this; omega
    rw [hk0] at hk
    obtain rfl : l = x := by simpa using hk
    exact ⟨A, m, c, by rw [List.getElem?_append_right (by rw [h.1]; exact h1), h.1, hk0]; rfl, hl, hA⟩
theorem LiAt.lis {w : World} {vs : List Value} {ls : List (List Int)} {no : Option Nat} {A : Option Addr} {n : Nat} (h : LiAt w vs ls no) (hs : Sl w w.heap.size 1 A n vs) : LiS w w.heap.size A n ls :=
  ⟨by rw [← h.1, hs.1, Nat.mul_one], vs, hs, fun k l hk => by obtain ⟨A', m, c, h1, h2, -⟩ := h.2 k l hk; exact ⟨A', m, c, h1, h2⟩⟩
theorem info_parts' {t : TypeId} {a : Option Value} {b c : Nat} (h : (Try.prog.info? t).map (fun i => (i.zero, i.size, i.bytes)) = some (a, b, c)) : ∃ i, Try.prog.info? t = some i ∧ i.zero = a ∧ i.size = b ∧ i.bytes = c := by
  cases hi : Try.prog.info? t with
  | none => rw [hi] at h; cases h
  | some i => rw [hi] at h; simp only [Option.map_some, Option.some.injEq, Prod.mk.injEq] at h; exact ⟨i, rfl, h.1, h.2.1, h.2.2⟩
theorem info3 : (Try.prog.info? 3).map (fun i => (i.zero, i.size, i.bytes)) = some (some (.int .i64 0), 1, 8) := by kernel_rfl
theorem info25 : (Try.prog.info? 25).map (fun i => (i.zero, i.size, i.bytes)) = some (some (.slice none 0 0), 1, 24) := by kernel_rfl
theorem under25 : Try.prog.underlying 25 = some (.slice 3) := by kernel_rfl
theorem under24 : Try.prog.underlying 24 = some (.slice 25) := by kernel_rfl
theorem own_src {w : World} {base : Nat} {e : TypeId} {size : Nat} {v : Value} {n : Nat} {xs : List Value} (h : w.ownsRow base e size v n xs) : ∃ A c, v = .slice A n c ∧ Sl w w.heap.size size A n xs ∧ (A = none → n = 0 ∧ c = 0) := by
  obtain ⟨A, c, rfl, hs⟩ := sl_of_owns h
  refine ⟨A, c, rfl, hs, fun hA => ?_⟩
  subst hA
  rcases h.2 with ⟨h1, h2⟩ | ⟨g, cap, cur, h1, -⟩
  · cases h1; exact ⟨rfl, rfl⟩
  · cases h1
/-- A list of lists that has just been made: its own row, and what the lists read as. -/
def NewLi (w : World) (base : Nat) (v : Value) (ls : List (List Int)) : Prop := ∃ vs, w.ownsRow base 25 1 v ls.length vs ∧ LiAt w vs ls v.ownBlock
theorem NewLi.nil (w : World) (base : Nat) : NewLi w base (.slice none 0 0) [] := ⟨[], World.ownsRow_nil _ _ _ _, LiAt.nil _ _⟩
theorem NewLi.below {w w' : World} {base : Nat} {v : Value} {ls : List (List Int)} (h : NewLi w base v ls) (hb : Below w.heap.size w w') : NewLi w' base v ls := by
  obtain ⟨vs, h1, h2⟩ := h
  exact ⟨vs, owns_below h1 hb, h2.below hb⟩
theorem NewLi.mono {w : World} {base base' : Nat} {v : Value} {ls : List (List Int)} (h : NewLi w base v ls) (hb : base' ≤ base) : NewLi w base' v ls := by
  obtain ⟨vs, h1, h2⟩ := h
  exact ⟨vs, owns_mono h1 hb, h2⟩
theorem NewLi.lis {w : World} {base : Nat} {v : Value} {ls : List (List Int)} (h : NewLi w base v ls) : ∃ A c, v = .slice A ls.length c ∧ LiS w w.heap.size A ls.length ls ∧ (A = none → ls.length = 0 ∧ c = 0) := by
  obtain ⟨vs, h1, h2⟩ := h
  obtain ⟨A, c, e, h3, h4⟩ := own_src h1
  exact ⟨A, c, e, h2.lis h3, h4⟩
/-- One list more is appended: the list lies at A, the literal's block at g. -/
theorem newLi_append {P : Program} {w : World} {ops : Array Oper} {rest : List Oper} {o : Oper} {a : Act} {Q : Exit → Act → World → Prop} (hP : P = Try.prog) (hw : Region.wanted o (yielded ops a.tmps) = true) (s x : Operand)
    (ho : o.op = .call { callee := .builtin .append, args := #[s, x], argTypes := #[24, 24] })
    (base : Nat) (v : Value) (ls : List (List Int)) (hs : a.eval s = v) (hown : NewLi w base v ls)
    (g : Nat) (A : Option Addr) (m c : Nat) (l : List Int) (hx : a.eval x = .slice (some ⟨g, 0, none⟩) 1 1) (hg : Blk w g 25 #[.slice A m c]) (hl : InS w w.heap.size A m l) (hA : ∀ b off, A = some ⟨b, off, none⟩ → b < w.heap.size ∧ v.ownBlock ≠ some b)
    (hlen : ls.length ≤ 1000000) (hbase : base ≤ w.heap.size)
    (h : ∀ v' w', NewLi w' base v' (ls ++ [l]) → w.grownBy w' v.ownBlock → (v'.ownBlock = v.ownBlock ∨ v'.ownBlock = some w.heap.size) → wpList P ops Q rest (a.put o.dst v') w') :
    wpList P ops Q (o :: rest) a w := by
  subst hP
  obtain ⟨vs, h1, h2⟩ := hown
  obtain ⟨i0, hi0, hi1, hi2, hi3⟩ := info_parts' info25
  refine wpList_append_srcG hw s x 24 ho base 25 i0 _ 1 24 under24 hi0 hi1 hi2 hi3 rfl (by decide) v ls.length vs hs h1 (some ⟨g, 0, none⟩) 1 1 [.slice A m c] hx w.heap.size ⟨rfl, fun _ => ⟨g, 0, rfl, hg.lt, fun j u hu => by rw [hg.cell, Nat.zero_add]; simpa using hu⟩⟩ (fun h => by cases h) (fun u hu => by rw [List.mem_singleton.1 hu]; rfl) (by unfold maxLen; omega) (by omega) hbase ?_
  intro v' w' ho' hg' _ hat
  exact h v' w' ⟨vs ++ [.slice A m c], by rw [List.length_append]; exact ho', (h2.snoc hl hA).grown hg' hat⟩ hg' hat
end Go.Proofs.Ytpgdfipikfbjeaa
/- Walks: the reference's cases, results. -/
namespace Go.Proofs.Ytpgdfipikfbjeaa
open Go.RowKit
attribute [local go_sem] Oper.semAt_some
theorem NewLi.own_lt {w : World} {base : Nat} {v : Value} {ls : List (List Int)} (h : NewLi w base v ls) : ∀ q, v.ownBlock = some q → base ≤ q ∧ q < w.heap.size := by
  obtain ⟨vs, h1, -⟩ := h
  exact fun q hq => World.ownsRow.lt h1 q hq
/-- What an append of a literal of one list needs of the world, two blocks made. -/
theorem two_new {w : World} {base : Nat} {v : Value} {ls : List (List Int)} (h : NewLi w base v ls) (x : List Int) :
    NewLi ((w.alloc (.cells (x.flatMap cI).toArray 3)).alloc (.cells #[.slice (some ⟨w.heap.size, 0, none⟩) x.length x.length] 25)) base v ls ∧
    Blk ((w.alloc (.cells (x.flatMap cI).toArray 3)).alloc (.cells #[.slice (some ⟨w.heap.size, 0, none⟩) x.length x.length] 25)) (w.heap.size + 1) 25 #[.slice (some ⟨w.heap.size, 0, none⟩) x.length x.length] ∧
    InS ((w.alloc (.cells (x.flatMap cI).toArray 3)).alloc (.cells #[.slice (some ⟨w.heap.size, 0, none⟩) x.length x.length] 25)) ((w.alloc (.cells (x.flatMap cI).toArray 3)).alloc (.cells #[.slice (some ⟨w.heap.size, 0, none⟩) x.length x.length] 25)).heap.size (some ⟨w.heap.size, 0, none⟩) x.length x ∧
    ∀ b off, some (⟨w.heap.size, 0, none⟩ : Addr) = some ⟨b, off, none⟩ → b < ((w.alloc (.cells (x.flatMap cI).toArray 3)).alloc (.cells #[.slice (some ⟨w.heap.size, 0, none⟩) x.length x.length] 25)).heap.size ∧ v.ownBlock ≠ some b := by
  refine ⟨h.below (((Below.refl _ _).alloc (Nat.le_refl _) _).alloc (by simp) _), Blk.new' (by simp), ins_blk ((Blk.new' rfl).alloc _) (by simp; omega), fun b off e => ?_⟩
  cases e
  refine ⟨by simp; omega, fun e => ?_⟩
  have := (h.own_lt _ e).2
  omega
theorem single_succ (k : Nat) : single (k + 1) = single k ++ [[(k : Int)]] := by unfold single; rw [List.range_succ, List.map_append]; rfl
def pairTo (P i : Nat) : List (List Int) := (List.range i).flatMap fun i : Nat => (List.range (P - (i + 1))).map fun k : Nat => [(i : Int), ((i + 1 + k : Nat) : Int)]
def pairIn (P i j : Nat) : List (List Int) := pairTo P i ++ (List.range j).map fun k : Nat => [(i : Int), ((i + 1 + k : Nat) : Int)]
theorem pairIn_succ (P i j : Nat) : pairIn P i (j + 1) = pairIn P i j ++ [[(i : Int), ((i + 1 + j : Nat) : Int)]] := by
  unfold pairIn
  rw [List.range_succ, List.map_append, ← List.append_assoc]; rfl
theorem pairTo_succ (P i : Nat) : pairTo P (i + 1) = pairIn P i (P - (i + 1)) := by
  unfold pairIn pairTo
  rw [List.range_succ, List.flatMap_append]; simp
theorem pairIn_len (P i j : Nat) (h1 : i ≤ 8) (h2 : j ≤ 8) : (pairIn P i j).length ≤ 8 * P + 8 := by
  unfold pairIn pairTo
  rw [List.length_append, List.length_map, List.length_range, List.length_flatMap]
  have h : ∀ i : Nat, ((List.range i).map fun i : Nat => ((List.range (P - (i + 1))).map fun k : Nat => [(i : Int), ((i + 1 + k : Nat) : Int)]).length).sum ≤ i * P := by
    intro i
    induction i with
    | zero => simp
    | succ i ih =>
      rw [List.range_succ, List.map_append, List.sum_append, Nat.succ_mul]
      simp only [List.map_cons, List.map_nil, List.sum_cons, List.sum_nil, List.length_map, List.length_range] at ih ⊢
      omega
  have h3 := h i
  have h4 : i * P ≤ 8 * P := Nat.mul_le_mul_right P h1
  omega
theorem cases_len {P M : Nat} (hP : P ≤ 8) : (casesL P M).length ≤ 37 := by
  have : ∀ P : Fin 9, ∀ M : Fin 3, (casesL P.val M.val).length ≤ 37 := by decide +kernel
  rcases Nat.lt_or_ge M 3 with h | h
  · exact this ⟨P, by omega⟩ ⟨M, h⟩
  · have e : casesL P M = casesL P 2 := by unfold casesL; rw [if_pos (by omega), if_pos (by omega), if_pos (by omega), if_pos (by omega)]
    rw [e]
    exact this ⟨P, by omega⟩ ⟨2, by omega⟩
theorem cases_short (P M : Nat) : ∀ x ∈ casesL P M, x.length ≤ 2 := by
  intro x hx
  unfold casesL at hx
  rcases List.mem_append.1 hx with hx | hx
  · rcases List.mem_append.1 hx with hx | hx
    · simp at hx; subst hx; simp
    · split at hx
      · obtain ⟨i, -, rfl⟩ := List.mem_map.1 hx; simp
      · cases hx
  · split at hx
    · obtain ⟨i, -, hi⟩ := List.mem_flatMap.1 hx
      obtain ⟨k, -, rfl⟩ := List.mem_map.1 hi; simp
    · cases hx
theorem InS.alloc' {w : World} {n : Nat} {A : Option Addr} {l : List Int} (h : InS w w.heap.size A n l) (o : Obj) : InS (w.alloc o) (w.alloc o).heap.size A n l := h.below ((Below.refl _ _).alloc (Nat.le_refl _) o) (by simp)
set_option maxRecDepth 10000 in
set_option maxHeartbeats 2000000 in
theorem casesOf_any (P M : Nat) (w : World) (hP : P ≤ 8) (hM : M ≤ 2) : Calls Try.prog 46 #[.agg #[.int .i64 (P : Int), .int .i64 (M : Int)]] w fun e w' => ∃ v, e = .returned v ∧ NewLi w' w.heap.size v (casesL P M) ∧ Below w.heap.size w w' := by
  go_enter Try.func46, Try.ntmps46
  go_wp2
  obtain ⟨Wb, hWb⟩ : ∃ Wb, w.alloc (.cells #[.int .i64 (P : Int), .int .i64 (M : Int)] 23) = Wb := ⟨_, rfl⟩
  have bB : Blk Wb w.heap.size 23 #[.int .i64 (P : Int), .int .i64 (M : Int)] := by rw [← hWb]; exact Blk.new' rfl
  have hbb : Below w.heap.size w Wb := by rw [← hWb]; exact (Below.refl _ _).alloc (Nat.le_refl _) _
  have hzb : Wb.heap.size = w.heap.size + 1 := by rw [← hWb]; simp
  have hn0 : Hid (NewLi (Wb.alloc (.cells #[.slice none 0 0] 25)) Wb.heap.size (.slice (some ⟨Wb.heap.size, 0, none⟩) 1 1) ([[]] ++ single 0)) := hid ⟨[.slice none 0 0], own_full Wb (Nat.le_refl _) (by unfold maxLen; omega) rfl rfl, rfl, fun k l hk => by
    cases k with
    | succ k => simp [single] at hk
    | zero =>
      obtain rfl : [] = l := by simpa using hk
      exact ⟨none, 0, 0, rfl, Sl.none_, fun b off e => by cases e⟩⟩
  rw [hWb, ← hzb]
  have q0 := bB.cell 0
  have q1 := bB.cell 1
  have lB : w.heap.size < Wb.heap.size := by omega
  clear hWb hzb
  go_loopw [3, 4] (fun v i wr => ∃ k : Nat, k ≤ P ∧ (k = 0 ∨ 1 ≤ M) ∧ i = .int .i64 k ∧ Below Wb.heap.size Wb wr ∧ Hid (NewLi wr Wb.heap.size v ([[]] ++ single k))) (fun _ i _ => P - (intOf i).toNat)
  case atStart => exact ⟨0, by omega, .inl rfl, rfl, (Below.refl _ _).alloc (Nat.le_refl _) _, hn0⟩
  case round =>
    obtain ⟨k, hkP, hkM, rfl, hbw, hown⟩ := hrel
    have hszw := hbw.size
    have c0 := ((bcell hbw).1 w.heap.size 0 lB).trans q0
    have c1 := ((bcell hbw).1 w.heap.size 1 lB).trans q1
    have lw : w.heap.size < wr.heap.size := by omega
    have hlen : Hid (([[]] ++ single k : List (List Int)).length ≤ 1000) := hid (by simp [single]; omega)
    by_cases hM1 : 1 ≤ M
    · have dM : decide ((1 : Int) ≤ (M : Int)) = true := decide_eq_true (by omega)
      by_cases hlt : k < P
      · have dk : decide ((k : Int) < (P : Int)) = true := decide_eq_true (by omega)
        go_wp2_with (first | (at_builtin; obtain ⟨e1, e2, e3, e4⟩ := two_new hown.out [(k : Int)]; refine newLi_append rfl (by rfl) _ _ rfl Wb.heap.size _ _ rfl e1 (wr.heap.size + 1) _ 1 1 [(k : Int)] rfl e2 e3 e4 (by have := hlen.out; omega) (by simp; omega) ?_; intro v3 w3 hn3 hg3 hat3; have hb3 : Below Wb.heap.size Wb w3 := ((hbw.alloc hszw _).alloc (by simp; omega) _).grown hg3 (by simp; omega) (fun r hr => (hown.out.own_lt r hr).1)))
        have hn4 := hid (show NewLi w3 Wb.heap.size v3 ([[]] ++ single (k + 1)) by rw [single_succ, ← List.append_assoc]; exact hn3)
        (first | exact ⟨⟨k + 1, by omega, Or.inr hM1, by go_num, hb3, hn4⟩, (by first | (simp [intOf]; omega) | (simp [intOf]; done))⟩ | (refine ⟨?_, ?_⟩; (focus ((repeat apply Exists.intro); refine ⟨?_, rfl⟩; exact ⟨k + 1, by omega, Or.inr hM1, by go_num, hb3, hn4⟩)); (first | (simp [intOf]; omega) | (simp [intOf]; done))))
      · have dk : decide ((k : Int) < (P : Int)) = false := decide_eq_false (by omega)
        obtain rfl : P = k := by omega
        have hown1 : Hid (NewLi wr Wb.heap.size u3 (([[]] ++ single P) ++ pairTo P 0)) := hid (by have := hown.out; rw [show pairTo P 0 = [] from rfl, List.append_nil]; exact this)
        obtain ⟨C, hC⟩ : ∃ C : List (List Int), ([[]] ++ single P) = C := ⟨_, rfl⟩
        rw [hC] at hown1
        have hCl : C.length ≤ 100 := by rw [← hC]; simp [single]; try omega
        have HC := hid hC
        clear hC hown
        go_wp2
        go_loopw [3, 5] (fun v i wr => ∃ k : Nat, k ≤ P ∧ (k = 0 ∨ 2 ≤ M) ∧ i = .int .i64 k ∧ Below Wb.heap.size Wb wr ∧ Hid (NewLi wr Wb.heap.size v (C ++ pairTo P k))) (fun _ i _ => P - (intOf i).toNat)
        case atStart => exact ⟨0, by omega, .inl rfl, rfl, hbw, hown1⟩
        case round =>
          clear hown1 hbw hszw c0 c1 lw
          obtain ⟨i, hiP, hiM, rfl, hbw, hown⟩ := hrel
          have hszw := hbw.size
          have c0 := ((bcell hbw).1 w.heap.size 0 lB).trans q0
          have c1 := ((bcell hbw).1 w.heap.size 1 lB).trans q1
          have lw : w.heap.size < wr.heap.size := by omega
          by_cases hM2 : 2 ≤ M
          · have dM2 : decide ((2 : Int) ≤ (M : Int)) = true := decide_eq_true (by omega)
            by_cases hlt : i < P
            · have di : decide ((i : Int) < (P : Int)) = true := decide_eq_true (by omega)
              have zi : IntKind.i64.wrap ((i : Int) + 1) = (i : Int) + 1 := IntWalk.i64_in _ (by omega)
              have hown2 : Hid (NewLi wr Wb.heap.size u3 (C ++ pairIn P i 0)) := hid (by have := hown.out; rw [show pairIn P i 0 = pairTo P i from List.append_nil _]; exact this)
              clear hown
              go_wp2
              go_loopw [3, 6] (fun v x wr => ∃ j : Nat, i + 1 + j ≤ P ∧ x = .int .i64 ((i + 1 + j : Nat) : Int) ∧ Below Wb.heap.size Wb wr ∧ Hid (NewLi wr Wb.heap.size v (C ++ pairIn P i j))) (fun _ x _ => P - (intOf x).toNat)
              case atStart => exact ⟨0, by omega, by go_num, hbw, hown2⟩
              case round =>
                clear hown2 hbw hszw c0 c1 lw
                obtain ⟨j, hjP, rfl, hbw, hown⟩ := hrel
                have hszw := hbw.size
                have c0 := ((bcell hbw).1 w.heap.size 0 lB).trans q0
                have lw : w.heap.size < wr.heap.size := by omega
                have hlen : Hid ((C ++ pairIn P i j).length ≤ 1000) := hid (by
                  rw [List.length_append]
                  have h1 := pairIn_len P i j (by omega) (by omega)
                  omega)
                obtain ⟨x, hx⟩ : ∃ x : Int, ((i + 1 + j : Nat) : Int) = x := ⟨_, rfl⟩
                have zx : IntKind.i64.wrap (x + 1) = x + 1 := IntWalk.i64_in _ (by omega)
                have Hx := hid hx
                by_cases hj : i + 1 + j < P
                · have dj : x < (P : Int) := by omega
                  rw [hx]
                  clear hx
                  go_wp2_with (first | (at_builtin; obtain ⟨e1, e2, e3, e4⟩ := two_new hown.out [(i : Int), x]; refine newLi_append rfl (by rfl) _ _ rfl Wb.heap.size _ _ rfl e1 (wr.heap.size + 1) _ 2 2 [(i : Int), x] rfl e2 e3 e4 (by have := hlen.out; omega) (by simp; omega) ?_; intro v3 w3 hn3 hg3 hat3; have hb3 : Below Wb.heap.size Wb w3 := ((hbw.alloc hszw _).alloc (by simp; omega) _).grown hg3 (by simp; omega) (fun r hr => (hown.out.own_lt r hr).1)))
                  have hn4 := hid (show NewLi w3 Wb.heap.size v3 (C ++ pairIn P i (j + 1)) by rw [pairIn_succ, ← List.append_assoc, Hx.out]; exact hn3)
                  have Hx1 := Hx.out
                  (first | exact ⟨⟨j + 1, by omega, by congr 1; omega, hb3, hn4⟩, (by first | (simp [intOf]; omega) | (simp [intOf]; done))⟩ | (refine ⟨?_, ?_⟩; (focus ((repeat apply Exists.intro); refine ⟨?_, rfl⟩; exact ⟨j + 1, by omega, by congr 1; omega, hb3, hn4⟩)); (first | (simp [intOf]; omega) | (simp [intOf]; done))))
                · have dj : ¬ x < (P : Int) := by omega
                  have hown3 := hid (show NewLi wr Wb.heap.size u3 (C ++ pairTo P (i + 1)) by rw [pairTo_succ, show P - (i + 1) = j by omega]; exact hown.out)
                  rw [hx]
                  clear hx hown
                  go_wp2
                  (first | exact ⟨⟨i + 1, by omega, Or.inr hM2, by go_num, hbw, hown3⟩, (by first | (simp [intOf]; omega) | (simp [intOf]; done))⟩ | (refine ⟨?_, ?_⟩; (focus ((repeat apply Exists.intro); refine ⟨?_, rfl⟩; exact ⟨i + 1, by omega, Or.inr hM2, by go_num, hbw, hown3⟩)); (first | (simp [intOf]; omega) | (simp [intOf]; done))))
            · have di : decide ((i : Int) < (P : Int)) = false := decide_eq_false (by omega)
              obtain rfl : P = i := by omega
              have hfin : Hid (casesL P M = C ++ pairTo P P) := hid (by rw [← HC.out]; unfold casesL; rw [if_pos hM1, if_pos hM2]; rfl)
              go_wp2
              refine bodyPost_ret (v := u3) (by first | (simp [results, Try.results46, go_sem]; done) | (simp [results, Try.results46, go_sem, *]; done) | (simp [results, Try.results46, go_sem, World.cell?_setCell_same', *]; done) | (simp [results, Try.results46, go_sem]; first | exact ⟨rfl, rfl⟩ | rfl)) rfl ⟨u3, rfl, NewLi.mono (base := Wb.heap.size) (by rw [hfin.out]; exact hown.out) (by omega), hbb.trans (hbw.mono (by omega))⟩
          · obtain rfl : M = 1 := by omega
            obtain rfl : i = 0 := by omega
            have hfin : Hid (casesL P 1 = C ++ pairTo P 0) := hid (by rw [← HC.out]; unfold casesL; rw [if_pos hM1, if_neg hM2]; rfl)
            go_wp2
            refine bodyPost_ret (v := u3) (by first | (simp [results, Try.results46, go_sem]; done) | (simp [results, Try.results46, go_sem, *]; done) | (simp [results, Try.results46, go_sem, World.cell?_setCell_same', *]; done) | (simp [results, Try.results46, go_sem]; first | exact ⟨rfl, rfl⟩ | rfl)) rfl ⟨u3, rfl, NewLi.mono (base := Wb.heap.size) (by rw [hfin.out]; exact hown.out) (by omega), hbb.trans (hbw.mono (by omega))⟩
    · have dM : decide ((1 : Int) ≤ (M : Int)) = false := decide_eq_false (by omega)
      obtain rfl : M = 0 := by omega
      obtain rfl : k = 0 := by omega
      clear dM
      have hown1 : Hid (NewLi wr Wb.heap.size u3 (([[]] ++ single 0) ++ pairTo P 0)) := hid (by have := hown.out; rw [show pairTo P 0 = [] from rfl, List.append_nil]; exact this)
      obtain ⟨C, hC⟩ : ∃ C : List (List Int), ([[]] ++ single 0) = C := ⟨_, rfl⟩
      rw [hC] at hown1
      have hCl : C.length ≤ 100 := by rw [← hC]; simp [single]; try omega
      have HC := hid hC
      clear hC hown
      go_wp2
      go_loopw [3, 5] (fun v i wr => ∃ k : Nat, k ≤ P ∧ (k = 0 ∨ 2 ≤ 0) ∧ i = .int .i64 k ∧ Below Wb.heap.size Wb wr ∧ Hid (NewLi wr Wb.heap.size v (C ++ pairTo P k))) (fun _ i _ => P - (intOf i).toNat)
      case atStart => exact ⟨0, by omega, .inl rfl, rfl, hbw, hown1⟩
      case round =>
        clear hown1 hbw hszw c0 c1 lw
        obtain ⟨i, hiP, hiM, rfl, hbw, hown⟩ := hrel
        have hszw := hbw.size
        have c0 := ((bcell hbw).1 w.heap.size 0 lB).trans q0
        have c1 := ((bcell hbw).1 w.heap.size 1 lB).trans q1
        have lw : w.heap.size < wr.heap.size := by omega
        have hM2 : ¬ 2 ≤ 0 := by omega
        obtain rfl : i = 0 := by omega
        have hfin : Hid (casesL P 0 = C ++ pairTo P 0) := hid (by rw [← HC.out]; unfold casesL; rw [if_neg hM1, if_neg hM2]; rfl)
        go_wp2
        refine bodyPost_ret (v := u3) (by first | (simp [results, Try.results46, go_sem]; done) | (simp [results, Try.results46, go_sem, *]; done) | (simp [results, Try.results46, go_sem, World.cell?_setCell_same', *]; done) | (simp [results, Try.results46, go_sem]; first | exact ⟨rfl, rfl⟩ | rfl)) rfl ⟨u3, rfl, NewLi.mono (base := Wb.heap.size) (by rw [hfin.out]; exact hown.out) (by omega), hbb.trans (hbw.mono (by omega))⟩
end Go.Proofs.Ytpgdfipikfbjeaa
/- Walks: the reference's plans, results. -/
namespace Go.Proofs.Ytpgdfipikfbjeaa
open Go.RowKit
attribute [local go_sem] Oper.semAt_some
theorem one1' (x : Int) : ∀ u ∈ [Value.int .i64 x], u.oneCell' = true := one1 x
def meetI (r bad : List Int) : Int := if meet r bad then 1 else 0
theorem resL_take {pl : List (List Int)} {k : Nat} {r : List Int} (bad : List Int) (h : pl[k]? = some r) : (resL (pl.take (k + 1)) bad).flatMap cI = (resL (pl.take k) bad).flatMap cI ++ [.int .i64 (meetI r bad)] := by
  unfold resL
  rw [List.take_add_one, h, List.map_append, List.flatMap_append]; rfl
set_option maxRecDepth 10000 in
set_option maxHeartbeats 2000000 in
theorem resultsOf_any (A B : Option Addr) (n c m d : Nat) (pl : List (List Int)) (bad : List Int) (w : World) (hp : LiS w w.heap.size A n pl) (hb : InS w w.heap.size B m bad) (hn : n ≤ 12) (hw : ∀ l ∈ pl, l.length ≤ 12) (hm : m ≤ 1000000) :
    Calls Try.prog 42 #[.slice A n c, .slice B m d] w fun e w' => ∃ v, e = .returned v ∧ w'.ownsRow w.heap.size 3 1 v n ((resL pl bad).flatMap cI) ∧ Below w.heap.size w w' := by
  obtain ⟨i0, hi0, hi1, hi2, hi3⟩ := info_parts' info3
  have I0 := hid hi0; have I1 := hid hi1; have I2 := hid hi2; have I3 := hid hi3
  clear hi0 hi1 hi2 hi3
  have HP := hid hp
  have HB := hid hb
  have HW := hid hw
  have hlen := hid hp.1
  clear hp hb hw
  go_enter Try.func42, Try.ntmps42
  go_wp2
  go_loopw [5, 6] (fun v i wr => ∃ k : Nat, k ≤ n ∧ i = .int .i64 k ∧ Below w.heap.size w wr ∧ Hid (wr.ownsRow w.heap.size 3 1 v k ((resL (pl.take k) bad).flatMap cI))) (fun _ i _ => n - (intOf i).toNat)
  case atStart => exact ⟨0, by omega, rfl, Below.refl _ _, hid (World.ownsRow_nil _ _ _ _)⟩
  case round =>
    obtain ⟨k, hk2, rfl, hbw, hown⟩ := hrel
    have hszw := hbw.size
    by_cases hlt : k < n
    · obtain ⟨b, off, r, A', m', c', rfl, hb1, hr, c0, hin⟩ := (HP.out.below hbw hszw).at_ hlt
      have hm' : m' ≤ 1000000 := by have := hin.len; have := HW.out r (List.mem_of_getElem? hr); omega
      have Hin := hid hin
      have hbad := hid (HB.out.below hbw hszw)
      obtain ⟨x, hx⟩ : ∃ x, meetI r bad = x := ⟨_, rfl⟩
      have hst := hid (resL_take bad hr)
      rw [hx] at hst
      have hlti : (k : Int) < n := by omega
      cases hmt : meet r bad
      · have Hx : Hid (0 = x) := hid (by rw [← hx]; unfold meetI; rw [hmt]; rfl)
        have Hm := hid hmt
        clear hmt hr hin hx
        go_wp2_with (first | (go_at_call 85; refine (meet_any A' B m' c' m d r bad _ Hin.out hbad.out hm' hm).mono ?_; rw [Hm.out]; rintro e w1 ⟨rfl, rfl⟩) | (at_builtin; refine wpList_append_own _ rfl _ _ 25 rfl w.heap.size 3 i0 _ 1 8 under25 I0.out I1.out I2.out I3.out rfl (by decide) _ k _ rfl (hown.out.alloc (.cells #[.int .i64 0] 3)) ⟨wr.heap.size, 0, none⟩ 1 1 [.int .i64 0] rfl rfl (fun j u hj => World.news_of_block (Blk.new' (by simp)) j u hj) (one1 _) (by unfold maxLen; omega) (by omega) (by simp; omega) ?_; intro v' w3 ho3 hg3 hv3))
        have hb3 : Below w.heap.size w w3 := (hbw.alloc hszw _).grown hg3 (by simp; omega) (fun r hr => (World.ownsRow.lt hown.out r hr).1)
        exact ⟨⟨k + 1, by omega, by go_num, hb3, hid (by rw [hst.out, ← Hx.out]; exact ho3)⟩, by simp [intOf]; omega⟩
      · have Hx : Hid (1 = x) := hid (by rw [← hx]; unfold meetI; rw [hmt]; rfl)
        have Hm := hid hmt
        clear hmt hr hin hx
        go_wp2_with (first | (go_at_call 85; refine (meet_any A' B m' c' m d r bad _ Hin.out hbad.out hm' hm).mono ?_; rw [Hm.out]; rintro e w1 ⟨rfl, rfl⟩) | (at_builtin; refine wpList_append_own _ rfl _ _ 25 rfl w.heap.size 3 i0 _ 1 8 under25 I0.out I1.out I2.out I3.out rfl (by decide) _ k _ rfl (hown.out.alloc (.cells #[.int .i64 1] 3)) ⟨wr.heap.size, 0, none⟩ 1 1 [.int .i64 1] rfl rfl (fun j u hj => World.news_of_block (Blk.new' (by simp)) j u hj) (one1 _) (by unfold maxLen; omega) (by omega) (by simp; omega) ?_; intro v' w3 ho3 hg3 hv3))
        have hb3 : Below w.heap.size w w3 := (hbw.alloc hszw _).grown hg3 (by simp; omega) (fun r hr => (World.ownsRow.lt hown.out r hr).1)
        exact ⟨⟨k + 1, by omega, by go_num, hb3, hid (by rw [hst.out, ← Hx.out]; exact ho3)⟩, by simp [intOf]; omega⟩
    · obtain rfl : n = k := by omega
      go_wp2
      refine bodyPost_ret (v := u5) (by first | (simp [results, Try.results42, go_sem]; done) | (simp [results, Try.results42, go_sem, *]; done) | (simp [results, Try.results42, go_sem, World.cell?_setCell_same', *]; done) | (simp [results, Try.results42, go_sem]; first | exact ⟨rfl, rfl⟩ | rfl)) rfl ⟨u5, rfl, ?_, hbw⟩
      have ho := hown.out
      rw [List.take_of_length_le (by rw [hlen.out]; exact Nat.le_refl _)] at ho
      exact ho
theorem all_succ {α : Type} {p : α → Bool} {l : List α} {k : Nat} {x : α} (h : (l.take k).all p = true) (hx : l[k]? = some x) (hp : p x = true) : (l.take (k + 1)).all p = true := all_take_succ h hx hp
set_option maxRecDepth 10000 in
set_option maxHeartbeats 2000000 in
theorem refCheckPlan_any (A : Option Addr) (n c : Nat) (pl : List (List Int)) (P M : Int) (w : World) (hp : LiS w w.heap.size A n pl) (hn : n ≤ 12) (hw : ∀ l ∈ pl, l.length ≤ 12) :
    Calls Try.prog 59 #[.agg #[.int .i64 P, .int .i64 M], .slice A n c] w fun e w' => e = .returned (.int .i64 (checkPlan P M pl)) ∧ Below w.heap.size w w' := by
  have HP := hid hp
  have HW := hid hw
  have hlen := hid hp.1
  obtain ⟨Wb, hWb⟩ : ∃ Wb, w.alloc (.cells #[.int .i64 P, .int .i64 M] 23) = Wb := ⟨_, rfl⟩
  have bB : Blk Wb w.heap.size 23 #[.int .i64 P, .int .i64 M] := by rw [← hWb]; exact Blk.new' rfl
  have hbb : Below w.heap.size w Wb := by rw [← hWb]; exact (Below.refl _ _).alloc (Nat.le_refl _) _
  have lB := bB.lt
  have p0 := bB.cell 0
  have p1 := bB.cell 1
  clear hp hw
  cases hc : (checkBook P M != 0)
  · have hc0 : checkBook P M = 0 := by simpa using hc
    obtain ⟨g1, g2, g3, g4⟩ := book_good hc0
    have Hc := hid hc0
    by_cases h8 : 8 < n
    · have hf : Hid (checkPlan P M pl = 6) := hid (by unfold checkPlan; rw [if_neg (by omega), if_pos (by rw [hlen.out]; exact h8)])
      have d8 : (8 : Int) < n := by omega
      clear hc hc0
      go_enter Try.func59, Try.ntmps59
      go_wp2_with (first | (go_at_call 47; refine (refCheckBook_any P M _).mono ?_; rw [Hc.out]; rintro e w1 ⟨rfl, hb1⟩))
      refine bodyPost_ret (v := .int .i64 6) (by first | (simp [results, Try.results59, go_sem]; done) | (simp [results, Try.results59, go_sem, *]; done) | (simp [results, Try.results59, go_sem, World.cell?_setCell_same', *]; done) | (simp [results, Try.results59, go_sem]; first | exact ⟨rfl, rfl⟩ | rfl)) rfl ⟨by rw [hf.out], hbb.trans (hb1.mono hbb.size)⟩
    · have d8 : ¬ (8 : Int) < n := by omega
      have hf0 : Hid (checkPlan P M pl = if pl.all (isL P 0) = false then 3 else 0) := hid (by unfold checkPlan; rw [if_neg (by omega), if_neg (by rw [hlen.out]; exact h8)])
      clear hc hc0
      go_enter Try.func59, Try.ntmps59
      go_wp2_with (first | (go_at_call 47; refine (refCheckBook_any P M _).mono ?_; rw [Hc.out]; rintro e w1 ⟨rfl, hb1⟩))
      have hbb1 := hbb.trans (hb1.mono hbb.size)
      have bB1 := bB.below hb1 lB
      have lB1 := bB1.lt
      have hzb1 := hbb1.size
      have q0 := bB1.cell 0
      clear hb1 hWb bB lB hbb p0 p1
      go_loopw [5] (fun i wr => ∃ k : Nat, k ≤ n ∧ i = .int .i64 k ∧ Below w1.heap.size w1 wr ∧ Hid ((pl.take k).all (isL P 0) = true)) (fun i _ => n - (intOf i).toNat)
      case atStart => exact ⟨0, by omega, rfl, Below.refl _ _, hid rfl⟩
      case round =>
        obtain ⟨k, hk2, rfl, hbw, hok⟩ := hrel
        have hszw := hbw.size
        by_cases hlt : k < n
        · obtain ⟨b, off, r, A', m', c', rfl, hb2, hr, c0, hin⟩ := (HP.out.below hbb1 hzb1).at_ hlt
          have hm' : m' ≤ 1000000 := by have := hin.len; have := HW.out r (List.mem_of_getElem? hr); omega
          have Hin := hid (hin.below hbw hszw)
          have c1 := ((bcell hbw).1 b (off + k) hb2).trans c0
          have q1 := ((bcell hbw).1 w.heap.size 0 lB1).trans q0
          have l1 : b < wr.heap.size := by omega
          have l2 : w.heap.size < wr.heap.size := by omega
          have hlti : (k : Int) < n := by omega
          have Hr := hid hr
          obtain ⟨bv, hbv⟩ : ∃ bv, isL P 0 r = bv := ⟨_, rfl⟩
          have Hbv := hid hbv
          clear hr hin hbv
          go_wp2
          refine wp_region_hd_all (fun W => Below wr.heap.size wr W) (by kernel_rfl) (by kernel_rfl) ((Below.refl _ _).drew) ?_
          iterate 6 (refine wpHd_val (v := ?_) (by rfl) (fun W hW => ?_) ?_; rotate_left; (· obtain ⟨hcW, hfW⟩ := bcell hW; go_simp; with_reducible rfl); simp only [Act.put, List.setIfInBounds_toArray, List.set_cons_zero, List.set_cons_succ])
          (refine wpHd_callB (by rfl) (fun W hW => isList_any A' m' c' r P W (Hin.out.below hW hW.size) hm') (fun W hW => ?_) ?_; (· obtain ⟨hcW, hfW⟩ := bcell hW; go_simp); simp only [Act.put, List.setIfInBounds_toArray, List.set_cons_zero, List.set_cons_succ])
          rw [Hbv.out]
          (refine wpHd_val (v := ?_) (by rfl) (fun W hW => ?_) ?_; rotate_left; (· obtain ⟨hcW, hfW⟩ := bcell hW; go_simp; with_reducible rfl); simp only [Act.put, List.setIfInBounds_toArray, List.set_cons_zero, List.set_cons_succ])
          refine wpHd_nil ?_
          intro W9 hW9
          have hbw9 := hbw.trans (hW9.mono hszw)
          cases bv
          · have hf : Hid (checkPlan P M pl = 3) := hid (by rw [hf0.out, if_pos]; exact all_false Hr.out Hbv.out)
            go_wp2
            refine bodyPost_ret (v := .int .i64 3) (by first | (simp [results, Try.results59, go_sem]; done) | (simp [results, Try.results59, go_sem, *]; done) | (simp [results, Try.results59, go_sem, World.cell?_setCell_same', *]; done) | (simp [results, Try.results59, go_sem]; first | exact ⟨rfl, rfl⟩ | rfl)) rfl ⟨by rw [hf.out], hbb1.trans (hbw9.mono hzb1)⟩
          · have hs := hid (all_take_succ hok.out Hr.out Hbv.out)
            go_wp2
            exact ⟨⟨k + 1, by omega, by go_num, hbw9, hs⟩, by simp [intOf]; omega⟩
        · obtain rfl : n = k := by omega
          have hf : Hid (checkPlan P M pl = 0) := hid (by have := hok.out; rw [List.take_of_length_le (by rw [hlen.out]; exact Nat.le_refl _)] at this; rw [hf0.out, if_neg (by rw [this]; decide)])
          go_wp2
          refine bodyPost_ret (v := .int .i64 0) (by first | (simp [results, Try.results59, go_sem]; done) | (simp [results, Try.results59, go_sem, *]; done) | (simp [results, Try.results59, go_sem, World.cell?_setCell_same', *]; done) | (simp [results, Try.results59, go_sem]; first | exact ⟨rfl, rfl⟩ | rfl)) rfl ⟨by rw [hf.out], hbb1.trans (hbw.mono hzb1)⟩
  · have hc0 : checkBook P M ≠ 0 := by simpa using hc
    have hf : Hid (checkPlan P M pl = checkBook P M) := hid (if_pos hc0)
    have Hc := hid hc
    clear hc0 hc
    go_enter Try.func59, Try.ntmps59
    go_wp2_with (first | (have hq := hb1; clear hq; go_at_call 47; refine (refCheckBook_any P M _).mono ?_; rintro e w2 ⟨rfl, hb2⟩) | (go_at_call 47; refine (refCheckBook_any P M _).mono ?_; rintro e w1 ⟨rfl, hb1⟩; have bB1 := bB.below hb1 lB; have lB1 := bB1.lt; have q0 := bB1.cell 0; have q1 := bB1.cell 1; have Hcc := Hc.out))
    have hbb1 := hbb.trans (hb1.mono hbb.size)
    refine bodyPost_ret (v := .int .i64 (checkBook P M)) (by first | (simp [results, Try.results59, go_sem]; done) | (simp [results, Try.results59, go_sem, *]; done) | (simp [results, Try.results59, go_sem, World.cell?_setCell_same', *]; done) | (simp [results, Try.results59, go_sem]; first | exact ⟨rfl, rfl⟩ | rfl)) rfl ⟨by rw [hf.out], hbb1.trans (hb2.mono hbb1.size)⟩
end Go.Proofs.Ytpgdfipikfbjeaa
