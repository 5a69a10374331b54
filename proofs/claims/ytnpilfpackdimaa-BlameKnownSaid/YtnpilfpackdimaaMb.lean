/- Texts of the proof, laid together by program. -/
import Derived.Test.YtnpilfpackdimaaMa
import Derived.Test.YtnpilfpackdimaaProg
import Derived.Deep.QuietTactic
import Derived.BigQuiet
import Derived.LoopTactic
import Derived.Shelf.Abstract
import Derived.Laws.CopyRow
import Derived.RangeFuncNested
import Derived.OwnWalkIn
import Derived.Laws.AppendOwnNone
set_option linter.unusedSimpArgs false
set_option linter.unusedVariables false
/- Walks: searches by a function; ranges of numbers; rising lists. -/
namespace Go.Proofs.Ytnpilfpackdimaa
open Go.RowKit Go.Shelf
attribute [local go_sem] Oper.semAt_some
/-- The first place whose element is so; none: -1. -/
def idxA {α : Type} (q : α → Bool) (ls : List α) : Int := match ls.findIdx? q with | some k => (k : Int) | none => -1
theorem idxA_hit {α : Type} {q : α → Bool} {ls : List α} {k : Nat} {x : α} (h : (ls.take k).any q = false) (hx : ls[k]? = some x) (hq : q x = true) : idxA q ls = k := by
  unfold idxA
  have : ls.findIdx? q = some k := by
    rw [List.findIdx?_eq_some_iff_getElem]
    obtain ⟨hk, e⟩ := List.getElem?_eq_some_iff.1 hx
    refine ⟨hk, by rw [e]; exact hq, fun j hj => ?_⟩
    have h2 := List.any_eq_false.1 h ls[j] (List.mem_of_getElem? (i := j) (by rw [List.getElem?_take_of_lt hj]; exact List.getElem?_eq_getElem _))
    simpa using h2
  rw [this]
theorem idxA_none {α : Type} {q : α → Bool} {ls : List α} (h : ls.any q = false) : idxA q ls = -1 := by
  unfold idxA
  have : ls.findIdx? q = none := by
    rw [List.findIdx?_eq_none_iff]
    intro x hx
    simpa using List.any_eq_false.1 h x hx
  rw [this]
theorem idxA_nn {α : Type} {q : α → Bool} {ls : List α} : (0 ≤ idxA q ls) ↔ ls.any q = true := by
  cases h : ls.any q
  · rw [idxA_none h]; simp
  · unfold idxA
    cases h2 : ls.findIdx? q with
    | some k => simp
    | none =>
      rw [List.findIdx?_eq_none_iff] at h2
      obtain ⟨x, hx, hq⟩ := List.any_eq_true.1 h
      rw [h2 x hx] at hq; cases hq
theorem idxA_dec {α : Type} (q : α → Bool) (ls : List α) : decide (0 ≤ idxA q ls) = ls.any q := by
  rw [Bool.eq_iff_iff, decide_eq_true_eq, idxA_nn]
theorem any_off {α : Type} {p : α → Bool} {l : List α} {k : Nat} {x : α} (h : (l.take k).any p = false) (hx : l[k]? = some x) (hp : p x = false) : (l.take (k + 1)).any p = false := by
  rw [List.take_add_one, hx, List.any_append, h]
  simp [hp]
theorem all_take_succ {α : Type} {p : α → Bool} {l : List α} {k : Nat} {x : α} (h : (l.take k).all p = true) (hx : l[k]? = some x) (hp : p x = true) : (l.take (k + 1)).all p = true := by
  rw [List.take_add_one, hx, List.all_append, h]
  simp [hp]
theorem all_false {α : Type} {p : α → Bool} {l : List α} {k : Nat} {x : α} (hx : l[k]? = some x) (hp : p x = false) : l.all p = false := by
  cases h : l.all p
  · rfl
  · have := List.all_eq_true.1 h x (List.mem_of_getElem? hx)
    rw [hp] at this; cases this
theorem any_true {α : Type} {p : α → Bool} {l : List α} {k : Nat} {x : α} (hx : l[k]? = some x) (hp : p x = true) : l.any p = true := List.any_eq_true.2 ⟨x, List.mem_of_getElem? hx, hp⟩
set_option maxHeartbeats 800000 in
theorem idxFI_any (g : Nat) (cb : Array Value) (eg : ∀ args w, (callFunc g args).run Try.prog w = .ok (.enter g args) w) (p : Int → Bool) (A : Option Addr) (n c : Nat) (l : List Int) (w : World) (hl : InS w w.heap.size A n l) (hn : n ≤ 1000000) (hp : ∀ x ∈ l, Calls Try.prog g (#[.int .i64 x] ++ cb) w fun e w' => e = .returned (.bool (p x)) ∧ w = w') :
    Calls Try.prog 84 #[.slice A n c, .func (.func g) #[] cb] w fun e w' => e = .returned (.int .i64 (idxA p l)) ∧ w = w' := by
  have hlen := hid hl.len
  have HP := hid hp
  clear hp
  obtain ⟨iv, hiv⟩ : ∃ iv, idxA p l = iv := ⟨_, rfl⟩
  have Hiv := hid hiv
  rw [hiv]
  clear hiv
  go_enter Try.func84, Try.ntmps84
  go_wp2
  go_loopw [8] (fun i wr => ∃ k : Nat, k ≤ n ∧ i = .int .i64 k ∧ Hid ((l.take k).any p = false) ∧ w = wr) (fun i _ => n - (intOf i).toNat)
  case atStart => exact ⟨0, by omega, rfl, hid (by simp), rfl⟩
  case round =>
    obtain ⟨k, hk, rfl, hno, rfl⟩ := hrel
    by_cases hlt : k < n
    · obtain ⟨b, off, x, rfl, hb, hm, c0⟩ := hl.at_ hlt
      have Hm := hid hm
      have hlti : (k : Int) < n := by omega
      have hc := HP.out x (List.mem_of_getElem? hm)
      clear hm
      cases hx : p x
      · have Hs := hid (any_off hno.out Hm.out hx)
        rw [hx] at hc
        clear hx
        go_wp2_with (go_at_fn g; refine hc.mono ?_; rintro e w1 ⟨rfl, rfl⟩)
        exact ⟨⟨k + 1, by omega, by go_num, Hs, trivial⟩, by simp [intOf]; omega⟩
      · have Hf := hid (idxA_hit hno.out Hm.out hx)
        rw [hx] at hc
        clear hx
        go_wp2_with (go_at_fn g; refine hc.mono ?_; rintro e w1 ⟨rfl, rfl⟩)
        refine bodyPost_ret (v := .int .i64 k) (by first | (simp [results, Try.results84, go_sem]; done) | (simp [results, Try.results84, go_sem, *]; done) | (simp [results, Try.results84, go_sem, World.cell?_setCell_same', *]; done) | (simp [results, Try.results84, go_sem]; first | exact ⟨rfl, rfl⟩ | rfl)) rfl ⟨by rw [← Hiv.out, Hf.out], rfl⟩
    · obtain rfl : k = n := by omega
      have Hf : Hid (idxA p l = -1) := hid (idxA_none (by have := hno.out; rwa [List.take_of_length_le (by rw [hlen.out]; exact Nat.le_refl _)] at this))
      go_wp2
      refine bodyPost_ret (v := .int .i64 (-1)) (by first | (simp [results, Try.results84, go_sem]; done) | (simp [results, Try.results84, go_sem, *]; done) | (simp [results, Try.results84, go_sem, World.cell?_setCell_same', *]; done) | (simp [results, Try.results84, go_sem]; first | exact ⟨rfl, rfl⟩ | rfl)) rfl ⟨by rw [← Hiv.out, Hf.out], rfl⟩
theorem conFI_any (g : Nat) (cb : Array Value) (eg : ∀ args w, (callFunc g args).run Try.prog w = .ok (.enter g args) w) (p : Int → Bool) (A : Option Addr) (n c : Nat) (l : List Int) (w : World) (hl : InS w w.heap.size A n l) (hn : n ≤ 1000000) (hp : ∀ x ∈ l, Calls Try.prog g (#[.int .i64 x] ++ cb) w fun e w' => e = .returned (.bool (p x)) ∧ w = w') :
    Calls Try.prog 69 #[.slice A n c, .func (.func g) #[] cb] w fun e w' => e = .returned (.bool (l.any p)) ∧ w = w' := by
  have hc := idxFI_any g cb eg p A n c l w hl hn hp
  have HD := hid (idxA_dec p l)
  obtain ⟨iv, hiv⟩ : ∃ iv, idxA p l = iv := ⟨_, rfl⟩
  obtain ⟨bv, hbv⟩ : ∃ bv, l.any p = bv := ⟨_, rfl⟩
  rw [hiv, hbv] at HD
  rw [hiv] at hc
  rw [hbv]
  clear hiv hbv hp hl
  go_enter Try.func69, Try.ntmps69
  go_wp2_with (go_at_call 84; refine hc.mono ?_; rintro e w1 ⟨rfl, rfl⟩)
  refine bodyPost_ret (v := .bool (decide (0 ≤ iv))) (by first | (simp [results, Try.results69, go_sem]; done) | (simp [results, Try.results69, go_sem, *]; done) | (simp [results, Try.results69, go_sem, World.cell?_setCell_same', *]; done) | (simp [results, Try.results69, go_sem]; first | exact ⟨rfl, rfl⟩ | rfl)) rfl ⟨by rw [HD.out], rfl⟩
/-! Ranges. -/
def inR (lo hi x : Int) : Bool := decide (lo ≤ x ∧ x ≤ hi)
theorem inR_t {lo hi x : Int} : inR lo hi x = true ↔ lo ≤ x ∧ x ≤ hi := by simp [inR]
theorem inR_f {lo hi x : Int} : inR lo hi x = false ↔ x < lo ∨ hi < x := by simp [inR]; omega
set_option maxHeartbeats 400000 in
theorem wclo_any (x lo hi : Int) (b1 b2 : Nat) (w : World) (c1 : w.cell? ⟨b1, 0, none⟩ = some (.int .i64 lo)) (c2 : w.cell? ⟨b2, 0, none⟩ = some (.int .i64 hi)) :
    Calls Try.prog 74 #[.int .i64 x, .pointer (some ⟨b1, 0, none⟩), .pointer (some ⟨b2, 0, none⟩)] w fun e w' => e = .returned (.bool (!inR lo hi x)) ∧ w = w' := by
  have e : Hid (inR lo hi x = decide (lo ≤ x ∧ x ≤ hi)) := rfl
  by_cases h1 : x < lo <;> by_cases h2 : hi < x
  all_goals
    go_enter Try.func74, Try.ntmps74
    go_wp2
    go_ret
    refine ⟨?_, rfl⟩
    rw [e.out]
    first | (rw [decide_eq_true (by omega)]; rfl) | (rw [decide_eq_false (by omega)]; rfl)
theorem any_not_all {α : Type} (p : α → Bool) (l : List α) : l.any (fun x => !p x) = !l.all p := by
  rw [Bool.eq_iff_iff]; simp
set_option maxRecDepth 100000 in
set_option maxHeartbeats 400000 in
theorem within_any (A : Option Addr) (n c : Nat) (l : List Int) (lo hi : Int) (w : World) (hl : InS w w.heap.size A n l) (hn : n ≤ 1000000) :
    Calls Try.prog 45 #[.int .i64 lo, .int .i64 hi, .slice A n c] w fun e w' => e = .returned (.bool (l.all (inR lo hi))) ∧ Below w.heap.size w w' := by
  have eg : ∀ args w, (callFunc 74 args).run Try.prog w = .ok (.enter 74 args) w := enters_of Try.func74 (by kernel_rfl) rfl
  have HN := hid (any_not_all (inR lo hi) l)
  have HE := hid eg
  have HL := hid hl
  clear eg hl
  obtain ⟨bv, hbv⟩ : ∃ bv, l.all (inR lo hi) = bv := ⟨_, rfl⟩
  rw [hbv] at HN ⊢
  clear hbv
  go_enter Try.func45, Try.ntmps45
  go_wp2_with (go_at_call 69; refine (conFI_any 74 #[.pointer (some ⟨w.heap.size, 0, none⟩), .pointer (some ⟨w.heap.size + 1, 0, none⟩)] HE.out (fun x => !inR lo hi x) A n c l _ (HL.out.below (by repeat' (first | with_reducible assumption | with_reducible exact Below.refl _ _ | refine Below.alloc ?_ ?_ _ | refine Below.setCell ?_ ?_ _ | refine Below.drew ?_ | refine below_drewN ?_ _ | (simp; done) | (simp; omega) | omega)) (by first | (simp; done) | (simp; omega) | omega)) hn (fun x _ => wclo_any x lo hi _ _ _ (by go_simp) (by go_simp))).mono ?_; rw [HN.out]; rintro e w1 ⟨rfl, rfl⟩)
  refine bodyPost_ret (v := .bool bv) (by first | (simp [results, Try.results45, go_sem]; done) | (simp [results, Try.results45, go_sem, *]; done) | (simp [results, Try.results45, go_sem, World.cell?_setCell_same', *]; done) | (simp [results, Try.results45, go_sem]; first | exact ⟨rfl, rfl⟩ | rfl)) rfl ⟨rfl, (by repeat' (first | with_reducible assumption | with_reducible exact Below.refl _ _ | refine Below.alloc ?_ ?_ _ | refine Below.setCell ?_ ?_ _ | refine Below.drew ?_ | refine below_drewN ?_ _ | (simp; done) | (simp; omega) | omega))⟩
theorem inS_lit1 {w : World} {g B : Nat} (x : Int) (hg : w.heap.size = g) (hB : g < B) : InS (w.alloc (.cells #[.int .i64 x] 3)) B (some ⟨g, 0, none⟩) 1 [x] := by
  refine ⟨rfl, fun hn => ⟨g, 0, rfl, hB, fun j u hu => ?_⟩⟩
  rw [(Blk.new' hg).cell, Nat.zero_add]
  simpa [cI] using hu
theorem all_one {p : Int → Bool} (x : Int) : [x].all p = p x := by simp
set_option maxRecDepth 10000 in
set_option maxHeartbeats 1600000 in
theorem rising_any (A : Option Addr) (n c : Nat) (l : List Int) (below : Int) (w : World) (hl : InS w w.heap.size A n l) (hn : n ≤ 1000000) (h0 : 0 ≤ below) (h1 : below ≤ 1000) :
    Calls Try.prog 48 #[.slice A n c, .int .i64 below] w fun e w' => e = .returned (.bool (isL below 0 l)) ∧ Below w.heap.size w w' := by
  have hlen := hid hl.len
  have HL := hid hl
  clear hl
  obtain ⟨bv, hbv⟩ : ∃ bv, isL below 0 l = bv := ⟨_, rfl⟩
  have Hbv := hid hbv
  rw [hbv]
  clear hbv
  go_enter Try.func48, Try.ntmps48
  go_wp2
  go_loopw [5, 10] (fun nx i wr => ∃ k : Nat, k ≤ n ∧ i = .int .i64 k ∧ nx = .int .i64 (lastL (l.take k) + 1) ∧ Hid (isL below 0 (l.take k) = true) ∧ Below w.heap.size w wr) (fun _ i _ => n - (intOf i).toNat)
  case atStart => exact ⟨0, by omega, rfl, rfl, hid (by simp [isL]), Below.refl _ _⟩
  case round =>
    obtain ⟨k, hk, rfl, rfl, hall, hbw⟩ := hrel
    have hszw := hbw.size
    obtain ⟨nx, hnx⟩ : ∃ nx, lastL (l.take k) + 1 = nx := ⟨_, rfl⟩
    have Hnx := hid hnx
    rw [hnx]
    clear hnx
    by_cases hlt : k < n
    · obtain ⟨b, off, x, rfl, hb, hm, c0⟩ := (HL.out.below hbw hszw).at_ hlt
      have Hm := hid hm
      have hlti : (k : Int) < n := by omega
      have z1 : IntKind.i64.wrap (below - 1) = below - 1 := IntWalk.i64_in _ (by omega)
      have Ht : Hid (isL below 0 (l.take (k + 1)) = inR nx (below - 1) x) := hid (by
        rw [isL_take hm, hall.out, Hnx.out, Bool.true_and]
        unfold inR
        congr 1
        rw [eq_iff_iff]; omega)
      clear hm
      cases hx : inR nx (below - 1) x
      · have Hx := hid ((all_one (p := inR nx (below - 1)) x).trans hx)
        have Hf : Hid (isL below 0 l = false) := hid (isL_off (by rw [Ht.out]; exact hx))
        clear hx
        go_wp2_with (go_at_call 45; refine (within_any _ 1 1 [x] nx (below - 1) _ (inS_lit1 x (by first | (simp; done) | (simp; omega) | omega) (by first | (simp; done) | (simp; omega) | omega)) (by omega)).mono ?_; rw [Hx.out]; rintro e w1 ⟨rfl, hb1⟩)
        refine bodyPost_ret (v := .bool false) (by first | (simp [results, Try.results48, go_sem]; done) | (simp [results, Try.results48, go_sem, *]; done) | (simp [results, Try.results48, go_sem, World.cell?_setCell_same', *]; done) | (simp [results, Try.results48, go_sem]; first | exact ⟨rfl, rfl⟩ | rfl)) rfl ⟨by rw [← Hbv.out, Hf.out], Below.trans (B := w.heap.size) (hbw.alloc hszw _) (hb1.mono (by simp; omega))⟩
      · have Hx := hid ((all_one (p := inR nx (below - 1)) x).trans hx)
        have Hs : Hid (isL below 0 (l.take (k + 1)) = true) := hid (by rw [Ht.out]; exact hx)
        have Hl : Hid (lastL (l.take (k + 1)) = x) := hid (lastL_take Hm.out)
        have hxr := inR_t.1 hx
        have z2 : IntKind.i64.wrap (x + 1) = x + 1 := by
          rcases Int.lt_or_le x (-1000000) with h5 | h5
          · exact absurd (isL_bd Hs.out x (by rw [List.take_add_one, Hm.out]; simp)).1 (by omega)
          · exact IntWalk.i64_in _ (by omega)
        clear hx
        go_wp2_with (go_at_call 45; refine (within_any _ 1 1 [x] nx (below - 1) _ (inS_lit1 x (by first | (simp; done) | (simp; omega) | omega) (by first | (simp; done) | (simp; omega) | omega)) (by omega)).mono ?_; rw [Hx.out]; rintro e w1 ⟨rfl, hb1⟩)
        exact ⟨⟨k + 1, by omega, by go_num, by rw [Hl.out], Hs, Below.trans (B := w.heap.size) (hbw.alloc hszw _) (hb1.mono (by simp; omega))⟩, by simp [intOf]; omega⟩
    · obtain rfl : k = n := by omega
      have Hf : Hid (isL below 0 l = true) := hid (by have := hall.out; rwa [List.take_of_length_le (by rw [hlen.out]; exact Nat.le_refl _)] at this)
      go_wp2
      refine bodyPost_ret (v := .bool true) (by first | (simp [results, Try.results48, go_sem]; done) | (simp [results, Try.results48, go_sem, *]; done) | (simp [results, Try.results48, go_sem, World.cell?_setCell_same', *]; done) | (simp [results, Try.results48, go_sem]; first | exact ⟨rfl, rfl⟩ | rfl)) rfl ⟨by rw [← Hbv.out, Hf.out], hbw⟩
end Go.Proofs.Ytnpilfpackdimaa
/- Walks: lists of numbers: equal, has, index, sets (reference). -/
namespace Go.Proofs.Ytnpilfpackdimaa
open Go.RowKit
attribute [local go_sem] Oper.semAt_some
theorem take_eq_succ {α : Type} {a b : List α} {k : Nat} {x : α} (h : a.take k = b.take k) (ha : a[k]? = some x) (hb : b[k]? = some x) : a.take (k + 1) = b.take (k + 1) := by
  rw [List.take_add_one, List.take_add_one, h, ha, hb]
theorem ne_of_at {α : Type} {a b : List α} {k : Nat} {x y : α} (ha : a[k]? = some x) (hb : b[k]? = some y) (h : x ≠ y) : a ≠ b := fun e => by
  rw [e, hb] at ha; exact h (Option.some.inj ha).symm
def eqI (a b : List Int) : Bool := decide (a = b)
theorem eqI_t {a b : List Int} : eqI a b = true ↔ a = b := by simp [eqI]
set_option maxRecDepth 10000 in
set_option maxHeartbeats 800000 in
theorem same_any (w : World) (A B : Option Addr) (n c m d : Nat) (a b : List Int) (ha : InS w w.heap.size A n a) (hb : InS w w.heap.size B m b) (hn : n ≤ 1000000) :
    Calls Try.prog 50 #[.slice A n c, .slice B m d] w fun e w' => e = .returned (.bool (eqI a b)) ∧ Below w.heap.size w w' := by
  have la := hid ha.len
  have lb := hid hb.len
  by_cases hnm : n = m
  · subst hnm
    have t0 : ((n : Int) != (n : Int)) = false := by simp
    go_enter Try.func50, Try.ntmps50
    go_wp2
    go_loopw [5] (fun i wr => ∃ k : Nat, k ≤ n ∧ i = .int .i64 k ∧ Hid (a.take k = b.take k) ∧ Below w.heap.size w wr) (fun i _ => n - (intOf i).toNat)
    case atStart => exact ⟨0, by omega, rfl, by simp [Hid], Below.refl _ _⟩
    case round =>
      obtain ⟨k, hk, rfl, heq, hbel⟩ := hrel
      have hsz := hbel.size
      by_cases hlt : k < n
      · obtain ⟨b1, o1, x, rfl, hb1, hx, c1⟩ := (ha.below hbel (Nat.le_refl _)).at_ hlt
        obtain ⟨b2, o2, y, rfl, hb2, hy, d1⟩ := (hb.below hbel (Nat.le_refl _)).at_ hlt
        have HX := hid hx
        have HY := hid hy
        have hlti : (k : Int) < n := by omega
        have hk0 : (0 : Int) ≤ k := by omega
        clear hx hy
        by_cases hxy : x = y
        · subst hxy
          have t1 : (x != x) = false := by simp
          go_wp2
          go_quiet (fail)
          go_wp2
          exact ⟨⟨k + 1, by omega, by go_num, take_eq_succ heq.out HX.out HY.out, below_drewN hbel _⟩, by simp [intOf]; omega⟩
        · have t1 : (x != y) = true := by simpa using hxy
          have hfin : Hid (eqI a b = false) := hid (by cases h : eqI a b; exact rfl; exact absurd (eqI_t.1 h) (ne_of_at HX.out HY.out hxy))
          clear hxy
          go_wp2
          go_quiet (fail)
          go_wp2
          go_ret
          exact ⟨by rw [hfin.out]; rfl, below_drewN hbel _⟩
      · obtain rfl : k = n := by omega
        have hfin : Hid (eqI a b = true) := hid (eqI_t.2 (by have := heq.out; rwa [List.take_of_length_le (by rw [la.out]; omega), List.take_of_length_le (by rw [lb.out]; omega)] at this))
        go_wp2
        go_ret
        exact ⟨by rw [hfin.out]; rfl, hbel⟩
  · have t0 : ((n : Int) != (m : Int)) = true := by simp; omega
    have hfin : Hid (eqI a b = false) := hid (by cases h : eqI a b; exact rfl; exact absurd (eqI_t.1 h) (fun e => hnm (by rw [← la.out, ← lb.out, e])))
    clear hnm
    go_enter Try.func50, Try.ntmps50
    go_wp2
    go_ret
    exact ⟨by rw [hfin.out]; rfl, Below.refl _ _⟩
set_option maxRecDepth 10000 in
set_option maxHeartbeats 800000 in
theorem equal_any (w : World) (A B : Option Addr) (n c m d : Nat) (a b : List Int) (ha : InS w w.heap.size A n a) (hb : InS w w.heap.size B m b) (hn : n ≤ 1000000) :
    Calls Try.prog 66 #[.slice A n c, .slice B m d] w fun e w' => e = .returned (.bool (eqI a b)) ∧ Below w.heap.size w w' := by
  have la := hid ha.len
  have lb := hid hb.len
  by_cases hnm : n = m
  · subst hnm
    have t0 : ((n : Int) != (n : Int)) = false := by simp
    go_enter Try.func66, Try.ntmps66
    go_wp2
    go_loopw [13] (fun i wr => ∃ k : Nat, k ≤ n ∧ i = .int .i64 k ∧ Hid (a.take k = b.take k) ∧ Below w.heap.size w wr) (fun i _ => n - (intOf i).toNat)
    case atStart => exact ⟨0, by omega, rfl, by simp [Hid], Below.refl _ _⟩
    case round =>
      obtain ⟨k, hk, rfl, heq, hbel⟩ := hrel
      have hsz := hbel.size
      by_cases hlt : k < n
      · obtain ⟨b1, o1, x, rfl, hb1, hx, c1⟩ := (ha.below hbel (Nat.le_refl _)).at_ hlt
        obtain ⟨b2, o2, y, rfl, hb2, hy, d1⟩ := (hb.below hbel (Nat.le_refl _)).at_ hlt
        have HX := hid hx
        have HY := hid hy
        have hlti : (k : Int) < n := by omega
        have hk0 : (0 : Int) ≤ k := by omega
        clear hx hy
        by_cases hxy : x = y
        · subst hxy
          have t1 : (x != x) = false := by simp
          go_wp2
          go_quiet (fail)
          go_wp2
          exact ⟨⟨k + 1, by omega, by go_num, take_eq_succ heq.out HX.out HY.out, below_drewN hbel _⟩, by simp [intOf]; omega⟩
        · have t1 : (x != y) = true := by simpa using hxy
          have hfin : Hid (eqI a b = false) := hid (by cases h : eqI a b; exact rfl; exact absurd (eqI_t.1 h) (ne_of_at HX.out HY.out hxy))
          clear hxy
          go_wp2
          go_quiet (fail)
          go_wp2
          go_ret
          exact ⟨by rw [hfin.out]; rfl, below_drewN hbel _⟩
      · obtain rfl : k = n := by omega
        have hfin : Hid (eqI a b = true) := hid (eqI_t.2 (by have := heq.out; rwa [List.take_of_length_le (by rw [la.out]; omega), List.take_of_length_le (by rw [lb.out]; omega)] at this))
        go_wp2
        go_ret
        exact ⟨by rw [hfin.out]; rfl, hbel⟩
  · have t0 : ((n : Int) != (m : Int)) = true := by simp; omega
    have hfin : Hid (eqI a b = false) := hid (by cases h : eqI a b; exact rfl; exact absurd (eqI_t.1 h) (fun e => hnm (by rw [← la.out, ← lb.out, e])))
    clear hnm
    go_enter Try.func66, Try.ntmps66
    go_wp2
    go_ret
    exact ⟨by rw [hfin.out]; rfl, Below.refl _ _⟩
theorem ints_any (w : World) (A B : Option Addr) (n c m d : Nat) (a b : List Int) (ha : InS w w.heap.size A n a) (hb : InS w w.heap.size B m b) (hn : n ≤ 1000000) :
    Calls Try.prog 15 #[.slice A n c, .slice B m d] w fun e w' => e = .returned (.bool (eqI a b)) ∧ Below w.heap.size w w' := by
  obtain ⟨bv, hbv⟩ : ∃ bv, eqI a b = bv := ⟨_, rfl⟩
  have Hbv := hid hbv
  rw [hbv]
  clear hbv
  go_enter Try.func15, Try.ntmps15
  go_wp2_with (first | (go_at_call 50; refine (same_any _ A B n c m d a b ha hb hn).mono ?_; rw [Hbv.out]; rintro e w1 ⟨rfl, hb1⟩))
  refine bodyPost_ret (v := .bool bv) (by first | (simp [results, Try.results15, go_sem]; done) | (simp [results, Try.results15, go_sem, *]; done) | (simp [results, Try.results15, go_sem, World.cell?_setCell_same', *]; done) | (simp [results, Try.results15, go_sem]; first | exact ⟨rfl, rfl⟩ | rfl)) rfl ⟨rfl, hb1⟩
theorem has_at {l : List Int} {k : Nat} {x : Int} (h : l[k]? = some x) : has l x = true := by
  unfold has
  exact List.any_eq_true.2 ⟨x, List.mem_of_getElem? h, by simp⟩
theorem has_no {l : List Int} {v : Int} (h : (l.take l.length).any (· == v) = false) : has l v = false := by rwa [List.take_length] at h
theorem any_succ {l : List Int} {k : Nat} {x v : Int} (h : (l.take k).any (· == v) = false) (hx : l[k]? = some x) (hne : x ≠ v) : (l.take (k + 1)).any (· == v) = false := by
  rw [List.take_add_one, hx, List.any_append, h]
  simp [hne]
set_option maxHeartbeats 800000 in
theorem index_any (A : Option Addr) (n c : Nat) (l : List Int) (v : Int) (w : World) (hl : InS w w.heap.size A n l) (hn : n ≤ 1000000) :
    Calls Try.prog 80 #[.slice A n c, .int .i64 v] w fun e w' => ∃ z : Int, e = .returned (.int .i64 z) ∧ (decide (0 ≤ z) = has l v) ∧ w = w' := by
  have hlen := hid hl.len
  go_enter Try.func80, Try.ntmps80
  go_wp2
  go_loopw [8] (fun i wr => ∃ k : Nat, k ≤ n ∧ i = .int .i64 k ∧ Hid ((l.take k).any (· == v) = false) ∧ w = wr) (fun i _ => n - (intOf i).toNat)
  case atStart => exact ⟨0, by omega, rfl, hid (by simp), rfl⟩
  case round =>
    obtain ⟨k, hk, rfl, hno, rfl⟩ := hrel
    by_cases hlt : k < n
    · obtain ⟨b, off, x, rfl, hb, hm, c0⟩ := hl.at_ hlt
      have Hm := hid hm
      have hlti : (k : Int) < n := by omega
      clear hm
      by_cases hx : x = v
      · subst hx
        have hf := hid (has_at Hm.out)
        go_wp2
        refine bodyPost_ret (v := .int .i64 k) (by first | (simp [results, Try.results80, go_sem]; done) | (simp [results, Try.results80, go_sem, *]; done) | (simp [results, Try.results80, go_sem, World.cell?_setCell_same', *]; done) | (simp [results, Try.results80, go_sem]; first | exact ⟨rfl, rfl⟩ | rfl)) rfl ⟨k, rfl, by rw [hf.out]; simp, rfl⟩
      · have dx : (v == x) = false := by simpa using fun e : v = x => hx e.symm
        have hs := hid (any_succ hno.out Hm.out hx)
        clear hx
        go_wp2
        exact ⟨⟨k + 1, by omega, by go_num, hs, trivial⟩, by simp [intOf]; omega⟩
    · obtain rfl : k = n := by omega
      have hf := hid (has_no (by rw [hlen.out]; exact hno.out) : has l v = false)
      go_wp2
      refine bodyPost_ret (v := .int .i64 (-1)) (by first | (simp [results, Try.results80, go_sem]; done) | (simp [results, Try.results80, go_sem, *]; done) | (simp [results, Try.results80, go_sem, World.cell?_setCell_same', *]; done) | (simp [results, Try.results80, go_sem]; first | exact ⟨rfl, rfl⟩ | rfl)) rfl ⟨-1, rfl, by rw [hf.out]; simp, rfl⟩
theorem contains_any (A : Option Addr) (n c : Nat) (l : List Int) (v : Int) (w : World) (hl : InS w w.heap.size A n l) (hn : n ≤ 1000000) :
    Calls Try.prog 62 #[.slice A n c, .int .i64 v] w fun e w' => e = .returned (.bool (has l v)) ∧ w = w' := by
  obtain ⟨bv, hbv⟩ : ∃ bv, has l v = bv := ⟨_, rfl⟩
  have Hbv := hid hbv
  rw [hbv]
  clear hbv
  go_enter Try.func62, Try.ntmps62
  go_wp2_with (first | (go_at_call 80; refine (index_any A n c l v _ hl hn).mono ?_; rw [Hbv.out]; rintro e w1 ⟨z, rfl, hz, rfl⟩))
  refine bodyPost_ret (v := .bool bv) (by first | (simp [results, Try.results62, go_sem]; done) | (simp [results, Try.results62, go_sem, *]; done) | (simp [results, Try.results62, go_sem, World.cell?_setCell_same', *]; done) | (simp [results, Try.results62, go_sem]; first | exact ⟨rfl, rfl⟩ | rfl)) rfl ⟨rfl, rfl⟩
theorem lastL_bd {below : Int} {l : List Int} {k : Nat} (h : isL below 0 (l.take k) = true) : -1 ≤ lastL (l.take k) ∧ (lastL (l.take k) < below ∨ lastL (l.take k) = -1) := by
  unfold lastL
  rw [List.getLastD_eq_getLast?]
  cases hl : (l.take k).getLast? with
  | none => simp
  | some x =>
    have := isL_bd h x (List.mem_of_getLast? hl)
    simp; omega
set_option maxHeartbeats 800000 in
theorem isSet_any (A : Option Addr) (n c : Nat) (l : List Int) (P : Int) (w : World) (hl : InS w w.heap.size A n l) (hn : n ≤ 1000000) :
    Calls Try.prog 49 #[.slice A n c, .int .i64 P] w fun e w' => e = .returned (.bool (isL P 0 l)) ∧ Below w.heap.size w w' := by
  have hlen := hid hl.len
  have HL := hid hl
  clear hl
  go_enter Try.func49, Try.ntmps49
  go_wp2
  go_loopw [5] (fun i wr => ∃ k : Nat, k ≤ n ∧ i = .int .i64 k ∧ Hid (isL P 0 (l.take k) = true) ∧ Below w.heap.size w wr) (fun i _ => n - (intOf i).toNat)
  case atStart => exact ⟨0, by omega, rfl, hid rfl, Below.refl _ _⟩
  case round =>
    obtain ⟨k, hk, rfl, hok, hbw⟩ := hrel
    have hszw := hbw.size
    by_cases hlt : k < n
    · obtain ⟨b, off, x, rfl, hb, hm, c0⟩ := (HL.out.below hbw (Nat.le_refl _)).at_ hlt
      have hlti : (k : Int) < n := by omega
      have hit := isL_take (below := P) hm
      rw [hok.out, Bool.true_and] at hit
      have hbd := lastL_bd hok.out
      by_cases hk0 : k = 0
      · subst hk0
        have hl0 : lastL (l.take 0) = -1 := by simp [lastL]
        rw [hl0] at hit
        rw [Nat.add_zero] at c0
        have hbr : b < wr.heap.size := by omega
        cases d1 : decide (x < 0)
        · have e1 := of_decide_eq_false d1
          cases d2 : decide (P ≤ x)
          · have e2 := of_decide_eq_false d2
            have hf := hid (hit.trans (decide_eq_true (by omega)))
            clear hm hit hbd hl0
            go_wp2
            refine wp_region_hd_all (fun W => Below wr.heap.size wr W) (by kernel_rfl) (by kernel_rfl) ((Below.refl _ _).drew) ?_
            iterate 29 (first | (refine wpHd_val (v := ?_) (by rfl) (fun W hW => ?_) ?_; rotate_left; (· obtain ⟨hcW, hfW⟩ := bcell hW; go_simp; with_reducible rfl); simp only [Act.put, List.setIfInBounds_toArray, List.set_cons_zero, List.set_cons_succ]) | (refine wpHd_not (by rfl) ?_; simp only [Act.put, List.setIfInBounds_toArray, List.set_cons_zero, List.set_cons_succ]))
            refine wpHd_nil ?_
            intro W9 hW9
            have hbw9 := hbw.trans (hW9.mono hszw)
            go_wp2
            exact ⟨⟨1, by omega, by go_num, hf, hbw9⟩, by simp [intOf]; omega⟩
          · have e2 := of_decide_eq_true d2
            have hf := hid (isL_off (hit.trans (decide_eq_false (by omega))))
            clear hm hit hbd hl0
            go_wp2
            refine wp_region_hd_all (fun W => Below wr.heap.size wr W) (by kernel_rfl) (by kernel_rfl) ((Below.refl _ _).drew) ?_
            iterate 29 (first | (refine wpHd_val (v := ?_) (by rfl) (fun W hW => ?_) ?_; rotate_left; (· obtain ⟨hcW, hfW⟩ := bcell hW; go_simp; with_reducible rfl); simp only [Act.put, List.setIfInBounds_toArray, List.set_cons_zero, List.set_cons_succ]) | (refine wpHd_not (by rfl) ?_; simp only [Act.put, List.setIfInBounds_toArray, List.set_cons_zero, List.set_cons_succ]))
            refine wpHd_nil ?_
            intro W9 hW9
            have hbw9 := hbw.trans (hW9.mono hszw)
            go_wp2
            refine bodyPost_ret (v := .bool false) (by first | (simp [results, Try.results49, go_sem]; done) | (simp [results, Try.results49, go_sem, *]; done) | (simp [results, Try.results49, go_sem, World.cell?_setCell_same', *]; done) | (simp [results, Try.results49, go_sem]; first | exact ⟨rfl, rfl⟩ | rfl)) rfl ⟨by rw [hf.out], hbw9⟩
        · have e1 := of_decide_eq_true d1
          have hf := hid (isL_off (hit.trans (decide_eq_false (by omega))))
          clear hm hit hbd hl0
          go_wp2
          refine wp_region_hd_all (fun W => Below wr.heap.size wr W) (by kernel_rfl) (by kernel_rfl) ((Below.refl _ _).drew) ?_
          iterate 29 (first | (refine wpHd_val (v := ?_) (by rfl) (fun W hW => ?_) ?_; rotate_left; (· obtain ⟨hcW, hfW⟩ := bcell hW; go_simp; with_reducible rfl); simp only [Act.put, List.setIfInBounds_toArray, List.set_cons_zero, List.set_cons_succ]) | (refine wpHd_not (by rfl) ?_; simp only [Act.put, List.setIfInBounds_toArray, List.set_cons_zero, List.set_cons_succ]))
          refine wpHd_nil ?_
          intro W9 hW9
          have hbw9 := hbw.trans (hW9.mono hszw)
          go_wp2
          refine bodyPost_ret (v := .bool false) (by first | (simp [results, Try.results49, go_sem]; done) | (simp [results, Try.results49, go_sem, *]; done) | (simp [results, Try.results49, go_sem, World.cell?_setCell_same', *]; done) | (simp [results, Try.results49, go_sem]; first | exact ⟨rfl, rfl⟩ | rfl)) rfl ⟨by rw [hf.out], hbw9⟩
      · obtain ⟨j, rfl⟩ : ∃ j, k = j + 1 := ⟨k - 1, by omega⟩
        obtain ⟨b', off', y, hAe, hb', hm', c0'⟩ := (HL.out.below hbw (Nat.le_refl _)).at_ (k := j) (by omega)
        cases hAe
        rw [lastL_take hm'] at hit hbd
        have zj : IntKind.i64.wrap (((j + 1 : Nat) : Int) - 1) = (j : Int) := by rw [Int.natCast_add, Int.natCast_one, Int.add_sub_cancel]; exact IntWalk.i64_in _ (by omega)
        have zj' : IntKind.i64.wrap ((j : Int) + 1 - 1) = (j : Int) := by rw [Int.add_sub_cancel]; exact IntWalk.i64_in _ (by omega)
        have zj2 : IntKind.i64.wrap (j : Int) = (j : Int) := IntWalk.i64_in _ (by omega)
        have hjlt : (j : Int) < n := by omega
        have hjp : (0 : Int) < ((j + 1 : Nat) : Int) := by omega
        have hjp2 : decide ((0 : Int) < ((j + 1 : Nat) : Int)) = true := decide_eq_true hjp
        have hjp3 : decide (0 < j + 1) = true := decide_eq_true (by omega)
        cases d1 : decide (x < 0)
        · have e1 := of_decide_eq_false d1
          cases d2 : decide (P ≤ x)
          · have e2 := of_decide_eq_false d2
            cases d3 : decide (x ≤ y)
            · have e3 := of_decide_eq_false d3
              have hf := hid (hit.trans (decide_eq_true (by omega)))
              clear hm hit hbd hm'
              go_wp2
              go_quiet (fail)
              go_wp2
              exact ⟨⟨j + 1 + 1, by omega, by go_num, hf, below_drewN hbw _⟩, by simp [intOf]; omega⟩
            · have e3 := of_decide_eq_true d3
              have hf := hid (isL_off (hit.trans (decide_eq_false (by omega))))
              clear hm hit hbd hm'
              go_wp2
              go_quiet (fail)
              go_wp2
              refine bodyPost_ret (v := .bool false) (by first | (simp [results, Try.results49, go_sem]; done) | (simp [results, Try.results49, go_sem, *]; done) | (simp [results, Try.results49, go_sem, World.cell?_setCell_same', *]; done) | (simp [results, Try.results49, go_sem]; first | exact ⟨rfl, rfl⟩ | rfl)) rfl ⟨by rw [hf.out], below_drewN hbw _⟩
          · have e2 := of_decide_eq_true d2
            have hf := hid (isL_off (hit.trans (decide_eq_false (by omega))))
            clear hm hit hbd hm'
            go_wp2
            go_quiet (fail)
            go_wp2
            refine bodyPost_ret (v := .bool false) (by first | (simp [results, Try.results49, go_sem]; done) | (simp [results, Try.results49, go_sem, *]; done) | (simp [results, Try.results49, go_sem, World.cell?_setCell_same', *]; done) | (simp [results, Try.results49, go_sem]; first | exact ⟨rfl, rfl⟩ | rfl)) rfl ⟨by rw [hf.out], below_drewN hbw _⟩
        · have e1 := of_decide_eq_true d1
          have hf := hid (isL_off (hit.trans (decide_eq_false (by omega))))
          clear hm hit hbd hm'
          go_wp2
          go_quiet (fail)
          go_wp2
          refine bodyPost_ret (v := .bool false) (by first | (simp [results, Try.results49, go_sem]; done) | (simp [results, Try.results49, go_sem, *]; done) | (simp [results, Try.results49, go_sem, World.cell?_setCell_same', *]; done) | (simp [results, Try.results49, go_sem]; first | exact ⟨rfl, rfl⟩ | rfl)) rfl ⟨by rw [hf.out], below_drewN hbw _⟩
    · obtain rfl : k = n := by omega
      have hf : Hid (isL P 0 l = true) := hid (by have := hok.out; rwa [List.take_of_length_le (by rw [hlen.out]; exact Nat.le_refl _)] at this)
      go_wp2
      refine bodyPost_ret (v := .bool true) (by first | (simp [results, Try.results49, go_sem]; done) | (simp [results, Try.results49, go_sem, *]; done) | (simp [results, Try.results49, go_sem, World.cell?_setCell_same', *]; done) | (simp [results, Try.results49, go_sem]; first | exact ⟨rfl, rfl⟩ | rfl)) rfl ⟨by rw [hf.out], hbw⟩
end Go.Proofs.Ytnpilfpackdimaa
/- Rows that are copied into, or cleared. Over any program. -/
namespace Go.Proofs.Ytnpilfpackdimaa
open Go.RowKit
/-- copy into a row, elements of any size. -/
theorem run_copy_sz {P : Program} (w : World) (dT sT ty elem : TypeId) (s : Nat) (g o dLen dCap : Nat) (a : Addr) (sLen sCap : Nat) (cur : Array Value) (t : TypeId) (cs : List Value)
    (hu : P.underlying dT = some (.slice elem)) (hs : (P.info? elem).map (·.size) = some s)
    (hg : w.heap[g]? = some (.cells cur t (0, 0))) (hn : cs.length = Nat.min sLen dLen * s)
    (hsrc : ∀ j v, cs[j]? = some v → w.cell? (a.add j) = some v) (hfit : o + cs.length ≤ cur.size) (h1 : ∀ v ∈ cs, v.oneCell' = true) :
    (Builtin.copy_ #[dT, sT] ty #[.slice (some ⟨g, o, none⟩) dLen dCap, .slice (some a) sLen sCap]).run P w =
      .ok (goInt (Nat.min sLen dLen)) (w.setRow g (cur.toList.take o ++ cs ++ cur.toList.drop (o + cs.length)).toArray) := by
  have hl := run_loadCells_list (P := P) w a cs hsrc
  have hst := run_storeCells_at P g o t cs 0 cur w hg (by simpa using hfit) h1
  cases hq : P.info? elem with
  | none => simp [hq] at hs
  | some i =>
    have hi : i.size = s := by simpa [hq] using hs
    simp [Builtin.copy_, run_underlying hu, Builtin.lenOf, Builtin.firstCells, sizeOf, typeInfo, hq, hi, ← hn, hl, hst]
theorem run_clear_sz {P : Program} (w : World) (dT ty elem : TypeId) (z : Value) (g o n c : Nat) (cur : Array Value) (t : TypeId)
    (hu : P.underlying dT = some (.slice elem)) (hz : (zeroValue elem).run P w = .ok z w) (hn : 0 < n)
    (hg : w.heap[g]? = some (.cells cur t (0, 0))) (cs : List Value) (hcs : (Builtin.zeroCells z.cells n).toList = cs) (hfit : o + cs.length ≤ cur.size) (h1 : ∀ v ∈ cs, v.oneCell' = true) :
    (Builtin.clear_ #[dT] ty #[.slice (some ⟨g, o, none⟩) n c]).run P w = .ok (.tuple #[]) (w.setRow g (cur.toList.take o ++ cs ++ cur.toList.drop (o + cs.length)).toArray) := by
  have hst := run_storeCells_at P g o t cs 0 cur w hg (by simpa using hfit) h1
  obtain ⟨m, rfl⟩ : ∃ m, n = m + 1 := ⟨n - 1, by omega⟩
  simp [Builtin.clear_, run_underlying hu, hz, hcs, hst]
theorem Blk.row {w : World} {g : Nat} {t : TypeId} {cs : Array Value} (h : Blk w g t cs) (cs' : Array Value) : Blk (w.setRow g cs') g t cs' := setRow_heap w g cs cs' t (0, 0) h
theorem below_setRow {B g : Nat} {a w : World} (h : Below B a w) (hg : B ≤ g) (cs : Array Value) : Below B a (w.setRow g cs) :=
  ⟨h.os, h.tape, h.output, by rw [setRow_size]; exact h.size, fun k hk => (setRow_other w g k cs (by omega)).trans (h.block k hk)⟩

theorem clear_self {w : World} {g : Nat} {t : TypeId} {cs : Array Value} (h : Blk w g t cs) : w.setRow g cs = w := setRow_self _ _ _ _ _ h
end Go.Proofs.Ytnpilfpackdimaa
/- Words over what a range-func keeps. Over any program. -/
namespace Go.Proofs.Ytnpilfpackdimaa
open Go.RowKit
theorem KpG.ownk {n₀ : Nat} {G : Nat → Prop} {A X Y : World} {row : Option Nat} (h : KpG n₀ G A X) (hg : X.grownBy Y row) (hr : ∀ r, row = some r → n₀ ≤ r) (hn : n₀ ≤ A.heap.size) : KpG n₀ G A Y :=
  ⟨Nat.le_trans h.1 hg.size, fun k hk hG => (hg.block k (by have := h.1; omega) (fun e => by have := hr k e.symm; omega)).trans (h.2 k hk hG)⟩
theorem KpG.blk {n₀ : Nat} {G : Nat → Prop} {A W : World} {g t : Nat} {cs : Array Value} (h : KpG n₀ G A W) (hb : Blk A g t cs) (hg : g < n₀) (hG : ¬ G g) : Blk W g t cs := (h.2 g hg hG).trans hb
theorem KpG.sl {n₀ : Nat} {G : Nat → Prop} {A W : World} {B s n : Nat} {a : Option Addr} {xs : List Value} (h : KpG n₀ G A W) (hs : Sl A B s a n xs) (hB : B ≤ n₀) (hG : ∀ k, k < B → ¬ G k) : Sl W B s a n xs :=
  hs.keep fun p hp => h.cell (by omega) (hG _ hp)
/-! Marks that a loop's rounds leave, each by a range over a function of its own. -/
def Marks (B M : Nat) (W : World) (ds : List Deferred) : Prop := ∃ Ds : List Nat, ds = Ds.map markOf ∧ Ds.Nodup ∧ ∀ D ∈ Ds, B ≤ D ∧ D < M ∧ W.heap[D]? = some (.deferred (some []))
theorem Marks.nil (B M : Nat) (W : World) : Marks B M W [] := ⟨[], rfl, List.nodup_nil, fun _ h => by cases h⟩
theorem Marks.step {B M M' : Nat} {W W' : World} {ds : List Deferred} (h : Marks B M W ds) (hM : M ≤ M') (hk : ∀ D, D < M → W.heap[D]? = some (.deferred (some [])) → W'.heap[D]? = some (.deferred (some []))) : Marks B M' W' ds := by
  obtain ⟨Ds, rfl, h1, h2⟩ := h
  exact ⟨Ds, rfl, h1, fun D hD => ⟨(h2 D hD).1, Nat.lt_of_lt_of_le (h2 D hD).2.1 hM, hk D (h2 D hD).2.1 (h2 D hD).2.2⟩⟩
theorem Marks.below {B M M' : Nat} {W W' : World} {ds : List Deferred} (h : Marks B M W ds) (hb : Below M W W') (hM : M ≤ M') : Marks B M' W' ds := h.step hM fun D hD h0 => (hb.block D hD).trans h0
theorem Marks.kp {B M n₀ : Nat} {G : Nat → Prop} {W W' : World} {ds : List Deferred} (h : Marks B M W ds) (hk : KpG n₀ G W W') (hM : M ≤ n₀) (hG : ∀ D, D < M → W.heap[D]? = some (.deferred (some [])) → ¬ G D) : Marks B M W' ds := h.step (Nat.le_refl _) fun D hD h0 => (hk.2 D (by omega) (hG D hD h0)).trans h0
theorem Marks.setCell {B M g t : Nat} {o : Nat} {cs : Array Value} {W : World} {ds : List Deferred} (h : Marks B M W ds) (hb : Blk W g t cs) (u : Value) : Marks B M (W.setCell ⟨g, o, none⟩ u) ds := h.step (Nat.le_refl _) fun D _ h0 =>
  (Below.heap_setCell _ _ _ _ (fun e => by simp at e; subst e; unfold Blk at hb; rw [hb] at h0; cases h0)).trans h0
theorem Marks.push {B M D : Nat} {W : World} {ds : List Deferred} (h : Marks B M W ds) (hB : B ≤ D) (hM : M ≤ D) (hD : W.heap[D]? = some (.deferred (some []))) : Marks B (D + 1) W ({ target := .collected D, args := #[] } :: ds) := by
  obtain ⟨Ds, rfl, h1, h2⟩ := h
  refine ⟨D :: Ds, rfl, List.nodup_cons.2 ⟨fun hm => by have := (h2 D hm).2.1; omega, h1⟩, fun D' hD' => ?_⟩
  rcases List.mem_cons.1 hD' with rfl | hm
  · exact ⟨hB, by omega, hD⟩
  · have := h2 D' hm
    exact ⟨this.1, by omega, this.2.2⟩
theorem Marks.leaves {B M : Nat} {P : Program} {n : Nat} {fn : Func} {tmps : Array Value} {R : Ending → World → Prop} {W : World} {ds : List Deferred} (h : Marks B M W ds)
    (hR : ∀ Ds w', (∀ D ∈ Ds, B ≤ D) → Off Ds W w' → ∃ v, (results fn tmps).run P w' = .ok v w' ∧ R (.returned v) w') : LeavesInM (Wd none) n P fn tmps R ds .returning W := by
  obtain ⟨Ds, rfl, h1, h2⟩ := h
  exact leavesM_marks Ds W h1 (fun D hD => (h2 D hD).2.2) (fun w' ho => hR Ds w' (fun D hD => (h2 D hD).1) ho)
end Go.Proofs.Ytnpilfpackdimaa
/- An append to a slice without room, as one step: what comes lies in a new block. Over any program. -/
namespace Go.Proofs.Ytnpilfpackdimaa
open Go.RowKit
section
variable {P : Program} (w : World)
/-- A slice without room: what it reads as. -/
def Full (w : World) (v : Value) (n : Nat) (xs : List Value) : Prop := (n = 0 ∧ v = .slice none 0 0) ∨ ∃ b, v = .slice (some b) n n ∧ ∀ j u, xs[j]? = some u → w.cell? (b.add j) = some u
theorem run_append_cap (base : Nat) (t ty e : TypeId) (i : TypeInfo) (z : Value) (size bytes : Nat) (ht : P.underlying t = some (.slice e)) (hi : P.info? e = some i) (hz : i.zero = some z)
    (hsize : i.size = size) (hby : i.bytes = bytes) (hzs : z.cells.size = size)
    (v : Value) (n : Nat) (xs : List Value) (hxs : xs.length = n * size) (hown : Full w v n xs)
    (a : Addr) (m c : Nat) (news : List Value) (hl : news.length = m * size) (hnews : ∀ j u, news[j]? = some u → w.cell? (a.add j) = some u)
    (hm : 0 < m) (h63 : n + m ≤ maxLen) (hbytes : (n + m) * bytes ≤ 140737488355328) (hbase : base ≤ w.heap.size) :
    ∃ cap w', (Builtin.append_ #[t, t] ty #[v, .slice (some a) m c]).run P w = .ok (.slice (some ⟨w.heap.size, 0, none⟩) (n + m) cap) w' ∧ w'.ownsRow base e size (.slice (some ⟨w.heap.size, 0, none⟩) (n + m) cap) (n + m) (xs ++ news) ∧ w.grownBy w' none ∧ w.heap.size < w'.heap.size := by
  subst hsize
  subst hby
  have hsmall : n + m ≤ 9223372036854775807 := by simp only [maxLen] at h63; omega
  have hlen : (xs ++ news).length = (n + m) * i.size := by rw [List.length_append, hxs, hl, Nat.add_mul]
  have grown : ∀ (old : Nat),
      (w.drew.alloc (.cells (xs.toArray ++ news.toArray ++ Builtin.zeroCells z.cells (grownCap w (n + m) old e - (n + m))) e)).ownsRow base e i.size
        (.slice (some ⟨w.heap.size, 0, none⟩) (n + m) (grownCap w (n + m) old e)) (n + m) (xs ++ news) ∧
      w.grownBy (w.drew.alloc (.cells (xs.toArray ++ news.toArray ++ Builtin.zeroCells z.cells (grownCap w (n + m) old e - (n + m))) e)) none ∧
      w.heap.size < (w.drew.alloc (.cells (xs.toArray ++ news.toArray ++ Builtin.zeroCells z.cells (grownCap w (n + m) old e - (n + m))) e)).heap.size := by
    intro old
    have hge := grownCap_ge w (n + m) old e
    have hcm : grownCap w (n + m) old e ≤ maxLen := grownCap_le_maxLen w (n + m) old e h63
    refine ⟨⟨hlen, .inr ⟨w.heap.size, _, _, rfl, hbase, heap_alloc_new w.drew _, hge, hcm, ?_, ?_⟩⟩, ⟨rfl, rfl, rfl, by simp, fun k hk _ => Below.heap_alloc w.drew _ k hk⟩, by simp⟩
    · simp only [Array.size_append, List.size_toArray, size_zeroCells, hzs, hxs, hl, ← Nat.add_mul]
      congr 1
      omega
    · simp only [Array.toList_append, List.append_assoc]
      rw [← List.append_assoc, ← hlen]
      exact List.take_left
  rcases hown with ⟨rfl, rfl⟩ | ⟨b, rfl, holds⟩
  · have hx : xs = [] := List.eq_nil_of_length_eq_zero (by simpa using hxs)
    subst hx
    have hr := run_append_nil (P := P) w t ty e i z ht hi hz a m c news hl hnews (by omega) (by omega) (by have hb := hbytes; simp only [Nat.zero_add] at hb; omega)
    have hgr := grown 0
    simp only [Nat.zero_add, List.nil_append, Array.empty_append] at hgr ⊢
    exact ⟨_, _, hr, hgr⟩
  · have hr := run_append_grow (P := P) w t ty e i z ht hi hz b n n xs hxs holds a m c news hl hnews (by omega) (by omega) (growslice_fits (by omega) hbytes)
    exact ⟨_, _, hr, grown n⟩
end
theorem wpList_append_cap {P : Program} {w : World} {ops : Array Oper} {rest : List Oper} {o : Oper} {a : Act} {Q : Exit → Act → World → Prop} (hgd : o.guard = none) (s x : Operand) (t : TypeId)
    (ho : o.op = .call { callee := .builtin .append, args := #[s, x], argTypes := #[t, t] })
    (base : Nat) (e : TypeId) (i : TypeInfo) (z : Value) (size bytes : Nat) (ht : P.underlying t = some (.slice e)) (hi : P.info? e = some i) (hz : i.zero = some z)
    (hsize : i.size = size) (hby : i.bytes = bytes) (hzs : z.cells.size = size)
    (v : Value) (n : Nat) (xs : List Value) (hs : a.eval s = v) (hxs : xs.length = n * size) (hown : Full w v n xs)
    (ad : Addr) (m c : Nat) (news : List Value) (hx : a.eval x = .slice (some ad) m c) (hl : news.length = m * size) (hnews : ∀ j u, news[j]? = some u → w.cell? (ad.add j) = some u)
    (hm : 0 < m) (h63 : n + m ≤ maxLen) (hbytes : (n + m) * bytes ≤ 140737488355328) (hbase : base ≤ w.heap.size)
    (h : ∀ cap w', w'.ownsRow base e size (.slice (some ⟨w.heap.size, 0, none⟩) (n + m) cap) (n + m) (xs ++ news) → w.grownBy w' none → w.heap.size < w'.heap.size → wpList P ops Q rest (a.put o.dst (.slice (some ⟨w.heap.size, 0, none⟩) (n + m) cap)) w') : wpList P ops Q (o :: rest) a w := by
  refine wpList_plain hgd fun K hK => ?_
  obtain ⟨cap, w', hr, h2, h3, h4⟩ := run_append_cap (P := P) w base t o.type e i z size bytes ht hi hz hsize hby hzs v n xs hxs hown ad m c news hl hnews hm h63 hbytes hbase
  unfold Oper.wp execOp
  simp only [ho, resolve, invoke, builtin, Sem.run_bind, Sem.run_pure, Result.andThen_ok, List.map_toArray, List.map_cons, List.map_nil, hs, hx, hr]
  exact hK _ _ (h cap w' h2 h3 h4)
theorem wpListIn_append_cap {F : Fence} {d : Nat} {P : Program} {w : World} {ops : Array Oper} {rest : List Oper} {o : Oper} {a : Act} {Q : Exit → Act → World → Prop} (hgd : o.guard = none) (s x : Operand) (t : TypeId)
    (ho : o.op = .call { callee := .builtin .append, args := #[s, x], argTypes := #[t, t] })
    (base : Nat) (e : TypeId) (i : TypeInfo) (z : Value) (size bytes : Nat) (ht : P.underlying t = some (.slice e)) (hi : P.info? e = some i) (hz : i.zero = some z)
    (hsize : i.size = size) (hby : i.bytes = bytes) (hzs : z.cells.size = size)
    (v : Value) (n : Nat) (xs : List Value) (hs : a.eval s = v) (hxs : xs.length = n * size) (hown : Full w v n xs)
    (ad : Addr) (m c : Nat) (news : List Value) (hx : a.eval x = .slice (some ad) m c) (hl : news.length = m * size) (hnews : ∀ j u, news[j]? = some u → w.cell? (ad.add j) = some u)
    (hm : 0 < m) (h63 : n + m ≤ maxLen) (hbytes : (n + m) * bytes ≤ 140737488355328) (hbase : base ≤ w.heap.size)
    (h : ∀ cap w', w'.ownsRow base e size (.slice (some ⟨w.heap.size, 0, none⟩) (n + m) cap) (n + m) (xs ++ news) → w.grownBy w' none → w.heap.size < w'.heap.size → wpListIn F d P ops Q rest (a.put o.dst (.slice (some ⟨w.heap.size, 0, none⟩) (n + m) cap)) w') : wpListIn F d P ops Q (o :: rest) a w := by
  refine wpListIn_plain hgd fun K hK' => ?_
  obtain ⟨cap, w', hrun, r1, r2, r3⟩ := run_append_cap (P := P) w base t o.type e i z size bytes ht hi hz hsize hby hzs v n xs hxs hown ad m c news hl hnews hm h63 hbytes hbase
  unfold Oper.wpIn
  refine ⟨?_, ?_⟩
  · simp [Oper.about, ho, resolve, Target.leads, Sem.run_pure]
  · rw [Oper.semAt_plain F _ _ (by rw [ho]; intro c hc'; cases hc')]
    simp [execOp, ho, resolve, invoke, builtin, hs, hx, hrun, Result.andThen]
    exact hK' _ _ (h cap w' r1 r2 r3)
theorem lupon_append_cap {P : Program} (w : World) {o : Oper} {a : Act} {K : Act → World → Prop} (s x : Operand) (t : TypeId)
    (ho : o.op = .call { callee := .builtin .append, args := #[s, x], argTypes := #[t, t] })
    (base : Nat) (e : TypeId) (i : TypeInfo) (z : Value) (size bytes : Nat) (ht : P.underlying t = some (.slice e)) (hi : P.info? e = some i) (hz : i.zero = some z)
    (hsize : i.size = size) (hby : i.bytes = bytes) (hzs : z.cells.size = size)
    (v : Value) (n : Nat) (xs : List Value) (hs : a.eval s = v) (hxs : xs.length = n * size) (hown : Full w v n xs)
    (ad : Addr) (m c : Nat) (news : List Value) (hx : a.eval x = .slice (some ad) m c) (hl : news.length = m * size) (hnews : ∀ j u, news[j]? = some u → w.cell? (ad.add j) = some u)
    (hm : 0 < m) (h63 : n + m ≤ maxLen) (hbytes : (n + m) * bytes ≤ 140737488355328) (hbase : base ≤ w.heap.size)
    (h : ∀ cap w', w'.ownsRow base e size (.slice (some ⟨w.heap.size, 0, none⟩) (n + m) cap) (n + m) (xs ++ news) → w.grownBy w' none → w.heap.size < w'.heap.size → K (a.put o.dst (.slice (some ⟨w.heap.size, 0, none⟩) (n + m) cap)) w') : LUpon P o a K ((execOp a.eval o).run P w) := by
  obtain ⟨cap, w', hr, h2, h3, h4⟩ := run_append_cap (P := P) w base t o.type e i z size bytes ht hi hz hsize hby hzs v n xs hxs hown ad m c news hl hnews hm h63 hbytes hbase
  unfold execOp
  simp only [ho, resolve, invoke, builtin, Sem.run_bind, Sem.run_pure, Result.andThen_ok, List.map_toArray, List.map_cons, List.map_nil, hs, hx, hr]
  exact h cap w' h2 h3 h4
theorem full_of_ins {w : World} {B n : Nat} {A : Option Addr} {l : List Int} (h : InS w B A n l) (h0 : n = 0 → A = none) : Full w (.slice A n n) n (l.flatMap cI) := by
  rcases Nat.eq_zero_or_pos n with h1 | h1
  · subst h1; rw [h0 rfl]; exact .inl ⟨rfl, rfl⟩
  · obtain ⟨b, off, e, _, hc⟩ := h.2 h1
    subst e
    exact .inr ⟨_, rfl, fun j u hu => by rw [add_at]; exact hc j u hu⟩
theorem below_grown0 {B : Nat} {a w w' : World} (h : Below B a w) (hg : w.grownBy w' none) (hB : B ≤ a.heap.size) : Below B a w' := h.trans ⟨hg.os, hg.tape, hg.output, hg.size, fun k hk => hg.block k (by have := h.size; omega) (by simp)⟩
theorem full_of_own {w : World} {base : Nat} {e : TypeId} {size n c : Nat} {A : Option Addr} {xs : List Value} (h : w.ownsRow base e size (.slice A n c) n xs) : Full w (.slice A n n) n xs := by
  rcases h.2 with ⟨e1, e2⟩ | ⟨g, cap, cur, e1, _⟩
  · cases e1; exact .inl ⟨rfl, rfl⟩
  · cases e1; exact .inr ⟨_, rfl, h.cells (g := g) rfl⟩
end Go.Proofs.Ytnpilfpackdimaa
/- Walks: marks: an array of eight; a set marked, listed, held. -/
namespace Go.Proofs.Ytnpilfpackdimaa
open Go.RowKit Go.Shelf
attribute [local go_sem] Oper.semAt_some
/-- The marks of a set, by bits, as cells. -/
def bv (b i : Nat) : Value := .int .i64 (if b.testBit i then 1 else 0)
@[go_sem] theorem run_store_bv (P : Program) (a : Addr) (b i : Nat) (m : Mode) (w : World) : (store a (bv b i) m).run P w = stored P w a (bv b i) m := run_store P w a _ m rfl
def mkB (b : Nat) : Array Value := #[bv b 0, bv b 1, bv b 2, bv b 3, bv b 4, bv b 5, bv b 6, bv b 7]
theorem bv_t {b i : Nat} (h : b.testBit i = true) : bv b i = .int .i64 1 := by unfold bv; rw [h]; rfl
theorem bv_f {b i : Nat} (h : b.testBit i = false) : bv b i = .int .i64 0 := by unfold bv; rw [h]; rfl
theorem mkB_at {b k : Nat} (h : k < 8) : (mkB b)[k]? = some (bv b k) := by
  have hc : k = 0 ∨ k = 1 ∨ k = 2 ∨ k = 3 ∨ k = 4 ∨ k = 5 ∨ k = 6 ∨ k = 7 := by omega
  rcases hc with rfl | rfl | rfl | rfl | rfl | rfl | rfl | rfl <;> rfl
theorem mkB_congr {a b : Nat} (h : ∀ i, i < 8 → a.testBit i = b.testBit i) : mkB a = mkB b := by
  have e : ∀ i, i < 8 → bv a i = bv b i := fun i hi => by unfold bv; rw [h i hi]
  unfold mkB
  rw [e 0 (by omega), e 1 (by omega), e 2 (by omega), e 3 (by omega), e 4 (by omega), e 5 (by omega), e 6 (by omega), e 7 (by omega)]
theorem mkB_put {b c n : Nat} {v : Bool} (hn : n < 8) (h : ∀ i, c.testBit i = if i = n then v else b.testBit i) : (mkB b).setIfInBounds n (.int .i64 (if v then 1 else 0)) = mkB c := by
  have e : ∀ i : Nat, bv c i = if i = n then .int .i64 (if v then 1 else 0) else bv b i := fun i => by
    unfold bv
    rw [h]
    split <;> rfl
  have hc : n = 0 ∨ n = 1 ∨ n = 2 ∨ n = 3 ∨ n = 4 ∨ n = 5 ∨ n = 6 ∨ n = 7 := by omega
  unfold mkB
  simp only [e]
  rcases hc with rfl | rfl | rfl | rfl | rfl | rfl | rfl | rfl <;> rfl
/-- One mark off. -/
def clr (b n : Nat) : Nat := (b ||| 2 ^ n) ^^^ 2 ^ n
theorem clr_test (b n i : Nat) : (clr b n).testBit i = if i = n then false else b.testBit i := by
  unfold clr
  rw [Nat.testBit_xor, Nat.testBit_or, Nat.testBit_two_pow]
  by_cases e : n = i
  · simp [e]
  · simp [e, Ne.symm e]
theorem or_test (b n i : Nat) : (b ||| 2 ^ n).testBit i = if i = n then true else b.testBit i := by
  rw [Nat.testBit_or, Nat.testBit_two_pow]
  by_cases e : n = i
  · simp [e]
  · simp [e, Ne.symm e]
theorem mkB_on {b n : Nat} (hn : n < 8) : (mkB b).setIfInBounds n (.int .i64 1) = mkB (b ||| 2 ^ n) := mkB_put (v := true) hn (or_test b n)
theorem mkB_off {b n : Nat} (hn : n < 8) : (mkB b).setIfInBounds n (.int .i64 0) = mkB (clr b n) := mkB_put (v := false) hn (clr_test b n)
theorem mkB_take {l : List Int} {k n : Nat} (h : l[k]? = some (n : Int)) (hn : n < 8) : (mkB (bitsL (l.take k))).setIfInBounds n (.int .i64 1) = mkB (bitsL (l.take (k + 1))) := by
  rw [mkB_on hn, bitsL_take h, Int.toNat_natCast]
theorem zero8a : (Builtin.zeroCells (#[.int .i64 0]) 8).toList = [.int .i64 0, .int .i64 0, .int .i64 0, .int .i64 0, .int .i64 0, .int .i64 0, .int .i64 0, .int .i64 0] := by kernel_rfl
theorem zero8 : (Builtin.zeroCells (#[.int .i64 0]) 8).toList = (mkB 0).toList := zero8a.trans rfl
theorem mkB_size (b : Nat) : (mkB b).size = 8 := rfl
set_option maxRecDepth 10000 in
set_option maxHeartbeats 1600000 in
theorem marked_any (A : Option Addr) (n c : Nat) (l : List Int) (w : World) (hl : InS w w.heap.size A n l) (hn : n ≤ 1000000) (hb : ∀ x ∈ l, 0 ≤ x ∧ x < 8) :
    Calls Try.prog 36 #[.slice A n c] w fun e w' => e = .returned (.agg (mkB (bitsL l))) ∧ Below w.heap.size w w' := by
  have hlen := hid hl.len
  have HL := hid hl
  have Hb := hid hb
  clear hl hb
  obtain ⟨W2, hW2⟩ : ∃ W2, (w.alloc (.cells #[.int .i64 0, .int .i64 0, .int .i64 0, .int .i64 0, .int .i64 0, .int .i64 0, .int .i64 0, .int .i64 0] 57)).alloc (.cells #[.int .i64 0, .int .i64 0, .int .i64 0, .int .i64 0, .int .i64 0, .int .i64 0, .int .i64 0, .int .i64 0] 57) = W2 := ⟨_, rfl⟩
  have b2 : Blk W2 w.heap.size 57 (mkB 0) := by rw [← hW2]; exact (Blk.new' rfl).alloc _
  have b3 : Blk W2 (w.heap.size + 1) 57 (mkB 0) := by rw [← hW2]; exact Blk.new' (by simp)
  have hb2 : Below w.heap.size w W2 := by rw [← hW2]; exact ((Below.refl _ _).alloc (Nat.le_refl _) _).alloc (by simp) _
  have hcl := run_clear_sz (P := Try.prog) W2 25 0 3 (.int .i64 0) (w.heap.size + 1) 0 8 8 (mkB 0) 57 (by kernel_rfl) (by go_simp) (by omega) b3 (mkB 0).toList zero8 (by simp [mkB]) (by
    intro u hu
    simp only [mkB, List.mem_cons, List.not_mem_nil, or_false] at hu
    rcases hu with rfl | rfl | rfl | rfl | rfl | rfl | rfl | rfl <;> rfl)
  rw [show ((mkB 0).toList.take 0 ++ (mkB 0).toList ++ (mkB 0).toList.drop (0 + (mkB 0).toList.length)).toArray = mkB 0 from rfl, clear_self b3] at hcl
  have l2 := b2.lt
  have l3 := b3.lt
  go_enter Try.func36, Try.ntmps36
  go_wp2
  clear hcl hW2
  go_loopw [9] (fun i wr => ∃ k : Nat, k ≤ n ∧ i = .int .i64 k ∧ Blk wr (w.heap.size + 1) 57 (mkB (bitsL (l.take k))) ∧ Blk wr w.heap.size 57 (mkB 0) ∧ Below w.heap.size w wr) (fun i _ => n - (intOf i).toNat)
  case atStart => exact ⟨0, by omega, rfl, b3, b2, hb2⟩
  case round =>
    clear b2 b3 hb2 l2 l3
    obtain ⟨k, hk, rfl, b3, b2, hbw⟩ := hrel
    have hszw := hbw.size
    have l2 := b2.lt
    have l3 := b3.lt
    by_cases hlt : k < n
    · obtain ⟨b, off, x, rfl, hb1, hm, c0⟩ := (HL.out.below hbw (Nat.le_refl _)).at_ hlt
      obtain ⟨x0, x1⟩ := Hb.out x (List.mem_of_getElem? hm)
      obtain ⟨y, rfl⟩ : ∃ y : Nat, x = y := ⟨x.toNat, by omega⟩
      have hy8 : y < 8 := by omega
      have hy8i : (y : Int) < 8 := by omega
      have hst := hid (mkB_take hm hy8)
      have hlti : (k : Int) < n := by omega
      have c1 := b3.cell y
      have f1 := b3.frozen y
      rw [Array.getElem?_eq_getElem (by rw [mkB_size]; exact hy8)] at c1
      clear hm
      go_wp2
      refine ⟨⟨k + 1, by omega, by go_num, by rw [← hst.out]; exact b3.set_ y _, b2.far (by simp) _, hbw.setCell (by simp) _⟩, by simp [intOf]; omega⟩
    · obtain rfl : n = k := by omega
      have hf : Hid (l.take n = l) := hid (List.take_of_length_le (by rw [hlen.out]; exact Nat.le_refl _))
      rw [hf.out] at b3
      have c0 : wr.cell? ⟨w.heap.size + 1, 0, none⟩ = some (bv (bitsL l) 0) := b3.cell 0
      have c1 : wr.cell? ⟨w.heap.size + 1, 1, none⟩ = some (bv (bitsL l) 1) := b3.cell 1
      have c2 : wr.cell? ⟨w.heap.size + 1, 2, none⟩ = some (bv (bitsL l) 2) := b3.cell 2
      have c3 : wr.cell? ⟨w.heap.size + 1, 3, none⟩ = some (bv (bitsL l) 3) := b3.cell 3
      have c4 : wr.cell? ⟨w.heap.size + 1, 4, none⟩ = some (bv (bitsL l) 4) := b3.cell 4
      have c5 : wr.cell? ⟨w.heap.size + 1, 5, none⟩ = some (bv (bitsL l) 5) := b3.cell 5
      have c6 : wr.cell? ⟨w.heap.size + 1, 6, none⟩ = some (bv (bitsL l) 6) := b3.cell 6
      have c7 : wr.cell? ⟨w.heap.size + 1, 7, none⟩ = some (bv (bitsL l) 7) := b3.cell 7
      have d0 : wr.cell? ⟨w.heap.size, 0, none⟩ = some (bv 0 0) := b2.cell 0
      have f0 := b2.frozen 0
      have d1 : wr.cell? ⟨w.heap.size, 1, none⟩ = some (bv 0 1) := b2.cell 1
      have f1 := b2.frozen 1
      have d2 : wr.cell? ⟨w.heap.size, 2, none⟩ = some (bv 0 2) := b2.cell 2
      have f2 := b2.frozen 2
      have d3 : wr.cell? ⟨w.heap.size, 3, none⟩ = some (bv 0 3) := b2.cell 3
      have f3 := b2.frozen 3
      have d4 : wr.cell? ⟨w.heap.size, 4, none⟩ = some (bv 0 4) := b2.cell 4
      have f4 := b2.frozen 4
      have d5 : wr.cell? ⟨w.heap.size, 5, none⟩ = some (bv 0 5) := b2.cell 5
      have f5 := b2.frozen 5
      have d6 : wr.cell? ⟨w.heap.size, 6, none⟩ = some (bv 0 6) := b2.cell 6
      have f6 := b2.frozen 6
      have d7 : wr.cell? ⟨w.heap.size, 7, none⟩ = some (bv 0 7) := b2.cell 7
      have f7 := b2.frozen 7
      have g0 := hbw.setCell (p := (⟨w.heap.size, 0, none⟩ : Addr)) (by simp) (bv (bitsL l) 0)
      have g1 := g0.setCell (p := (⟨w.heap.size, 1, none⟩ : Addr)) (by simp) (bv (bitsL l) 1)
      have g2 := g1.setCell (p := (⟨w.heap.size, 2, none⟩ : Addr)) (by simp) (bv (bitsL l) 2)
      have g3 := g2.setCell (p := (⟨w.heap.size, 3, none⟩ : Addr)) (by simp) (bv (bitsL l) 3)
      have g4 := g3.setCell (p := (⟨w.heap.size, 4, none⟩ : Addr)) (by simp) (bv (bitsL l) 4)
      have g5 := g4.setCell (p := (⟨w.heap.size, 5, none⟩ : Addr)) (by simp) (bv (bitsL l) 5)
      have g6 := g5.setCell (p := (⟨w.heap.size, 6, none⟩ : Addr)) (by simp) (bv (bitsL l) 6)
      have g7 := g6.setCell (p := (⟨w.heap.size, 7, none⟩ : Addr)) (by simp) (bv (bitsL l) 7)
      clear b2 b3 g0 g1 g2 g3 g4 g5 g6
      go_wp2
      refine bodyPost_ret (v := .agg (mkB (bitsL l))) (by simp [results, Try.results36, go_sem, World.cell?_setCell_same', d0, d1, d2, d3, d4, d5, d6, d7]; rfl) rfl ⟨rfl, g7⟩
end Go.Proofs.Ytnpilfpackdimaa
/- append of what a slice value reads as, nil or not, at a guarded operation, too. -/
namespace Go.Proofs.Ytnpilfpackdimaa
open Go.RowKit
theorem wpList_wanted {P : Program} {w : World} {ops : Array Oper} {rest : List Oper} {o : Oper} {a : Act} {Q : Exit → Act → World → Prop} (hw : Region.wanted o (yielded ops a.tmps) = true)
    (h : ∀ K : Act → World → Prop, (∀ a w, wpList P ops Q rest a w → K a w) → o.wp P a w K Q) : wpList P ops Q (o :: rest) a w :=
  wpList_step fun K hK => by simp only [hw, if_true]; exact h K hK
theorem wpList_append_srcG {P : Program} {w : World} {ops : Array Oper} {rest : List Oper} {o : Oper} {a : Act} {Q : Exit → Act → World → Prop} (hw : Region.wanted o (yielded ops a.tmps) = true) (s x : Operand) (t : TypeId)
    (ho : o.op = .call { callee := .builtin .append, args := #[s, x], argTypes := #[t, t] })
    (base : Nat) (e : TypeId) (i : TypeInfo) (z : Value) (size bytes : Nat) (ht : P.underlying t = some (.slice e)) (hi : P.info? e = some i) (hz : i.zero = some z)
    (hsize : i.size = size) (hby : i.bytes = bytes) (hzs : z.cells.size = size) (hsz : 0 < size)
    (v : Value) (n : Nat) (xs : List Value) (hs : a.eval s = v) (hown : w.ownsRow base e size v n xs)
    (A : Option Addr) (m c : Nat) (news : List Value) (hx : a.eval x = .slice A m c) (B : Nat) (hS : Sl w B size A m news) (hA : A = none → m = 0 ∧ c = 0) (h1 : ∀ u ∈ news, u.oneCell' = true)
    (h63 : n + m ≤ maxLen) (hbytes : (n + m) * bytes ≤ 140737488355328) (hbase : base ≤ w.heap.size)
    (h : ∀ v' w', w'.ownsRow base e size v' (n + m) (xs ++ news) → w.grownBy w' v.ownBlock → (v' = .slice none 0 0 ↔ v = .slice none 0 0 ∧ m = 0) → (v'.ownBlock = v.ownBlock ∨ v'.ownBlock = some w.heap.size) → wpList P ops Q rest (a.put o.dst v') w') :
    wpList P ops Q (o :: rest) a w := by
  refine wpList_wanted hw fun K hK => ?_
  cases A with
  | none =>
    obtain ⟨rfl, rfl⟩ := hA rfl
    have hn : news = [] := List.eq_nil_of_length_eq_zero (by rw [hS.1]; omega)
    subst hn
    have hrun := run_append_owned_none (P := P) (w := w) base t o.type e i size ht hi v n xs hown
    unfold Oper.wp
    simp [execOp, ho, resolve, invoke, builtin, hs, hx, hrun, Result.andThen]
    exact hK _ _ (h v w (by rw [List.append_nil, Nat.add_zero]; exact hown) ⟨rfl, rfl, rfl, Nat.le_refl _, fun _ _ _ => rfl⟩ (by simp) (.inl rfl))
  | some ad =>
    have hnews : ∀ j u, news[j]? = some u → w.cell? (ad.add j) = some u := fun j u hj => by
      have hm : 0 < m := by
        rcases Nat.eq_zero_or_pos m with h0 | h0
        · have := hS.1; rw [h0, Nat.zero_mul] at this
          rw [List.eq_nil_of_length_eq_zero this] at hj; simp at hj
        · exact h0
      obtain ⟨b, off, hA', -, hc⟩ := hS.2 hm
      cases hA'
      rw [add_at]
      exact hc j u hj
    obtain ⟨v', w', hr, h2, h3, h4, h5⟩ := run_append_own_at (P := P) w base t o.type e i z size bytes ht hi hz hsize hby hzs hsz v n xs hown ad m c news hS.1 hnews h1 h63 hbytes hbase
    unfold Oper.wp execOp
    simp only [ho, resolve, invoke, builtin, Sem.run_bind, Sem.run_pure, Result.andThen_ok, List.map_toArray, List.map_cons, List.map_nil, hs, hx, hr]
    exact hK _ _ (h v' w' h2 h3 h4 h5)
end Go.Proofs.Ytnpilfpackdimaa
/- Walks: marks: closures over them; a set held; the set of marks. -/
namespace Go.Proofs.Ytnpilfpackdimaa
open Go.RowKit Go.Shelf
attribute [local go_sem] Oper.semAt_some
theorem info_parts' {t : TypeId} {a : Option Value} {b c : Nat} (h : (Try.prog.info? t).map (fun i => (i.zero, i.size, i.bytes)) = some (a, b, c)) : ∃ i, Try.prog.info? t = some i ∧ i.zero = a ∧ i.size = b ∧ i.bytes = c := by
  cases hi : Try.prog.info? t with
  | none => rw [hi] at h; cases h
  | some i => rw [hi] at h; simp only [Option.map_some, Option.some.injEq, Prod.mk.injEq] at h; exact ⟨i, rfl, h.1, h.2.1, h.2.2⟩
theorem infoI : (Try.prog.info? 3).map (fun i => (i.zero, i.size, i.bytes)) = some (some (.int .i64 0), 1, 8) := by kernel_rfl
theorem infoL : (Try.prog.info? 25).map (fun i => (i.zero, i.size, i.bytes)) = some (some (.slice none 0 0), 1, 24) := by kernel_rfl
theorem underL : Try.prog.underlying 25 = some (.slice 3) := by kernel_rfl
theorem underLL : Try.prog.underlying 22 = some (.slice 25) := by kernel_rfl
/-- A set in bits, member by member. -/
def inB (b : Nat) (x : Int) : Bool := b.testBit x.toNat
set_option maxHeartbeats 400000 in
theorem missed1_any (x : Int) (b g : Nat) (w : World) (hb : Blk w g 57 (mkB b)) (h0 : 0 ≤ x) (h8 : x < 8) :
    Calls Try.prog 70 #[.int .i64 x, .pointer (some ⟨g, 0, none⟩)] w fun e w' => e = .returned (.bool (inB b x)) ∧ w = w' := by
  obtain ⟨k, rfl⟩ : ∃ k : Nat, x = k := ⟨x.toNat, by omega⟩
  have hk : k < 8 := by omega
  have hki : (k : Int) < 8 := by omega
  have c0 := (hb.cell k).trans (mkB_at hk)
  have hp : Hid (inB b (k : Int) = b.testBit k) := rfl
  have lg := hb.lt
  cases ht : b.testBit k
  · rw [bv_f ht] at c0
    rw [ht] at hp
    clear ht hb
    go_enter Try.func70, Try.ntmps70
    go_wp2
    go_ret
    exact ⟨by rw [hp.out]; rfl, rfl⟩
  · rw [bv_t ht] at c0
    rw [ht] at hp
    clear ht hb
    go_enter Try.func70, Try.ntmps70
    go_wp2
    go_ret
    exact ⟨by rw [hp.out]; rfl, rfl⟩
set_option maxHeartbeats 400000 in
theorem all1_any (x : Int) (b g : Nat) (w : World) (hb : Blk w g 57 (mkB b)) (h0 : 0 ≤ x) (h8 : x < 8) :
    Calls Try.prog 78 #[.int .i64 x, .pointer (some ⟨g, 0, none⟩)] w fun e w' => e = .returned (.bool (inB b x)) ∧ w = w' := by
  obtain ⟨k, rfl⟩ : ∃ k : Nat, x = k := ⟨x.toNat, by omega⟩
  have hk : k < 8 := by omega
  have hki : (k : Int) < 8 := by omega
  have c0 := (hb.cell k).trans (mkB_at hk)
  have hp : Hid (inB b (k : Int) = b.testBit k) := rfl
  have lg := hb.lt
  cases ht : b.testBit k
  · rw [bv_f ht] at c0
    rw [ht] at hp
    clear ht hb
    go_enter Try.func78, Try.ntmps78
    go_wp2
    go_ret
    exact ⟨by rw [hp.out]; rfl, rfl⟩
  · rw [bv_t ht] at c0
    rw [ht] at hp
    clear ht hb
    go_enter Try.func78, Try.ntmps78
    go_wp2
    go_ret
    exact ⟨by rw [hp.out]; rfl, rfl⟩
set_option maxHeartbeats 400000 in
theorem marksHas1_any (x : Int) (b g : Nat) (w : World) (hb : Blk w g 57 (mkB b)) (h0 : 0 ≤ x) (h8 : x < 8) :
    Calls Try.prog 79 #[.int .i64 x, .pointer (some ⟨g, 0, none⟩)] w fun e w' => e = .returned (.bool (!inB b x)) ∧ w = w' := by
  obtain ⟨k, rfl⟩ : ∃ k : Nat, x = k := ⟨x.toNat, by omega⟩
  have hk : k < 8 := by omega
  have hki : (k : Int) < 8 := by omega
  have c0 := (hb.cell k).trans (mkB_at hk)
  have hp : Hid (inB b (k : Int) = b.testBit k) := rfl
  have lg := hb.lt
  cases ht : b.testBit k
  · rw [bv_f ht] at c0
    rw [ht] at hp
    clear ht hb
    go_enter Try.func79, Try.ntmps79
    go_wp2
    go_ret
    exact ⟨by rw [hp.out]; rfl, rfl⟩
  · rw [bv_t ht] at c0
    rw [ht] at hp
    clear ht hb
    go_enter Try.func79, Try.ntmps79
    go_wp2
    go_ret
    exact ⟨by rw [hp.out]; rfl, rfl⟩
theorem load8 {b g : Nat} {t : TypeId} {w : World} (hb : Blk w g t (mkB b)) : w.cell? ⟨g, 0, none⟩ = some (bv b 0) ∧ w.cell? ⟨g, 1, none⟩ = some (bv b 1) ∧ w.cell? ⟨g, 2, none⟩ = some (bv b 2) ∧ w.cell? ⟨g, 3, none⟩ = some (bv b 3) ∧ w.cell? ⟨g, 4, none⟩ = some (bv b 4) ∧ w.cell? ⟨g, 5, none⟩ = some (bv b 5) ∧ w.cell? ⟨g, 6, none⟩ = some (bv b 6) ∧ w.cell? ⟨g, 7, none⟩ = some (bv b 7) :=
  ⟨hb.cell 0, hb.cell 1, hb.cell 2, hb.cell 3, hb.cell 4, hb.cell 5, hb.cell 6, hb.cell 7⟩
set_option maxRecDepth 100000 in
set_option maxHeartbeats 800000 in
theorem marksHas_any (b : Nat) (A : Option Addr) (n c : Nat) (l : List Int) (w : World) (hl : InS w w.heap.size A n l) (hn : n ≤ 1000000) (hbd : ∀ x ∈ l, 0 ≤ x ∧ x < 8) :
    Calls Try.prog 57 #[.agg (mkB b), .slice A n c] w fun e w' => e = .returned (.bool (l.all (inB b))) ∧ Below w.heap.size w w' := by
  have eg : ∀ args w, (callFunc 79 args).run Try.prog w = .ok (.enter 79 args) w := enters_of Try.func79 (by kernel_rfl) rfl
  have HN := hid (any_not_all (inB b) l)
  obtain ⟨bw, hbw⟩ : ∃ bw, l.all (inB b) = bw := ⟨_, rfl⟩
  rw [hbw] at HN ⊢
  have hc := conFI_any 79 #[.pointer (some ⟨w.heap.size, 0, none⟩)] eg (fun x => !inB b x) A n c l (w.alloc (.cells (mkB b) 57)) (hl.below (by repeat' (first | with_reducible assumption | with_reducible exact Below.refl _ _ | refine Below.alloc ?_ ?_ _ | refine Below.setCell ?_ ?_ _ | refine Below.drew ?_ | refine below_drewN ?_ _ | (simp; done) | (simp; omega) | omega)) (by first | (simp; done) | (simp; omega) | omega)) hn (fun x hx => marksHas1_any x b _ _ (Blk.new' rfl) (hbd x hx).1 (hbd x hx).2)
  rw [HN.out] at hc
  unfold mkB at hc ⊢
  clear hbw eg hbd hl
  go_enter Try.func57, Try.ntmps57
  go_wp2_with (go_at_call 69; refine hc.mono ?_; rintro e w1 ⟨rfl, rfl⟩)
  refine bodyPost_ret (v := .bool bw) (by first | (simp [results, Try.results57, go_sem]; done) | (simp [results, Try.results57, go_sem, *]; done) | (simp [results, Try.results57, go_sem, World.cell?_setCell_same', *]; done) | (simp [results, Try.results57, go_sem]; first | exact ⟨rfl, rfl⟩ | rfl)) rfl ⟨rfl, (by repeat' (first | with_reducible assumption | with_reducible exact Below.refl _ _ | refine Below.alloc ?_ ?_ _ | refine Below.setCell ?_ ?_ _ | refine Below.drew ?_ | refine below_drewN ?_ _ | (simp; done) | (simp; omega) | omega))⟩
theorem index_bv (b : Nat) {k : Nat} (hk : k < 8) (W : World) : (Instr.index 57 (.agg #[bv b 0, bv b 1, bv b 2, bv b 3, bv b 4, bv b 5, bv b 6, bv b 7]) (.int .i64 k)).run Try.prog W = .ok (.int .i64 (if b.testBit k then 1 else 0)) W := by
  have hc : k = 0 ∨ k = 1 ∨ k = 2 ∨ k = 3 ∨ k = 4 ∨ k = 5 ∨ k = 6 ∨ k = 7 := by omega
  rcases hc with rfl | rfl | rfl | rfl | rfl | rfl | rfl | rfl <;> first | (simp [Instr.index, bv, go_sem]; done) | rfl
/-- A list that has just been made. -/
def LiNew (w : World) (A : Option Addr) (n c : Nat) (l : List Int) (w' : World) : Prop := n ≤ c ∧ (n = 0 → A = none ∧ c = 0) ∧ InS w' w'.heap.size A n l ∧ (∀ b off, A = some ⟨b, off, none⟩ → w.heap.size ≤ b) ∧ Below w.heap.size w w'
set_option maxRecDepth 10000 in
set_option maxHeartbeats 1600000 in
theorem list_any (b : Nat) (w : World) : Calls Try.prog 43 #[.agg (mkB b)] w fun e w' => ∃ A n c, e = .returned (.slice A n c) ∧ LiNew w A n c (listed b 8) w' := by
  obtain ⟨i0, hi0, hi1, hi2, hi3⟩ := info_parts' infoI
  have I0 := hid hi0; have I1 := hid hi1; have I2 := hid hi2; have I3 := hid hi3
  clear hi0 hi1 hi2 hi3
  obtain ⟨W2, hW2⟩ : ∃ W2, w.alloc (.cells (mkB b) 57) = W2 := ⟨_, rfl⟩
  have b2 : Blk W2 w.heap.size 57 (mkB b) := by rw [← hW2]; exact Blk.new' rfl
  have hb2 : Below w.heap.size w W2 := by rw [← hW2]; exact (Below.refl _ _).alloc (Nat.le_refl _) _
  have l2 := b2.lt
  obtain ⟨d0, d1, d2, d3, d4, d5, d6, d7⟩ := load8 b2
  unfold mkB at hW2 ⊢
  go_enter Try.func43, Try.ntmps43
  go_wp2
  clear d0 d1 d2 d3 d4 d5 d6 d7 hW2
  go_loopw [3, 7] (fun v i wr => ∃ (k ln cp : Nat) (A' : Option Addr), k ≤ 8 ∧ i = .int .i64 k ∧ v = .slice A' ln cp ∧ ln ≤ cp ∧ ln ≤ k ∧ Hid (InS wr wr.heap.size A' ln (listed b k)) ∧ (ln = 0 → A' = none ∧ cp = 0) ∧ Hid (∀ b off, A' = some ⟨b, off, none⟩ → w.heap.size ≤ b) ∧ Below w.heap.size w wr) (fun _ i _ => 8 - (intOf i).toNat)
  case atStart => exact ⟨0, 0, 0, none, by omega, rfl, rfl, by omega, by omega, hid Sl.none_, fun _ => ⟨rfl, rfl⟩, hid (fun _ _ h => by cases h), hb2⟩
  case round =>
    clear hb2 l2 b2
    obtain ⟨k, ln, cp, A', hk, rfl, rfl, hlc, hlk, hin, hnone, hfr, hbw⟩ := hrel
    have hszw := hbw.size
    by_cases hlt : k < 8
    · have hlti : (k : Int) < 8 := by omega
      have ga := index_bv b hlt
      have hs := listed_succ b k
      cases ht : b.testBit k
      · rw [ht] at hs ga
        simp only [Bool.false_eq_true, if_false, List.append_nil] at hs ga
        have Hs := hid hs
        clear hs ht
        go_wp2
        exact ⟨⟨k + 1, ln, cp, A', by omega, by go_num, rfl, hlc, by omega, hid (by rw [Hs.out]; exact hin.out), hnone, hfr, hbw⟩, by simp [intOf]; omega⟩
      · rw [ht] at hs ga
        simp only [if_true] at hs ga
        have Hs := hid hs
        clear hs ht
        by_cases hl0 : ln = 0
        · obtain ⟨rfl, rfl⟩ := hnone hl0
          subst hl0
          have hpre : Hid (listed b k = []) := hid (List.eq_nil_of_length_eq_zero hin.out.len)
          go_wp2_with (at_builtin; refine wpList_append_cap rfl _ _ 25 rfl w.heap.size 3 i0 _ 1 8 underL I0.out I1.out I2.out I3.out rfl _ 0 [] rfl rfl (Or.inl ⟨rfl, rfl⟩) ⟨wr.heap.size, 0, none⟩ 1 1 [.int .i64 (k : Int)] rfl rfl (fun j u hj => World.news_of_block (Blk.new' rfl) j u hj) (by decide) (by unfold maxLen; omega) (by omega) (by simp; omega) ?_; intro cap w3 ho3 hg3 hz3)
          have hb3 : Below w.heap.size w w3 := (hbw.alloc hszw _).grown hg3 (by simp; omega) (fun _ h => by cases h)
          have hc3 := own_cap ho3
          have hi3 : InS w3 w3.heap.size (some ⟨wr.heap.size + 1, 0, none⟩) 1 (listed b (k + 1)) := by rw [Hs.out, hpre.out]; have := Sl.of_own ho3; unfold InS; simpa [cI] using this
          have HI3 := hid hi3
          clear hi3 ho3
          (first | exact ⟨⟨k + 1, 1, cap, some ⟨wr.heap.size + 1, 0, none⟩, by omega, by go_num, (by simp), by omega, by omega, HI3, (fun h => by omega), hid (fun _ _ h => by cases h; omega), hb3⟩, (by first | (simp [intOf]; omega) | (simp [intOf]; done))⟩ | (refine ⟨?_, ?_⟩; (focus ((repeat apply Exists.intro); refine ⟨?_, rfl⟩; exact ⟨k + 1, 1, cap, some ⟨wr.heap.size + 1, 0, none⟩, by omega, by go_num, (by simp), by omega, by omega, HI3, (fun h => by omega), hid (fun _ _ h => by cases h; omega), hb3⟩)); (first | (simp [intOf]; omega) | (simp [intOf]; done))))
        · obtain ⟨b2, o2, rfl, hb2'⟩ := ins_some hin.out (by omega)
          have hll := hin.out.len
          have hfull : Full (wr.alloc (.cells #[.int .i64 (k : Int)] 3)) (.slice (some ⟨b2, o2, none⟩) ln ln) ln ((listed b k).flatMap cI) := Or.inr ⟨_, rfl, fun j u hj => by
            obtain ⟨b', o', e, hb', hc'⟩ := hin.out.2 (by omega)
            cases e
            rw [add_at]
            exact (World.cell?_alloc_lt _ _ _ hb').trans (hc' j u hj)⟩
          have HF := hid hfull
          have hfl : ((listed b k).flatMap cI).length = ln * 1 := by rw [flatI_len', hll, Nat.mul_one]
          have Hfl := hid hfl
          clear hll hfull hfl
          go_wp2_with (at_builtin; refine wpList_append_cap rfl _ _ 25 rfl w.heap.size 3 i0 _ 1 8 underL I0.out I1.out I2.out I3.out rfl _ ln ((listed b k).flatMap cI) rfl Hfl.out HF.out ⟨wr.heap.size, 0, none⟩ 1 1 [.int .i64 (k : Int)] rfl rfl (fun j u hj => World.news_of_block (Blk.new' rfl) j u hj) (by decide) (by unfold maxLen; omega) (by omega) (by simp; omega) ?_; intro cap w3 ho3 hg3 hz3)
          have hb3 : Below w.heap.size w w3 := (hbw.alloc hszw _).grown hg3 (by simp; omega) (fun _ h => by cases h)
          have hc3 := own_cap ho3
          have hi3 : InS w3 w3.heap.size (some ⟨wr.heap.size + 1, 0, none⟩) (ln + 1) (listed b (k + 1)) := by rw [Hs.out]; have := Sl.of_own ho3; unfold InS; rw [List.flatMap_append]; simpa [cI] using this
          have HI3 := hid hi3
          clear hi3 ho3
          (first | exact ⟨⟨k + 1, ln + 1, cap, some ⟨wr.heap.size + 1, 0, none⟩, by omega, by go_num, (by simp), by omega, by omega, HI3, (fun h => by omega), hid (fun _ _ h => by cases h; omega), hb3⟩, (by first | (simp [intOf]; omega) | (simp [intOf]; done))⟩ | (refine ⟨?_, ?_⟩; (focus ((repeat apply Exists.intro); refine ⟨?_, rfl⟩; exact ⟨k + 1, ln + 1, cap, some ⟨wr.heap.size + 1, 0, none⟩, by omega, by go_num, (by simp), by omega, by omega, HI3, (fun h => by omega), hid (fun _ _ h => by cases h; omega), hb3⟩)); (first | (simp [intOf]; omega) | (simp [intOf]; done))))
    · obtain rfl : k = 8 := by omega
      have hlti : ¬ ((8 : Nat) : Int) < 8 := by omega
      go_wp2
      refine bodyPost_ret (v := .slice A' ln cp) (by first | (simp [results, Try.results43, go_sem]; done) | (simp [results, Try.results43, go_sem, *]; done) | (simp [results, Try.results43, go_sem, World.cell?_setCell_same', *]; done) | (simp [results, Try.results43, go_sem]; first | exact ⟨rfl, rfl⟩ | rfl)) rfl ⟨A', ln, cp, rfl, hlc, hnone, hin.out, hfr.out, hbw⟩
end Go.Proofs.Ytnpilfpackdimaa
/- Walks: lists of lists in memory; searches among them; whether a book is valid; open. -/
namespace Go.Proofs.Ytnpilfpackdimaa
open Go.RowKit Go.Shelf
attribute [local go_sem] Oper.semAt_some
/-- A list of lists in memory. -/
def LiS (w : World) (B : Nat) (A : Option Addr) (n : Nat) (ls : List (List Int)) : Prop :=
  ls.length = n ∧ ∃ vs : List Value, Sl w B 1 A n vs ∧ ∀ (k : Nat) (l : List Int), ls[k]? = some l → ∃ (A' : Option Addr) (m c' : Nat), vs[k]? = some (Value.slice A' m c') ∧ InS w B A' m l
theorem LiS.below {w w' : World} {B B' n : Nat} {A : Option Addr} {ls : List (List Int)} (h : LiS w B A n ls) (hb : Below B w w') (hB : B ≤ B') : LiS w' B' A n ls := by
  obtain ⟨h1, vs, h2, h3⟩ := h
  exact ⟨h1, vs, h2.below' hb hB, fun k l hk => by obtain ⟨A', m, c', e, h4⟩ := h3 k l hk; exact ⟨A', m, c', e, h4.below hb hB⟩⟩
theorem LiS.at_ {w : World} {B n : Nat} {A : Option Addr} {ls : List (List Int)} (h : LiS w B A n ls) {k : Nat} (hk : k < n) : ∃ b off l A' m c', A = some ⟨b, off, none⟩ ∧ b < B ∧ ls[k]? = some l ∧ w.cell? ⟨b, off + k, none⟩ = some (.slice A' m c') ∧ InS w B A' m l := by
  obtain ⟨h1, vs, h2, h3⟩ := h
  have hl : ls[k]? = some ls[k] := List.getElem?_eq_getElem (by omega)
  obtain ⟨A', m, c', e, h4⟩ := h3 k _ hl
  obtain ⟨b, off, hA, hb, hc⟩ := h2.2 (by omega)
  exact ⟨b, off, _, A', m, c', hA, hb, hl, hc k _ e, h4⟩
/-- The lists that the values vs read as; none lies in block no. -/
def LiAt (w : World) (vs : List Value) (ls : List (List Int)) (no : Option Nat) : Prop :=
  vs.length = ls.length ∧ ∀ (k : Nat) (l : List Int), ls[k]? = some l → ∃ (A : Option Addr) (m c : Nat), vs[k]? = some (.slice A m c) ∧ InS w w.heap.size A m l ∧ ∀ b off, A = some ⟨b, off, none⟩ → b < w.heap.size ∧ no ≠ some b
theorem LiAt.nil (w : World) (no : Option Nat) : LiAt w [] [] no := ⟨rfl, fun k l h => by simp at h⟩
theorem InS.grown {w w' : World} {row : Option Nat} {m B : Nat} {A : Option Addr} {l : List Int} (h : InS w w.heap.size A m l) (hg : w.grownBy w' row) (hne : ∀ b off, A = some ⟨b, off, none⟩ → row ≠ some b) (hB : w.heap.size ≤ B) : InS w' B A m l := by
  refine ⟨h.1, fun hm => ?_⟩
  obtain ⟨b, off, e, hb, hc⟩ := h.2 hm
  exact ⟨b, off, e, by omega, fun j u hu => hg.cell (hc j u hu) (fun e' => hne b off e e'.symm)⟩
theorem LiAt.grown {w w' : World} {vs : List Value} {ls : List (List Int)} {no no' : Option Nat} (h : LiAt w vs ls no) (hg : w.grownBy w' no) (hn : no' = no ∨ no' = some w.heap.size) : LiAt w' vs ls no' := by
  refine ⟨h.1, fun k l hk => ?_⟩
  obtain ⟨A, m, c, h1, h2, h3⟩ := h.2 k l hk
  refine ⟨A, m, c, h1, h2.grown hg (fun b off e => (h3 b off e).2) hg.size, fun b off e => ?_⟩
  obtain ⟨h4, h5⟩ := h3 b off e
  refine ⟨Nat.lt_of_lt_of_le h4 hg.size, ?_⟩
  rcases hn with rfl | rfl
  · exact h5
  · intro e'; injection e' with e'; omega
theorem LiAt.below {w w' : World} {vs : List Value} {ls : List (List Int)} {no : Option Nat} (h : LiAt w vs ls no) (hb : Below w.heap.size w w') : LiAt w' vs ls no := by
  refine ⟨h.1, fun k l hk => ?_⟩
  obtain ⟨A, m, c, h1, h2, h3⟩ := h.2 k l hk
  exact ⟨A, m, c, h1, h2.below hb hb.size, fun b off e => ⟨Nat.lt_of_lt_of_le (h3 b off e).1 hb.size, (h3 b off e).2⟩⟩
theorem LiAt.snoc {w : World} {vs : List Value} {ls : List (List Int)} {no : Option Nat} (h : LiAt w vs ls no) {A : Option Addr} {m c : Nat} {l : List Int} (hl : InS w w.heap.size A m l) (hA : ∀ b off, A = some ⟨b, off, none⟩ → b < w.heap.size ∧ no ≠ some b) : LiAt w (vs ++ [.slice A m c]) (ls ++ [l]) no := by
  refine ⟨by rw [List.length_append, List.length_append, h.1]; rfl, fun k x hk => ?_⟩
  rcases Nat.lt_or_ge k ls.length with h1 | h1
  · rw [List.getElem?_append_left h1] at hk
    obtain ⟨A', m', c', h2, h3⟩ := h.2 k x hk
    exact ⟨A', m', c', by rw [List.getElem?_append_left (by rw [h.1]; exact h1)]; exact h2, h3⟩
  · rw [List.getElem?_append_right h1] at hk
    have hk0 : k - ls.length = 0 := by
      have := (List.getElem?_eq_some_iff.1 hk).1
      simp at this; omega
    rw [hk0] at hk
    obtain rfl : l = x := by simpa using hk
    exact ⟨A, m, c, by rw [List.getElem?_append_right (by rw [h.1]; exact h1), h.1, hk0]; rfl, hl, hA⟩
theorem LiAt.lis {w : World} {vs : List Value} {ls : List (List Int)} {no : Option Nat} {A : Option Addr} {n : Nat} (h : LiAt w vs ls no) (hs : Sl w w.heap.size 1 A n vs) : LiS w w.heap.size A n ls :=
  ⟨by rw [← h.1, hs.1, Nat.mul_one], vs, hs, fun k l hk => by obtain ⟨A', m, c, h1, h2, -⟩ := h.2 k l hk; exact ⟨A', m, c, h1, h2⟩⟩
theorem own_src {w : World} {base : Nat} {e : TypeId} {size : Nat} {v : Value} {n : Nat} {xs : List Value} (h : w.ownsRow base e size v n xs) : ∃ A c, v = .slice A n c ∧ Sl w w.heap.size size A n xs ∧ (A = none → n = 0 ∧ c = 0) := by
  obtain ⟨A, c, rfl, hs⟩ := sl_of_owns h
  refine ⟨A, c, rfl, hs, fun hA => ?_⟩
  subst hA
  rcases h.2 with ⟨h1, h2⟩ | ⟨g, cap, cur, h1, -⟩
  · cases h1; exact ⟨rfl, rfl⟩
  · cases h1
/-- A list of lists that has just been made: its own row, and what the lists read as. -/
def NewLi (w : World) (base : Nat) (v : Value) (ls : List (List Int)) : Prop := ∃ vs, w.ownsRow base 25 1 v ls.length vs ∧ LiAt w vs ls v.ownBlock
theorem NewLi.nil (w : World) (base : Nat) : NewLi w base (.slice none 0 0) [] := ⟨[], World.ownsRow_nil _ _ _ _, LiAt.nil _ _⟩
theorem NewLi.below {w w' : World} {base : Nat} {v : Value} {ls : List (List Int)} (h : NewLi w base v ls) (hb : Below w.heap.size w w') : NewLi w' base v ls := by
  obtain ⟨vs, h1, h2⟩ := h
  exact ⟨vs, owns_below h1 hb, h2.below hb⟩
theorem NewLi.mono {w : World} {base base' : Nat} {v : Value} {ls : List (List Int)} (h : NewLi w base v ls) (hb : base' ≤ base) : NewLi w base' v ls := by
  obtain ⟨vs, h1, h2⟩ := h
  exact ⟨vs, owns_mono h1 hb, h2⟩
theorem NewLi.lis {w : World} {base : Nat} {v : Value} {ls : List (List Int)} (h : NewLi w base v ls) : ∃ A c, v = .slice A ls.length c ∧ LiS w w.heap.size A ls.length ls ∧ (A = none → ls.length = 0 ∧ c = 0) := by
  obtain ⟨vs, h1, h2⟩ := h
  obtain ⟨A, c, e, h3, h4⟩ := own_src h1
  exact ⟨A, c, e, h2.lis h3, h4⟩
/-- One list more is appended: the list lies at A, the literal's block at g. -/
theorem newLi_append {P : Program} {w : World} {ops : Array Oper} {rest : List Oper} {o : Oper} {a : Act} {Q : Exit → Act → World → Prop} (hP : P = Try.prog) (hw : Region.wanted o (yielded ops a.tmps) = true) (s x : Operand)
    (ho : o.op = .call { callee := .builtin .append, args := #[s, x], argTypes := #[22, 22] })
    (base : Nat) (v : Value) (ls : List (List Int)) (hs : a.eval s = v) (hown : NewLi w base v ls)
    (g : Nat) (A : Option Addr) (m c : Nat) (l : List Int) (hx : a.eval x = .slice (some ⟨g, 0, none⟩) 1 1) (hg : Blk w g 25 #[.slice A m c]) (hl : InS w w.heap.size A m l) (hA : ∀ b off, A = some ⟨b, off, none⟩ → b < w.heap.size ∧ v.ownBlock ≠ some b)
    (hlen : ls.length ≤ 1000000) (hbase : base ≤ w.heap.size)
    (h : ∀ v' w', NewLi w' base v' (ls ++ [l]) → w.grownBy w' v.ownBlock → (v'.ownBlock = v.ownBlock ∨ v'.ownBlock = some w.heap.size) → wpList P ops Q rest (a.put o.dst v') w') :
    wpList P ops Q (o :: rest) a w := by
  subst hP
  obtain ⟨vs, h1, h2⟩ := hown
  obtain ⟨i0, hi0, hi1, hi2, hi3⟩ := info_parts' infoL
  refine wpList_append_srcG hw s x 22 ho base 25 i0 _ 1 24 underLL hi0 hi1 hi2 hi3 rfl (by decide) v ls.length vs hs h1 (some ⟨g, 0, none⟩) 1 1 [.slice A m c] hx w.heap.size ⟨rfl, fun _ => ⟨g, 0, rfl, hg.lt, fun j u hu => by rw [hg.cell, Nat.zero_add]; simpa using hu⟩⟩ (fun h => by cases h) (fun u hu => by rw [List.mem_singleton.1 hu]; rfl) (by unfold maxLen; omega) (by omega) hbase ?_
  intro v' w' ho' hg' _ hat
  exact h v' w' ⟨vs ++ [.slice A m c], by rw [List.length_append]; exact ho', (h2.snoc hl hA).grown hg' hat⟩ hg' hat
/-- A list of lists that the program has made: all of it lies below B. -/
def LiP (w : World) (B : Nat) (A : Option Addr) (n : Nat) (ls : List (List Int)) : Prop :=
  ls.length = n ∧ ∃ vs : List Value, Sl w B 1 A n vs ∧ ∀ (k : Nat) (l : List Int), ls[k]? = some l → ∃ (A' : Option Addr) (m c' : Nat), vs[k]? = some (Value.slice A' m c') ∧ InS w B A' m l ∧ ∀ b off, A' = some ⟨b, off, none⟩ → b < B
theorem LiP.lis {w : World} {B n : Nat} {A : Option Addr} {ls : List (List Int)} (h : LiP w B A n ls) : LiS w B A n ls := by
  obtain ⟨h1, vs, h2, h3⟩ := h
  exact ⟨h1, vs, h2, fun k l hk => by obtain ⟨A', m, c', e, h4, -⟩ := h3 k l hk; exact ⟨A', m, c', e, h4⟩⟩
theorem LiP.below {w w' : World} {B B' n : Nat} {A : Option Addr} {ls : List (List Int)} (h : LiP w B A n ls) (hb : Below B w w') (hB : B ≤ B') : LiP w' B' A n ls := by
  obtain ⟨h1, vs, h2, h3⟩ := h
  exact ⟨h1, vs, h2.below' hb hB, fun k l hk => by obtain ⟨A', m, c', e, h4, h5⟩ := h3 k l hk; exact ⟨A', m, c', e, h4.below hb hB, fun b off e => Nat.lt_of_lt_of_le (h5 b off e) hB⟩⟩
theorem LiP.at_ {w : World} {B n : Nat} {A : Option Addr} {ls : List (List Int)} (h : LiP w B A n ls) {k : Nat} (hk : k < n) : ∃ b off l A' m c', A = some ⟨b, off, none⟩ ∧ b < B ∧ ls[k]? = some l ∧ w.cell? ⟨b, off + k, none⟩ = some (.slice A' m c') ∧ InS w B A' m l ∧ ∀ b off, A' = some ⟨b, off, none⟩ → b < B := by
  obtain ⟨h1, vs, h2, h3⟩ := h
  have hl : ls[k]? = some ls[k] := List.getElem?_eq_getElem (by omega)
  obtain ⟨A', m, c', e, h4, h5⟩ := h3 k _ hl
  obtain ⟨b, off, hA, hb, hc⟩ := h2.2 (by omega)
  exact ⟨b, off, _, A', m, c', hA, hb, hl, hc k _ e, h4, h5⟩
theorem LiAt.lip {w : World} {vs : List Value} {ls : List (List Int)} {no : Option Nat} {A : Option Addr} {n : Nat} (h : LiAt w vs ls no) (hs : Sl w w.heap.size 1 A n vs) : LiP w w.heap.size A n ls :=
  ⟨by rw [← h.1, hs.1, Nat.mul_one], vs, hs, fun k l hk => by obtain ⟨A', m, c, h1, h2, h3⟩ := h.2 k l hk; exact ⟨A', m, c, h1, h2, fun b off e => (h3 b off e).1⟩⟩
/-- The list that a value names does not lie in an old block. -/
def lowV (lo : Nat) (v : Value) : Prop := ∀ A m c b off, v = .slice A m c → A = some ⟨b, off, none⟩ → lo ≤ b
/-- A list of lists that is new: no block of it is older than lo. -/
def LiF (w : World) (lo B : Nat) (A : Option Addr) (n : Nat) (ls : List (List Int)) : Prop :=
  ls.length = n ∧ (0 < n → ∀ b off, A = some ⟨b, off, none⟩ → lo ≤ b) ∧ ∃ vs : List Value, Sl w B 1 A n vs ∧ ∀ (k : Nat) (l : List Int), ls[k]? = some l → ∃ (A' : Option Addr) (m c' : Nat), vs[k]? = some (Value.slice A' m c') ∧ InS w B A' m l ∧ ∀ b off, A' = some ⟨b, off, none⟩ → lo ≤ b ∧ b < B
theorem LiF.lip {w : World} {lo B n : Nat} {A : Option Addr} {ls : List (List Int)} (h : LiF w lo B A n ls) : LiP w B A n ls := by
  obtain ⟨h1, -, vs, h2, h3⟩ := h
  exact ⟨h1, vs, h2, fun k l hk => by obtain ⟨A', m, c', e, h4, h5⟩ := h3 k l hk; exact ⟨A', m, c', e, h4, fun b off e => (h5 b off e).2⟩⟩
theorem LiF.below {w w' : World} {lo B B' n : Nat} {A : Option Addr} {ls : List (List Int)} (h : LiF w lo B A n ls) (hb : Below B w w') (hB : B ≤ B') : LiF w' lo B' A n ls := by
  obtain ⟨h1, h0, vs, h2, h3⟩ := h
  exact ⟨h1, h0, vs, h2.below' hb hB, fun k l hk => by obtain ⟨A', m, c', e, h4, h5⟩ := h3 k l hk; exact ⟨A', m, c', e, h4.below hb hB, fun b off e => ⟨(h5 b off e).1, Nat.lt_of_lt_of_le (h5 b off e).2 hB⟩⟩⟩
theorem LiF.mono {w : World} {lo lo' B n : Nat} {A : Option Addr} {ls : List (List Int)} (h : LiF w lo B A n ls) (hl : lo' ≤ lo) : LiF w lo' B A n ls := by
  obtain ⟨h1, h0, vs, h2, h3⟩ := h
  exact ⟨h1, fun hn b off e => Nat.le_trans hl (h0 hn b off e), vs, h2, fun k l hk => by obtain ⟨A', m, c', e, h4, h5⟩ := h3 k l hk; exact ⟨A', m, c', e, h4, fun b off e => ⟨Nat.le_trans hl (h5 b off e).1, (h5 b off e).2⟩⟩⟩
theorem LiF.nil (w : World) (lo B : Nat) : LiF w lo B none 0 [] := ⟨rfl, fun h => by omega, [], Sl.none_, fun k l h => by simp at h⟩
/-- An old cell may be set. -/
theorem LiF.old {w w' : World} {lo B n : Nat} {A : Option Addr} {ls : List (List Int)} (h : LiF w lo B A n ls) (hc : ∀ b off, lo ≤ b → w'.cell? ⟨b, off, none⟩ = w.cell? ⟨b, off, none⟩) : LiF w' lo B A n ls := by
  obtain ⟨h1, h0, vs, h2, h3⟩ := h
  refine ⟨h1, h0, vs, ⟨h2.1, fun hn => ?_⟩, fun k l hk => ?_⟩
  · obtain ⟨b, off, e, hb, hcell⟩ := h2.2 hn
    exact ⟨b, off, e, hb, fun j u hu => (hc b _ (h0 hn b off e)).trans (hcell j u hu)⟩
  · obtain ⟨A', m, c', e, h4, h5⟩ := h3 k l hk
    refine ⟨A', m, c', e, ⟨h4.1, fun hm => ?_⟩, h5⟩
    obtain ⟨b, off, e, hb, hcell⟩ := h4.2 hm
    exact ⟨b, off, e, hb, fun j u hu => (hc b _ (h5 b off e).1).trans (hcell j u hu)⟩
/-- An own list of lists whose lists are no older than lo. -/
def NewLiF (w : World) (lo base : Nat) (v : Value) (ls : List (List Int)) : Prop := ∃ vs, w.ownsRow base 25 1 v ls.length vs ∧ LiAt w vs ls v.ownBlock ∧ ∀ x ∈ vs, lowV lo x
theorem NewLiF.new {w : World} {lo base : Nat} {v : Value} {ls : List (List Int)} (h : NewLiF w lo base v ls) : NewLi w base v ls := by
  obtain ⟨vs, h1, h2, -⟩ := h
  exact ⟨vs, h1, h2⟩
theorem NewLiF.nil (w : World) (lo base : Nat) : NewLiF w lo base (.slice none 0 0) [] := ⟨[], World.ownsRow_nil _ _ _ _, LiAt.nil _ _, fun x h => by cases h⟩
theorem NewLiF.below {w w' : World} {lo base : Nat} {v : Value} {ls : List (List Int)} (h : NewLiF w lo base v ls) (hb : Below w.heap.size w w') : NewLiF w' lo base v ls := by
  obtain ⟨vs, h1, h2, h3⟩ := h
  exact ⟨vs, owns_below h1 hb, h2.below hb, h3⟩
theorem newLiF_append {P : Program} {w : World} {ops : Array Oper} {rest : List Oper} {o : Oper} {a : Act} {Q : Exit → Act → World → Prop} (hP : P = Try.prog) (hw : Region.wanted o (yielded ops a.tmps) = true) (s x : Operand)
    (ho : o.op = .call { callee := .builtin .append, args := #[s, x], argTypes := #[22, 22] })
    (lo base : Nat) (v : Value) (ls : List (List Int)) (hs : a.eval s = v) (hown : NewLiF w lo base v ls)
    (g : Nat) (A : Option Addr) (m c : Nat) (l : List Int) (hx : a.eval x = .slice (some ⟨g, 0, none⟩) 1 1) (hg : Blk w g 25 #[.slice A m c]) (hl : InS w w.heap.size A m l) (hA : ∀ b off, A = some ⟨b, off, none⟩ → b < w.heap.size ∧ v.ownBlock ≠ some b) (hlo : ∀ b off, A = some ⟨b, off, none⟩ → lo ≤ b)
    (hlen : ls.length ≤ 1000000) (hbase : base ≤ w.heap.size)
    (h : ∀ v' w', NewLiF w' lo base v' (ls ++ [l]) → w.grownBy w' v.ownBlock → (v'.ownBlock = v.ownBlock ∨ v'.ownBlock = some w.heap.size) → wpList P ops Q rest (a.put o.dst v') w') :
    wpList P ops Q (o :: rest) a w := by
  subst hP
  obtain ⟨vs, h1, h2, h3⟩ := hown
  obtain ⟨i0, hi0, hi1, hi2, hi3⟩ := info_parts' infoL
  refine wpList_append_srcG hw s x 22 ho base 25 i0 _ 1 24 underLL hi0 hi1 hi2 hi3 rfl (by decide) v ls.length vs hs h1 (some ⟨g, 0, none⟩) 1 1 [.slice A m c] hx w.heap.size ⟨rfl, fun _ => ⟨g, 0, rfl, hg.lt, fun j u hu => by rw [hg.cell, Nat.zero_add]; simpa using hu⟩⟩ (fun h => by cases h) (fun u hu => by rw [List.mem_singleton.1 hu]; rfl) (by unfold maxLen; omega) (by omega) hbase ?_
  intro v' w' ho' hg' _ hat
  exact h v' w' ⟨vs ++ [.slice A m c], by rw [List.length_append]; exact ho', (h2.snoc hl hA).grown hg' hat, fun y hy => by
    rcases List.mem_append.1 hy with hy | hy
    · exact h3 y hy
    · rw [List.mem_singleton.1 hy]
      intro A' m' c' b off e e2
      cases e
      exact hlo b off e2⟩ hg' hat
theorem LiS.length {w : World} {B n : Nat} {A : Option Addr} {ls : List (List Int)} (h : LiS w B A n ls) : ls.length = n := h.1
set_option maxHeartbeats 800000 in
theorem idxFL_any (g : Nat) (cb : Array Value) (eg : ∀ args w, (callFunc g args).run Try.prog w = .ok (.enter g args) w) (p : List Int → Bool) (A : Option Addr) (n c : Nat) (ls : List (List Int)) (w : World) (hl : LiS w w.heap.size A n ls) (hn : n ≤ 1000000) (hp : ∀ x ∈ ls, ∀ (A' : Option Addr) (m c' : Nat) (W : World), Below w.heap.size w W → InS W W.heap.size A' m x → Calls Try.prog g (#[.slice A' m c'] ++ cb) W fun e w' => e = .returned (.bool (p x)) ∧ Below W.heap.size W w') :
    Calls Try.prog 75 #[.slice A n c, .func (.func g) #[] cb] w fun e w' => e = .returned (.int .i64 (idxA p ls)) ∧ Below w.heap.size w w' := by
  have hlen := hid hl.1
  have HL := hid hl
  have HP := hid hp
  clear hp hl
  obtain ⟨iv, hiv⟩ : ∃ iv, idxA p ls = iv := ⟨_, rfl⟩
  have Hiv := hid hiv
  rw [hiv]
  clear hiv
  go_enter Try.func75, Try.ntmps75
  go_wp2
  go_loopw [8] (fun i wr => ∃ k : Nat, k ≤ n ∧ i = .int .i64 k ∧ Hid ((ls.take k).any p = false) ∧ Below w.heap.size w wr) (fun i _ => n - (intOf i).toNat)
  case atStart => exact ⟨0, by omega, rfl, hid (by simp), Below.refl _ _⟩
  case round =>
    obtain ⟨k, hk, rfl, hno, hbw⟩ := hrel
    have hszw := hbw.size
    by_cases hlt : k < n
    · obtain ⟨b, off, x, A', m, c', rfl, hb, hm, c0, hin⟩ := (HL.out.below hbw hszw).at_ hlt
      have Hm := hid hm
      have hlti : (k : Int) < n := by omega
      have hc := HP.out x (List.mem_of_getElem? hm) A' m c' wr hbw hin
      clear hm hin
      cases hx : p x
      · have Hs := hid (any_off hno.out Hm.out hx)
        rw [hx] at hc
        clear hx
        go_wp2_with (go_at_fn g; refine hc.mono ?_; rintro e w1 ⟨rfl, hb1⟩)
        exact ⟨⟨k + 1, by omega, by go_num, Hs, hbw.trans (hb1.mono hszw)⟩, by simp [intOf]; omega⟩
      · have Hf := hid (idxA_hit hno.out Hm.out hx)
        rw [hx] at hc
        clear hx
        go_wp2_with (go_at_fn g; refine hc.mono ?_; rintro e w1 ⟨rfl, hb1⟩)
        refine bodyPost_ret (v := .int .i64 k) (by first | (simp [results, Try.results75, go_sem]; done) | (simp [results, Try.results75, go_sem, *]; done) | (simp [results, Try.results75, go_sem, World.cell?_setCell_same', *]; done) | (simp [results, Try.results75, go_sem]; first | exact ⟨rfl, rfl⟩ | rfl)) rfl ⟨by rw [← Hiv.out, Hf.out], hbw.trans (hb1.mono hszw)⟩
    · obtain rfl : k = n := by omega
      have Hf : Hid (idxA p ls = -1) := hid (idxA_none (by have := hno.out; rwa [List.take_of_length_le (by rw [hlen.out]; exact Nat.le_refl _)] at this))
      go_wp2
      refine bodyPost_ret (v := .int .i64 (-1)) (by first | (simp [results, Try.results75, go_sem]; done) | (simp [results, Try.results75, go_sem, *]; done) | (simp [results, Try.results75, go_sem, World.cell?_setCell_same', *]; done) | (simp [results, Try.results75, go_sem]; first | exact ⟨rfl, rfl⟩ | rfl)) rfl ⟨by rw [← Hiv.out, Hf.out], hbw⟩
theorem conFL_any (g : Nat) (cb : Array Value) (eg : ∀ args w, (callFunc g args).run Try.prog w = .ok (.enter g args) w) (p : List Int → Bool) (A : Option Addr) (n c : Nat) (ls : List (List Int)) (w : World) (hl : LiS w w.heap.size A n ls) (hn : n ≤ 1000000) (hp : ∀ x ∈ ls, ∀ (A' : Option Addr) (m c' : Nat) (W : World), Below w.heap.size w W → InS W W.heap.size A' m x → Calls Try.prog g (#[.slice A' m c'] ++ cb) W fun e w' => e = .returned (.bool (p x)) ∧ Below W.heap.size W w') :
    Calls Try.prog 46 #[.slice A n c, .func (.func g) #[] cb] w fun e w' => e = .returned (.bool (ls.any p)) ∧ Below w.heap.size w w' := by
  have hc := idxFL_any g cb eg p A n c ls w hl hn hp
  have HD := hid (idxA_dec p ls)
  obtain ⟨iv, hiv⟩ : ∃ iv, idxA p ls = iv := ⟨_, rfl⟩
  obtain ⟨bv, hbv⟩ : ∃ bv, ls.any p = bv := ⟨_, rfl⟩
  rw [hiv, hbv] at HD
  rw [hiv] at hc
  rw [hbv]
  clear hiv hbv hp hl
  go_enter Try.func46, Try.ntmps46
  go_wp2_with (go_at_call 75; refine hc.mono ?_; rintro e w1 ⟨rfl, hb1⟩)
  refine bodyPost_ret (v := .bool (decide (0 ≤ iv))) (by first | (simp [results, Try.results46, go_sem]; done) | (simp [results, Try.results46, go_sem, *]; done) | (simp [results, Try.results46, go_sem, World.cell?_setCell_same', *]; done) | (simp [results, Try.results46, go_sem]; first | exact ⟨rfl, rfl⟩ | rfl)) rfl ⟨by rw [HD.out], hb1⟩
/-! Books. -/
def chkBook (I : Int) (ls : List (List Int)) : Int := if I < 1 ∨ 8 < I ∨ 10 < ls.length then 6 else if ls.all (isL I 0) = false then 3 else 0
theorem book_good {I : Int} {ls : List (List Int)} (h : chkBook I ls = 0) : 1 ≤ I ∧ I ≤ 8 ∧ ls.length ≤ 10 ∧ ∀ l ∈ ls, isL I 0 l = true := by
  unfold chkBook at h
  split at h
  · cases h
  · split at h
    · cases h
    · rename_i h1 h2
      refine ⟨by omega, by omega, by omega, fun l hl => ?_⟩
      have : ls.all (isL I 0) = true := by simpa using h2
      exact List.all_eq_true.1 this l hl
set_option maxHeartbeats 400000 in
theorem cbclo_any (A : Option Addr) (n c : Nat) (l : List Int) (I : Int) (b1 : Nat) (w : World) (hl : InS w w.heap.size A n l) (hn : n ≤ 1000000) (h1 : 1 ≤ I) (h8 : I ≤ 8) (c1 : w.cell? ⟨b1, 0, none⟩ = some (.int .i64 I)) :
    Calls Try.prog 47 #[.slice A n c, .pointer (some ⟨b1, 0, none⟩)] w fun e w' => e = .returned (.bool (!isL I 0 l)) ∧ Below w.heap.size w w' := by
  have HL := hid hl
  clear hl
  cases hq : isL I 0 l
  all_goals
    have Hq := hid hq
    clear hq
    go_enter Try.func47, Try.ntmps47
    go_wp2_with (go_at_call 48; refine (rising_any A n c l I _ HL.out hn (by omega) (by omega)).mono ?_; rw [Hq.out]; rintro e w1 ⟨rfl, hb1⟩)
    go_ret
    exact ⟨rfl, hb1⟩
set_option maxHeartbeats 400000 in
theorem opclo_any (A : Option Addr) (n c : Nat) (l : List Int) (I : Int) (b1 : Nat) (w : World) (hl : InS w w.heap.size A n l) (hn : n ≤ 1000000) (h1 : 1 ≤ I) (h8 : I ≤ 8) (c1 : w.cell? ⟨b1, 0, none⟩ = some (.int .i64 I)) :
    Calls Try.prog 68 #[.slice A n c, .pointer (some ⟨b1, 0, none⟩)] w fun e w' => e = .returned (.bool (!isL I 0 l)) ∧ Below w.heap.size w w' := by
  have HL := hid hl
  clear hl
  cases hq : isL I 0 l
  all_goals
    have Hq := hid hq
    clear hq
    go_enter Try.func68, Try.ntmps68
    go_wp2_with (go_at_call 48; refine (rising_any A n c l I _ HL.out hn (by omega) (by omega)).mono ?_; rw [Hq.out]; rintro e w1 ⟨rfl, hb1⟩)
    go_ret
    exact ⟨rfl, hb1⟩
set_option maxRecDepth 100000 in
set_option maxHeartbeats 1600000 in
theorem checkBook_any (A : Option Addr) (n c : Nat) (ls : List (List Int)) (I : Int) (w : World) (hl : LiS w w.heap.size A n ls) (hn : n ≤ 1000000) (hw : ∀ l ∈ ls, l.length ≤ 1000000) :
    Calls Try.prog 13 #[.agg #[.int .i64 I, .slice A n c]] w fun e w' => e = .returned (.int .i64 (chkBook I ls)) ∧ Below w.heap.size w w' := by
  have eg : ∀ args w, (callFunc 47 args).run Try.prog w = .ok (.enter 47 args) w := enters_of Try.func47 (by kernel_rfl) rfl
  have hlen := hl.1
  have HL := hid hl
  have HW := hid hw
  have HE := hid eg
  clear hl hw eg
  cases hp : inR 1 8 I
  · have hf : Hid (chkBook I ls = 6) := hid (if_pos (by have := inR_f.1 hp; omega))
    have Hp := hid ((all_one (p := inR 1 8) I).trans hp)
    clear hp hlen
    go_enter Try.func13, Try.ntmps13
    go_wp2_with (go_at_call 45; refine (within_any _ 1 1 [I] 1 8 _ (inS_lit1 I (by first | (simp; done) | (simp; omega) | omega) (by first | (simp; done) | (simp; omega) | omega)) (by omega)).mono ?_; rw [Hp.out]; rintro e w1 ⟨rfl, hb1⟩; have hbel : Below w.heap.size w w1 := Below.trans (by repeat' (first | with_reducible assumption | with_reducible exact Below.refl _ _ | refine Below.alloc ?_ ?_ _ | refine Below.setCell ?_ ?_ _ | refine Below.drew ?_ | refine below_drewN ?_ _ | (simp; done) | (simp; omega) | omega)) (hb1.mono (by first | (simp; done) | (simp; omega) | omega)))
    refine bodyPost_ret (v := .int .i64 6) (by first | (simp [results, Try.results13, go_sem]; done) | (simp [results, Try.results13, go_sem, *]; done) | (simp [results, Try.results13, go_sem, World.cell?_setCell_same', *]; done) | (simp [results, Try.results13, go_sem]; first | exact ⟨rfl, rfl⟩ | rfl)) rfl ⟨by rw [hf.out], hbel⟩
  · have hp' := inR_t.1 hp
    have Hp := hid ((all_one (p := inR 1 8) I).trans hp)
    clear hp
    by_cases hn10 : 10 < n
    · have hf : Hid (chkBook I ls = 6) := hid (if_pos (by omega))
      have hn10i : (10 : Int) < n := by omega
      clear hlen
      go_enter Try.func13, Try.ntmps13
      go_wp2_with (go_at_call 45; refine (within_any _ 1 1 [I] 1 8 _ (inS_lit1 I (by first | (simp; done) | (simp; omega) | omega) (by first | (simp; done) | (simp; omega) | omega)) (by omega)).mono ?_; rw [Hp.out]; rintro e w1 ⟨rfl, hb1⟩; have hbel : Below w.heap.size w w1 := Below.trans (by repeat' (first | with_reducible assumption | with_reducible exact Below.refl _ _ | refine Below.alloc ?_ ?_ _ | refine Below.setCell ?_ ?_ _ | refine Below.drew ?_ | refine below_drewN ?_ _ | (simp; done) | (simp; omega) | omega)) (hb1.mono (by first | (simp; done) | (simp; omega) | omega)); have c0 := (hb1.cell (p := ⟨w.heap.size, 1, none⟩) (by first | (simp; done) | (simp; omega) | omega)); have hq0 : w.heap.size < w1.heap.size := (by have := hb1.size; simp at this; omega))
      refine bodyPost_ret (v := .int .i64 6) (by first | (simp [results, Try.results13, go_sem]; done) | (simp [results, Try.results13, go_sem, *]; done) | (simp [results, Try.results13, go_sem, World.cell?_setCell_same', *]; done) | (simp [results, Try.results13, go_sem]; first | exact ⟨rfl, rfl⟩ | rfl)) rfl ⟨by rw [hf.out], hbel⟩
    · have hf : Hid (chkBook I ls = if ls.all (isL I 0) = false then 3 else 0) := hid (if_neg (by omega))
      have hn10i : ¬ (10 : Int) < n := by omega
      have HN := hid (any_not_all (isL I 0) ls)
      obtain ⟨bw, hbw⟩ : ∃ bw, ls.all (isL I 0) = bw := ⟨_, rfl⟩
      rw [hbw] at HN hf
      clear hlen hbw
      cases bw
      all_goals
        go_enter Try.func13, Try.ntmps13
        go_wp2_with (fail)
        refine (within_any _ 1 1 [I] 1 8 _ (inS_lit1 I (by first | (simp; done) | (simp; omega) | omega) (by first | (simp; done) | (simp; omega) | omega)) (by omega)).mono ?_
        rw [Hp.out]
        rintro e w1 ⟨rfl, hb1⟩
        have hbel : Below w.heap.size w w1 := Below.trans (by repeat' (first | with_reducible assumption | with_reducible exact Below.refl _ _ | refine Below.alloc ?_ ?_ _ | refine Below.setCell ?_ ?_ _ | refine Below.drew ?_ | refine below_drewN ?_ _ | (simp; done) | (simp; omega) | omega)) (hb1.mono (by first | (simp; done) | (simp; omega) | omega))
        have c1 : w1.cell? ⟨w.heap.size, 1, none⟩ = some (.slice A n c) := (hb1.cell (p := ⟨w.heap.size, 1, none⟩) (by first | (simp; done) | (simp; omega) | omega)).trans (by go_simp)
        have c0 : w1.cell? ⟨w.heap.size, 0, none⟩ = some (.int .i64 I) := (hb1.cell (p := ⟨w.heap.size, 0, none⟩) (by first | (simp; done) | (simp; omega) | omega)).trans (by go_simp)
        have hq0 : w.heap.size < w1.heap.size := (by have := hb1.size; simp at this; omega)
        have hc := conFL_any 47 #[.pointer (some ⟨w.heap.size, 0, none⟩)] HE.out (fun x => !isL I 0 x) A n c ls w1 (HL.out.below hbel hbel.size) hn (fun x hx A' m c' W hW hin => cbclo_any A' m c' x I w.heap.size W hin (by rw [← hin.len]; exact HW.out x hx) hp'.1 hp'.2 ((hW.cell (p := ⟨w.heap.size, 0, none⟩) hq0).trans c0))
        rw [HN.out] at hc
        clear hb1 c0
        go_wp2_with (go_at_call 46; refine hc.mono ?_; rintro e w2 ⟨rfl, hb2⟩)
      · refine bodyPost_ret (v := .int .i64 3) (by first | (simp [results, Try.results13, go_sem]; done) | (simp [results, Try.results13, go_sem, *]; done) | (simp [results, Try.results13, go_sem, World.cell?_setCell_same', *]; done) | (simp [results, Try.results13, go_sem]; first | exact ⟨rfl, rfl⟩ | rfl)) rfl ⟨by rw [hf.out]; rfl, hbel.trans (hb2.mono hbel.size)⟩
      · refine bodyPost_ret (v := .int .i64 0) (by first | (simp [results, Try.results13, go_sem]; done) | (simp [results, Try.results13, go_sem, *]; done) | (simp [results, Try.results13, go_sem, World.cell?_setCell_same', *]; done) | (simp [results, Try.results13, go_sem]; first | exact ⟨rfl, rfl⟩ | rfl)) rfl ⟨by rw [hf.out]; rfl, hbel.trans (hb2.mono hbel.size)⟩
/-! The desk. -/
def Desk (w : World) (g : Nat) (I : Int) (A : Option Addr) (n c : Nat) (ls : List (List Int)) : Prop := Blk w g 84 #[.int .i64 I, .slice A n c] ∧ LiS w w.heap.size A n ls
theorem Desk.below {w w' : World} {g : Nat} {I : Int} {A : Option Addr} {n c : Nat} {ls : List (List Int)} (h : Desk w g I A n c ls) (hb : Below w.heap.size w w') : Desk w' g I A n c ls := ⟨h.1.below hb h.1.lt, h.2.below hb hb.size⟩
/-- What open answers: the error. -/
def openE (I : Int) (ls ss : List (List Int)) : Int := if chkBook I ls ≠ 0 then chkBook I ls else if ss.all (isL I 0) = false then 3 else 0
theorem openE_good {I : Int} {ls ss : List (List Int)} (h : openE I ls ss = 0) : chkBook I ls = 0 ∧ ∀ l ∈ ss, isL I 0 l = true := by
  unfold openE at h
  split at h
  · rename_i h1; exact absurd h h1
  · split at h
    · cases h
    · rename_i h1 h2
      refine ⟨by simpa using h1, fun l hl => ?_⟩
      have : ss.all (isL I 0) = true := by simpa using h2
      exact List.all_eq_true.1 this l hl
theorem openE_nil (I : Int) (ls : List (List Int)) : openE I ls [] = chkBook I ls := by
  unfold openE
  split
  · rfl
  · rename_i h
    rw [if_neg (by simp)]
    simpa using (Decidable.not_not.1 h).symm
theorem ins_lt0 {w : World} {B n : Nat} {A : Option Addr} {l : List Int} (h : InS w B A n l) (hn : 0 < n) : ∀ b off, A = some ⟨b, off, none⟩ → b < B := fun b off e => by
  obtain ⟨b', off', e', hb, -⟩ := h.2 hn
  rw [e] at e'; cases e'; exact hb
end Go.Proofs.Ytnpilfpackdimaa
