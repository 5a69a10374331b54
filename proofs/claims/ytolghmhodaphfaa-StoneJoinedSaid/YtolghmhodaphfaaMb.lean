/- Texts of the proof, laid together by program. -/
import Derived.Test.YtolghmhodaphfaaMa
import Derived.Test.YtolghmhodaphfaaProg
import Derived.Deep.QuietTactic
import Derived.BigQuiet
import Derived.LoopTactic
import Derived.Lib.MinMax
/- Walks: ranges of numbers, sums. -/
namespace Go.Proofs.Ytolghmhodaphfaa
open Go.RowKit
def cK (k : Kd) : List Value := [.int .i64 k.wt, .int .i64 k.many]
/-- A slice of kinds. -/
def KdS (w : World) (B : Nat) (A : Option Addr) (n : Nat) (l : List Kd) : Prop := Sl w B 2 A n (l.flatMap cK)
section
variable {w w' : World} {B B' n : Nat} {A : Option Addr} {l : List Kd}
theorem KdS.len (h : KdS w B A n l) : l.length = n := by
  have := h.1; rw [flat_len (s := 2) (fun _ => rfl)] at this; omega
theorem KdS.at_ (h : KdS w B A n l) {k : Nat} (hk : k < n) : ∃ b off m, A = some ⟨b, off, none⟩ ∧ b < B ∧ l[k]? = some m ∧
    w.cell? ⟨b, off + k * 2, none⟩ = some (.int .i64 m.wt) ∧ w.cell? ⟨b, off + k * 2 + 1, none⟩ = some (.int .i64 m.many) := by
  obtain ⟨b, off, hA, hb, hc⟩ := h.2 (by omega)
  have hl : k < l.length := by rw [h.len]; exact hk
  have hm : l[k]? = some l[k] := List.getElem?_eq_getElem hl
  refine ⟨b, off, l[k], hA, hb, hm, ?_, ?_⟩
  · exact hc (k * 2 + 0) _ (by rw [flat_at (s := 2) (fun _ => rfl) l k 0 _ hm (by omega)]; rfl)
  · exact hc (k * 2 + 1) _ (by rw [flat_at (s := 2) (fun _ => rfl) l k 1 _ hm (by omega)]; rfl)
theorem KdS.below (h : KdS w B A n l) (hb : Below B w w') (hB : B ≤ B') : KdS w' B' A n l := Sl.below' h hb hB
theorem KdS.some_ (h : KdS w B A n l) (hn : 0 < n) : ∃ b off, A = some ⟨b, off, none⟩ ∧ b < B := by
  obtain ⟨b, off, e, hb, _⟩ := h.2 hn
  exact ⟨b, off, e, hb⟩
end
def inR (lo hi x : Int) : Bool := decide (lo ≤ x ∧ x ≤ hi)
theorem inR_t {lo hi x : Int} : inR lo hi x = true ↔ lo ≤ x ∧ x ≤ hi := by simp [inR]
theorem inR_f {lo hi x : Int} : inR lo hi x = false ↔ x < lo ∨ hi < x := by simp [inR]; omega
theorem all_take_succ {α : Type} {p : α → Bool} {l : List α} {k : Nat} {x : α} (h : (l.take k).all p = true) (hx : l[k]? = some x) (hp : p x = true) : (l.take (k + 1)).all p = true := by
  rw [List.take_add_one, hx, List.all_append, h]
  simp [hp]
set_option maxHeartbeats 400000 in
theorem wclo_any (x lo hi : Int) (b1 b2 : Nat) (w : World) (c1 : w.cell? ⟨b1, 0, none⟩ = some (.int .i64 lo)) (c2 : w.cell? ⟨b2, 0, none⟩ = some (.int .i64 hi)) :
    Calls Try.prog 92 #[.int .i64 x, .pointer (some ⟨b1, 0, none⟩), .pointer (some ⟨b2, 0, none⟩)] w fun e w' => e = .returned (.bool (!inR lo hi x)) ∧ w = w' := by
  have e : Hid (inR lo hi x = decide (lo ≤ x ∧ x ≤ hi)) := rfl
  by_cases h1 : x < lo <;> by_cases h2 : hi < x
  all_goals
    go_enter Try.func92, Try.ntmps92
    go_wp2
    go_ret
    refine ⟨?_, rfl⟩
    rw [e.out]
    first | (rw [decide_eq_true (by omega)]; rfl) | (rw [decide_eq_false (by omega)]; rfl)

/-- An index that is below 0 just if all are good. -/
def IdxPost (good : Bool) (B : Nat) (w : World) (e : Ending) (w' : World) : Prop := ∃ z : Int, e = .returned (.int .i64 z) ∧ (0 ≤ z ↔ good = false) ∧ Below B w w'

theorem all_false {α : Type} {p : α → Bool} {l : List α} {k : Nat} {x : α} (hx : l[k]? = some x) (hp : p x = false) : l.all p = false := by
  cases h : l.all p
  · rfl
  · have := List.all_eq_true.1 h x (List.mem_of_getElem? hx)
    rw [hp] at this; cases this

set_option maxHeartbeats 400000 in
theorem idxI_any (A : Option Addr) (n c : Nat) (l : List Int) (lo hi : Int) (b1 b2 : Nat) (w : World) (hl : InS w w.heap.size A n l) (hn : n ≤ 100) (c1 : w.cell? ⟨b1, 0, none⟩ = some (.int .i64 lo)) (c2 : w.cell? ⟨b2, 0, none⟩ = some (.int .i64 hi)) :
    Calls Try.prog 84 #[.slice A n c, .func (.func 92) #[] #[.pointer (some ⟨b1, 0, none⟩), .pointer (some ⟨b2, 0, none⟩)]] w (IdxPost (l.all (inR lo hi)) w.heap.size w) := by
  have hlen := hid hl.len
  go_enter Try.func84, Try.ntmps84
  go_wp2
  go_loop [8] (fun i => ∃ k : Nat, k ≤ n ∧ i = .int .i64 k ∧ Hid ((l.take k).all (inR lo hi) = true)) (fun i => n - (intOf i).toNat)
  case atStart => exact ⟨0, by omega, rfl, rfl⟩
  case round =>
    obtain ⟨k, hk, rfl, hall⟩ := hrel
    by_cases hlt : k < n
    · obtain ⟨b, off, x, rfl, hb, hm, c0⟩ := hl.at_ hlt
      have Hm := hid hm
      clear hm
      cases hx : inR lo hi x
      · go_wp2_with (first | (go_at_call 92; refine (wclo_any x lo hi b1 b2 _ c1 c2).mono ?_; rw [hx]; rintro e w1 ⟨rfl, rfl⟩))
        go_ret
        exact ⟨k, rfl, by simp [all_false Hm.out hx], Below.refl _ _⟩
      · go_wp2_with (first | (go_at_call 92; refine (wclo_any x lo hi b1 b2 _ c1 c2).mono ?_; rw [hx]; rintro e w1 ⟨rfl, rfl⟩))
        exact ⟨⟨k + 1, by omega, by go_num, all_take_succ hall.out Hm.out hx⟩, by simp [intOf]; omega⟩
    · have hfin : Hid (l.all (inR lo hi) = true) := by have := hall.out; rwa [List.take_of_length_le (by rw [hlen.out]; omega)] at this
      go_wp2
      go_ret
      exact ⟨-1, rfl, by simp [hfin.out], Below.refl _ _⟩

theorem idx_t {good : Bool} {z : Int} (h : 0 ≤ z ↔ good = false) (hg : good = true) : z < 0 := by subst hg; simp at h; exact h
theorem idx_f {good : Bool} {z : Int} (h : 0 ≤ z ↔ good = false) (hg : good = false) : 0 ≤ z := h.2 hg
set_option maxHeartbeats 400000 in
theorem containsI_any (A : Option Addr) (n c : Nat) (l : List Int) (lo hi : Int) (b1 b2 : Nat) (w : World) (hl : InS w w.heap.size A n l) (hn : n ≤ 100) (c1 : w.cell? ⟨b1, 0, none⟩ = some (.int .i64 lo)) (c2 : w.cell? ⟨b2, 0, none⟩ = some (.int .i64 hi)) :
    Calls Try.prog 91 #[.slice A n c, .func (.func 92) #[] #[.pointer (some ⟨b1, 0, none⟩), .pointer (some ⟨b2, 0, none⟩)]] w fun e w' => e = .returned (.bool (!(l.all (inR lo hi)))) ∧ Below w.heap.size w w' := by
  cases hg : (l.all (inR lo hi))
  · have Hg := hid hg
    clear hg
    go_enter Try.func91, Try.ntmps91
    go_wp2_with (first | (go_at_call 84; refine (idxI_any A n c l lo hi b1 b2 _ hl hn c1 c2).mono ?_; rintro e w1 ⟨z, rfl, hz, hb1⟩; have hz2 := idx_f hz Hg.out; clear hz))
    go_ret
    exact ⟨by first | rfl | (simp; done) | simp [hz2], hb1⟩
  · have Hg := hid hg
    clear hg
    go_enter Try.func91, Try.ntmps91
    go_wp2_with (first | (go_at_call 84; refine (idxI_any A n c l lo hi b1 b2 _ hl hn c1 c2).mono ?_; rintro e w1 ⟨z, rfl, hz, hb1⟩; have hz2 := idx_t hz Hg.out; clear hz))
    go_ret
    exact ⟨by first | rfl | (simp; done) | simp [hz2], hb1⟩

set_option maxHeartbeats 400000 in
theorem within_any (A : Option Addr) (n c : Nat) (l : List Int) (lo hi : Int) (w : World) (hl : InS w w.heap.size A n l) (hn : n ≤ 100) :
    Calls Try.prog 66 #[.int .i64 lo, .int .i64 hi, .slice A n c] w fun e w' => e = .returned (.bool (l.all (inR lo hi))) ∧ Below w.heap.size w w' := by
  cases hg : l.all (inR lo hi)
  all_goals
    go_enter Try.func66, Try.ntmps66
    go_wp2_with (first | (go_at_call 91; refine (containsI_any A n c l lo hi _ _ _ (hl.below (by repeat' (first | with_reducible assumption | with_reducible exact Below.refl _ _ | refine Below.alloc ?_ ?_ _ | refine Below.setCell ?_ ?_ _ | refine Below.drew ?_ | refine below_drewN ?_ _ | (simp; done) | (simp; omega) | omega)) (by first | (simp; done) | (simp; omega) | omega)) hn (by go_simp) (by go_simp)).mono ?_; rw [hg]; rintro e w1 ⟨rfl, hb1⟩))
    go_ret
    exact ⟨rfl, Below.trans (by repeat' (first | with_reducible assumption | with_reducible exact Below.refl _ _ | refine Below.alloc ?_ ?_ _ | refine Below.setCell ?_ ?_ _ | refine Below.drew ?_ | refine below_drewN ?_ _ | (simp; done) | (simp; omega) | omega)) (hb1.mono (by first | (simp; done) | (simp; omega) | omega))⟩

theorem inS_lit1 {w : World} {g B : Nat} (x : Int) (hg : w.heap.size = g) (hB : g < B) : InS (w.alloc (.cells #[.int .i64 x] 2)) B (some ⟨g, 0, none⟩) 1 [x] := by
  refine ⟨rfl, fun hn => ⟨g, 0, rfl, hB, fun j u hu => ?_⟩⟩
  rw [(Blk.new' hg).cell, Nat.zero_add]
  simpa [cI] using hu
theorem inS_lit2 {w : World} {g B : Nat} (x y : Int) (hg : w.heap.size = g) (hB : g < B) : InS (w.alloc (.cells #[.int .i64 x, .int .i64 y] 2)) B (some ⟨g, 0, none⟩) 2 [x, y] := by
  refine ⟨rfl, fun hn => ⟨g, 0, rfl, hB, fun j u hu => ?_⟩⟩
  rw [(Blk.new' hg).cell, Nat.zero_add]
  simpa [cI] using hu

end Go.Proofs.Ytolghmhodaphfaa
/- Walks: the sum of a set, whether it is valid. -/
namespace Go.Proofs.Ytolghmhodaphfaa
open Go.RowKit
set_option maxRecDepth 100000 in
set_option maxHeartbeats 1000000 in
theorem sum_any (w : World) (A : Option Addr) (n c : Nat) (l : List Kd) (hl : KdS w w.heap.size A n l) (hn : n ≤ 20) (hs : ∀ k ∈ l, smallK k) :
    Calls Try.prog 75 #[.slice A n c] w fun e w' => e = .returned (.int .i64 (sumOf l)) ∧ Below w.heap.size w w' := by
  have hlen := hid hl.len
  have hs' := hid hs
  have HL := hid hl
  clear hs hl
  go_enter Try.func75, Try.ntmps75
  go_wp2
  go_loopw [3, 8] (fun s i wr => ∃ k : Nat, k ≤ n ∧ i = .int .i64 k ∧ s = .int .i64 (sumOf (l.take k)) ∧ Below w.heap.size w wr) (fun _ i _ => n - (intOf i).toNat)
  case atStart => exact ⟨0, by omega, rfl, rfl, Below.refl _ _⟩
  case round =>
    obtain ⟨k, hk, rfl, rfl, hbel⟩ := hrel
    have hsz := hbel.size
    by_cases hlt : k < n
    · obtain ⟨b, off, m, rfl, hb, hm, c0, c1⟩ := (HL.out.below hbel (Nat.le_refl _)).at_ hlt
      have hlti : (k : Int) < n := by omega
      have hsu := hid (sumOf_take hm)
      have hm1 := small_mul (hs'.out m (List.mem_of_getElem? hm))
      have hb1 := sumOf_small (l := l.take k) fun x hx => hs'.out x (List.mem_of_mem_take hx)
      have hb2 : (l.take k).length ≤ k := List.length_take_le _ _
      obtain ⟨S, hS⟩ : ∃ S, sumOf (l.take k) = S := ⟨_, rfl⟩
      rw [hS] at hb1
      have hsu2 : Hid (sumOf (l.take (k + 1)) = S + m.wt * m.many) := hid (by rw [hsu.out, hS])
      rw [hS]
      have hSb : 0 ≤ S ∧ S ≤ 20000000000000 := by omega
      clear hm hS hb1 hb2
      go_wp2
      exact ⟨⟨k + 1, by omega, by go_num, by rw [hsu2.out], hbel.alloc hsz _⟩, by simp [intOf]; omega⟩
    · obtain rfl : k = n := by omega
      have hfin : Hid (l.take k = l) := hid (List.take_of_length_le (by rw [hlen.out]; omega))
      go_wp2
      go_ret
      exact ⟨by first | rfl | (simp [hfin.out]; done), hbel⟩
set_option maxRecDepth 100000 in
set_option maxHeartbeats 1000000 in
theorem refSum_any (w : World) (A : Option Addr) (n c : Nat) (l : List Kd) (hl : KdS w w.heap.size A n l) (hn : n ≤ 20) (hs : ∀ k ∈ l, smallK k) :
    Calls Try.prog 55 #[.slice A n c] w fun e w' => e = .returned (.int .i64 (sumOf l)) ∧ Below w.heap.size w w' := by
  have hlen := hid hl.len
  have hs' := hid hs
  have HL := hid hl
  clear hs hl
  go_enter Try.func55, Try.ntmps55
  go_wp2
  go_loopw [3, 4] (fun s i wr => ∃ k : Nat, k ≤ n ∧ i = .int .i64 k ∧ s = .int .i64 (sumOf (l.take k)) ∧ Below w.heap.size w wr) (fun _ i _ => n - (intOf i).toNat)
  case atStart => exact ⟨0, by omega, rfl, rfl, Below.refl _ _⟩
  case round =>
    obtain ⟨k, hk, rfl, rfl, hbel⟩ := hrel
    have hsz := hbel.size
    by_cases hlt : k < n
    · obtain ⟨b, off, m, rfl, hb, hm, c0, c1⟩ := (HL.out.below hbel (Nat.le_refl _)).at_ hlt
      have hlti : (k : Int) < n := by omega
      have hsu := hid (sumOf_take hm)
      have hm1 := small_mul (hs'.out m (List.mem_of_getElem? hm))
      have hb1 := sumOf_small (l := l.take k) fun x hx => hs'.out x (List.mem_of_mem_take hx)
      have hb2 : (l.take k).length ≤ k := List.length_take_le _ _
      obtain ⟨S, hS⟩ : ∃ S, sumOf (l.take k) = S := ⟨_, rfl⟩
      rw [hS] at hb1
      have hsu2 : Hid (sumOf (l.take (k + 1)) = S + m.wt * m.many) := hid (by rw [hsu.out, hS])
      rw [hS]
      have hSb : 0 ≤ S ∧ S ≤ 20000000000000 := by omega
      have lb : b < wr.heap.size := by omega
      have z1 : IntKind.i64.wrap (m.wt * m.many) = m.wt * m.many := IntWalk.i64_in _ (by omega)
      have z2 : IntKind.i64.wrap (S + m.wt * m.many) = S + m.wt * m.many := IntWalk.i64_in _ (by omega)
      clear hm hS hb1 hb2
      go_wp2_with (fail)
      refine wp_region_hd_all (fun W' => Below wr.heap.size wr W') (by kernel_rfl) (by kernel_rfl) ((Below.refl _ _).drew) ?_
      iterate 14 (refine wpHd_val (v := ?_) (by rfl) (fun W hW => ?_) ?_; rotate_left; (· obtain ⟨hcW, hfW⟩ := bcell hW; go_simp; with_reducible rfl); simp only [Act.put, List.setIfInBounds_toArray, List.set_cons_zero, List.set_cons_succ])
      refine wpHd_nil ?_
      intro W2 hW2
      clear c0 c1
      go_wp2
      exact ⟨⟨k + 1, by omega, by go_num, by rw [hsu2.out], hbel.trans (hW2.mono hsz)⟩, by simp [intOf]; omega⟩
    · obtain rfl : k = n := by omega
      have hfin : Hid (l.take k = l) := hid (List.take_of_length_le (by rw [hlen.out]; omega))
      go_wp2
      go_ret
      exact ⟨by first | rfl | (simp [hfin.out]; done), hbel⟩
end Go.Proofs.Ytolghmhodaphfaa
/- Walks: whether a set is valid, the program's way. -/
namespace Go.Proofs.Ytolghmhodaphfaa
open Go.RowKit
theorem all_one {x lo hi : Int} : [x].all (inR lo hi) = inR lo hi x := by simp
theorem all_two {x y lo hi : Int} : [x, y].all (inR lo hi) = (inR lo hi x && inR lo hi y) := by simp
set_option maxHeartbeats 400000 in
theorem kclo_any (k : Kd) (w : World) :
    Calls Try.prog 72 #[.agg #[.int .i64 k.wt, .int .i64 k.many]] w fun e w' => e = .returned (.bool (!okK k)) ∧ Below w.heap.size w w' := by
  have e : Hid ([k.wt, k.many].all (inR 1 300) = okK k) := hid (by rw [all_two, Bool.eq_iff_iff, Bool.and_eq_true, inR_t, inR_t, okK_t]; omega)
  cases hg : okK k
  all_goals
    have Hg := hid (e.out.trans hg)
    clear hg
    go_enter Try.func72, Try.ntmps72
    go_wp2_with (first | (go_at_call 66; refine (within_any _ _ _ [k.wt, k.many] 1 300 _ (inS_lit2 _ _ (by first | (simp; done) | (simp; omega) | omega) (by first | (simp; done) | (simp; omega) | omega)) (by omega)).mono ?_; rw [Hg.out]; rintro e w1 ⟨rfl, hb1⟩))
    go_ret
    exact ⟨rfl, Below.trans (by repeat' (first | with_reducible assumption | with_reducible exact Below.refl _ _ | refine Below.alloc ?_ ?_ _ | refine Below.setCell ?_ ?_ _ | refine Below.drew ?_ | refine below_drewN ?_ _ | (simp; done) | (simp; omega) | omega)) (hb1.mono (by first | (simp; done) | (simp; omega) | omega))⟩
set_option maxHeartbeats 400000 in
theorem idxK_any (A : Option Addr) (n c : Nat) (l : List Kd) (w : World) (hl : KdS w w.heap.size A n l) (hn : n ≤ 100) :
    Calls Try.prog 93 #[.slice A n c, .func (.func 72) #[] #[]] w (IdxPost (l.all okK) w.heap.size w) := by
  have hlen := hid hl.len
  go_enter Try.func93, Try.ntmps93
  go_wp2
  go_loopw [8] (fun i wr => ∃ k : Nat, k ≤ n ∧ i = .int .i64 k ∧ Hid ((l.take k).all okK = true) ∧ Below w.heap.size w wr) (fun i _ => n - (intOf i).toNat)
  case atStart => exact ⟨0, by omega, rfl, rfl, Below.refl _ _⟩
  case round =>
    obtain ⟨k, hk, rfl, hall, hbel⟩ := hrel
    have hsz := hbel.size
    by_cases hlt : k < n
    · obtain ⟨b, off, x, rfl, hb, hm, c0, c1⟩ := (hl.below hbel (Nat.le_refl _)).at_ hlt
      have Hm := hid hm
      clear hm
      cases hx : okK x
      · go_wp2_with (first | (go_at_call 72; refine (kclo_any x _).mono ?_; rw [hx]; rintro e w1 ⟨rfl, hb1⟩))
        go_ret
        exact ⟨k, rfl, by simp [all_false Hm.out hx], hbel.trans (hb1.mono hsz)⟩
      · go_wp2_with (first | (go_at_call 72; refine (kclo_any x _).mono ?_; rw [hx]; rintro e w1 ⟨rfl, hb1⟩))
        exact ⟨⟨k + 1, by omega, by go_num, all_take_succ hall.out Hm.out hx, hbel.trans (hb1.mono hsz)⟩, by simp [intOf]; omega⟩
    · have hfin : Hid (l.all okK = true) := by have := hall.out; rwa [List.take_of_length_le (by rw [hlen.out]; omega)] at this
      go_wp2
      go_ret
      exact ⟨-1, rfl, by simp [hfin.out], hbel⟩
set_option maxHeartbeats 400000 in
theorem containsK_any (A : Option Addr) (n c : Nat) (l : List Kd) (w : World) (hl : KdS w w.heap.size A n l) (hn : n ≤ 100) :
    Calls Try.prog 74 #[.slice A n c, .func (.func 72) #[] #[]] w fun e w' => e = .returned (.bool (!(l.all okK))) ∧ Below w.heap.size w w' := by
  cases hg : (l.all okK)
  · have Hg := hid hg
    clear hg
    go_enter Try.func74, Try.ntmps74
    go_wp2_with (first | (go_at_call 93; refine (idxK_any A n c l _ hl hn).mono ?_; rintro e w1 ⟨z, rfl, hz, hb1⟩; have hz2 := idx_f hz Hg.out; clear hz))
    go_ret
    exact ⟨by first | rfl | (simp; done) | simp [hz2], hb1⟩
  · have Hg := hid hg
    clear hg
    go_enter Try.func74, Try.ntmps74
    go_wp2_with (first | (go_at_call 93; refine (idxK_any A n c l _ hl hn).mono ?_; rintro e w1 ⟨z, rfl, hz, hb1⟩; have hz2 := idx_t hz Hg.out; clear hz))
    go_ret
    exact ⟨by first | rfl | (simp; done) | simp [hz2], hb1⟩
set_option maxHeartbeats 400000 in
theorem falls_any (B : Nat) (A : Option Addr) (n c k : Nat) (l : List Kd) (w : World) (hB : w.cell? ⟨B, 0, none⟩ = some (.slice A n c)) (hBl : B < w.heap.size) (hl : KdS w w.heap.size A n l) (hk : k < n) (hn : n ≤ 100) :
    Calls Try.prog 73 #[.int .i64 k, .pointer (some ⟨B, 0, none⟩)] w fun e w' => e = .returned (.bool (!riseAt l k)) ∧ Below w.heap.size w w' := by
  rcases Nat.eq_zero_or_pos k with h0 | h0
  · subst h0
    have hr : Hid (riseAt l 0 = true) := rfl
    clear hl
    go_enter Try.func73, Try.ntmps73
    go_wp2_with (fail)
    refine wp_region_hd_all (fun W' => Below w.heap.size w W') (by kernel_rfl) (by kernel_rfl) ((Below.refl _ _).drew) ?_
    iterate 3 (refine wpHd_val (v := ?_) (by rfl) (fun W hW => ?_) ?_; rotate_left; (· obtain ⟨hcW, hfW⟩ := bcell hW; go_simp; with_reducible rfl); simp only [Act.put, List.setIfInBounds_toArray, List.set_cons_zero, List.set_cons_succ])
    iterate 12 (refine wpHd_not (by rfl) ?_; simp only [Act.put, List.setIfInBounds_toArray, List.set_cons_zero, List.set_cons_succ])
    iterate 2 (refine wpHd_val (v := ?_) (by rfl) (fun W hW => ?_) ?_; rotate_left; (· obtain ⟨hcW, hfW⟩ := bcell hW; go_simp; with_reducible rfl); simp only [Act.put, List.setIfInBounds_toArray, List.set_cons_zero, List.set_cons_succ])
    refine wpHd_nil ?_
    intro W2 hW2
    go_wp2
    go_ret
    exact ⟨by rw [hr.out]; rfl, hW2⟩
  · obtain ⟨b, off, m, rfl, hb, hm, c0, c1⟩ := hl.at_ hk
    obtain ⟨b', off', m', e', hb', hm', d0, d1⟩ := hl.at_ (k := k - 1) (by omega)
    cases e'
    have hr : Hid (riseAt l k = decide (m'.wt < m.wt)) := hid (by unfold riseAt; rw [kAt_of hm, kAt_of hm']; simp; omega)
    obtain ⟨j, hj⟩ : ∃ j, j = k - 1 := ⟨_, rfl⟩
    rw [← hj] at d0
    have hji : (k : Int) - 1 = j := by omega
    have hkj : k - 1 = j := hj.symm
    have z0 : decide ((0 : Int) < k) = true := decide_eq_true (by omega)
    have z1 : (k : Int) < n := by omega
    have z2 : (j : Int) < n := by omega
    have z3 : (0 : Int) ≤ j := by omega
    have z4 : IntKind.i64.wrap ((k : Int) - 1) = j := by rw [hji]; exact IntWalk.i64_in _ (by omega)
    clear hm hm' d1 c1 hl hj hkj
    cases ht : decide (m.wt ≤ m'.wt)
    all_goals
      have hfin : Hid (riseAt l k = !decide (m.wt ≤ m'.wt)) := hid (by rw [hr.out, Bool.eq_iff_iff]; simp)
      rw [ht] at hfin
      clear hji
      go_enter Try.func73, Try.ntmps73
      go_wp2_with (fail)
      refine wp_region_hd_all (fun W' => Below w.heap.size w W') (by kernel_rfl) (by kernel_rfl) ((Below.refl _ _).drew) ?_
      iterate 17 (refine wpHd_val (v := ?_) (by rfl) (fun W hW => ?_) ?_; rotate_left; (· obtain ⟨hcW, hfW⟩ := bcell hW; go_simp; with_reducible rfl); simp only [Act.put, List.setIfInBounds_toArray, List.set_cons_zero, List.set_cons_succ])
      refine wpHd_nil ?_
      intro W2 hW2
      go_wp2
      go_ret
      exact ⟨by rw [hfin.out]; rfl, hW2⟩
end Go.Proofs.Ytolghmhodaphfaa
/- Walks: whether a set is valid. -/
namespace Go.Proofs.Ytolghmhodaphfaa
open Go.RowKit
theorem checkSet_many {l : List Kd} (h : l.length < 1 ∨ 8 < l.length) : checkSet l = 6 := by unfold checkSet; rw [if_pos h]
theorem checkSet_range {l : List Kd} (h : ¬ (l.length < 1 ∨ 8 < l.length)) (h1 : l.all okK = false) : checkSet l = 3 := by unfold checkSet; rw [if_neg h, if_pos h1]
theorem checkSet_rule {l : List Kd} (h : ¬ (l.length < 1 ∨ 8 < l.length)) (h1 : l.all okK = true) (h2 : risingK l = false) : checkSet l = 16 := by unfold checkSet; rw [if_neg h, if_neg (by simp [h1]), if_pos h2]
theorem checkSet_over {l : List Kd} (h : ¬ (l.length < 1 ∨ 8 < l.length)) (h1 : l.all okK = true) (h2 : risingK l = true) (h3 : 300 < sumOf l) : checkSet l = 4 := by unfold checkSet; rw [if_neg h, if_neg (by simp [h1]), if_neg (by simp [h2]), if_pos h3]
theorem checkSet_fine {l : List Kd} (h : ¬ (l.length < 1 ∨ 8 < l.length)) (h1 : l.all okK = true) (h2 : risingK l = true) (h3 : ¬ 300 < sumOf l) : checkSet l = 0 := by unfold checkSet; rw [if_neg h, if_neg (by simp [h1]), if_neg (by simp [h2]), if_neg h3]
theorem checkSet_ok {l : List Kd} (h : checkSet l = 0) : 1 ≤ l.length ∧ l.length ≤ 8 ∧ l.all okK = true ∧ risingK l = true ∧ sumOf l ≤ 300 := by
  unfold checkSet at h
  split at h
  · cases h
  · split at h
    · cases h
    · split at h
      · cases h
      · split at h
        · cases h
        · rename_i a b c d
          exact ⟨by omega, by omega, by simpa using b, by simpa using c, by omega⟩
theorem rising_not {l : List Kd} {k : Nat} (hk : k < l.length) (h : riseAt l k = false) : risingK l = false := by
  cases hr : risingK l
  · rfl
  · have := List.all_eq_true.1 hr k (List.mem_range.2 hk)
    rw [h] at this; cases this
theorem rising_yes {l : List Kd} {n : Nat} (hn : l.length = n) (h : ∀ k, k < n → riseAt l k = true) : risingK l = true := List.all_eq_true.2 fun k hk => h k (by rw [← hn]; exact List.mem_range.1 hk)
set_option maxRecDepth 100000 in
set_option maxHeartbeats 1000000 in
theorem checkSet_any (w : World) (A : Option Addr) (n c : Nat) (l : List Kd) (hl : KdS w w.heap.size A n l) (hn : n ≤ 12) :
    Calls Try.prog 22 #[.slice A n c] w fun e w' => e = .returned (.int .i64 (checkSet l)) ∧ Below w.heap.size w w' := by
  have hlen := hl.len
  have Hlen := hid hlen
  have HL := hid hl
  clear hl
  cases hw : [(n : Int)].all (inR 1 8)
  · have Hw := hid hw
    have h1 : Hid (checkSet l = 6) := hid (checkSet_many (by rw [all_one, inR_f] at hw; omega))
    clear hw hlen
    go_enter Try.func22, Try.ntmps22
    go_wp2_with (first | (go_at_call 66; refine (within_any _ _ _ [(n : Int)] 1 8 _ (inS_lit1 _ (by first | (simp; done) | (simp; omega) | omega) (by first | (simp; done) | (simp; omega) | omega)) (by omega)).mono ?_; rw [Hw.out]; rintro e w1 ⟨rfl, hb1⟩; obtain ⟨hc1, hf1⟩ := bcell hb1; have hbel : Below w.heap.size w w1 := Below.trans (by repeat' (first | with_reducible assumption | with_reducible exact Below.refl _ _ | refine Below.alloc ?_ ?_ _ | refine Below.setCell ?_ ?_ _ | refine Below.drew ?_ | refine below_drewN ?_ _ | (simp; done) | (simp; omega) | omega)) (hb1.mono (by first | (simp; done) | (simp; omega) | omega)); have hsz := hbel.size; have hz1 := hb1.size; simp only [World.size_alloc] at hz1; have hlt0 : w.heap.size < w1.heap.size := by omega))
    go_ret
    exact ⟨by rw [h1.out]; rfl, hbel⟩
  have Hw := hid hw
  have hln : ¬ (l.length < 1 ∨ 8 < l.length) := by rw [all_one, inR_t] at hw; omega
  cases ho : l.all okK
  · have Ho := hid ho
    have h2 : Hid (checkSet l = 3) := hid (checkSet_range hln ho)
    clear hw hlen hln ho
    go_enter Try.func22, Try.ntmps22
    go_wp2_with (first | (go_at_call 66; refine (within_any _ _ _ [(n : Int)] 1 8 _ (inS_lit1 _ (by first | (simp; done) | (simp; omega) | omega) (by first | (simp; done) | (simp; omega) | omega)) (by omega)).mono ?_; rw [Hw.out]; rintro e w1 ⟨rfl, hb1⟩; obtain ⟨hc1, hf1⟩ := bcell hb1; have hbel : Below w.heap.size w w1 := Below.trans (by repeat' (first | with_reducible assumption | with_reducible exact Below.refl _ _ | refine Below.alloc ?_ ?_ _ | refine Below.setCell ?_ ?_ _ | refine Below.drew ?_ | refine below_drewN ?_ _ | (simp; done) | (simp; omega) | omega)) (hb1.mono (by first | (simp; done) | (simp; omega) | omega)); have hsz := hbel.size; have hz1 := hb1.size; simp only [World.size_alloc] at hz1; have hlt0 : w.heap.size < w1.heap.size := by omega) | (go_at_call 74; refine (containsK_any A n c l _ (HL.out.below (w' := w1) hbel hsz) (by omega)).mono ?_; rw [Ho.out]; rintro e w2 ⟨rfl, hb2⟩; obtain ⟨hc2, hf2⟩ := bcell hb2; have hbel2 := hbel.trans (hb2.mono hsz)))
    go_ret
    exact ⟨by rw [h2.out]; rfl, hbel2⟩
  have Ho := hid ho
  have HLN := hid hln
  have hsm := hid (fun k (hk : k ∈ l) => smallK_of (List.all_eq_true.1 ho k hk))
  clear hw hlen hln ho
  go_enter Try.func22, Try.ntmps22
  go_wp2_with (first | (go_at_call 66; refine (within_any _ _ _ [(n : Int)] 1 8 _ (inS_lit1 _ (by first | (simp; done) | (simp; omega) | omega) (by first | (simp; done) | (simp; omega) | omega)) (by omega)).mono ?_; rw [Hw.out]; rintro e w1 ⟨rfl, hb1⟩; obtain ⟨hc1, hf1⟩ := bcell hb1; have hbel : Below w.heap.size w w1 := Below.trans (by repeat' (first | with_reducible assumption | with_reducible exact Below.refl _ _ | refine Below.alloc ?_ ?_ _ | refine Below.setCell ?_ ?_ _ | refine Below.drew ?_ | refine below_drewN ?_ _ | (simp; done) | (simp; omega) | omega)) (hb1.mono (by first | (simp; done) | (simp; omega) | omega)); have hsz := hbel.size; have hz1 := hb1.size; simp only [World.size_alloc] at hz1; have hlt0 : w.heap.size < w1.heap.size := by omega) | (go_at_call 74; refine (containsK_any A n c l _ (HL.out.below (w' := w1) hbel hsz) (by omega)).mono ?_; rw [Ho.out]; rintro e w2 ⟨rfl, hb2⟩; obtain ⟨hc2, hf2⟩ := bcell hb2; have hbel2 := hbel.trans (hb2.mono hsz)))
  have B0 : Blk w2 w.heap.size 22 #[.slice A n c] := (((Blk.new' rfl).alloc _).below hb1 (by simp only [World.size_alloc]; omega)).below hb2 (by omega)
  have hsz2 := hbel2.size
  have hlt2 := B0.lt
  have HB0 := hid B0
  clear hc1 hf1 hc2 hf2 hb1 hb2 hbel hsz hz1 hlt0 B0
  go_loopw [19] (fun i wr => ∃ k : Nat, k ≤ n ∧ i = .int .i64 k ∧ Hid (∀ j, j < k → riseAt l j = true) ∧ Below w2.heap.size w2 wr) (fun i _ => n - (intOf i).toNat)
  case atStart => exact ⟨0, by omega, rfl, hid (fun j hj => by omega), Below.refl _ _⟩
  case round =>
    obtain ⟨k, hk, rfl, hall, hb⟩ := hrel
    have hsz := hb.size
    have hbw := hbel2.trans (hb.mono hsz2)
    have hszw := hbw.size
    have Bk := HB0.out.below hb hlt2
    have q0 := Bk.cell 0
    have lk := Bk.lt
    by_cases hlt : k < n
    · have hlti : (k : Int) < n := by omega
      cases hr : riseAt l k
      · have h3 : Hid (checkSet l = 16) := hid (checkSet_rule HLN.out Ho.out (rising_not (by rw [Hlen.out]; exact hlt) hr))
        have HR := hid hr
        clear hr
        go_wp2_with (first | (go_at_call 73; refine (falls_any w.heap.size A n c k l _ q0 lk (HL.out.below hbw hszw) hlt (by omega)).mono ?_; rw [HR.out]; rintro e w3 ⟨rfl, hb3⟩))
        go_ret
        exact ⟨by rw [h3.out]; rfl, hbw.trans (hb3.mono hszw)⟩
      · have HR := hid hr
        have hall2 : Hid (∀ j, j < k + 1 → riseAt l j = true) := hid fun j hj => by
          rcases Nat.lt_or_ge j k with h | h
          · exact hall.out j h
          · obtain rfl : j = k := by omega
            exact HR.out
        clear hr
        go_wp2_with (first | (go_at_call 73; refine (falls_any w.heap.size A n c k l _ q0 lk (HL.out.below hbw hszw) hlt (by omega)).mono ?_; rw [HR.out]; rintro e w3 ⟨rfl, hb3⟩))
        exact ⟨⟨k + 1, by omega, by go_num, hall2, hb.trans (hb3.mono hsz)⟩, by simp [intOf]; omega⟩
    · obtain rfl : k = n := by omega
      have hr := rising_yes Hlen.out hall.out
      cases ht : decide (300 < sumOf l)
      · have h4 : Hid (checkSet l = 0) := hid (checkSet_fine HLN.out Ho.out hr (of_decide_eq_false ht))
        have h5 := of_decide_eq_false ht
        clear ht hr
        go_wp2_with (first | (go_at_call 75; refine (sum_any _ A k c l (HL.out.below hbw hszw) (by omega) hsm.out).mono ?_; rintro e w3 ⟨rfl, hb3⟩))
        go_ret
        exact ⟨by rw [h4.out]; rfl, hbw.trans (hb3.mono hszw)⟩
      · have h4 : Hid (checkSet l = 4) := hid (checkSet_over HLN.out Ho.out hr (of_decide_eq_true ht))
        have h5 := of_decide_eq_true ht
        clear ht hr
        go_wp2_with (first | (go_at_call 75; refine (sum_any _ A k c l (HL.out.below hbw hszw) (by omega) hsm.out).mono ?_; rintro e w3 ⟨rfl, hb3⟩))
        go_ret
        exact ⟨by rw [h4.out]; rfl, hbw.trans (hb3.mono hszw)⟩
end Go.Proofs.Ytolghmhodaphfaa
/- Walks: whether a set is valid, as the reference says; the errors of a set, of pans, of an amount. -/
namespace Go.Proofs.Ytolghmhodaphfaa
open Go.RowKit
theorem all_not {l : List Kd} {k : Nat} {m : Kd} (hm : l[k]? = some m) (h : okK m = false) : l.all okK = false := by
  cases hr : l.all okK
  · rfl
  · have := List.all_eq_true.1 hr m (List.mem_of_getElem? hm)
    rw [h] at this; cases this
set_option maxRecDepth 100000 in
set_option maxHeartbeats 1000000 in
theorem refCheckSet_any (w : World) (A : Option Addr) (n c : Nat) (l : List Kd) (hl : KdS w w.heap.size A n l) (hn : n ≤ 12) :
    Calls Try.prog 23 #[.slice A n c] w fun e w' => e = .returned (.int .i64 (checkSet l)) ∧ Below w.heap.size w w' := by
  have hlen := hl.len
  have Hlen := hid hlen
  have HL := hid hl
  clear hl
  by_cases hb0 : l.length < 1 ∨ 8 < l.length
  · have h1 : Hid (checkSet l = 6) := hid (checkSet_many hb0)
    rcases hb0 with h | h
    · have h3 : (n : Int) < 1 := by omega
      clear hlen h
      go_enter Try.func23, Try.ntmps23
      go_wp2
      go_ret
      exact ⟨by rw [h1.out]; rfl, Below.refl _ _⟩
    · have h3 : (8 : Int) < n := by omega
      have h4 : ¬ (n : Int) < 1 := by omega
      clear hlen h
      go_enter Try.func23, Try.ntmps23
      go_wp2
      go_ret
      exact ⟨by rw [h1.out]; rfl, Below.refl _ _⟩
  have HLN := hid hb0
  have h1 : 1 ≤ n := by omega
  have h2 : n ≤ 8 := by omega
  clear hb0 hlen
  go_enter Try.func23, Try.ntmps23
  go_wp2
  go_loop [3] (fun i => ∃ k : Nat, k ≤ n ∧ i = .int .i64 k ∧ Hid ((l.take k).all okK = true)) (fun i => n - (intOf i).toNat)
  case atStart => exact ⟨0, by omega, rfl, hid rfl⟩
  case round =>
    obtain ⟨k, hk, rfl, hall⟩ := hrel
    by_cases hlt : k < n
    · obtain ⟨b, off, m, rfl, hb, hm, c0, c1⟩ := HL.out.at_ hlt
      have hlti : (k : Int) < n := by omega
      have Hm := hid hm
      clear hm
      by_cases ho : okK m = true
      · have ho2 := okK_t.1 ho
        have hnx : Hid ((l.take (k + 1)).all okK = true) := hid (all_take_succ hall.out Hm.out ho)
        clear ho
        obtain ⟨y1, y2, y3, y4⟩ := ho2
        go_wp2
        exact ⟨⟨k + 1, by omega, by go_num, hnx⟩, by simp [intOf]; omega⟩
      · have ho0 : okK m = false := by simpa using ho
        have h3 : Hid (checkSet l = 3) := hid (checkSet_range HLN.out (all_not Hm.out ho0))
        have hbad : m.wt < 1 ∨ 300 < m.wt ∨ m.many < 1 ∨ 300 < m.many := by
          by_cases hq : 1 ≤ m.wt ∧ m.wt ≤ 300 ∧ 1 ≤ m.many ∧ m.many ≤ 300
          · exact absurd (okK_t.2 hq) ho
          · omega
        clear ho ho0
        by_cases g1 : m.wt < 1
        · clear hbad
          go_wp2
          go_ret
          exact ⟨by rw [h3.out]; rfl, Below.refl _ _⟩
        · by_cases g2 : 300 < m.wt
          · clear hbad
            go_wp2
            go_ret
            exact ⟨by rw [h3.out]; rfl, Below.refl _ _⟩
          · by_cases g3 : m.many < 1
            · clear hbad
              go_wp2
              go_ret
              exact ⟨by rw [h3.out]; rfl, Below.refl _ _⟩
            · have g4 : 300 < m.many := by omega
              clear hbad
              go_wp2
              go_ret
              exact ⟨by rw [h3.out]; rfl, Below.refl _ _⟩
    · obtain rfl : k = n := by omega
      have Ho : Hid (l.all okK = true) := hid (by have := hall.out; rwa [List.take_of_length_le (by rw [Hlen.out]; omega)] at this)
      have hsm := hid (fun k (hk : k ∈ l) => smallK_of (List.all_eq_true.1 Ho.out k hk))
      clear hall hlt
      obtain ⟨n, rfl⟩ : ∃ n, n = k := ⟨_, rfl⟩
      go_wp2
      go_loopw [4] (fun i wr => ∃ k : Nat, 1 ≤ k ∧ k ≤ n ∧ i = .int .i64 k ∧ Hid (∀ j, j < k → riseAt l j = true) ∧ Below w.heap.size w wr) (fun i _ => n - (intOf i).toNat)
      case atStart => exact ⟨1, by omega, by omega, rfl, hid (fun j hj => by obtain rfl : j = 0 := by omega
                                                                             rfl), Below.refl _ _⟩
      case round =>
        obtain ⟨k, hk1, hk2, rfl, hall, hbw⟩ := hrel
        have hszw := hbw.size
        by_cases hlt : k < n
        · have hlti : (k : Int) < n := by omega
          obtain ⟨b, off, m, rfl, hb, hm, c0, c1⟩ := (HL.out.below hbw hszw).at_ hlt
          obtain ⟨b', off', m', e', hb', hm', d0, d1⟩ := (HL.out.below hbw hszw).at_ (k := k - 1) (by omega)
          cases e'
          have hr : Hid (riseAt l k = decide (m'.wt < m.wt)) := hid (by unfold riseAt; rw [kAt_of hm, kAt_of hm']; simp; omega)
          obtain ⟨j, hj⟩ : ∃ j, j = k - 1 := ⟨_, rfl⟩
          rw [← hj] at d0
          have hji : (k : Int) - 1 = j := by omega
          have z2 : (j : Int) < n := by omega
          have z3 : (0 : Int) ≤ j := by omega
          have z4 : IntKind.i64.wrap ((k : Int) - 1) = j := by rw [hji]; exact IntWalk.i64_in _ (by omega)
          clear hm hm' d1 c1 hj hji
          cases ht : decide (m.wt ≤ m'.wt)
          all_goals
            have hfin : Hid (riseAt l k = !decide (m.wt ≤ m'.wt)) := hid (by rw [hr.out, Bool.eq_iff_iff]; simp)
            rw [ht] at hfin
            go_wp2_with (fail)
            refine wp_region_hd_all (fun W' => Below wr.heap.size wr W') (by kernel_rfl) (by kernel_rfl) ((Below.refl _ _).drew) ?_
            iterate 12 (refine wpHd_val (v := ?_) (by rfl) (fun W hW => ?_) ?_; rotate_left; (· obtain ⟨hcW, hfW⟩ := bcell hW; go_simp; with_reducible rfl); simp only [Act.put, List.setIfInBounds_toArray, List.set_cons_zero, List.set_cons_succ])
            refine wpHd_nil ?_
            intro W2 hW2
            clear c0 d0 ht
          · have hall2 : Hid (∀ j, j < k + 1 → riseAt l j = true) := hid fun j hj => by
              rcases Nat.lt_or_ge j k with h | h
              · exact hall.out j h
              · obtain rfl : j = k := by omega
                exact hfin.out
            go_wp2
            exact ⟨⟨k + 1, by omega, by omega, by go_num, hall2, hbw.trans (hW2.mono hszw)⟩, by simp [intOf]; omega⟩
          · have h3 : Hid (checkSet l = 16) := hid (checkSet_rule HLN.out Ho.out (rising_not (by rw [Hlen.out]; exact hlt) hfin.out))
            go_wp2
            go_ret
            exact ⟨by rw [h3.out]; rfl, hbw.trans (hW2.mono hszw)⟩
        · obtain rfl : k = n := by omega
          have hr := rising_yes Hlen.out hall.out
          cases ht : decide (300 < sumOf l)
          · have h4 : Hid (checkSet l = 0) := hid (checkSet_fine HLN.out Ho.out hr (of_decide_eq_false ht))
            have h5 := of_decide_eq_false ht
            clear ht hr
            go_wp2_with (first | (go_at_call 55; refine (refSum_any _ A k c l (HL.out.below hbw hszw) (by omega) hsm.out).mono ?_; rintro e w3 ⟨rfl, hb3⟩))
            go_ret
            exact ⟨by rw [h4.out]; rfl, hbw.trans (hb3.mono hszw)⟩
          · have h4 : Hid (checkSet l = 4) := hid (checkSet_over HLN.out Ho.out hr (of_decide_eq_true ht))
            have h5 := of_decide_eq_true ht
            clear ht hr
            go_wp2_with (first | (go_at_call 55; refine (refSum_any _ A k c l (HL.out.below hbw hszw) (by omega) hsm.out).mono ?_; rintro e w3 ⟨rfl, hb3⟩))
            go_ret
            exact ⟨by rw [h4.out]; rfl, hbw.trans (hb3.mono hszw)⟩
end Go.Proofs.Ytolghmhodaphfaa
/- Walks: opening a scale, the checks of an amount. -/
namespace Go.Proofs.Ytolghmhodaphfaa
open Go.RowKit
def openE (l : List Kd) (p : Int) : Int := if checkSet l ≠ 0 then checkSet l else if inR 1 2 p = true then 0 else 2
def askedE (l : List Kd) (p a : Int) : Int := if openE l p ≠ 0 then openE l p else if inR 0 300 a = true then 0 else 3
theorem openE_set {l : List Kd} {p : Int} (h : (checkSet l != 0) = true) : openE l p = checkSet l := by unfold openE; rw [if_pos (by simpa using h)]
theorem openE_pans {l : List Kd} {p : Int} (h : checkSet l = 0) (h2 : inR 1 2 p = false) : openE l p = 2 := by unfold openE; rw [if_neg (by simp [h]), if_neg (by simp [h2])]
theorem openE_ok {l : List Kd} {p : Int} (h : checkSet l = 0) (h2 : inR 1 2 p = true) : openE l p = 0 := by unfold openE; rw [if_neg (by simp [h]), if_pos h2]
theorem openE_zero {l : List Kd} {p : Int} (h : openE l p = 0) : checkSet l = 0 ∧ (p = 1 ∨ p = 2) := by
  unfold openE at h
  split at h
  · rename_i h0; exact absurd h h0
  · rename_i h0
    split at h
    · rename_i h1; rw [inR_t] at h1; exact ⟨by simpa using h0, by omega⟩
    · cases h
theorem askedE_open {l : List Kd} {p a : Int} (h : (openE l p != 0) = true) : askedE l p a = openE l p := by unfold askedE; rw [if_pos (by simpa using h)]
theorem askedE_far {l : List Kd} {p a : Int} (h : openE l p = 0) (h2 : inR 0 300 a = false) : askedE l p a = 3 := by unfold askedE; rw [if_neg (by simp [h]), if_neg (by simp [h2])]
theorem askedE_ok {l : List Kd} {p a : Int} (h : openE l p = 0) (h2 : inR 0 300 a = true) : askedE l p a = 0 := by unfold askedE; rw [if_neg (by simp [h]), if_pos h2]
theorem askedE_zero {l : List Kd} {p a : Int} (h : askedE l p a = 0) : openE l p = 0 ∧ 0 ≤ a ∧ a ≤ 300 := by
  unfold askedE at h
  split at h
  · rename_i h0; exact absurd h h0
  · rename_i h0
    split at h
    · rename_i h1; rw [inR_t] at h1; exact ⟨by simpa using h0, h1⟩
    · cases h
/-- A scale in the memory: its set and its pans. -/
def Sc (w : World) (g : Nat) (S : Value) (p : Int) : Prop := w.cell? ⟨g, 0, none⟩ = some S ∧ w.cell? ⟨g, 1, none⟩ = some (.int .i64 p)
theorem Sc.below {w w' : World} {g B : Nat} {S : Value} {p : Int} (h : Sc w g S p) (hb : Below B w w') (hg : g < B) : Sc w' g S p := by
  obtain ⟨hc, _⟩ := bcell hb
  exact ⟨by rw [hc _ _ hg]; exact h.1, by rw [hc _ _ hg]; exact h.2⟩
set_option maxHeartbeats 400000 in
theorem open_bad (w : World) (A : Option Addr) (n c : Nat) (l : List Kd) (p : Int) (hl : KdS w w.heap.size A n l) (hn : n ≤ 12) (h0 : openE l p ≠ 0) :
    Calls Try.prog 64 #[.slice A n c, .int .i64 p] w fun e w' => e = .returned (.tuple #[.pointer none, .int .i64 (openE l p)]) ∧ Below w.heap.size w w' := by
  cases hs : (checkSet l != 0)
  · have hs0 : checkSet l = 0 := by simpa using hs
    cases hp : inR 1 2 p
    · have Hp := hid ((all_one (x := p) (lo := 1) (hi := 2)).trans hp)
      have he := hid (openE_pans hs0 hp)
      have Hs := hid hs0
      clear hs hs0 hp h0
      go_enter Try.func64, Try.ntmps64
      go_wp2_with (first | (go_at_call 22; refine (checkSet_any _ A n c l hl hn).mono ?_; rw [Hs.out]; rintro e w1 ⟨rfl, hb1⟩; have hz1 := hb1.size) | (go_at_call 66; refine (within_any _ _ _ [p] 1 2 _ (inS_lit1 _ (by first | (simp; done) | (simp; omega) | omega) (by first | (simp; done) | (simp; omega) | omega)) (by omega)).mono ?_; rw [Hp.out]; rintro e w2 ⟨rfl, hb2⟩))
      rw [he.out]
      refine bodyPost_ret (v := .tuple #[.pointer none, .int .i64 2]) (by first | (simp [results, Try.results64, go_sem]; done) | (simp [results, Try.results64, go_sem, *]; done) | (simp [results, Try.results64, go_sem, World.cell?_setCell_same', *]; done) | (simp [results, Try.results64, go_sem]; first | exact ⟨rfl, rfl⟩ | rfl)) rfl ⟨rfl, Below.trans hb1 (Below.trans (by repeat' (first | with_reducible assumption | with_reducible exact Below.refl _ _ | refine Below.alloc ?_ ?_ _ | refine Below.setCell ?_ ?_ _ | refine Below.drew ?_ | refine below_drewN ?_ _ | (simp; done) | (simp; omega) | omega)) (hb2.mono (by first | (simp; done) | (simp; omega) | omega)))⟩
    · exact absurd (openE_ok hs0 hp) h0
  · have he := hid (openE_set (p := p) hs)
    clear h0
    go_enter Try.func64, Try.ntmps64
    go_wp2_with (first | (go_at_call 22; refine (checkSet_any _ A n c l hl hn).mono ?_; rintro e w1 ⟨rfl, hb1⟩))
    rw [he.out]
    refine bodyPost_ret (v := .tuple #[.pointer none, .int .i64 (checkSet l)]) (by first | (simp [results, Try.results64, go_sem]; done) | (simp [results, Try.results64, go_sem, *]; done) | (simp [results, Try.results64, go_sem, World.cell?_setCell_same', *]; done) | (simp [results, Try.results64, go_sem]; first | exact ⟨rfl, rfl⟩ | rfl)) rfl ⟨rfl, (by repeat' (first | with_reducible assumption | with_reducible exact Below.refl _ _ | refine Below.alloc ?_ ?_ _ | refine Below.setCell ?_ ?_ _ | refine Below.drew ?_ | refine below_drewN ?_ _ | (simp; done) | (simp; omega) | omega))⟩
set_option maxHeartbeats 400000 in
theorem open_ok (w : World) (A : Option Addr) (n c : Nat) (l : List Kd) (p : Int) (hl : KdS w w.heap.size A n l) (hn : n ≤ 12) (h0 : openE l p = 0) :
    Calls Try.prog 64 #[.slice A n c, .int .i64 p] w fun e w' => ∃ g, e = .returned (.tuple #[.pointer (some ⟨g, 0, none⟩), .int .i64 0]) ∧ w.heap.size ≤ g ∧ g < w'.heap.size ∧ Sc w' g (.slice A n c) p ∧ Below w.heap.size w w' := by
  obtain ⟨hs, hp⟩ := openE_zero h0
  have Hp := hid ((all_one (x := p) (lo := 1) (hi := 2)).trans (inR_t.2 (by omega)))
  have Hs := hid hs
  clear hs hp h0
  go_enter Try.func64, Try.ntmps64
  go_wp2_with (first | (go_at_call 22; refine (checkSet_any _ A n c l hl hn).mono ?_; rw [Hs.out]; rintro e w1 ⟨rfl, hb1⟩; have hz1 := hb1.size) | (go_at_call 66; refine (within_any _ _ _ [p] 1 2 _ (inS_lit1 _ (by first | (simp; done) | (simp; omega) | omega) (by first | (simp; done) | (simp; omega) | omega)) (by omega)).mono ?_; rw [Hp.out]; rintro e w2 ⟨rfl, hb2⟩; have hz2 := hb2.size))
  simp only [World.size_alloc] at hz2
  refine bodyPost_ret (v := .tuple #[.pointer (some ⟨w2.heap.size, 0, none⟩), .int .i64 0]) (by first | (simp [results, Try.results64, go_sem]; done) | (simp [results, Try.results64, go_sem, *]; done) | (simp [results, Try.results64, go_sem, World.cell?_setCell_same', *]; done) | (simp [results, Try.results64, go_sem]; first | exact ⟨rfl, rfl⟩ | rfl)) rfl ⟨w2.heap.size, rfl, by omega, by simp, ⟨?_, ?_⟩, Below.alloc (Below.trans hb1 (Below.trans (by repeat' (first | with_reducible assumption | with_reducible exact Below.refl _ _ | refine Below.alloc ?_ ?_ _ | refine Below.setCell ?_ ?_ _ | refine Below.drew ?_ | refine below_drewN ?_ _ | (simp; done) | (simp; omega) | omega)) (hb2.mono (by first | (simp; done) | (simp; omega) | omega)))) (by omega) _⟩
  · rw [(Blk.new' rfl).cell]; rfl
  · rw [(Blk.new' rfl).cell]; rfl
set_option maxHeartbeats 400000 in
theorem asked_bad (w : World) (A : Option Addr) (n c : Nat) (l : List Kd) (p a : Int) (hl : KdS w w.heap.size A n l) (hn : n ≤ 12) (h0 : askedE l p a ≠ 0) :
    Calls Try.prog 80 #[.slice A n c, .int .i64 p, .int .i64 a] w fun e w' => e = .returned (.tuple #[.pointer none, .int .i64 (askedE l p a)]) ∧ Below w.heap.size w w' := by
  cases hs : (openE l p != 0)
  · have hs0 : openE l p = 0 := by simpa using hs
    cases hp : inR 0 300 a
    · have Hp := hid ((all_one (x := a) (lo := 0) (hi := 300)).trans hp)
      have he := hid (askedE_far hs0 hp)
      clear hs hp h0
      go_enter Try.func80, Try.ntmps80
      go_wp2_with (first | (go_at_call 64; refine (open_ok _ A n c l p hl hn hs0).mono ?_; rintro e w1 ⟨g, rfl, hg1, hg2, hsc, hb1⟩; have hz1 := hb1.size) | (go_at_call 66; refine (within_any _ _ _ [a] 0 300 _ (inS_lit1 _ (by first | (simp; done) | (simp; omega) | omega) (by first | (simp; done) | (simp; omega) | omega)) (by omega)).mono ?_; rw [Hp.out]; rintro e w2 ⟨rfl, hb2⟩))
      rw [he.out]
      refine bodyPost_ret (v := .tuple #[.pointer none, .int .i64 3]) (by first | (simp [results, Try.results80, go_sem]; done) | (simp [results, Try.results80, go_sem, *]; done) | (simp [results, Try.results80, go_sem, World.cell?_setCell_same', *]; done) | (simp [results, Try.results80, go_sem]; first | exact ⟨rfl, rfl⟩ | rfl)) rfl ⟨rfl, Below.trans hb1 (Below.trans (by repeat' (first | with_reducible assumption | with_reducible exact Below.refl _ _ | refine Below.alloc ?_ ?_ _ | refine Below.setCell ?_ ?_ _ | refine Below.drew ?_ | refine below_drewN ?_ _ | (simp; done) | (simp; omega) | omega)) (hb2.mono (by first | (simp; done) | (simp; omega) | omega)))⟩
    · exact absurd (askedE_ok hs0 hp) h0
  · have he := hid (askedE_open (a := a) hs)
    have hs0 : openE l p ≠ 0 := by simpa using hs
    clear h0
    go_enter Try.func80, Try.ntmps80
    go_wp2_with (first | (go_at_call 64; refine (open_bad _ A n c l p hl hn hs0).mono ?_; rintro e w1 ⟨rfl, hb1⟩))
    rw [he.out]
    refine bodyPost_ret (v := .tuple #[.pointer none, .int .i64 (openE l p)]) (by first | (simp [results, Try.results80, go_sem]; done) | (simp [results, Try.results80, go_sem, *]; done) | (simp [results, Try.results80, go_sem, World.cell?_setCell_same', *]; done) | (simp [results, Try.results80, go_sem]; first | exact ⟨rfl, rfl⟩ | rfl)) rfl ⟨rfl, (by repeat' (first | with_reducible assumption | with_reducible exact Below.refl _ _ | refine Below.alloc ?_ ?_ _ | refine Below.setCell ?_ ?_ _ | refine Below.drew ?_ | refine below_drewN ?_ _ | (simp; done) | (simp; omega) | omega))⟩
set_option maxHeartbeats 400000 in
theorem asked_ok (w : World) (A : Option Addr) (n c : Nat) (l : List Kd) (p a : Int) (hl : KdS w w.heap.size A n l) (hn : n ≤ 12) (h0 : askedE l p a = 0) :
    Calls Try.prog 80 #[.slice A n c, .int .i64 p, .int .i64 a] w fun e w' => ∃ g, e = .returned (.tuple #[.pointer (some ⟨g, 0, none⟩), .int .i64 0]) ∧ w.heap.size ≤ g ∧ g < w'.heap.size ∧ Sc w' g (.slice A n c) p ∧ Below w.heap.size w w' := by
  obtain ⟨hs0, hp⟩ := askedE_zero h0
  have Hp := hid ((all_one (x := a) (lo := 0) (hi := 300)).trans (inR_t.2 hp))
  clear hp h0
  go_enter Try.func80, Try.ntmps80
  go_wp2_with (first | (go_at_call 64; refine (open_ok _ A n c l p hl hn hs0).mono ?_; rintro e w1 ⟨g, rfl, hg1, hg2, hsc, hb1⟩; have hz1 := hb1.size) | (go_at_call 66; refine (within_any _ _ _ [a] 0 300 _ (inS_lit1 _ (by first | (simp; done) | (simp; omega) | omega) (by first | (simp; done) | (simp; omega) | omega)) (by omega)).mono ?_; rw [Hp.out]; rintro e w2 ⟨rfl, hb2⟩; have hz2 := hb2.size))
  simp only [World.size_alloc] at hz2
  have hb3 : Below w1.heap.size w1 w2 := Below.trans (Below.alloc (Below.refl _ _) (Nat.le_refl _) _) (hb2.mono (by first | (simp; done) | (simp; omega) | omega))
  refine bodyPost_ret (v := .tuple #[.pointer (some ⟨g, 0, none⟩), .int .i64 0]) (by first | (simp [results, Try.results80, go_sem]; done) | (simp [results, Try.results80, go_sem, *]; done) | (simp [results, Try.results80, go_sem, World.cell?_setCell_same', *]; done) | (simp [results, Try.results80, go_sem]; first | exact ⟨rfl, rfl⟩ | rfl)) rfl ⟨g, rfl, hg1, by omega, hsc.below hb3 hg2, Below.trans hb1 (hb3.mono hz1)⟩
set_option maxHeartbeats 400000 in
theorem panned_any (w : World) (A : Option Addr) (n c : Nat) (l : List Kd) (p : Int) (hl : KdS w w.heap.size A n l) (hn : n ≤ 12) :
    Calls Try.prog 69 #[.slice A n c, .int .i64 p] w fun e w' => e = .returned (.int .i64 (openE l p)) ∧ Below w.heap.size w w' := by
  cases hs : (checkSet l != 0)
  · have hs0 : checkSet l = 0 := by simpa using hs
    have Hs := hid hs0
    by_cases hp1 : p = 1
    · have he := hid (openE_ok (p := p) hs0 (inR_t.2 (by omega)))
      subst hp1
      clear hs hs0
      go_enter Try.func69, Try.ntmps69
      go_wp2_with (first | (go_at_call 23; refine (refCheckSet_any _ A n c l hl hn).mono ?_; rw [Hs.out]; rintro e w1 ⟨rfl, hb1⟩))
      go_ret
      exact ⟨by rw [he.out]; rfl, (by repeat' (first | with_reducible assumption | with_reducible exact Below.refl _ _ | refine Below.alloc ?_ ?_ _ | refine Below.setCell ?_ ?_ _ | refine Below.drew ?_ | refine below_drewN ?_ _ | (simp; done) | (simp; omega) | omega))⟩
    by_cases hp2 : p = 2
    · have he := hid (openE_ok (p := p) hs0 (inR_t.2 (by omega)))
      subst hp2
      clear hs hs0 hp1
      go_enter Try.func69, Try.ntmps69
      go_wp2_with (first | (go_at_call 23; refine (refCheckSet_any _ A n c l hl hn).mono ?_; rw [Hs.out]; rintro e w1 ⟨rfl, hb1⟩))
      go_ret
      exact ⟨by rw [he.out]; rfl, (by repeat' (first | with_reducible assumption | with_reducible exact Below.refl _ _ | refine Below.alloc ?_ ?_ _ | refine Below.setCell ?_ ?_ _ | refine Below.drew ?_ | refine below_drewN ?_ _ | (simp; done) | (simp; omega) | omega))⟩
    · have he := hid (openE_pans (p := p) hs0 (inR_f.2 (by omega)))
      have d1 : (p != 1) = true := by simpa using hp1
      have d2 : (p != 2) = true := by simpa using hp2
      clear hs hs0
      go_enter Try.func69, Try.ntmps69
      go_wp2_with (first | (go_at_call 23; refine (refCheckSet_any _ A n c l hl hn).mono ?_; rw [Hs.out]; rintro e w1 ⟨rfl, hb1⟩))
      go_ret
      exact ⟨by rw [he.out]; rfl, (by repeat' (first | with_reducible assumption | with_reducible exact Below.refl _ _ | refine Below.alloc ?_ ?_ _ | refine Below.setCell ?_ ?_ _ | refine Below.drew ?_ | refine below_drewN ?_ _ | (simp; done) | (simp; omega) | omega))⟩
  · have he := hid (openE_set (p := p) hs)
    go_enter Try.func69, Try.ntmps69
    go_wp2_with (first | (go_at_call 23; refine (refCheckSet_any _ A n c l hl hn).mono ?_; rintro e w1 ⟨rfl, hb1⟩; have hz1 := hb1.size) | (go_at_call 23; refine (refCheckSet_any _ A n c l (hl.below hb1 hz1) hn).mono ?_; rintro e w2 ⟨rfl, hb2⟩))
    go_ret
    exact ⟨by rw [he.out]; rfl, hb1.trans (hb2.mono hz1)⟩
set_option maxHeartbeats 400000 in
theorem amounted_any (w : World) (A : Option Addr) (n c : Nat) (l : List Kd) (p a : Int) (hl : KdS w w.heap.size A n l) (hn : n ≤ 12) :
    Calls Try.prog 81 #[.slice A n c, .int .i64 p, .int .i64 a] w fun e w' => e = .returned (.int .i64 (askedE l p a)) ∧ Below w.heap.size w w' := by
  cases hs : (openE l p != 0)
  · have hs0 : openE l p = 0 := by simpa using hs
    have Hs := hid hs0
    cases d1 : decide (a < 0)
    · cases d2 : decide (300 < a)
      · have he := hid (askedE_ok (a := a) hs0 (inR_t.2 ⟨by have := of_decide_eq_false d1; omega, by have := of_decide_eq_false d2; omega⟩))
        clear hs hs0
        go_enter Try.func81, Try.ntmps81
        go_wp2_with (first | (go_at_call 69; refine (panned_any _ A n c l p hl hn).mono ?_; rw [Hs.out]; rintro e w1 ⟨rfl, hb1⟩))
        go_ret
        exact ⟨by rw [he.out]; rfl, (by repeat' (first | with_reducible assumption | with_reducible exact Below.refl _ _ | refine Below.alloc ?_ ?_ _ | refine Below.setCell ?_ ?_ _ | refine Below.drew ?_ | refine below_drewN ?_ _ | (simp; done) | (simp; omega) | omega))⟩
      · have he := hid (askedE_far (a := a) hs0 (inR_f.2 (Or.inr (of_decide_eq_true d2))))
        clear hs hs0
        go_enter Try.func81, Try.ntmps81
        go_wp2_with (first | (go_at_call 69; refine (panned_any _ A n c l p hl hn).mono ?_; rw [Hs.out]; rintro e w1 ⟨rfl, hb1⟩))
        go_ret
        exact ⟨by rw [he.out]; rfl, (by repeat' (first | with_reducible assumption | with_reducible exact Below.refl _ _ | refine Below.alloc ?_ ?_ _ | refine Below.setCell ?_ ?_ _ | refine Below.drew ?_ | refine below_drewN ?_ _ | (simp; done) | (simp; omega) | omega))⟩
    · have he := hid (askedE_far (a := a) hs0 (inR_f.2 (Or.inl (of_decide_eq_true d1))))
      clear hs hs0
      go_enter Try.func81, Try.ntmps81
      go_wp2_with (first | (go_at_call 69; refine (panned_any _ A n c l p hl hn).mono ?_; rw [Hs.out]; rintro e w1 ⟨rfl, hb1⟩))
      go_ret
      exact ⟨by rw [he.out]; rfl, (by repeat' (first | with_reducible assumption | with_reducible exact Below.refl _ _ | refine Below.alloc ?_ ?_ _ | refine Below.setCell ?_ ?_ _ | refine Below.drew ?_ | refine below_drewN ?_ _ | (simp; done) | (simp; omega) | omega))⟩
  · have he := hid (askedE_open (a := a) hs)
    go_enter Try.func81, Try.ntmps81
    go_wp2_with (first | (go_at_call 69; refine (panned_any _ A n c l p hl hn).mono ?_; rintro e w1 ⟨rfl, hb1⟩; have hz1 := hb1.size) | (go_at_call 69; refine (panned_any _ A n c l p (hl.below hb1 hz1) hn).mono ?_; rintro e w2 ⟨rfl, hb2⟩))
    go_ret
    exact ⟨by rw [he.out]; rfl, hb1.trans (hb2.mono hz1)⟩
end Go.Proofs.Ytolghmhodaphfaa
/- Walks: the least number of a kind, what a lay weighs and uses. -/
namespace Go.Proofs.Ytolghmhodaphfaa
open Go.RowKit
theorem leastK_one {k : Kd} {p : Int} (h : p = 1) : leastK p k = 0 := by unfold leastK; rw [h]; simp
theorem leastK_two {k : Kd} {p : Int} (h : p = 2) : leastK p k = -k.many := by unfold leastK; rw [h]; omega
theorem wrap_ok {x : Int} (h : -9223372036854775808 ≤ x ∧ x ≤ 9223372036854775807) : IntKind.i64.wrap x = x := IntWalk.i64_in _ (by omega)
theorem okK_le {k : Kd} (h : okK k = true) : 1 ≤ k.wt ∧ k.wt ≤ 300 ∧ 1 ≤ k.many ∧ k.many ≤ 300 := by rw [okK_t] at h; omega
set_option maxHeartbeats 400000 in
theorem least_any (w : World) (A : Option Addr) (n c k : Nat) (l : List Kd) (p : Int) (m : Kd) (hl : KdS w w.heap.size A n l) (hm : l[k]? = some m) (hok : okK m = true) (hp : p = 1 ∨ p = 2) :
    Calls Try.prog 65 #[.agg #[.slice A n c, .int .i64 p], .int .i64 k] w fun e w' => e = .returned (.int .i64 (leastK p m)) ∧ Below w.heap.size w w' := by
  have hk : k < n := by
    have := hl.len
    have := (List.getElem?_eq_some_iff.1 hm).1
    omega
  obtain ⟨b, off, m', rfl, hb, hm', c0, c1⟩ := hl.at_ hk
  obtain rfl : m' = m := by rw [hm] at hm'; simpa using hm'.symm
  have h4 := okK_le hok
  have hki : (k : Int) < n := by omega
  have z1 : IntKind.i64.wrap (1 - p) = 1 - p := wrap_ok (by omega)
  have he : leastK p m' = 0 ∨ leastK p m' = -m'.many := by rcases hp with h | h; exact .inl (leastK_one h); exact .inr (leastK_two h)
  have z2 : IntKind.i64.wrap ((1 - p) * m'.many) = leastK p m' := wrap_ok (by unfold leastK at he; omega)
  clear hm hm' hl he
  go_enter Try.func65, Try.ntmps65
  go_wp2_with (fail)
  generalize hw1 : w.alloc (.cells #[.slice (some ⟨b, off, none⟩) n c, .int .i64 p] 76) = w1
  have hB : Blk w1 w.heap.size 76 #[.slice (some ⟨b, off, none⟩) n c, .int .i64 p] := by rw [← hw1]; exact Blk.new' rfl
  have q0 := hB.cell 0
  have q1 := hB.cell 1
  simp only [List.getElem?_toArray, List.getElem?_cons_zero, List.getElem?_cons_succ] at q0 q1
  have hlt := hB.lt
  have hbel : Below w.heap.size w w1 := by rw [← hw1]; exact (by repeat' (first | with_reducible assumption | with_reducible exact Below.refl _ _ | refine Below.alloc ?_ ?_ _ | refine Below.setCell ?_ ?_ _ | refine Below.drew ?_ | refine below_drewN ?_ _ | (simp; done) | (simp; omega) | omega))
  have hsz := hbel.size
  have hlb : b < w1.heap.size := by omega
  have e1 : w1.cell? ⟨b, off + k * 2 + 1, none⟩ = some (.int .i64 m'.many) := by rw [(bcell hbel).1 _ _ hb]; exact c1
  clear c0 c1 hB hw1
  refine wp_region_hd_all (fun W' => Below w1.heap.size w1 W') (by kernel_rfl) (by kernel_rfl) ((Below.refl _ _).drew) ?_
  iterate 11 (refine wpHd_val (v := ?_) (by rfl) (fun W hW => ?_) ?_; rotate_left; (· obtain ⟨hcW, hfW⟩ := bcell hW; go_simp; with_reducible rfl); simp only [Act.put, List.setIfInBounds_toArray, List.set_cons_zero, List.set_cons_succ])
  refine wpHd_nil ?_
  intro W2 hW2
  go_wp2
  go_ret
  exact ⟨by first | rfl | (rw [z1, z2]; done) | simp [z1, z2], hbel.trans (hW2.mono hsz)⟩
end Go.Proofs.Ytolghmhodaphfaa
/- Walks: what a lay weighs and how many weights it uses. -/
namespace Go.Proofs.Ytolghmhodaphfaa
open Go.RowKit
theorem weighs_take : ∀ {ks : List Kd} {l : List Int} {k : Nat} {m : Kd} {x : Int}, ks[k]? = some m → l[k]? = some x → weighs (ks.take (k + 1)) (l.take (k + 1)) = weighs (ks.take k) (l.take k) + m.wt * x
  | [], _, _, _, _, h, _ => by simp at h
  | _ :: _, [], _, _, _, _, h => by simp at h
  | q :: ks, y :: l, 0, m, x, h, h' => by
    simp only [List.getElem?_cons_zero, Option.some.injEq] at h h'
    subst h h'
    simp [weighs]
  | q :: ks, y :: l, k + 1, m, x, h, h' => by
    simp only [List.getElem?_cons_succ] at h h'
    have := weighs_take h h'
    simp only [List.take_succ_cons, weighs]
    rw [this]; omega
theorem weighs_small : ∀ {ks : List Kd} {l : List Int}, (∀ k ∈ ks, okK k = true) → (∀ x ∈ l, absI x ≤ 300) → absI (weighs ks l) ≤ l.length * 90000
  | [], l, _, _ => by simp only [weighs, absI]; omega
  | _ :: _, [], _, _ => by simp [weighs, absI]
  | k :: ks, x :: l, h, h' => by
    have h1 := weighs_small (ks := ks) (l := l) (fun q hq => h q (by simp [hq])) (fun q hq => h' q (by simp [hq]))
    have h2 := okK_le (h k (by simp))
    have h3 := h' x (by simp)
    simp only [weighs, List.length_cons]
    unfold absI at *
    have h4 : k.wt * x ≤ k.wt * 300 := Int.mul_le_mul_of_nonneg_left (by omega) (by omega)
    have h5 : k.wt * (-300) ≤ k.wt * x := Int.mul_le_mul_of_nonneg_left (by omega) (by omega)
    omega
theorem uses_take {l : List Int} {k : Nat} {x : Int} (h : l[k]? = some x) : uses (l.take (k + 1)) = uses (l.take k) + absI x := by
  unfold uses
  rw [List.take_add_one, h, List.map_append, List.sum_append]
  simp
theorem uses_small : ∀ {l : List Int}, (∀ x ∈ l, absI x ≤ 300) → 0 ≤ uses l ∧ uses l ≤ l.length * 300
  | [], _ => by simp [uses]
  | x :: l, h => by
    have h1 := uses_small (l := l) fun q hq => h q (by simp [hq])
    have h2 := h x (by simp)
    have h3 := absI_nonneg x
    have h4 : uses (x :: l) = absI x + uses l := by simp [uses]
    simp only [List.length_cons]
    omega
theorem absI_le {x : Int} (h : absI x ≤ 300) : -300 ≤ x ∧ x ≤ 300 := by unfold absI at h; omega
theorem mul300 {a x : Int} (h : 1 ≤ a ∧ a ≤ 300) (h2 : -300 ≤ x ∧ x ≤ 300) : -90000 ≤ a * x ∧ a * x ≤ 90000 := by
  have h4 : a * x ≤ a * 300 := Int.mul_le_mul_of_nonneg_left (by omega) (by omega)
  have h5 : a * (-300) ≤ a * x := Int.mul_le_mul_of_nonneg_left (by omega) (by omega)
  omega
set_option maxRecDepth 100000 in
set_option maxHeartbeats 1000000 in
theorem uses_any (w : World) (A : Option Addr) (n c : Nat) (l : List Int) (hl : InS w w.heap.size A n l) (hn : n ≤ 20) (hs : ∀ x ∈ l, absI x ≤ 300) :
    Calls Try.prog 68 #[.slice A n c] w fun e w' => e = .returned (.int .i64 (uses l)) ∧ Below w.heap.size w w' := by
  have hlen := hid hl.len
  have hs' := hid hs
  have HL := hid hl
  clear hs hl
  go_enter Try.func68, Try.ntmps68
  go_wp2
  go_loopw [3, 8] (fun s i wr => ∃ k : Nat, k ≤ n ∧ i = .int .i64 k ∧ s = .int .i64 (uses (l.take k)) ∧ Below w.heap.size w wr) (fun _ i _ => n - (intOf i).toNat)
  case atStart => exact ⟨0, by omega, rfl, rfl, Below.refl _ _⟩
  case round =>
    obtain ⟨k, hk, rfl, rfl, hbel⟩ := hrel
    have hsz := hbel.size
    by_cases hlt : k < n
    · obtain ⟨b, off, x, rfl, hb, hm, c0⟩ := (HL.out.below hbel (Nat.le_refl _)).at_ hlt
      have hlti : (k : Int) < n := by omega
      have hsu := hid (uses_take hm)
      have hm1 := absI_le (hs'.out x (List.mem_of_getElem? hm))
      have hb1 := uses_small (l := l.take k) fun x hx => hs'.out x (List.mem_of_mem_take hx)
      have hb2 : (l.take k).length ≤ k := List.length_take_le _ _
      obtain ⟨S, hS⟩ : ∃ S, uses (l.take k) = S := ⟨_, rfl⟩
      rw [hS] at hb1
      have hsu2 : Hid (uses (l.take (k + 1)) = S + max x (-x)) := hid (by rw [hsu.out, hS]; rfl)
      rw [hS]
      have hSb : 0 ≤ S ∧ S ≤ 6000 := by omega
      have z1 : IntKind.i64.wrap (-x) = -x := wrap_ok (by omega)
      have z2 : IntKind.i64.wrap (S + max x (-x)) = S + max x (-x) := wrap_ok (by omega)
      clear hm hS hb1 hb2
      go_wp2
      exact ⟨⟨k + 1, by omega, by go_num, by rw [hsu2.out], hbel⟩, by simp [intOf]; omega⟩
    · obtain rfl : k = n := by omega
      have hfin : Hid (l.take k = l) := hid (List.take_of_length_le (by rw [hlen.out]; omega))
      go_wp2
      go_ret
      exact ⟨by first | rfl | (simp [hfin.out]; done), hbel⟩
set_option maxRecDepth 100000 in
set_option maxHeartbeats 1000000 in
theorem weighs_any (w : World) (A A' : Option Addr) (n c c' : Nat) (ks : List Kd) (l : List Int) (p : Int) (hk : KdS w w.heap.size A n ks) (hl : InS w w.heap.size A' n l) (hn : n ≤ 20) (hs : ∀ k ∈ ks, okK k = true) (hx : ∀ x ∈ l, absI x ≤ 300) :
    Calls Try.prog 67 #[.agg #[.slice A n c, .int .i64 p], .slice A' n c'] w fun e w' => e = .returned (.int .i64 (weighs ks l)) ∧ Below w.heap.size w w' := by
  have hlen := hid hl.len
  have hlenk := hid hk.len
  have hs' := hid hs
  have hx' := hid hx
  have HL := hid hl
  have HK := hid hk
  clear hs hl hx hk
  go_enter Try.func67, Try.ntmps67
  go_wp2
  generalize hw1 : w.alloc (.cells #[.slice A n c, .int .i64 p] 76) = w1
  have hB : Blk w1 w.heap.size 76 #[.slice A n c, .int .i64 p] := by rw [← hw1]; exact Blk.new' rfl
  have HB := hid hB
  have hlt := hB.lt
  have hbel1 : Below w.heap.size w w1 := by rw [← hw1]; exact (by repeat' (first | with_reducible assumption | with_reducible exact Below.refl _ _ | refine Below.alloc ?_ ?_ _ | refine Below.setCell ?_ ?_ _ | refine Below.drew ?_ | refine below_drewN ?_ _ | (simp; done) | (simp; omega) | omega))
  have hsz1 := hbel1.size
  clear hw1 hB
  go_loopw [5, 10] (fun s i wr => ∃ k : Nat, k ≤ n ∧ i = .int .i64 k ∧ s = .int .i64 (weighs (ks.take k) (l.take k)) ∧ Below w1.heap.size w1 wr) (fun _ i _ => n - (intOf i).toNat)
  case atStart => exact ⟨0, by omega, rfl, by simp [weighs], Below.refl _ _⟩
  case round =>
    obtain ⟨k, hk, rfl, rfl, hbel⟩ := hrel
    have hsz := hbel.size
    have hbw := hbel1.trans (hbel.mono hsz1)
    by_cases hlt2 : k < n
    · obtain ⟨b, off, m, rfl, hb, hm, c0, c1⟩ := (HK.out.below hbw (Nat.le_refl _)).at_ hlt2
      obtain ⟨b', off', x, rfl, hb', hm', d0⟩ := (HL.out.below hbw (Nat.le_refl _)).at_ hlt2
      have q0 := (HB.out.below hbel hlt).cell 0
      simp only [List.getElem?_toArray, List.getElem?_cons_zero] at q0
      have hlti : (k : Int) < n := by omega
      have hsu := hid (weighs_take hm hm')
      have hm1 := absI_le (hx'.out x (List.mem_of_getElem? hm'))
      have hm2 := okK_le (hs'.out m (List.mem_of_getElem? hm))
      have hm3 := mul300 ⟨hm2.1, hm2.2.1⟩ hm1
      have hb1 := weighs_small (ks := ks.take k) (l := l.take k) (fun x hx => hs'.out x (List.mem_of_mem_take hx)) fun x hx => hx'.out x (List.mem_of_mem_take hx)
      have hb2 : (l.take k).length ≤ k := List.length_take_le _ _
      obtain ⟨S, hS⟩ : ∃ S, weighs (ks.take k) (l.take k) = S := ⟨_, rfl⟩
      rw [hS] at hb1
      have hsu2 : Hid (weighs (ks.take (k + 1)) (l.take (k + 1)) = S + m.wt * x) := hid (by rw [hsu.out, hS])
      rw [hS]
      have hSb : -1800000 ≤ S ∧ S ≤ 1800000 := by unfold absI at hb1; omega
      have z1 : IntKind.i64.wrap (m.wt * x) = m.wt * x := wrap_ok (by omega)
      have z2 : IntKind.i64.wrap (S + m.wt * x) = S + m.wt * x := wrap_ok (by omega)
      clear hm hm' hS hb1 hb2
      go_wp2
      exact ⟨⟨k + 1, by omega, by go_num, by rw [hsu2.out], hbel⟩, by simp [intOf]; omega⟩
    · obtain rfl : k = n := by omega
      have hfin : Hid (l.take k = l) := hid (List.take_of_length_le (by rw [hlen.out]; omega))
      have hfin2 : Hid (ks.take k = ks) := hid (List.take_of_length_le (by rw [hlenk.out]; omega))
      go_wp2
      go_ret
      exact ⟨by first | rfl | (simp [hfin.out, hfin2.out]; done), hbw⟩
end Go.Proofs.Ytolghmhodaphfaa
/- Walks: the reference's least number, what a lay weighs and uses. -/
namespace Go.Proofs.Ytolghmhodaphfaa
open Go.RowKit
set_option maxHeartbeats 400000 in
theorem refLeast_any (w : World) (m : Kd) (p : Int) (hok : okK m = true) (hp : p = 1 ∨ p = 2) :
    Calls Try.prog 70 #[.agg #[.int .i64 m.wt, .int .i64 m.many], .int .i64 p] w fun e w' => e = .returned (.int .i64 (leastK p m)) ∧ Below w.heap.size w w' := by
  have h4 := okK_le hok
  rcases hp with h | h
  · have he := hid (leastK_one (k := m) h)
    subst h
    go_enter Try.func70, Try.ntmps70
    go_wp2
    go_ret
    exact ⟨by rw [he.out]; rfl, (by repeat' (first | with_reducible assumption | with_reducible exact Below.refl _ _ | refine Below.alloc ?_ ?_ _ | refine Below.setCell ?_ ?_ _ | refine Below.drew ?_ | refine below_drewN ?_ _ | (simp; done) | (simp; omega) | omega))⟩
  · have he := hid (leastK_two (k := m) h)
    subst h
    go_enter Try.func70, Try.ntmps70
    go_wp2
    go_ret
    exact ⟨by rw [he.out]; rfl, (by repeat' (first | with_reducible assumption | with_reducible exact Below.refl _ _ | refine Below.alloc ?_ ?_ _ | refine Below.setCell ?_ ?_ _ | refine Below.drew ?_ | refine below_drewN ?_ _ | (simp; done) | (simp; omega) | omega))⟩
set_option maxRecDepth 100000 in
set_option maxHeartbeats 1000000 in
theorem refUsed_any (w : World) (A A' : Option Addr) (n c c' : Nat) (ks : List Kd) (l : List Int) (hk : KdS w w.heap.size A n ks) (hl : InS w w.heap.size A' n l) (hn : n ≤ 20) (hs : ∀ k ∈ ks, okK k = true) (hx : ∀ x ∈ l, absI x ≤ 300) :
    Calls Try.prog 71 #[.slice A n c, .slice A' n c'] w fun e w' => e = .returned (.tuple #[.int .i64 (weighs ks l), .int .i64 (uses l)]) ∧ Below w.heap.size w w' := by
  have hlen := hid hl.len
  have hlenk := hid hk.len
  have hs' := hid hs
  have hx' := hid hx
  have HL := hid hl
  have HK := hid hk
  clear hs hl hx hk
  go_enter Try.func71, Try.ntmps71
  go_wp2
  go_loopw [6, 7, 8] (fun s u i wr => ∃ k : Nat, k ≤ n ∧ i = .int .i64 k ∧ s = .int .i64 (weighs (ks.take k) (l.take k)) ∧ u = .int .i64 (uses (l.take k)) ∧ Below w.heap.size w wr) (fun _ _ i _ => n - (intOf i).toNat)
  case atStart => exact ⟨0, by omega, rfl, by simp [weighs], rfl, Below.refl _ _⟩
  case round =>
    obtain ⟨k, hk, rfl, rfl, rfl, hbw⟩ := hrel
    have hsz := hbw.size
    by_cases hlt2 : k < n
    · obtain ⟨b, off, m, rfl, hb, hm, c0, c1⟩ := (HK.out.below hbw (Nat.le_refl _)).at_ hlt2
      obtain ⟨b', off', x, rfl, hb', hm', d0⟩ := (HL.out.below hbw (Nat.le_refl _)).at_ hlt2
      have hlti : (k : Int) < n := by omega
      have hlb : b < wr.heap.size := by omega
      have hlb' : b' < wr.heap.size := by omega
      have hsu := hid (weighs_take hm hm')
      have hus := hid (uses_take hm')
      have hm1 := absI_le (hx'.out x (List.mem_of_getElem? hm'))
      have hm2 := okK_le (hs'.out m (List.mem_of_getElem? hm))
      have hm3 := mul300 ⟨hm2.1, hm2.2.1⟩ hm1
      have hb1 := weighs_small (ks := ks.take k) (l := l.take k) (fun x hx => hs'.out x (List.mem_of_mem_take hx)) fun x hx => hx'.out x (List.mem_of_mem_take hx)
      have hb3 := uses_small (l := l.take k) fun x hx => hx'.out x (List.mem_of_mem_take hx)
      have hb2 : (l.take k).length ≤ k := List.length_take_le _ _
      obtain ⟨S, hS⟩ : ∃ S, weighs (ks.take k) (l.take k) = S := ⟨_, rfl⟩
      obtain ⟨U, hU⟩ : ∃ U, uses (l.take k) = U := ⟨_, rfl⟩
      rw [hS] at hb1
      rw [hU] at hb3
      have hsu2 : Hid (weighs (ks.take (k + 1)) (l.take (k + 1)) = S + m.wt * x) := hid (by rw [hsu.out, hS])
      have hus2 : Hid (uses (l.take (k + 1)) = U + max x (-x)) := hid (by rw [hus.out, hU]; rfl)
      rw [hS, hU]
      have hSb : -1800000 ≤ S ∧ S ≤ 1800000 := by unfold absI at hb1; omega
      have hUb : 0 ≤ U ∧ U ≤ 6000 := by omega
      have z1 : IntKind.i64.wrap (m.wt * x) = m.wt * x := wrap_ok (by omega)
      have z2 : IntKind.i64.wrap (S + m.wt * x) = S + m.wt * x := wrap_ok (by omega)
      have z3 : IntKind.i64.wrap (-x) = -x := wrap_ok (by omega)
      have z4 : IntKind.i64.wrap (U + max x (-x)) = U + max x (-x) := wrap_ok (by omega)
      clear hm hm' hS hb1 hb2 hb3 hU
      go_wp2_with (fail)
      refine wp_region_hd_all (fun W' => Below wr.heap.size wr W') (by kernel_rfl) (by kernel_rfl) ((Below.refl _ _).drew) ?_
      iterate 13 (refine wpHd_val (v := ?_) (by rfl) (fun W hW => ?_) ?_; rotate_left; (· obtain ⟨hcW, hfW⟩ := bcell hW; go_simp; with_reducible rfl); simp only [Act.put, List.setIfInBounds_toArray, List.set_cons_zero, List.set_cons_succ])
      refine wpHd_nil ?_
      intro W2 hW2
      have hsz2 := hW2.size
      have e0 : W2.cell? ⟨b', off' + k, none⟩ = some (.int .i64 x) := by rw [(bcell hW2).1 _ _ hlb']; exact d0
      have hlb2 : b' < W2.heap.size := by omega
      clear c0 c1 d0
      go_wp2_with (fail)
      refine wp_region_hd_all (fun W' => Below W2.heap.size W2 W') (by kernel_rfl) (by kernel_rfl) ((Below.refl _ _).drew) ?_
      iterate 13 (refine wpHd_val (v := ?_) (by rfl) (fun W hW => ?_) ?_; rotate_left; (· obtain ⟨hcW, hfW⟩ := bcell hW; go_simp; with_reducible rfl); simp only [Act.put, List.setIfInBounds_toArray, List.set_cons_zero, List.set_cons_succ])
      refine wpHd_nil ?_
      intro W3 hW3
      go_wp2
      exact ⟨⟨k + 1, by omega, by go_num, by rw [hsu2.out], by rw [hus2.out], hbw.trans ((hW2.trans (hW3.mono hsz2)).mono hsz)⟩, by simp [intOf]; omega⟩
    · obtain rfl : k = n := by omega
      have hfin : Hid (l.take k = l) := hid (List.take_of_length_le (by rw [hlen.out]; omega))
      have hfin2 : Hid (ks.take k = ks) := hid (List.take_of_length_le (by rw [hlenk.out]; omega))
      go_wp2
      refine bodyPost_ret (v := .tuple #[.int .i64 (weighs ks l), .int .i64 (uses l)]) (by rw [hfin.out, hfin2.out]; simp [results, Try.results71, go_sem]) rfl ⟨rfl, hbw⟩
end Go.Proofs.Ytolghmhodaphfaa
