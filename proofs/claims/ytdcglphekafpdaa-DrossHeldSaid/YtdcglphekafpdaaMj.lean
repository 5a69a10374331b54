/- Texts of the proof, laid together by program. -/
import Derived.Test.YtdcglphekafpdaaMi
import Derived.Test.YtdcglphekafpdaaMc
namespace Go.Proofs.Ytdcglphekafpdaa
open Go.RowKit Go.Shelf

theorem to_any (lo hi : Int) (w : World) : Calls Try.prog 54 #[.int .i64 lo, .int .i64 hi] w fun e w' => e = .returned (.agg #[.int .i64 lo, .int .i64 hi]) ∧ Below w.heap.size w w' := by
  go_enter Try.func54, Try.ntmps54
  go_wp2
  refine bodyPost_ret (v := .agg #[.int .i64 lo, .int .i64 hi]) (by first | (simp [results, Try.results54, go_sem]; done) | (simp [results, Try.results54, go_sem, World.cell?_setCell_same', *]; done) | (simp [results, Try.results54, go_sem]; first | exact ⟨rfl, rfl⟩ | rfl)) rfl ⟨rfl, (by repeat' (first | with_reducible assumption | with_reducible exact Below.refl _ _ | refine Below.alloc ?_ ?_ _ | refine Below.setCell ?_ ?_ _ | refine Below.drew ?_ | refine below_drewN ?_ _ | (simp; done) | (simp; omega) | omega))⟩
theorem melt_any (a b c d : Int) (w : World) : Calls Try.prog 66 #[.int .i64 a, .int .i64 b, .int .i64 c, .int .i64 d] w fun e w' => e = .returned (.agg #[.int .i64 a, .int .i64 b, .int .i64 c, .int .i64 d]) ∧ Below w.heap.size w w' := by
  have B0 : Blk (w.alloc (.cells #[.int .i64 0, .int .i64 0, .int .i64 0, .int .i64 0] 85)) w.heap.size 85 #[.int .i64 0, .int .i64 0, .int .i64 0, .int .i64 0] := Blk.new' rfl
  go_enter Try.func66, Try.ntmps66
  go_wp2_with (first | (go_at_call 54; refine (to_any _ _ _).mono ?_; rintro e w1 ⟨rfl, hb1⟩; have B0 := (by first | exact (B0).below hb1 (by first | (simp; done) | (simp; omega) | omega) | exact ((B0).alloc _).below hb1 (by first | (simp; done) | (simp; omega) | omega)); obtain ⟨hc1, hf1⟩ := bcell hb1; have hbel : Below w.heap.size w w1 := Below.trans (by repeat' (first | with_reducible assumption | with_reducible exact Below.refl _ _ | refine Below.alloc ?_ ?_ _ | refine Below.setCell ?_ ?_ _ | refine Below.drew ?_ | refine below_drewN ?_ _ | (simp; done) | (simp; omega) | omega)) (hb1.mono (by first | (simp; done) | (simp; omega) | omega)); have hsz := hbel.size; have hz1 : w.heap.size < w1.heap.size := (by have := hb1.size; first | (simp at this; omega) | omega)))
  have B1 := (((B0.set_ 0 (.int .i64 a)).set_ 1 (.int .i64 b)).set_ 2 (.int .i64 c)).set_ 3 (.int .i64 d)
  have c0 := B1.cell 0
  have c1 := B1.cell 1
  have c2 := B1.cell 2
  have c3 := B1.cell 3
  refine bodyPost_ret (v := .agg #[.int .i64 a, .int .i64 b, .int .i64 c, .int .i64 d]) (by simp [results, Try.results66, go_sem, c0, c1, c2, c3]) rfl ⟨rfl, (by repeat' (first | with_reducible assumption | with_reducible exact Below.refl _ _ | refine Below.alloc ?_ ?_ _ | refine Below.setCell ?_ ?_ _ | refine Below.drew ?_ | refine below_drewN ?_ _ | (simp; done) | (simp; omega) | omega))⟩
theorem ranges_any (v : Value) (w : World) : Calls Try.prog 56 #[v] w fun e w' => e = .returned v ∧ w = w' := by
  go_enter Try.func56, Try.ntmps56
  go_wp2
  go_ret
  exact ⟨rfl, rfl⟩
theorem longs_any (v : Value) (w : World) : Calls Try.prog 59 #[v] w fun e w' => e = .returned v ∧ w = w' := by
  go_enter Try.func59, Try.ntmps59
  go_wp2
  go_ret
  exact ⟨rfl, rfl⟩
theorem of_any (v : Value) (w : World) : Calls Try.prog 61 #[v] w fun e w' => e = .returned v ∧ w = w' := by
  go_enter Try.func61, Try.ntmps61
  go_wp2
  go_ret
  exact ⟨rfl, rfl⟩
theorem great_any (A A' : Option Addr) (n c n' c' : Nat) (w : World) : Calls Try.prog 18 #[.slice A n c, .slice A' n' c'] w fun e w' => e = .returned (.bool (decide ((12 : Int) < n) || decide ((12 : Int) < n'))) ∧ w = w' := by
  cases h1 : decide ((12 : Int) < n) <;> cases h2 : decide ((12 : Int) < n')
  all_goals
    go_enter Try.func18, Try.ntmps18
    go_wp2
    go_ret
    exact ⟨rfl, rfl⟩

theorem take_eq_succ {α : Type} {a b : List α} {k : Nat} {x : α} (h : a.take k = b.take k) (ha : a[k]? = some x) (hb : b[k]? = some x) : a.take (k + 1) = b.take (k + 1) := by
  rw [List.take_add_one, List.take_add_one, h, ha, hb]
theorem ne_of_at {α : Type} {a b : List α} {k : Nat} {x y : α} (ha : a[k]? = some x) (hb : b[k]? = some y) (h : x ≠ y) : a ≠ b := fun e => by
  rw [e, hb] at ha; exact h (Option.some.inj ha).symm
/-- Two lists are equal. -/
def eqI (a b : List Int) : Bool := decide (a = b)
def eqRs (a b : List Rg) : Bool := decide (a.map (fun r => (r.lo, r.hi)) = b.map (fun r => (r.lo, r.hi)))
theorem eqRs_t {a b : List Rg} : eqRs a b = true ↔ a = b := by
  simp only [eqRs, decide_eq_true_eq]
  refine ⟨fun h => ?_, fun h => by rw [h]⟩
  have : Function.Injective (fun r : Rg => (r.lo, r.hi)) := fun x y e => by injection e with e1 e2; exact Rg.eq_of e1 e2
  exact (List.map_inj_right (fun x y e => this e)).1 h
theorem eqI_t {a b : List Int} : eqI a b = true ↔ a = b := by simp [eqI]
set_option maxHeartbeats 1000000 in
theorem ints_any (w : World) (A B : Option Addr) (n c m d : Nat) (a b : List Int) (ha : InS w w.heap.size A n a) (hb : InS w w.heap.size B m b) (hn : n ≤ 100) (hm : m ≤ 100) :
    Calls Try.prog 47 #[.slice A n c, .slice B m d] w fun e w' => e = .returned (.bool (eqI a b)) ∧ Below w.heap.size w w' := by
  have la := hid ha.len
  have lb := hid hb.len
  by_cases hnm : n = m
  · subst hnm
    have t0 : ((n : Int) != (n : Int)) = false := by simp
    go_enter Try.func47, Try.ntmps47
    go_wp2
    go_loopw [5] (fun i wr => ∃ k : Nat, k ≤ n ∧ i = .int .i64 k ∧ Hid (a.take k = b.take k) ∧ Below w.heap.size w wr) (fun i _ => n - (intOf i).toNat)
    case atStart => exact ⟨0, by omega, rfl, by simp [Hid], Below.refl _ _⟩
    case round =>
      obtain ⟨k, hk, rfl, heq, hbel⟩ := hrel
      by_cases hlt : k < n
      · obtain ⟨b1, o1, x, rfl, hb1, hx, c1⟩ := (ha.below hbel (Nat.le_refl _)).at_ hlt
        obtain ⟨b2, o2, y, rfl, hb2, hy, c2⟩ := (hb.below hbel (Nat.le_refl _)).at_ hlt
        have HX := hid hx
        have HY := hid hy
        have hlti : (k : Int) < n := by omega
        have hk0 : (0 : Int) ≤ k := by omega
        clear hx hy
        by_cases hxy : x = y
        · subst hxy
          have t1 : (x != x) = false := by simp
          go_wp2
          go_quiet (fail)
          go_wp2
          exact ⟨⟨k + 1, by omega, by go_num, take_eq_succ heq.out HX.out HY.out, below_drewN hbel _⟩, by simp [intOf]; omega⟩
        · have t1 : (x != y) = true := by simp [hxy]
          have hfin : Hid (eqI a b = false) := hid (decide_eq_false (ne_of_at HX.out HY.out hxy))
          clear hxy
          go_wp2
          go_quiet (fail)
          go_wp2
          go_ret
          exact ⟨by rw [hfin.out]; rfl, below_drewN hbel _⟩
      · obtain rfl : k = n := by omega
        have hfin : Hid (eqI a b = true) := hid (eqI_t.2 (by have := heq.out; rwa [List.take_of_length_le (by rw [la.out]; omega), List.take_of_length_le (by rw [lb.out]; omega)] at this))
        go_wp2
        go_ret
        exact ⟨by rw [hfin.out]; rfl, hbel⟩
  · have t0 : ((n : Int) != (m : Int)) = true := by simp; omega
    have hfin : Hid (eqI a b = false) := hid (decide_eq_false (fun e => hnm (by rw [← la.out, ← lb.out, e])))
    clear hnm
    go_enter Try.func47, Try.ntmps47
    go_wp2
    go_ret
    exact ⟨by rw [hfin.out]; rfl, Below.refl _ _⟩
end Go.Proofs.Ytdcglphekafpdaa
namespace Go.Proofs.Ytdcglphekafpdaa
open Go.RowKit Go.Shelf
theorem eql24 (W : World) (a b a' b' : Int) : (binOp .eql 24 (.agg #[.int .i64 a, .int .i64 b]) (.agg #[.int .i64 a', .int .i64 b'])).run Try.prog W = .ok (.bool (a == a' && b == b')) W := by
  simp only [binOp]
  simp [Op.equal, Op.maxDepth, eq24 W 9998 a b a' b']
theorem neq24 (W : World) (a b a' b' : Int) : (binOp .neq 24 (.agg #[.int .i64 a, .int .i64 b]) (.agg #[.int .i64 a', .int .i64 b'])).run Try.prog W = .ok (.bool (!(a == a' && b == b'))) W := by
  simp only [binOp]
  simp [Op.equal, Op.maxDepth, eq24 W 9998 a b a' b']
set_option maxHeartbeats 1000000 in
theorem rangesEq_any (w : World) (A B : Option Addr) (n c m d : Nat) (a b : List Rg) (ha : RgS w w.heap.size A n a) (hb : RgS w w.heap.size B m b) (hn : n ≤ 100) (hm : m ≤ 100) :
    Calls Try.prog 34 #[.slice A n c, .slice B m d] w fun e w' => e = .returned (.bool (eqRs a b)) ∧ Below w.heap.size w w' := by
  have la := hid ha.len
  have lb := hid hb.len
  by_cases hnm : n = m
  · subst hnm
    have t0 : ((n : Int) != (n : Int)) = false := by simp
    go_enter Try.func34, Try.ntmps34
    go_wp2
    go_loopw [5] (fun i wr => ∃ k : Nat, k ≤ n ∧ i = .int .i64 k ∧ Hid (a.take k = b.take k) ∧ Below w.heap.size w wr) (fun i _ => n - (intOf i).toNat)
    case atStart => exact ⟨0, by omega, rfl, by simp [Hid], Below.refl _ _⟩
    case round =>
      obtain ⟨k, hk, rfl, heq, hbel⟩ := hrel
      by_cases hlt : k < n
      · obtain ⟨b1, o1, x, rfl, hb1, hx, c1, c2⟩ := (ha.below hbel (Nat.le_refl _)).at_ hlt
        obtain ⟨b2, o2, y, rfl, hb2, hy, d1, d2⟩ := (hb.below hbel (Nat.le_refl _)).at_ hlt
        have HX := hid hx
        have HY := hid hy
        have hlti : (k : Int) < n := by omega
        have hk0 : (0 : Int) ≤ k := by omega
        have hneq := fun W => neq24 W x.lo x.hi y.lo y.hi
        clear hx hy
        by_cases hxy : x = y
        · subst hxy
          have t1 : (x.lo == x.lo) = true := by simp
          have t2 : (x.hi == x.hi) = true := by simp
          go_wp2
          go_quiet (fail)
          go_wp2
          exact ⟨⟨k + 1, by omega, by go_num, take_eq_succ heq.out HX.out HY.out, below_drewN hbel _⟩, by simp [intOf]; omega⟩
        · have t1 : (x.lo == y.lo && x.hi == y.hi) = false := by
            cases h : (x.lo == y.lo && x.hi == y.hi)
            · rfl
            · simp at h; exact absurd (Rg.eq_of h.1 h.2) hxy
          have hfin : Hid (eqRs a b = false) := hid (by cases h : eqRs a b; exact rfl; exact absurd (eqRs_t.1 h) (ne_of_at HX.out HY.out hxy))
          clear hxy
          go_wp2
          go_quiet (fail)
          go_wp2
          go_ret
          exact ⟨by rw [hfin.out]; rfl, below_drewN hbel _⟩
      · obtain rfl : k = n := by omega
        have hfin : Hid (eqRs a b = true) := hid (eqRs_t.2 (by have := heq.out; rwa [List.take_of_length_le (by rw [la.out]; omega), List.take_of_length_le (by rw [lb.out]; omega)] at this))
        go_wp2
        go_ret
        exact ⟨by rw [hfin.out]; rfl, hbel⟩
  · have t0 : ((n : Int) != (m : Int)) = true := by simp; omega
    have hfin : Hid (eqRs a b = false) := hid (by cases h : eqRs a b; exact rfl; exact absurd (eqRs_t.1 h) (fun e => hnm (by rw [← la.out, ← lb.out, e])))
    clear hnm
    go_enter Try.func34, Try.ntmps34
    go_wp2
    go_ret
    exact ⟨by rw [hfin.out]; rfl, Below.refl _ _⟩
end Go.Proofs.Ytdcglphekafpdaa
/- Regions that draw their order, with several things that write: what is free first, then the one that is ready, from there on anew. -/
namespace Go.Proofs.Ytdcglphekafpdaa
open Go.RowKit
section
variable {P : Program} {md : Region.Mode} {ops : Array Oper}
theorem wpM_rebase {X Y : World} {Q : Act → World → Prop} (hXY : Ext X Y) : ∀ (f : Nat) (listed : Array Bool) (a : Act) (w : World), Ext Y w → wpM P md ops Y Q f listed a w → wpM P md ops X Q f listed a w
  | 0, listed, a, w, hYw, h => ⟨h.1, fun W h1 _ => h.2 W h1 (hYw.trans' h1)⟩
  | f + 1, listed, a, w, hYw, h => fun W h1 h2 => by
    have hW := h W h1 (hYw.trans' h1)
    refine ⟨hW.1, fun i hi => lOp_mono (fun a' W' hh => ⟨hXY.trans' hh.1, wpM_rebase hXY f _ a' W' hh.1 hh.2⟩) (hW.2 i hi)⟩
/-- From this world on. -/
theorem wpM_here {X w : World} {Q : Act → World → Prop} {f : Nat} {listed : Array Bool} {a : Act} (hX : Ext X w) (h : ∀ Y, Y = w → wpM P md ops Y Q f listed a Y) : wpM P md ops X Q f listed a w :=
  wpM_rebase hX f listed a w (RowKit.Below.refl _ _) (h w rfl)
end
end Go.Proofs.Ytdcglphekafpdaa
namespace Go.Proofs.Ytdcglphekafpdaa
open Go.RowKit Go.Shelf
def twoL : List Mt := [⟨⟨900, 950⟩, ⟨1, 3⟩⟩, ⟨⟨1000, 1000⟩, ⟨0, 5⟩⟩]
def goodL : List Rg := [⟨100, 105⟩, ⟨90, 92⟩, ⟨88, 95⟩]
def badL : List Rg := [⟨100, 100⟩, ⟨95, 99⟩, ⟨80, 85⟩]
theorem kL1 : leftS twoL ⟨100, 110⟩ = ⟨82, 103⟩ ∧ leftE twoL ⟨100, 110⟩ = 0 := ⟨by kernel_rfl, by kernel_rfl⟩
theorem kL2 : leftE twoL ⟨5, 4⟩ = 3 := by kernel_rfl
theorem kN1 : needS twoL 90 true = 109 ∧ needE twoL 90 true = 0 := ⟨by kernel_rfl, by kernel_rfl⟩
theorem kN2 : needS twoL 90 false = 96 ∧ needE twoL 90 false = 0 := ⟨by kernel_rfl, by kernel_rfl⟩
theorem kN3 : needE twoL 1000000 false = 4 := by kernel_rfl
theorem kT1 : truthE twoL goodL [100, 90, 88] = 0 := by kernel_rfl
theorem kT2 : truthE twoL goodL [100, 95, 92] = 16 := by kernel_rfl
theorem kT3 : truthE twoL goodL [100, 90] = 15 := by kernel_rfl
theorem kE1 : truthErr twoL goodL = 0 := by kernel_rfl
theorem kE2 : truthErr twoL badL = 14 := by kernel_rfl
theorem kB1 : btwL twoL goodL = [⟨100, 105⟩, ⟨90, 92⟩, ⟨88, 92⟩] := by kernel_rfl
theorem kC1 : clashV twoL badL 0 1 = 2 ∧ clashE twoL badL 0 1 = 0 := ⟨by kernel_rfl, by kernel_rfl⟩
theorem kC2 : clashV twoL badL 1 2 = 1 ∧ clashE twoL badL 1 2 = 0 := ⟨by kernel_rfl, by kernel_rfl⟩
theorem kC3 : clashE twoL badL 0 2 = 5 := by kernel_rfl
theorem kC4 : clashE twoL badL 1 1 = 2 := by kernel_rfl
theorem kR1 : clashR twoL badL = .tuple #[.int .i64 0, .int .i64 1, .int .i64 0] := by kernel_rfl
theorem kR2 : clashR twoL goodL = .tuple #[.int .i64 0, .int .i64 0, .int .i64 5] := by kernel_rfl
theorem kS1 : checkScales twoL goodL = 0 := by kernel_rfl
theorem kS2 : checkScales twoL badL = 0 := by kernel_rfl
theorem kW1 : wrongL twoL badL = [1] := by kernel_rfl
theorem kW2 : wrongL twoL goodL = [] := by kernel_rfl
theorem kW3 : wrongE twoL badL [1] = 0 := by kernel_rfl
theorem kW4 : wrongE twoL badL [0] = 14 := by kernel_rfl
theorem kM1 : meltsL twoL badL = [0, 1] := by kernel_rfl
theorem kM2 : meltsE twoL badL [0] = 14 := by kernel_rfl
theorem kM3 : meltsE twoL badL [2] = 3 := by kernel_rfl
theorem mts_blk {w : World} {g : Nat} {l : List Mt} {B : Nat} (h : Blk w g 85 (l.flatMap cM).toArray) (hB : g < B) : MtS w B (some ⟨g, 0, none⟩) l.length l :=
  ⟨flat_len (s := 4) (fun _ => rfl) l, fun _ => ⟨g, 0, rfl, hB, fun j u hj => by rw [Nat.zero_add, h.cell]; simpa using hj⟩⟩
theorem rgs_blk {w : World} {g : Nat} {l : List Rg} {B : Nat} (h : Blk w g 24 (l.flatMap cR).toArray) (hB : g < B) : RgS w B (some ⟨g, 0, none⟩) l.length l :=
  ⟨flat_len (s := 2) (fun _ => rfl) l, fun _ => ⟨g, 0, rfl, hB, fun j u hj => by rw [Nat.zero_add, h.cell]; simpa using hj⟩⟩
theorem ins_blk {w : World} {g t : Nat} {l : List Int} {B : Nat} (h : Blk w g t (l.flatMap cI).toArray) (hB : g < B) : InS w B (some ⟨g, 0, none⟩) l.length l :=
  ⟨flat_len (s := 1) (fun _ => rfl) l, fun _ => ⟨g, 0, rfl, hB, fun j u hj => by rw [Nat.zero_add, h.cell]; simpa using hj⟩⟩
theorem two_any (w : World) : Calls Try.prog 67 #[] w fun e w' => ∃ g, e = .returned (.slice (some ⟨g, 0, none⟩) 2 2) ∧ MtS w' w'.heap.size (some ⟨g, 0, none⟩) 2 twoL ∧ Below w.heap.size w w' := by
  go_enter Try.func67, Try.ntmps67
  go_wp2_with (first | (go_at_call 66; refine (melt_any _ _ _ _ _).mono ?_; rintro e w1 ⟨rfl, hb1⟩; have hbel : Below w.heap.size w w1 := Below.trans (by repeat' (first | with_reducible assumption | with_reducible exact Below.refl _ _ | refine Below.alloc ?_ ?_ _ | refine Below.setCell ?_ ?_ _ | refine Below.drew ?_ | refine below_drewN ?_ _ | (simp; done) | (simp; omega) | omega)) (hb1.mono (by first | (simp; done) | (simp; omega) | omega)); have hsz := hbel.size))
  go_ret
  exact ⟨_, rfl, mts_blk (Blk.new _ _ _) (by simp), hbel.alloc hsz _⟩
theorem good_any (w : World) : Calls Try.prog 68 #[] w fun e w' => ∃ g, e = .returned (.slice (some ⟨g, 0, none⟩) 3 3) ∧ RgS w' w'.heap.size (some ⟨g, 0, none⟩) 3 goodL ∧ Below w.heap.size w w' := by
  go_enter Try.func68, Try.ntmps68
  go_wp2_with (first | (go_at_call 54; refine (to_any _ _ _).mono ?_; rintro e w1 ⟨rfl, hb1⟩; have hbel : Below w.heap.size w w1 := Below.trans (by repeat' (first | with_reducible assumption | with_reducible exact Below.refl _ _ | refine Below.alloc ?_ ?_ _ | refine Below.setCell ?_ ?_ _ | refine Below.drew ?_ | refine below_drewN ?_ _ | (simp; done) | (simp; omega) | omega)) (hb1.mono (by first | (simp; done) | (simp; omega) | omega)); have hsz := hbel.size) | (go_at_call 56; refine (ranges_any _ _).mono ?_; rintro e w2 ⟨rfl, rfl⟩))
  go_ret
  exact ⟨_, rfl, rgs_blk (Blk.new _ _ _) (by simp), hbel.alloc hsz _⟩
theorem bad_any (w : World) : Calls Try.prog 69 #[] w fun e w' => ∃ g, e = .returned (.slice (some ⟨g, 0, none⟩) 3 3) ∧ RgS w' w'.heap.size (some ⟨g, 0, none⟩) 3 badL ∧ Below w.heap.size w w' := by
  go_enter Try.func69, Try.ntmps69
  go_wp2_with (first | (go_at_call 54; refine (to_any _ _ _).mono ?_; rintro e w1 ⟨rfl, hb1⟩; have hbel : Below w.heap.size w w1 := Below.trans (by repeat' (first | with_reducible assumption | with_reducible exact Below.refl _ _ | refine Below.alloc ?_ ?_ _ | refine Below.setCell ?_ ?_ _ | refine Below.drew ?_ | refine below_drewN ?_ _ | (simp; done) | (simp; omega) | omega)) (hb1.mono (by first | (simp; done) | (simp; omega) | omega)); have hsz := hbel.size) | (go_at_call 56; refine (ranges_any _ _).mono ?_; rintro e w2 ⟨rfl, rfl⟩))
  go_ret
  exact ⟨_, rfl, rgs_blk (Blk.new _ _ _) (by simp), hbel.alloc hsz _⟩
end Go.Proofs.Ytdcglphekafpdaa
namespace Go.Proofs.Ytdcglphekafpdaa
/-- What is a truth is within all ranges. -/
theorem truthE_of {row : List Mt} {sc : List Rg} {ts : List Int} (h0 : checkScales row sc = 0) (hl : ts.length = row.length + 1) (ht : isT row.length (mAt row) (sAt sc) (wAt ts) = true) : truthE row sc ts = 0 := by
  obtain ⟨k1, k2, k3⟩ := checkScales_ok h0
  have hT := isT_iff.1 ht
  have hs := okS_sAt k3
  unfold truthE
  rw [if_neg (by simp [h0]), if_neg (by omega), if_pos, ht]; rfl
  refine List.all_eq_true.2 fun x hx => ?_
  obtain ⟨i, hi, e⟩ := List.mem_iff_getElem.1 hx
  have hw : wAt ts i = x := by rw [wAt_of (x := x)]; rw [List.getElem?_eq_getElem hi, e]
  have := hT.1 i (by omega)
  rw [hw] at this
  have := hs i
  exact inR_t.2 ⟨by show (0 : Int) ≤ x; omega, by show x ≤ (1000000 : Int); omega⟩
theorem kQ1 : eqRs [⟨100, 105⟩, ⟨90, 92⟩, ⟨88, 92⟩] [⟨100, 105⟩, ⟨90, 92⟩, ⟨88, 92⟩] = true := by kernel_rfl
theorem kQ2 : eqI [1] [1] = true := by kernel_rfl
theorem kQ3 : eqI [0, 1] [0, 1] = true := by kernel_rfl
end Go.Proofs.Ytdcglphekafpdaa
