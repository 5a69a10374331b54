/- Texts of the proof, laid together by program. -/
import Derived.WalkKit
import Derived.WalkSpells
import Derived.WalkLawsBesides
import Derived.Deep.Draws
import Derived.Deep.AppendLies
import Derived.Laws.Rows
import Derived.Test.YtdcglphekafpdaaRows
import Derived.StillTail
import Derived.Deep.QuietTactic
import Derived.BigQuiet
/- Words for memory: what a slice value reads as; plain theorems on worlds. No program in sight. -/
namespace Go.Proofs.Ytdcglphekafpdaa
open Go.RowKit

theorem hid {p : Prop} (h : p) : Hid p := h
/-- A range: its ends. -/
structure Rg where
  lo : Int
  hi : Int
/-- A melt: what is kept, what is lost besides. -/
structure Mt where
  keep : Rg
  fixed : Rg
theorem Rg.eq_of {a b : Rg} (h : a.lo = b.lo) (h' : a.hi = b.hi) : a = b := by cases a; cases b; simp_all

/-- What holds of worlds: below block B all is as it was. A world that is behind another one keeps its cells. -/
theorem bcell {W w1 : World} {B : Nat} (hb : Below B W w1) : (∀ b o, b < B → w1.cell? ⟨b, o, none⟩ = W.cell? ⟨b, o, none⟩) ∧ (∀ b o, b < B → w1.frozen? ⟨b, o, none⟩ = W.frozen? ⟨b, o, none⟩) :=
  ⟨fun b o h => hb.cell (p := ⟨b, o, none⟩) h, fun b o h => hb.frozen (p := ⟨b, o, none⟩) h⟩
theorem below_drewN {B : Nat} {a w : World} (h : Below B a w) (n : Nat) : Below B a (w.drewN n) := ⟨h.os, h.tape, h.output, h.size, h.block⟩

/-- The slice value '.slice A n c' holds the cells xs (n elements of so many cells) and lies below block B. -/
def Sl (w : World) (B size : Nat) (A : Option Addr) (n : Nat) (xs : List Value) : Prop :=
  xs.length = n * size ∧ (0 < n → ∃ b off, A = some ⟨b, off, none⟩ ∧ b < B ∧ ∀ j u, xs[j]? = some u → w.cell? ⟨b, off + j, none⟩ = some u)

section
variable {w w' : World} {B B' size n : Nat} {A : Option Addr} {xs : List Value}
theorem Sl.none_ : Sl w B size A 0 [] := ⟨by simp, fun h => absurd h (by omega)⟩
theorem Sl.keep (h : Sl w B size A n xs) (hk : ∀ p : Addr, p.block < B → w'.cell? p = w.cell? p) : Sl w' B size A n xs :=
  ⟨h.1, fun hn => by
    obtain ⟨b, off, e, hb, hc⟩ := h.2 hn
    exact ⟨b, off, e, hb, fun j u hu => (hk ⟨b, off + j, none⟩ hb).trans (hc j u hu)⟩⟩
theorem Sl.more (h : Sl w B size A n xs) (hB : B ≤ B') : Sl w B' size A n xs :=
  ⟨h.1, fun hn => by
    obtain ⟨b, off, e, hb, hc⟩ := h.2 hn
    exact ⟨b, off, e, by omega, hc⟩⟩
theorem Sl.below (h : Sl w B size A n xs) (hb : Below B w w') : Sl w' B size A n xs := h.keep fun _ hp => hb.cell hp
theorem Sl.below' (h : Sl w B size A n xs) (hb : Below B w w') (hB : B ≤ B') : Sl w' B' size A n xs := (h.below hb).more hB
theorem Sl.drew (h : Sl w B size A n xs) : Sl w.drew B size A n xs := h
theorem Sl.drewN (h : Sl w B size A n xs) (k : Nat) : Sl (w.drewN k) B size A n xs := h
theorem Sl.alloc (h : Sl w B size A n xs) (hB : B ≤ w.heap.size) (o : Obj) : Sl (w.alloc o) B size A n xs := h.keep fun p hp => World.cell?_alloc_lt w o p (by omega)
theorem Sl.setCell (h : Sl w B size A n xs) {p : Addr} (hB : B ≤ p.block) (u : Value) : Sl (w.setCell p u) B size A n xs :=
  h.keep fun q hq => World.cell?_setCell_other w p q u (fun e => by subst e; omega)
/-- A cut 's[k:m]' of it. -/
theorem Sl.cut (h : Sl w B size A n xs) {k m cap : Nat} (hk : k ≤ m) (hm : m ≤ n) (hc : n ≤ cap) :
    Sl w B size (if cap = k then A else A.map (·.add (k * size))) (m - k) ((xs.drop (k * size)).take ((m - k) * size)) := by
  refine ⟨?_, fun hn => ?_⟩
  · rw [List.length_take, List.length_drop, h.1, ← Nat.sub_mul, Nat.min_eq_left]
    exact Nat.mul_le_mul_right _ (by omega)
  · obtain ⟨b, off, rfl, hb, hcell⟩ := h.2 (by omega)
    rw [if_neg (by omega)]
    refine ⟨b, off + k * size, ?_, hb, fun j u hu => ?_⟩
    · simp only [Option.map_some, Addr.add]
      split <;> simp_all
    · rw [Nat.add_assoc]
      refine hcell _ u ?_
      rw [List.getElem?_take] at hu
      split at hu
      · rwa [List.getElem?_drop] at hu
      · cases hu
theorem Sl.of_own {base : Nat} {e : TypeId} {c : Nat} (h : w.ownsRow base e size (.slice A n c) n xs) : Sl w w.heap.size size A n xs := by
  refine ⟨h.1, fun hn => ?_⟩
  obtain ⟨g, cap, hv, _, hlt⟩ := h.form hn
  have hA : A = some ⟨g, 0, none⟩ := by injection hv
  subst hA
  refine ⟨g, 0, rfl, hlt, fun j u hu => ?_⟩
  have := h.cells (g := g) rfl j u hu
  rwa [Addr.add_lit] at this
end

/-- Block g is just the cells cs of element type t, none frozen. -/
def Blk (w : World) (g : Nat) (t : TypeId) (cs : Array Value) : Prop := w.heap[g]? = some (.cells cs t (0, 0))

section
variable {w w' : World} {g : Nat} {t : TypeId} {cs : Array Value}
theorem Blk.lt (h : Blk w g t cs) : g < w.heap.size := by
  rcases Nat.lt_or_ge g w.heap.size with hlt | hge
  · exact hlt
  · unfold Blk at h; rw [Array.getElem?_eq_none hge] at h; cases h
theorem Blk.cell (h : Blk w g t cs) (i : Nat) : w.cell? ⟨g, i, none⟩ = cs[i]? := cell_of_row w g i cs t (0, 0) h
theorem Blk.frozen (h : Blk w g t cs) (i : Nat) : w.frozen? ⟨g, i, none⟩ = false := by
  unfold Blk at h
  simp [World.frozen?, h]
theorem Blk.new (w : World) (t : TypeId) (cs : Array Value) : Blk (w.alloc (.cells cs t)) w.heap.size t cs := heap_alloc_new w _
theorem Blk.new' {w : World} {t : TypeId} {cs : Array Value} {g : Nat} (h : w.heap.size = g) : Blk (w.alloc (.cells cs t)) g t cs := by subst h; exact Blk.new w t cs
theorem Blk.drew (h : Blk w g t cs) : Blk w.drew g t cs := h
theorem Blk.drewN (h : Blk w g t cs) (n : Nat) : Blk (w.drewN n) g t cs := h
theorem Blk.alloc (h : Blk w g t cs) (o : Obj) : Blk (w.alloc o) g t cs := (Below.heap_alloc w o g h.lt).trans h
theorem Blk.set_ (h : Blk w g t cs) (i : Nat) (u : Value) : Blk (w.setCell ⟨g, i, none⟩ u) g t (cs.setIfInBounds i u) := by
  unfold Blk at h ⊢
  simp [World.setCell, Array.getElem?_modify, h]
theorem Blk.set2 {x y a b : Value} (h : Blk w g t #[x, y]) : Blk ((w.setCell ⟨g, 0, none⟩ a).setCell ⟨g, 1, none⟩ b) g t #[a, b] := (h.set_ 0 a).set_ 1 b
theorem Blk.far (h : Blk w g t cs) {p : Addr} (hp : g ≠ p.block) (u : Value) : Blk (w.setCell p u) g t cs := (Below.heap_setCell w p u g hp).trans h
theorem Blk.below {B : Nat} (h : Blk w g t cs) (hb : Below B w w') (hg : g < B) : Blk w' g t cs := (hb.block g hg).trans h
theorem Blk.grown {row : Option Nat} (h : Blk w g t cs) (hb : w.grownBy w' row) (hg : some g ≠ row) : Blk w' g t cs := (hb.block g h.lt hg).trans h
end

/-- The cells of a melt, of a range, of a number. -/
def cM (m : Mt) : List Value := [.int .i64 m.keep.lo, .int .i64 m.keep.hi, .int .i64 m.fixed.lo, .int .i64 m.fixed.hi]
def cR (r : Rg) : List Value := [.int .i64 r.lo, .int .i64 r.hi]
def cI (x : Int) : List Value := [.int .i64 x]

theorem flat_at {α : Type} {f : α → List Value} {s : Nat} (hf : ∀ x, (f x).length = s) : ∀ (l : List α) (k j : Nat) (x : α), l[k]? = some x → j < s → (l.flatMap f)[k * s + j]? = (f x)[j]?
  | [], k, j, x, h, _ => by simp at h
  | y :: l, 0, j, x, h, hj => by
    obtain rfl : y = x := by simpa using h
    rw [List.flatMap_cons, List.getElem?_append_left (by rw [hf]; omega)]
    simp
  | y :: l, k + 1, j, x, h, hj => by
    rw [List.flatMap_cons, List.getElem?_append_right (by rw [hf, Nat.succ_mul]; omega), hf]
    have := flat_at hf l k j x (by simpa using h) hj
    rw [← this]
    congr 1
    rw [Nat.succ_mul]; omega
theorem flat_len {α : Type} {f : α → List Value} {s : Nat} (hf : ∀ x, (f x).length = s) (l : List α) : (l.flatMap f).length = l.length * s := by
  induction l with
  | nil => simp
  | cons x l ih => rw [List.flatMap_cons, List.length_append, hf, ih, List.length_cons, Nat.succ_mul]; omega

def MtS (w : World) (B : Nat) (A : Option Addr) (n : Nat) (l : List Mt) : Prop := Sl w B 4 A n (l.flatMap cM)
def RgS (w : World) (B : Nat) (A : Option Addr) (n : Nat) (l : List Rg) : Prop := Sl w B 2 A n (l.flatMap cR)
def InS (w : World) (B : Nat) (A : Option Addr) (n : Nat) (l : List Int) : Prop := Sl w B 1 A n (l.flatMap cI)

section
variable {w w' : World} {B B' n : Nat} {A : Option Addr}
theorem MtS.len {l : List Mt} (h : MtS w B A n l) : l.length = n := by
  have := h.1; rw [flat_len (s := 4) (fun _ => rfl)] at this; omega
theorem RgS.len {l : List Rg} (h : RgS w B A n l) : l.length = n := by
  have := h.1; rw [flat_len (s := 2) (fun _ => rfl)] at this; omega
theorem InS.len {l : List Int} (h : InS w B A n l) : l.length = n := by
  have := h.1; rw [flat_len (s := 1) (fun _ => rfl)] at this; omega
theorem MtS.at_ {l : List Mt} (h : MtS w B A n l) {k : Nat} (hk : k < n) : ∃ b off m, A = some ⟨b, off, none⟩ ∧ b < B ∧ l[k]? = some m ∧
    w.cell? ⟨b, off + k * 4, none⟩ = some (.int .i64 m.keep.lo) ∧ w.cell? ⟨b, off + k * 4 + 1, none⟩ = some (.int .i64 m.keep.hi) ∧
    w.cell? ⟨b, off + k * 4 + 2, none⟩ = some (.int .i64 m.fixed.lo) ∧ w.cell? ⟨b, off + k * 4 + 3, none⟩ = some (.int .i64 m.fixed.hi) := by
  obtain ⟨b, off, hA, hb, hc⟩ := h.2 (by omega)
  have hl : k < l.length := by rw [h.len]; exact hk
  have hm : l[k]? = some l[k] := List.getElem?_eq_getElem hl
  refine ⟨b, off, l[k], hA, hb, hm, ?_, ?_, ?_, ?_⟩
  · exact hc (k * 4 + 0) _ (by rw [flat_at (s := 4) (fun _ => rfl) l k 0 _ hm (by omega)]; rfl)
  · exact hc (k * 4 + 1) _ (by rw [flat_at (s := 4) (fun _ => rfl) l k 1 _ hm (by omega)]; rfl)
  · exact hc (k * 4 + 2) _ (by rw [flat_at (s := 4) (fun _ => rfl) l k 2 _ hm (by omega)]; rfl)
  · exact hc (k * 4 + 3) _ (by rw [flat_at (s := 4) (fun _ => rfl) l k 3 _ hm (by omega)]; rfl)
theorem RgS.at_ {l : List Rg} (h : RgS w B A n l) {k : Nat} (hk : k < n) : ∃ b off m, A = some ⟨b, off, none⟩ ∧ b < B ∧ l[k]? = some m ∧
    w.cell? ⟨b, off + k * 2, none⟩ = some (.int .i64 m.lo) ∧ w.cell? ⟨b, off + k * 2 + 1, none⟩ = some (.int .i64 m.hi) := by
  obtain ⟨b, off, hA, hb, hc⟩ := h.2 (by omega)
  have hl : k < l.length := by rw [h.len]; exact hk
  have hm : l[k]? = some l[k] := List.getElem?_eq_getElem hl
  refine ⟨b, off, l[k], hA, hb, hm, ?_, ?_⟩
  · exact hc (k * 2 + 0) _ (by rw [flat_at (s := 2) (fun _ => rfl) l k 0 _ hm (by omega)]; rfl)
  · exact hc (k * 2 + 1) _ (by rw [flat_at (s := 2) (fun _ => rfl) l k 1 _ hm (by omega)]; rfl)
theorem InS.at_ {l : List Int} (h : InS w B A n l) {k : Nat} (hk : k < n) : ∃ b off x, A = some ⟨b, off, none⟩ ∧ b < B ∧ l[k]? = some x ∧
    w.cell? ⟨b, off + k, none⟩ = some (.int .i64 x) := by
  obtain ⟨b, off, hA, hb, hc⟩ := h.2 (by omega)
  have hl : k < l.length := by rw [h.len]; exact hk
  have hm : l[k]? = some l[k] := List.getElem?_eq_getElem hl
  refine ⟨b, off, l[k], hA, hb, hm, ?_⟩
  have := hc (k * 1 + 0) _ (by rw [flat_at (s := 1) (f := cI) (fun _ => rfl) l k 0 _ hm (by omega)]; rfl)
  simpa using this
theorem MtS.below {l : List Mt} (h : MtS w B A n l) (hb : Below B w w') (hB : B ≤ B') : MtS w' B' A n l := Sl.below' h hb hB
theorem RgS.below {l : List Rg} (h : RgS w B A n l) (hb : Below B w w') (hB : B ≤ B') : RgS w' B' A n l := Sl.below' h hb hB
theorem InS.below {l : List Int} (h : InS w B A n l) (hb : Below B w w') (hB : B ≤ B') : InS w' B' A n l := Sl.below' h hb hB
end

end Go.Proofs.Ytdcglphekafpdaa
namespace Go.Proofs.Ytdcglphekafpdaa
open Go.RowKit

/-- A range is valid, and from 0 to a number. -/
def okR (r : Rg) (most : Int) : Bool := decide (0 ≤ r.lo ∧ r.lo ≤ r.hi ∧ r.hi ≤ most)
theorem okR_t {r : Rg} {m : Int} : okR r m = true ↔ (0 ≤ r.lo ∧ r.lo ≤ r.hi ∧ r.hi ≤ m) := by simp [okR]
theorem okR_f {r : Rg} {m : Int} : okR r m = false ↔ ¬ (0 ≤ r.lo ∧ r.lo ≤ r.hi ∧ r.hi ≤ m) := by simp [okR]

set_option maxHeartbeats 400000 in
theorem isWithin_any (r : Rg) (most : Int) (w : World) :
    Calls Try.prog 72 #[.agg #[.int .i64 r.lo, .int .i64 r.hi], .int .i64 most] w fun e w' => e = .returned (.bool (okR r most)) ∧ Below w.heap.size w w' := by
  by_cases h1 : 0 ≤ r.lo <;> by_cases h2 : r.lo ≤ r.hi <;> by_cases h3 : r.hi ≤ most
  all_goals
    have e : Hid (okR r most = decide (0 ≤ r.lo ∧ r.lo ≤ r.hi ∧ r.hi ≤ most)) := rfl
    go_enter Try.func72, Try.ntmps72
    go_wp2
    go_ret
    exact ⟨by rw [e.out]; simp [*], (Below.refl _ _).alloc (Nat.le_refl _) _⟩


def okM (m : Mt) : Bool := okR m.keep 1000 && okR m.fixed 1000
def checkRow (row : List Mt) : Int := if row.length < 1 ∨ 7 < row.length then 6 else if row.all okM then 0 else 3
theorem checkRow_six {row : List Mt} (h : row.length < 1 ∨ 7 < row.length) : checkRow row = 6 := if_pos h
theorem checkRow_three {row : List Mt} {k : Nat} {m : Mt} (h1 : 1 ≤ row.length) (h2 : row.length ≤ 7) (hm : row[k]? = some m) (hb : okM m = false) : checkRow row = 3 := by
  unfold checkRow
  rw [if_neg (by omega), if_neg]
  intro h
  have := List.all_eq_true.1 h m (List.mem_of_getElem? hm)
  rw [hb] at this; cases this
theorem checkRow_zero {row : List Mt} (h1 : 1 ≤ row.length) (h2 : row.length ≤ 7) (h : row.all okM = true) : checkRow row = 0 := by
  unfold checkRow
  rw [if_neg (by omega), if_pos h]
theorem all_take_succ {α : Type} {p : α → Bool} {l : List α} {k : Nat} {x : α} (h : (l.take k).all p = true) (hx : l[k]? = some x) (hp : p x = true) : (l.take (k + 1)).all p = true := by
  rw [List.take_add_one, hx, List.all_append, h]
  simp [hp]

set_option maxHeartbeats 400000 in
theorem checkRow_any (w : World) (A : Option Addr) (n c : Nat) (row : List Mt) (hr : MtS w w.heap.size A n row) (hn : n ≤ 12) :
    Calls Try.prog 25 #[.slice A n c] w fun e w' => e = .returned (.int .i64 (checkRow row)) ∧ Below w.heap.size w w' := by
  have hlen : Hid (row.length = n) := hr.len
  by_cases h1 : n < 1
  · go_enter Try.func25, Try.ntmps25
    go_wp2
    go_ret
    exact ⟨by rw [checkRow_six (by rw [hlen.out]; omega)]; rfl, Below.refl _ _⟩
  by_cases h2 : 7 < n
  · go_enter Try.func25, Try.ntmps25
    go_wp2
    go_ret
    exact ⟨by rw [checkRow_six (by rw [hlen.out]; omega)]; rfl, Below.refl _ _⟩
  go_enter Try.func25, Try.ntmps25
  go_wp2
  go_loopw [3] (fun i wr => ∃ k : Nat, k ≤ n ∧ i = .int .i64 k ∧ Hid ((row.take k).all okM = true) ∧ Below w.heap.size w wr) (fun i _ => n - (intOf i).toNat)
  case atStart => exact ⟨0, by omega, rfl, rfl, Below.refl _ _⟩
  case round =>
    obtain ⟨k, hk, rfl, hall, hbel⟩ := hrel
    by_cases hlt : k < n
    · obtain ⟨b, off, m, rfl, hb, hm, c0, c1, c2, c3⟩ := (hr.below hbel (Nat.le_refl _)).at_ hlt
      have Hm : Hid (row[k]? = some m) := hm
      clear hm
      have hb' : b < wr.heap.size := by have := hbel.size; omega
      by_cases ok1 : okR m.keep 1000 = true
      · by_cases ok2 : okR m.fixed 1000 = true
        · go_wp2_with (first | (go_at_call 72; refine (isWithin_any _ _ _).mono ?_; rintro e w1 ⟨rfl, hb1⟩; obtain ⟨hc1, hf1⟩ := bcell hb1; have hbel := hbel.trans (hb1.mono hbel.size)))
          exact ⟨⟨k + 1, by omega, by go_num, all_take_succ hall.out Hm.out (by simp [okM, ok1, ok2]), hbel⟩, by simp [intOf]; omega⟩
        · go_wp2_with (first | (go_at_call 72; refine (isWithin_any _ _ _).mono ?_; rintro e w1 ⟨rfl, hb1⟩; obtain ⟨hc1, hf1⟩ := bcell hb1; have hbel := hbel.trans (hb1.mono hbel.size)))
          go_ret
          exact ⟨by rw [checkRow_three (by rw [hlen.out]; omega) (by rw [hlen.out]; omega) Hm.out (by simp [okM, ok2])]; rfl, hbel⟩
      · go_wp2_with (first | (go_at_call 72; refine (isWithin_any _ _ _).mono ?_; rintro e w1 ⟨rfl, hb1⟩; obtain ⟨hc1, hf1⟩ := bcell hb1; have hbel := hbel.trans (hb1.mono hbel.size)))
        go_ret
        exact ⟨by rw [checkRow_three (by rw [hlen.out]; omega) (by rw [hlen.out]; omega) Hm.out (by simp [okM, ok1])]; rfl, hbel⟩
    · go_wp2
      go_ret
      exact ⟨by rw [checkRow_zero (by rw [hlen.out]; omega) (by rw [hlen.out]; omega) (by have := hall.out; rwa [List.take_of_length_le (by rw [hlen.out]; omega)] at this)]; rfl, hbel⟩
end Go.Proofs.Ytdcglphekafpdaa
/- A law of our own for a region that draws its order: all operations but a tail yield, in every world that meets S, one and the same value, and keep S; then the region may be walked in the order of the text, the tail in the world at hand. Over any program. -/
namespace Go.Proofs.Ytdcglphekafpdaa
open Go

section
variable {P : Program} {ops : Array Oper} {md : Region.Mode} {S : World → Prop}

/-- In a world: the operation yields v, and S holds behind it. -/
def HUpon (P : Program) (S : World → Prop) (v : Value) : Result Next → Prop
  | .ok (.value u) W' => u = v ∧ S W'
  | .ok .skip W' => v = undef ∧ S W'
  | .ok (.enter f args) W' => Calls P f args W' fun e W'' => e = .returned v ∧ S W''
  | _ => False

/-- In every world that meets S. -/
def HYields (P : Program) (ops : Array Oper) (S : World → Prop) (o : Oper) (v : Value) (a : Act) : Prop :=
  (Region.wanted o (yielded ops a.tmps) = true ∧ ∀ W, S W → HUpon P S v ((execOp a.eval o).run P W)) ∨ (Region.wanted o (yielded ops a.tmps) = false ∧ v = undef)

theorem HYields.of_same {o : Oper} {v : Value} {a a' : Act} (hy : HYields P ops S o v a) (he : execOp a'.eval o = execOp a.eval o)
    (hw : Region.wanted o (yielded ops a'.tmps) = Region.wanted o (yielded ops a.tmps)) : HYields P ops S o v a' := by
  unfold HYields at *
  rw [he, hw]
  exact hy

/-- The list of operations, in the order of the text. -/
def wpHd (P : Program) (ops : Array Oper) (S : World → Prop) (Q : Act → Prop) : List Oper → Act → Prop
  | [], a => Q a
  | o :: rest, a => ∃ v, HYields P ops S o v a ∧ wpHd P ops S Q rest (a.put o.dst v)

def hOp (P : Program) (ops : Array Oper) (S : World → Prop) (i : Nat) (K : Act → Prop) (a : Act) : Prop :=
  match ops[i]? with
  | none => K a
  | some o => ∃ v, HYields P ops S o v a ∧ K (a.put o.dst v)

theorem hOp_mono {i : Nat} {a : Act} {K K' : Act → Prop} (h : ∀ a, K a → K' a) (hh : hOp P ops S i K a) : hOp P ops S i K' a := by
  unfold hOp at *
  split
  · rename_i ho; simp only [ho] at hh; exact h _ hh
  · rename_i o ho; simp only [ho] at hh; obtain ⟨v, hy, hk⟩ := hh; exact ⟨v, hy, h _ hk⟩

theorem wpOp_of_hOp {i : Nat} {a : Act} {w : World} {K : Act → Prop} {K' : Act → World → Prop} {Q' : Exit → Act → World → Prop} (hS : S w) (h : ∀ a w, S w → K a → K' a w)
    (hh : hOp P ops S i K a) : wpOp P ops Q' i K' a w := by
  unfold hOp at hh
  unfold wpOp
  split
  · rename_i ho; simp only [ho] at hh; exact h _ _ hS hh
  · rename_i o ho
    simp only [ho] at hh
    obtain ⟨v, hy, hk⟩ := hh
    rcases hy with ⟨hw, hy⟩ | ⟨hw, rfl⟩
    · simp only [hw, if_true]
      refine .inl ?_
      have h1 := hy w hS
      unfold Oper.wp
      generalize (execOp a.eval o).run P w = r at h1
      cases r with
      | ok n w' =>
        cases n <;> simp only [HUpon] at h1 <;> simp only [Oper.upon]
        case value u => obtain ⟨rfl, h2⟩ := h1; exact h _ _ h2 hk
        case skip => obtain ⟨rfl, h2⟩ := h1; exact h _ _ h2 hk
        case enter f args => exact h1.mono fun e w'' ⟨he, hw'⟩ => by subst he; exact h _ _ hw' hk
      | halt x w' => simp only [HUpon] at h1
    · simp only [hw, Bool.false_eq_true, if_false]; exact h _ _ hS hk

theorem hOp_put {j : Nat} {oi oj : Oper} {v : Value} (hj : ops[j]? = some oj) (hap : oi.apart ops oj = true)
    (hsi : ∀ cs b, oi.op ≠ .select cs b) (hsj : ∀ cs b, oj.op ≠ .select cs b) {K : Act → Prop} {a : Act}
    (hy : HYields P ops S oi v a) (h : hOp P ops S j K (a.put oi.dst v)) :
    hOp P ops S j (fun a' => HYields P ops S oi v a' ∧ K (a'.put oi.dst v)) a := by
  obtain ⟨h1, h2, h3⟩ := Oper.apart_spec hap
  unfold hOp at *
  simp only [hj] at *
  obtain ⟨u, hu, hk⟩ := h
  refine ⟨u, hu.of_same (execOp_put oj hsj a oi.dst v h1).symm (wanted_put oj a oi.dst v h1).symm, hy.of_same (execOp_put oi hsi a oj.dst u h3) (wanted_put oi a oj.dst u h3), ?_⟩
  rw [← Act.put_comm a v u h2]
  exact hk

def wpAnyD (P : Program) (md : Region.Mode) (ops : Array Oper) (S : World → Prop) (n : Nat) (L : Array Bool → Act → Prop) : Nat → Array Bool → Act → Prop
  | 0, listed, a => L listed a
  | f + 1, listed, a =>
    Region.ready md ops listed ≠ [] ∧ ∀ i ∈ Region.ready md ops listed, i < n ∧ hOp P ops S i (wpAnyD P md ops S n L f (listed.setIfInBounds i true)) a

theorem wpAny_of_hd {n g : Nat} {L : Array Bool → Act → Prop} {Q' : Exit → Act → World → Prop} (hL : ∀ listed a w, S w → L listed a → wpAny P md ops Q' g listed a w) :
    ∀ (f : Nat) (listed : Array Bool) (a : Act) (w : World), S w → wpAnyD P md ops S n L f listed a → wpAny P md ops Q' (f + g) listed a w
  | 0, listed, a, w, hS, h => by rw [Nat.zero_add]; exact hL _ _ _ hS h
  | f + 1, listed, a, w, hS, h => by
    rw [show f + 1 + g = (f + g) + 1 by omega]
    exact ⟨fun h0 => absurd h0 h.1, fun i hi => wpOp_of_hOp hS (fun a' w' hS' h' => wpAny_of_hd hL f _ a' w' hS' h') (h.2 i hi).2⟩

theorem wpAnyD_first {n i : Nat} {oi : Oper} {v : Value} {L : Array Bool → Act → Prop} (hi : ops[i]? = some oi) (hsel : ∀ (j : Nat) (o : Oper) cs b, ops[j]? = some o → o.op ≠ .select cs b)
    (hin : i < n) (htail : ∀ listed, HeadInv md ops n listed → listed.getD i true = false → ∀ t, n ≤ t → t ∉ Region.ready md ops listed)
    (hdone : ∀ listed a, L listed a → ∀ j ∈ Region.ready md ops listed, n ≤ j) :
    ∀ (f : Nat) (listed : Array Bool) (a : Act), HeadInv md ops n listed →
      (∀ j oj, ops[j]? = some oj → j ≠ i → listed.getD j true = false → (∀ e ∈ oj.after, Region.binds md e = true → e.on ≠ i) → oi.apart ops oj = true) →
      i ∈ Region.ready md ops listed → HYields P ops S oi v a →
      wpAnyD P md ops S n L f (listed.setIfInBounds i true) (a.put oi.dst v) → wpAnyD P md ops S n L (f + 1) listed a := by
  intro f
  induction f with
  | zero =>
    intro listed a inv _ hr hy H
    have hun := (mem_ready.1 hr).1
    refine ⟨fun h => (by rw [h] at hr; cases hr), fun j hj => ?_⟩
    have hjn : j < n := by
      rcases Nat.lt_or_ge j n with h | h
      · exact h
      · exact absurd hj (htail listed inv hun j h)
    refine ⟨hjn, ?_⟩
    by_cases hji : j = i
    · subst hji
      unfold hOp
      simp only [hi]
      exact ⟨v, hy, H⟩
    · have := hdone _ _ H j (ready_mono hj hji)
      omega
  | succ f ih =>
    intro listed a inv hfree hr hy H
    have hun := (mem_ready.1 hr).1
    refine ⟨fun h => (by rw [h] at hr; cases hr), fun j hj => ?_⟩
    have hjn : j < n := by
      rcases Nat.lt_or_ge j n with h | h
      · exact h
      · exact absurd hj (htail listed inv hun j h)
    refine ⟨hjn, ?_⟩
    by_cases hji : j = i
    · subst hji
      unfold hOp
      simp only [hi]
      exact ⟨v, hy, H⟩
    · have h1 := (H.2 j (ready_mono hj hji)).2
      obtain ⟨hjun, oj, hoj, hall⟩ := mem_ready.1 hj
      have hnot : ∀ e ∈ oj.after, Region.binds md e = true → e.on ≠ i := fun e he hb heq => by
        have h1 := hall e he hb
        rw [heq, getD_both hun] at h1
        cases h1
      have h2 := hOp_put hoj (hfree j oj hoj hji hjun hnot) (fun cs b => hsel i oi cs b hi) (fun cs b => hsel j oj cs b hoj) hy h1
      have hfree' : ∀ k ok, ops[k]? = some ok → k ≠ i → (listed.setIfInBounds j true).getD k true = false →
          (∀ e ∈ ok.after, Region.binds md e = true → e.on ≠ i) → oi.apart ops ok = true := fun k ok hk hki hun hno => by
        refine hfree k ok hk hki ?_ hno
        by_cases hjk : j = k
        · subst hjk; exact hjun
        · rw [getD_set_ne true hjk] at hun; exact hun
      refine hOp_mono (fun a' h3 => ih (listed.setIfInBounds j true) a' (inv.set hj hjn) hfree' (ready_mono hr (Ne.symm hji)) h3.1 ?_) h2
      rw [Array.setIfInBounds_comm _ _ hji]
      exact h3.2

theorem wpAnyD_lex {n g : Nat} {Lq : Act → Prop} (hsel : Region.noSelect ops = true)
    (htail : ∀ i, i < n → ∀ listed, HeadInv md ops n listed → listed.getD i true = false → ∀ t, n ≤ t → t ∉ Region.ready md ops listed) :
    ∀ (l : List Oper) (k : Nat) (listed : Array Bool) (a : Act), (∀ j, j < l.length → l[j]? = ops[k + j]?) → k + l.length = n → HeadInv md ops n listed →
    Region.lexHead md ops g l.length k listed = true → wpHd P ops S Lq l a →
    wpAnyD P md ops S n (fun listed' a' => Region.seqB md ops g n listed' = true ∧ Lq a') l.length listed a
  | [], k, listed, a, _, hk, _, hB, h => by
    have : k = n := by simpa using hk
    subst this
    exact ⟨by simpa [Region.lexHead] using hB, h⟩
  | o :: l, k, listed, a, hl, hk, inv, hB, h => by
    have h0 : ops[k]? = some o := by simpa using (hl 0 (by simp)).symm
    simp only [List.length_cons, Region.lexHead, Bool.and_eq_true] at hB
    obtain ⟨⟨hr, hf⟩, hB'⟩ := hB
    have hkn : k < n := by simp only [List.length_cons] at hk; omega
    have hr' : k ∈ Region.ready md ops listed := by simpa using hr
    obtain ⟨v, hy, hK⟩ := h
    exact wpAnyD_first h0 (Region.noSelect_spec hsel) hkn (htail k hkn) (fun listed' a' hL => seqB_ready hL.1) l.length listed a inv (Region.free_spec h0 hf) hr' hy
      (wpAnyD_lex hsel htail l (k + 1) _ _ (fun j hj => by have := hl (j + 1) (by simp; omega); simpa [Nat.add_assoc, Nat.add_comm 1 j] using this) (by simp only [List.length_cons] at hk; omega) (inv.set hr' hkn) hB' hK)

/-- A region with a tail that is forced. -/
theorem wp_region_hd {id : Nat} {Q : Exit → Act → World → Prop} {a : Act} {w : World} {l : List Oper} (n : Nat) (S : World → Prop) (hm : P.follows .mixedOrders = true) (hB : Region.lexTailB .any l.toArray n = true)
    (hS : S w.drew) (h : wpHd P l.toArray S (fun a' => ∀ W, S W → wpList P l.toArray Q (l.drop n) a' W) (l.take n) a) : (Code.region id l.toArray true).wp P Q a w := by
  simp only [Region.lexTailB, Bool.and_eq_true, decide_eq_true_eq] at hB
  obtain ⟨⟨⟨⟨hsel, hn⟩, hs⟩, hc⟩, hlex⟩ := hB
  have hn' : n < l.length := by simpa using hn
  have htl : (l.take n).length = n := by simp; omega
  have hdl : (l.drop n).length = l.toArray.size - n := by simp
  have inv0 : HeadInv .any l.toArray n (Array.replicate l.toArray.size false) :=
    ⟨by simp, fun j oj _ hl => (by rw [getD_replicate_false] at hl; cases hl), fun t _ ht => getD_in (by simpa using ht) (getD_replicate_false _ _)⟩
  have H := wpAnyD_lex (md := .any) (g := l.toArray.size - n) hsel (fun i hi listed inv hun => tail_waits hs hc hn inv _ i rfl hi hun) (l.take n) 0 _ a (fun j hj => by
    have hj' : j < n := by rw [htl] at hj; exact hj
    simp [hj']) (by simpa using htl) inv0 (by rw [htl]; exact hlex) h
  refine wp_region_any hm ?_
  have := wpAny_of_hd (Q' := Q) (g := l.toArray.size - n) (fun listed a' w' hS' hL => by
    have := wpAny_of_seq (md := .any) (Q' := Q) (l.drop n) n listed a' w' (fun j => by simp [List.getElem?_drop]) (by rw [hdl]; exact hL.1) (hL.2 w' hS')
    rwa [hdl] at this) _ _ _ _ hS H
  rw [htl, show n + (l.toArray.size - n) = l.toArray.size by omega] at this
  exact this

theorem lexHead_of_lexFrom : ∀ (f k : Nat) (listed : Array Bool), Region.lexFrom md ops f k listed = true → Region.lexHead md ops 0 f k listed = true
  | 0, k, listed, h => by simpa [Region.lexFrom, Region.lexHead, Region.seqB] using h
  | f + 1, k, listed, h => by
    simp only [Region.lexFrom, Bool.and_eq_true] at h
    simp only [Region.lexHead, Bool.and_eq_true]
    exact ⟨h.1, lexHead_of_lexFrom f (k + 1) _ h.2⟩

/-- A region without such a tail. -/
theorem wp_region_hd_all {id : Nat} {Q : Exit → Act → World → Prop} {a : Act} {w : World} {l : List Oper} (S : World → Prop) (hm : P.follows .mixedOrders = true) (hB : Region.lexB .any l.toArray = true)
    (hS : S w.drew) (h : wpHd P l.toArray S (fun a' => ∀ W, S W → wpList P l.toArray Q [] a' W) l a) : (Code.region id l.toArray true).wp P Q a w := by
  simp only [Region.lexB, Bool.and_eq_true] at hB
  have hsz : l.toArray.size = l.length := by simp
  have inv0 : HeadInv .any l.toArray l.length (Array.replicate l.toArray.size false) :=
    ⟨by simp, fun j oj _ hl => (by rw [getD_replicate_false] at hl; cases hl), fun t h1 h2 => by rw [hsz] at h2; omega⟩
  have H := wpAnyD_lex (md := .any) (g := 0) hB.1 (fun i hi listed inv hun t ht hr => by
    have := (mem_ready.1 hr).2
    obtain ⟨ot, hot, _⟩ := this
    have := (Array.getElem?_eq_some_iff.1 hot).1
    rw [hsz] at this
    omega) l 0 _ a (fun j hj => by simp) (by simp) inv0 (by rw [← hsz]; exact lexHead_of_lexFrom _ _ _ hB.2) h
  refine wp_region_any hm ?_
  have := wpAny_of_hd (Q' := Q) (g := 0) (fun listed a' w' hS' hL => ⟨by simpa [Region.seqB] using hL.1, hL.2 w' hS'⟩) _ _ _ _ hS H
  simpa using this

/-! Steps. -/
theorem wpHd_nil {Q : Act → Prop} {a : Act} (h : Q a) : wpHd P ops S Q [] a := h
/-- An operation that leaves the world alone. -/
theorem wpHd_val {Q : Act → Prop} {a : Act} {o : Oper} {rest : List Oper} {v : Value} (hw : Region.wanted o (yielded ops a.tmps) = true)
    (hv : ∀ W, S W → (execOp a.eval o).run P W = .ok (.value v) W) (h : wpHd P ops S Q rest (a.put o.dst v)) : wpHd P ops S Q (o :: rest) a :=
  ⟨v, .inl ⟨hw, fun W hW => by rw [hv W hW]; exact ⟨rfl, hW⟩⟩, h⟩
theorem wpHd_not {Q : Act → Prop} {a : Act} {o : Oper} {rest : List Oper} (hw : Region.wanted o (yielded ops a.tmps) = false)
    (h : wpHd P ops S Q rest (a.put o.dst undef)) : wpHd P ops S Q (o :: rest) a := ⟨undef, .inr ⟨hw, rfl⟩, h⟩
theorem wpHd_call {Q : Act → Prop} {a : Act} {o : Oper} {rest : List Oper} {v : Value} {f : FuncId} {args : Array Value} (hw : Region.wanted o (yielded ops a.tmps) = true)
    (hv : ∀ W, S W → (execOp a.eval o).run P W = .ok (.enter f args) W) (hc : ∀ W, S W → Calls P f args W fun e W' => e = .returned v ∧ S W')
    (h : wpHd P ops S Q rest (a.put o.dst v)) : wpHd P ops S Q (o :: rest) a :=
  ⟨v, .inl ⟨hw, fun W hW => by rw [hv W hW]; exact hc W hW⟩, h⟩
/-- A call that leaves all that was there as it was. -/
theorem wpHd_callB {Q : Act → Prop} {a : Act} {o : Oper} {rest : List Oper} {v : Value} {f : FuncId} {args : Array Value} {w0 : World} (hw : Region.wanted o (yielded ops a.tmps) = true)
    (hc : ∀ W, RowKit.Below w0.heap.size w0 W → Calls P f args W fun e W' => e = .returned v ∧ RowKit.Below W.heap.size W W')
    (hv : ∀ W, RowKit.Below w0.heap.size w0 W → (execOp a.eval o).run P W = .ok (.enter f args) W)
    (h : wpHd P ops (fun W => RowKit.Below w0.heap.size w0 W) Q rest (a.put o.dst v)) : wpHd P ops (fun W => RowKit.Below w0.heap.size w0 W) Q (o :: rest) a :=
  wpHd_call hw hv (fun W hW => (hc W hW).mono fun _ _ ⟨he, hb⟩ => ⟨he, hW.trans (hb.mono hW.size)⟩) h
end
end Go.Proofs.Ytdcglphekafpdaa
namespace Go.Proofs.Ytdcglphekafpdaa
open Go.RowKit

/-- What a melt may leave. -/
def melted (m : Mt) (r : Rg) : Rg := ⟨max 0 (r.lo * m.keep.lo / 1000 - m.fixed.hi), max 0 (r.hi * m.keep.hi / 1000 - m.fixed.lo)⟩
def leftOf (row : List Mt) (r : Rg) : Rg := row.foldl (fun r m => melted m r) r

theorem okM_t {m : Mt} : okM m = true ↔ (0 ≤ m.keep.lo ∧ m.keep.lo ≤ m.keep.hi ∧ m.keep.hi ≤ 1000 ∧ 0 ≤ m.fixed.lo ∧ m.fixed.lo ≤ m.fixed.hi ∧ m.fixed.hi ≤ 1000) := by
  simp [okM, okR, Bool.and_eq_true]; omega
theorem mul_bd {x k X K : Int} (h1 : 0 ≤ x) (h2 : x ≤ X) (h3 : 0 ≤ k) (h4 : k ≤ K) : 0 ≤ x * k ∧ x * k ≤ X * K :=
  ⟨Int.mul_nonneg h1 h3, Int.mul_le_mul h2 h4 h3 (by omega)⟩
theorem ret_rg {a b : Int} {r : Rg} (h : a = r.lo) (h' : b = r.hi) : Ending.returned (.agg #[.int .i64 a, .int .i64 b]) = .returned (.agg #[.int .i64 r.lo, .int .i64 r.hi]) := by rw [h, h']

set_option maxHeartbeats 400000 in
theorem melted_any (m : Mt) (r : Rg) (w : World) (hm : okM m = true) (h9 : 0 ≤ r.lo) (h10 : r.lo ≤ 1000000) (h11 : 0 ≤ r.hi) (h12 : r.hi ≤ 1000001) :
    Calls Try.prog 102 #[.agg #[.int .i64 m.keep.lo, .int .i64 m.keep.hi, .int .i64 m.fixed.lo, .int .i64 m.fixed.hi], .agg #[.int .i64 r.lo, .int .i64 r.hi]] w fun e w' =>
      e = .returned (.agg #[.int .i64 (melted m r).lo, .int .i64 (melted m r).hi]) ∧ Below w.heap.size w w' := by
  obtain ⟨h1, h2, h3, h4, h5, h6⟩ := okM_t.1 hm
  obtain ⟨p1, p2⟩ := mul_bd h9 h10 h1 (show m.keep.lo ≤ 1000 by omega)
  obtain ⟨q1, q2⟩ := mul_bd h11 h12 (show 0 ≤ m.keep.hi by omega) h3
  clear hm
  have e1 : Hid ((melted m r).lo = max 0 (r.lo * m.keep.lo / 1000 - m.fixed.hi)) := rfl
  have e2 : Hid ((melted m r).hi = max 0 (r.hi * m.keep.hi / 1000 - m.fixed.lo)) := rfl
  go_enter Try.func102, Try.ntmps102
  go_wp2
  all_goals
    refine bodyPost_ret (v := .agg #[.int .i64 _, .int .i64 _]) (by simp [results, Try.results102, go_sem]; exact ⟨rfl, rfl⟩) rfl ⟨ret_rg ?_ ?_, ?_⟩
    · rw [e1.out]; omega
    · rw [e2.out]; omega
    · exact (((Below.refl _ _).alloc (Nat.le_refl _) _).alloc (by simp) _).alloc (by simp; omega) _

set_option maxHeartbeats 400000 in
theorem refMelted_any (m : Mt) (r : Rg) (w : World) (hm : okM m = true) (h9 : 0 ≤ r.lo) (h10 : r.lo ≤ 1000000) (h11 : 0 ≤ r.hi) (h12 : r.hi ≤ 1000001) :
    Calls Try.prog 101 #[.agg #[.int .i64 m.keep.lo, .int .i64 m.keep.hi, .int .i64 m.fixed.lo, .int .i64 m.fixed.hi], .agg #[.int .i64 r.lo, .int .i64 r.hi]] w fun e w' =>
      e = .returned (.agg #[.int .i64 (melted m r).lo, .int .i64 (melted m r).hi]) ∧ Below w.heap.size w w' := by
  obtain ⟨h1, h2, h3, h4, h5, h6⟩ := okM_t.1 hm
  obtain ⟨p1, p2⟩ := mul_bd h9 h10 h1 (show m.keep.lo ≤ 1000 by omega)
  obtain ⟨q1, q2⟩ := mul_bd h11 h12 (show 0 ≤ m.keep.hi by omega) h3
  clear hm
  have e1 : Hid ((melted m r).lo = max 0 (r.lo * m.keep.lo / 1000 - m.fixed.hi)) := rfl
  have e2 : Hid ((melted m r).hi = max 0 (r.hi * m.keep.hi / 1000 - m.fixed.lo)) := rfl
  go_enter Try.func101, Try.ntmps101
  go_wp2
  all_goals
    refine bodyPost_ret (v := .agg #[.int .i64 _, .int .i64 _]) (by simp [results, Try.results101, go_sem]; exact ⟨rfl, rfl⟩) rfl ⟨ret_rg ?_ ?_, ?_⟩
    · rw [e1.out]; omega
    · rw [e2.out]; omega
    · exact (((Below.refl _ _).alloc (Nat.le_refl _) _).alloc (by simp) _).alloc (by simp; omega) _

theorem melted_ok {m : Mt} {r : Rg} (hm : okM m = true) (h9 : 0 ≤ r.lo) (h10 : r.lo ≤ r.hi) (h11 : r.hi ≤ 1000000) : 0 ≤ (melted m r).lo ∧ (melted m r).lo ≤ (melted m r).hi ∧ (melted m r).hi ≤ r.hi := by
  obtain ⟨h1, h2, h3, h4, h5, h6⟩ := okM_t.1 hm
  have p1 : r.lo * m.keep.lo ≤ r.hi * m.keep.hi := Int.mul_le_mul h10 h2 h1 (by omega)
  have p2 : r.hi * m.keep.hi ≤ r.hi * 1000 := Int.mul_le_mul_of_nonneg_left h3 (by omega)
  simp only [melted]; omega

set_option maxHeartbeats 400000 in
theorem leftOf_any (w : World) (A : Option Addr) (n c : Nat) (row : List Mt) (r : Rg) (hr : MtS w w.heap.size A n row) (hn : n ≤ 12) (hok : row.all okM = true)
    (h9 : 0 ≤ r.lo) (h10 : r.lo ≤ r.hi) (h11 : r.hi ≤ 1000000) :
    Calls Try.prog 73 #[.slice A n c, .agg #[.int .i64 r.lo, .int .i64 r.hi]] w fun e w' =>
      e = .returned (.agg #[.int .i64 (leftOf row r).lo, .int .i64 (leftOf row r).hi]) ∧ Below w.heap.size w w' := by
  have hlen : Hid (row.length = n) := hr.len
  have hok' : Hid (row.all okM = true) := hok
  clear hok
  go_enter Try.func73, Try.ntmps73
  go_wp2
  go_loopw [5] (fun i wr => ∃ k : Nat, k ≤ n ∧ i = .int .i64 k ∧ ∃ r1 : Rg, Hid (r1 = leftOf (row.take k) r) ∧ 0 ≤ r1.lo ∧ r1.lo ≤ r1.hi ∧ r1.hi ≤ 1000000 ∧ Blk wr w.heap.size 24 #[.int .i64 r1.lo, .int .i64 r1.hi] ∧ Blk wr (w.heap.size + 1) 24 #[.int .i64 0, .int .i64 0] ∧ Below w.heap.size w wr) (fun i _ => n - (intOf i).toNat)
  case atStart => exact ⟨0, by omega, rfl, r, rfl, h9, h10, h11, (Blk.new _ _ _).alloc _, Blk.new' (by simp), ((Below.refl _ _).alloc (Nat.le_refl _) _).alloc (by simp) _⟩
  case round =>
    obtain ⟨k, hk, rfl, r1, hr1, g1, g2, g3, b1, b2, hbel⟩ := hrel
    by_cases hlt : k < n
    · obtain ⟨b, off, m, rfl, hb, hm, c0, c1, c2, c3⟩ := (hr.below hbel (Nat.le_refl _)).at_ hlt
      have Hm : Hid (row[k]? = some m) := hm
      have hokm : Hid (okM m = true) := List.all_eq_true.1 hok'.out m (List.mem_of_getElem? hm)
      clear hm
      have d0 := b1.cell 0
      have d1 := b1.cell 1
      have hsz := b2.lt
      go_wp2
      have hs0 : w.heap.size < wr.heap.size := by omega
      have hs1 : b < wr.heap.size := by omega
      refine wp_region_hd 6 (fun W => Below wr.heap.size wr W) (by kernel_rfl) (by kernel_rfl) ((Below.refl _ _).drew) ?_
      simp only [List.take_succ_cons, List.take_zero, List.drop_succ_cons, List.drop_zero]
      (refine wpHd_val (v := ?_) (by rfl) (fun W hW => ?_) ?_; rotate_left; (· obtain ⟨hcW, hfW⟩ := bcell hW; go_simp; with_reducible rfl); simp only [Act.put, List.setIfInBounds_toArray, List.set_cons_zero, List.set_cons_succ])
      (refine wpHd_val (v := ?_) (by rfl) (fun W hW => ?_) ?_; rotate_left; (· obtain ⟨hcW, hfW⟩ := bcell hW; go_simp; with_reducible rfl); simp only [Act.put, List.setIfInBounds_toArray, List.set_cons_zero, List.set_cons_succ])
      (refine wpHd_val (v := ?_) (by rfl) (fun W hW => ?_) ?_; rotate_left; (· obtain ⟨hcW, hfW⟩ := bcell hW; go_simp; with_reducible rfl); simp only [Act.put, List.setIfInBounds_toArray, List.set_cons_zero, List.set_cons_succ])
      (refine wpHd_val (v := ?_) (by rfl) (fun W hW => ?_) ?_; rotate_left; (· obtain ⟨hcW, hfW⟩ := bcell hW; go_simp; with_reducible rfl); simp only [Act.put, List.setIfInBounds_toArray, List.set_cons_zero, List.set_cons_succ])
      (refine wpHd_val (v := ?_) (by rfl) (fun W hW => ?_) ?_; rotate_left; (· obtain ⟨hcW, hfW⟩ := bcell hW; go_simp; with_reducible rfl); simp only [Act.put, List.setIfInBounds_toArray, List.set_cons_zero, List.set_cons_succ])
      (refine wpHd_callB (by rfl) (fun W hW => refMelted_any m r1 _ hokm.out g1 (by omega) (by omega) (by omega)) (fun W hW => ?_) ?_; (· obtain ⟨hcW, hfW⟩ := bcell hW; go_simp); simp only [Act.put, List.setIfInBounds_toArray, List.set_cons_zero, List.set_cons_succ])
      refine wpHd_nil ?_
      intro W2 hW2
      have e1 := b1.below hW2 hs0
      have f0 := e1.cell 0
      have f1 := e1.cell 1
      have f2 := e1.frozen 0
      have f3 := e1.frozen 1
      go_wp2
      obtain ⟨p1, p2, p3⟩ := melted_ok hokm.out g1 g2 g3
      refine ⟨⟨k + 1, by omega, by go_num, melted m r1, ?_, p1, p2, by omega, e1.set2, ((b2.below hW2 hsz).far (by simp) _).far (by simp) _, ((hbel.trans (hW2.mono hbel.size)).setCell (by simp) _).setCell (by simp) _⟩, by simp [intOf]; omega⟩
      show melted m r1 = leftOf (row.take (k + 1)) r
      rw [List.take_add_one, Hm.out, hr1.out, leftOf, leftOf, List.foldl_append]
      rfl
    · have e1 := b1.cell 0
      have e2 := b1.cell 1
      have e3 := b2.cell 0
      have e4 := b2.cell 1
      have e5 := b2.frozen 0
      have e6 := b2.frozen 1
      have hfin : Hid (r1 = leftOf row r) := by
        have := hr1.out
        rwa [List.take_of_length_le (by rw [hlen.out]; omega)] at this
      go_wp2
      have hB := b2.set2 (a := .int .i64 r1.lo) (b := .int .i64 r1.hi)
      have k0 := hB.cell 0
      have k1 := hB.cell 1
      refine bodyPost_ret (v := .agg #[.int .i64 r1.lo, .int .i64 r1.hi]) (by simp [results, Try.results73, go_sem, k0, k1]) rfl ⟨by rw [hfin.out], (hbel.setCell (by simp) _).setCell (by simp) _⟩

end Go.Proofs.Ytdcglphekafpdaa
/- Plain law: what is needed. No program in sight. -/
namespace Go.Proofs.Ytdcglphekafpdaa

/-- What one melt leaves of x, at least or at most. -/
def one (m : Mt) (sure : Bool) (x : Int) : Int := if sure then max 0 (x * m.keep.lo / 1000 - m.fixed.hi) else max 0 (x * m.keep.hi / 1000 - m.fixed.lo)
def chainOf (row : List Mt) (sure : Bool) (x : Int) : Int := row.foldl (fun x m => one m sure x) x
theorem leftOf_lo (row : List Mt) : ∀ r : Rg, (leftOf row r).lo = chainOf row true r.lo := by
  induction row with
  | nil => intro r; rfl
  | cons m row ih => intro r; exact ih (melted m r)
theorem leftOf_hi (row : List Mt) : ∀ r : Rg, (leftOf row r).hi = chainOf row false r.hi := by
  induction row with
  | nil => intro r; rfl
  | cons m row ih => intro r; exact ih (melted m r)

def keepOf (m : Mt) (sure : Bool) : Int := if sure then m.keep.lo else m.keep.hi
def fixedOf (m : Mt) (sure : Bool) : Int := if sure then m.fixed.hi else m.fixed.lo
theorem one_eq (m : Mt) (sure : Bool) (x : Int) : one m sure x = max 0 (x * keepOf m sure / 1000 - fixedOf m sure) := by cases sure <;> rfl
/-- The least weight of which a melt leaves so much. -/
def need (m : Mt) (left : Int) (sure : Bool) : Int :=
  if left ≤ 0 then 0 else if keepOf m sure = 0 then 1000001 else min 1000001 (((left + fixedOf m sure) * 1000 + keepOf m sure - 1) / keepOf m sure)
theorem keepOf_bd {m : Mt} (h : okM m = true) (sure : Bool) : 0 ≤ keepOf m sure ∧ keepOf m sure ≤ 1000 ∧ 0 ≤ fixedOf m sure ∧ fixedOf m sure ≤ 1000 := by
  obtain ⟨h1, h2, h3, h4, h5, h6⟩ := okM_t.1 h
  cases sure <;> simp [keepOf, fixedOf] <;> omega
theorem one_bd {m : Mt} (h : okM m = true) (sure : Bool) {x : Int} (hx : 0 ≤ x) (hX : x ≤ 1000000) : 0 ≤ one m sure x ∧ one m sure x ≤ x := by
  obtain ⟨h1, h2, h3, h4⟩ := keepOf_bd h sure
  have := Int.mul_le_mul_of_nonneg_left h2 hx
  rw [one_eq]; omega
theorem one_mono {m : Mt} (h : okM m = true) (sure : Bool) {x y : Int} (hx : x ≤ y) : one m sure x ≤ one m sure y := by
  obtain ⟨h1, h2, h3, h4⟩ := keepOf_bd h sure
  have := Int.mul_le_mul_of_nonneg_right hx h1
  rw [one_eq, one_eq]; omega
theorem chain_mono (sure : Bool) : ∀ (row : List Mt), row.all okM = true → ∀ {x y : Int}, x ≤ y → chainOf row sure x ≤ chainOf row sure y
  | [], _, _, _, h => h
  | m :: row, hr, x, y, h => by
    simp only [List.all_cons, Bool.and_eq_true] at hr
    exact chain_mono sure row hr.2 (one_mono hr.1 sure h)
theorem chain_bd (sure : Bool) : ∀ (row : List Mt), row.all okM = true → ∀ {x : Int}, 0 ≤ x → x ≤ 1000000 → 0 ≤ chainOf row sure x ∧ chainOf row sure x ≤ x
  | [], _, _, h, _ => ⟨h, Int.le_refl _⟩
  | m :: row, hr, x, h, h' => by
    simp only [List.all_cons, Bool.and_eq_true] at hr
    have h1 := one_bd hr.1 sure h h'
    have h2 := chain_bd sure row hr.2 h1.1 (by omega)
    exact ⟨h2.1, by have := h2.2; simp only [chainOf, List.foldl_cons] at *; omega⟩
theorem need_iff {m : Mt} (h : okM m = true) {sure : Bool} {left x : Int} (hx : 0 ≤ x) (hX : x ≤ 1000000) : left ≤ one m sure x ↔ need m left sure ≤ x := by
  obtain ⟨h1, h2, h3, h4⟩ := keepOf_bd h sure
  rw [one_eq]
  unfold need
  generalize keepOf m sure = k at *
  generalize fixedOf m sure = f at *
  by_cases hl : left ≤ 0
  · rw [if_pos hl]; omega
  rw [if_neg hl]
  by_cases hk : k = 0
  · rw [if_pos hk, hk]; omega
  rw [if_neg hk]
  have hk' : 0 < k := by omega
  constructor
  · intro hh
    have h5 : left + f ≤ x * k / 1000 := by omega
    have h6 : (left + f) * 1000 ≤ x * k := by omega
    have e : (x + 1) * k = x * k + k := by rw [Int.add_mul, Int.one_mul]
    have : ((left + f) * 1000 + k - 1) / k < x + 1 := (Int.ediv_lt_iff_lt_mul hk').2 (by omega)
    omega
  · intro hh
    have h5 : ((left + f) * 1000 + k - 1) / k ≤ x := by omega
    have h6 : (left + f) * 1000 + k - 1 < (x + 1) * k := (Int.ediv_lt_iff_lt_mul hk').1 (by omega)
    have e : (x + 1) * k = x * k + k := by rw [Int.add_mul, Int.one_mul]
    omega
theorem need_bd {m : Mt} (h : okM m = true) {sure : Bool} {left : Int} : 0 ≤ need m left sure ∧ need m left sure ≤ 1000001 := by
  obtain ⟨h1, h2, h3, h4⟩ := keepOf_bd h sure
  unfold need
  split
  · omega
  · split
    · omega
    · rename_i a b
      have := Int.ediv_nonneg (a := (left + fixedOf m sure) * 1000 + keepOf m sure - 1) (b := keepOf m sure) (by omega) h1
      omega

/-- The least weight of which a row leaves so much, up to one more than all weights. -/
def neededAll (sure : Bool) (left : Int) : List Mt → Int
  | [] => if left ≤ 1000000 then left else 1000001
  | m :: row => if neededAll sure left row > 1000000 then 1000001 else need m (neededAll sure left row) sure
theorem neededAll_bd (sure : Bool) {left : Int} (hl : 0 ≤ left) : ∀ (row : List Mt), row.all okM = true → 0 ≤ neededAll sure left row ∧ neededAll sure left row ≤ 1000001
  | [], _ => by unfold neededAll; split <;> omega
  | m :: row, hr => by
    simp only [List.all_cons, Bool.and_eq_true] at hr
    have e2 : neededAll sure left (m :: row) = if neededAll sure left row > 1000000 then 1000001 else need m (neededAll sure left row) sure := rfl
    rw [e2]
    split
    · omega
    · exact need_bd hr.1
theorem neededAll_iff (sure : Bool) {left : Int} (hl : 0 ≤ left) : ∀ (row : List Mt), row.all okM = true → ∀ {x : Int}, 0 ≤ x → x ≤ 1000000 → (left ≤ chainOf row sure x ↔ neededAll sure left row ≤ x)
  | [], _, x, h, h' => by
    unfold neededAll chainOf
    simp only [List.foldl_nil]
    split <;> omega
  | m :: row, hr, x, h, h' => by
    simp only [List.all_cons, Bool.and_eq_true] at hr
    have h1 := one_bd hr.1 sure h h'
    have ih := neededAll_iff sure hl row hr.2 (x := one m sure x) h1.1 (by omega)
    have e : chainOf (m :: row) sure x = chainOf row sure (one m sure x) := rfl
    have e2 : neededAll sure left (m :: row) = if neededAll sure left row > 1000000 then 1000001 else need m (neededAll sure left row) sure := rfl
    rw [e, ih, e2]
    split
    · omega
    · exact need_iff hr.1 h h'

/-- Whether a row leaves so much of a weight. -/
def enough (row : List Mt) (weight left : Int) (sure : Bool) : Bool := decide (left ≤ chainOf row sure weight)
theorem enough_t {row : List Mt} {weight left : Int} {sure : Bool} : enough row weight left sure = true ↔ left ≤ chainOf row sure weight := by simp [enough]
/-- The one number at which a search by halves ends. -/
theorem needed_unique {row : List Mt} {left : Int} {sure : Bool} (hr : row.all okM = true) (hl : 0 ≤ left) {x : Int} (h0 : 0 ≤ x) (h1 : x ≤ 1000001)
    (hb : ∀ y, 0 ≤ y → y < x → enough row y left sure = false) (he : x ≤ 1000000 → enough row x left sure = true) : x = neededAll sure left row := by
  have hbd := neededAll_bd sure hl row hr
  have a1 : ¬ neededAll sure left row < x := fun h => by
    have h2 := hb _ hbd.1 h
    have h3 := (neededAll_iff sure hl row hr hbd.1 (by omega)).2 (Int.le_refl _)
    rw [enough_t.2 h3] at h2; cases h2
  have a2 : ¬ x < neededAll sure left row := fun h => by
    have h3 := (neededAll_iff sure hl row hr h0 (by omega)).1 (enough_t.1 (he (by omega)))
    omega
  omega
end Go.Proofs.Ytdcglphekafpdaa
namespace Go.Proofs.Ytdcglphekafpdaa
open Go.RowKit

def meet (a b : Rg) : Rg := ⟨max a.lo b.lo, min a.hi b.hi⟩
set_option maxHeartbeats 400000 in
theorem refMeet_any (a b : Rg) (w : World) :
    Calls Try.prog 84 #[.agg #[.int .i64 a.lo, .int .i64 a.hi], .agg #[.int .i64 b.lo, .int .i64 b.hi]] w fun e w' => e = .returned (.agg #[.int .i64 (meet a b).lo, .int .i64 (meet a b).hi]) ∧ Below w.heap.size w w' := by
  have e1 : Hid ((meet a b).lo = max a.lo b.lo) := rfl
  have e2 : Hid ((meet a b).hi = min a.hi b.hi) := rfl
  go_enter Try.func84, Try.ntmps84
  go_wp2
  all_goals
    refine bodyPost_ret (v := .agg #[.int .i64 _, .int .i64 _]) (by simp [results, Try.results84, go_sem]; exact ⟨rfl, rfl⟩) rfl ⟨ret_rg ?_ ?_, ?_⟩
    · rw [e1.out]; omega
    · rw [e2.out]; omega
    · exact (((Below.refl _ _).alloc (Nat.le_refl _) _).alloc (by simp) _).alloc (by simp; omega) _
set_option maxHeartbeats 400000 in
theorem meet_any (a b : Rg) (w : World) :
    Calls Try.prog 87 #[.agg #[.int .i64 a.lo, .int .i64 a.hi], .agg #[.int .i64 b.lo, .int .i64 b.hi]] w fun e w' => e = .returned (.agg #[.int .i64 (meet a b).lo, .int .i64 (meet a b).hi]) ∧ Below w.heap.size w w' := by
  have e1 : Hid ((meet a b).lo = max a.lo b.lo) := rfl
  have e2 : Hid ((meet a b).hi = min a.hi b.hi) := rfl
  go_enter Try.func87, Try.ntmps87
  go_wp2
  all_goals
    refine bodyPost_ret (v := .agg #[.int .i64 _, .int .i64 _]) (by simp [results, Try.results87, go_sem]; exact ⟨rfl, rfl⟩) rfl ⟨ret_rg ?_ ?_, ?_⟩
    · rw [e1.out]; omega
    · rw [e2.out]; omega
    · exact (((Below.refl _ _).alloc (Nat.le_refl _) _).alloc (by simp) _).alloc (by simp; omega) _

def inR (r : Rg) (n : Int) : Bool := decide (r.lo ≤ n ∧ n ≤ r.hi)
set_option maxHeartbeats 400000 in
theorem in_any (r : Rg) (n : Int) (w : World) :
    Calls Try.prog 55 #[.agg #[.int .i64 r.lo, .int .i64 r.hi], .int .i64 n] w fun e w' => e = .returned (.bool (inR r n)) ∧ Below w.heap.size w w' := by
  by_cases h1 : r.lo ≤ n <;> by_cases h2 : n ≤ r.hi
  all_goals
    have e : Hid (inR r n = decide (r.lo ≤ n ∧ n ≤ r.hi)) := rfl
    go_enter Try.func55, Try.ntmps55
    go_wp2
    go_ret
    exact ⟨by rw [e.out]; simp [*], (Below.refl _ _).alloc (Nat.le_refl _) _⟩

set_option maxHeartbeats 400000 in
theorem all_any (w : World) : Calls Try.prog 57 #[] w fun e w' => e = .returned (.agg #[.int .i64 0, .int .i64 1000000]) ∧ Below w.heap.size w w' := by
  go_enter Try.func57, Try.ntmps57
  go_wp2
  refine bodyPost_ret (v := .agg #[.int .i64 0, .int .i64 1000000]) (by simp [results, Try.results57, go_sem]) rfl ⟨rfl, (Below.refl _ _).alloc (Nat.le_refl _) _⟩

set_option maxHeartbeats 400000 in
theorem enough_any (w : World) (A : Option Addr) (n c : Nat) (row : List Mt) (x left : Int) (sure : Bool) (hr : MtS w w.heap.size A n row) (hn : n ≤ 12) (hok : row.all okM = true)
    (h9 : 0 ≤ x) (h10 : x ≤ 1000000) :
    Calls Try.prog 106 #[.slice A n c, .int .i64 x, .int .i64 left, .bool sure] w fun e w' => e = .returned (.bool (enough row x left sure)) ∧ Below w.heap.size w w' := by
  have hok' : Hid (row.all okM = true) := hok
  clear hok
  have hbel := Below.refl w.heap.size w
  have e1 : Hid ((leftOf row ⟨x, x⟩).lo = chainOf row true x) := leftOf_lo row _
  have e2 : Hid ((leftOf row ⟨x, x⟩).hi = chainOf row false x) := leftOf_hi row _
  have hX : ∀ sure, enough row x left sure = decide (left ≤ (if sure then (leftOf row ⟨x, x⟩).lo else (leftOf row ⟨x, x⟩).hi)) := fun sure => by
    cases sure
    · simp only [enough, e2.out]; rfl
    · simp only [enough, e1.out]; rfl
  have HX := hid hX
  clear hX
  generalize hG : leftOf row ⟨x, x⟩ = G at *
  have HG := hid hG
  clear hG
  cases sure
  · by_cases h2 : left ≤ G.hi
    all_goals
      go_enter Try.func106, Try.ntmps106
      go_wp2_with (first | (go_at_call 73; refine (leftOf_any _ _ _ _ row ⟨x, x⟩ hr hn hok'.out h9 (Int.le_refl _) h10).mono ?_; rw [HG.out]; rintro e w1 ⟨rfl, hb1⟩))
      go_ret
      exact ⟨by rw [HX.out]; simp [h2], hb1.trans (((Below.refl _ _).alloc hb1.size _))⟩
  · by_cases h2 : left ≤ G.lo
    all_goals
      go_enter Try.func106, Try.ntmps106
      go_wp2_with (first | (go_at_call 73; refine (leftOf_any _ _ _ _ row ⟨x, x⟩ hr hn hok'.out h9 (Int.le_refl _) h10).mono ?_; rw [HG.out]; rintro e w1 ⟨rfl, hb1⟩))
      go_ret
      exact ⟨by rw [HX.out]; simp [h2], hb1.trans (((Below.refl _ _).alloc hb1.size _))⟩

set_option maxHeartbeats 400000 in
theorem neededOf_any (w : World) (A : Option Addr) (n c : Nat) (row : List Mt) (left : Int) (sure : Bool) (hr : MtS w w.heap.size A n row) (hn : n ≤ 12) (hok : row.all okM = true) (hl : 0 ≤ left) :
    Calls Try.prog 77 #[.slice A n c, .int .i64 left, .bool sure] w fun e w' => e = .returned (.int .i64 (neededAll sure left row)) ∧ Below w.heap.size w w' := by
  have hok' : Hid (row.all okM = true) := hok
  clear hok
  go_enter Try.func77, Try.ntmps77
  go_wp2
  go_loopw [7, 8] (fun lo hi wr => ∃ x y : Int, lo = .int .i64 x ∧ hi = .int .i64 y ∧ 0 ≤ x ∧ x ≤ y ∧ y ≤ 1000001 ∧ Hid (∀ z, 0 ≤ z → z < x → enough row z left sure = false) ∧ Hid (y ≤ 1000000 → enough row y left sure = true) ∧ Below w.heap.size w wr) (fun lo hi _ => (intOf hi - intOf lo).toNat)
  case atStart => exact ⟨0, 1000001, rfl, rfl, by omega, by omega, by omega, fun z h1 h2 => by omega, fun h => by omega, Below.refl _ _⟩
  case round =>
    obtain ⟨x, y, rfl, rfl, h0, hxy, hy, hlow, hhigh, hbel⟩ := hrel
    by_cases hlt : x < y
    · have hr1 := hr.below hbel hbel.size
      cases he : enough row ((x + y) / 2) left sure
      · go_wp2_with (first | (go_at_call 106; refine (enough_any _ _ _ _ row _ left sure hr1 hn hok'.out (by omega) (by omega)).mono ?_; rw [he]; rintro e w1 ⟨rfl, hb1⟩))
        refine ⟨⟨_, y, rfl, rfl, by omega, by omega, hy, fun z h1 h2 => ?_, hhigh, hbel.trans (hb1.mono hbel.size)⟩, by simp [intOf]; omega⟩
        cases h3 : enough row z left sure
        · rfl
        · have h4 := chain_mono sure row hok'.out (x := z) (y := (x + y) / 2) (by omega)
          have h5 := enough_t.1 h3
          rw [enough_t.2 (by omega)] at he; cases he
      · go_wp2_with (first | (go_at_call 106; refine (enough_any _ _ _ _ row _ left sure hr1 hn hok'.out (by omega) (by omega)).mono ?_; rw [he]; rintro e w1 ⟨rfl, hb1⟩))
        exact ⟨⟨x, _, rfl, rfl, h0, by omega, by omega, hlow, fun _ => he, hbel.trans (hb1.mono hbel.size)⟩, by simp [intOf]; omega⟩
    · obtain rfl : x = y := by omega
      have hfin := hid (needed_unique hok'.out hl h0 hy hlow.out hhigh.out)
      go_wp2
      go_ret
      exact ⟨by rw [← hfin.out]; rfl, hbel⟩

end Go.Proofs.Ytdcglphekafpdaa
namespace Go.Proofs.Ytdcglphekafpdaa
open Go.RowKit

theorem checkRow_ok {row : List Mt} (h : checkRow row = 0) : 1 ≤ row.length ∧ row.length ≤ 7 ∧ row.all okM = true := by
  unfold checkRow at h
  split at h
  · cases h
  · split at h
    · exact ⟨by omega, by omega, by assumption⟩
    · cases h
/-- What a row leaves, or the error. -/
def leftS (row : List Mt) (r : Rg) : Rg := if checkRow row = 0 ∧ okR r 1000000 = true then leftOf row r else ⟨0, 0⟩
def leftE (row : List Mt) (r : Rg) : Int := if checkRow row ≠ 0 then checkRow row else if okR r 1000000 = true then 0 else 3

theorem ret_rge {a b c : Int} {r : Rg} {e : Int} (h : a = r.lo) (h' : b = r.hi) (h'' : c = e) : Ending.returned (.tuple #[.agg #[.int .i64 a, .int .i64 b], .int .i64 c]) = .returned (.tuple #[.agg #[.int .i64 r.lo, .int .i64 r.hi], .int .i64 e]) := by rw [h, h', h'']
set_option maxHeartbeats 400000 in
theorem refLeft_any (w : World) (A : Option Addr) (n c : Nat) (row : List Mt) (r : Rg) (hr : MtS w w.heap.size A n row) (hn : n ≤ 12) :
    Calls Try.prog 21 #[.slice A n c, .agg #[.int .i64 r.lo, .int .i64 r.hi]] w fun e w' =>
      e = .returned (.tuple #[.agg #[.int .i64 (leftS row r).lo, .int .i64 (leftS row r).hi], .int .i64 (leftE row r)]) ∧ Below w.heap.size w w' := by
  by_cases h0 : checkRow row = 0
  · have hc : (checkRow row != 0) = false := by simp [h0]
    obtain ⟨_, _, hok⟩ := checkRow_ok h0
    have hok' := hid hok
    clear hok
    by_cases h1 : okR r 1000000 = true
    · obtain ⟨g1, g2, g3⟩ := okR_t.1 h1
      have hs : Hid (leftS row r = leftOf row r) := by unfold leftS; rw [if_pos ⟨h0, h1⟩]; trivial
      have he : Hid (leftE row r = 0) := by unfold leftE; rw [if_neg (by simp [h0]), if_pos h1]; trivial
      clear h0
      go_enter Try.func21, Try.ntmps21
      go_wp2_with (first | (go_at_call 25; refine (checkRow_any _ _ _ _ row (hr.below (by repeat' (first | with_reducible assumption | with_reducible exact Below.refl _ _ | refine Below.alloc ?_ ?_ _ | refine Below.setCell ?_ ?_ _ | refine Below.drew ?_ | refine below_drewN ?_ _ | (simp; done) | (simp; omega) | omega)) (by first | (simp; done) | (simp; omega) | omega)) hn).mono ?_; rintro e w1 ⟨rfl, hb1⟩; obtain ⟨hc1, hf1⟩ := bcell hb1; have hbel : Below w.heap.size w w1 := Below.trans (by repeat' (first | with_reducible assumption | with_reducible exact Below.refl _ _ | refine Below.alloc ?_ ?_ _ | refine Below.setCell ?_ ?_ _ | refine Below.drew ?_ | refine below_drewN ?_ _ | (simp; done) | (simp; omega) | omega)) (hb1.mono (by first | (simp; done) | (simp; omega) | omega)); have hsz := hbel.size; have hz1 := hb1.size; (try simp only [World.size_alloc] at hz1); (try have hq0 : w.heap.size < w1.heap.size := by omega); (try have hq1 : w.heap.size + 1 < w1.heap.size := by omega); (try have hq2 : w.heap.size + 1 + 1 < w1.heap.size := by omega); (try have hq3 : w.heap.size + 1 + 1 + 1 < w1.heap.size := by omega)) | (go_at_call 72; refine (isWithin_any r 1000000 _).mono ?_; rintro e w1 ⟨rfl, hb1⟩; obtain ⟨hc1, hf1⟩ := bcell hb1; have hbel : Below w.heap.size w w1 := Below.trans (by repeat' (first | with_reducible assumption | with_reducible exact Below.refl _ _ | refine Below.alloc ?_ ?_ _ | refine Below.setCell ?_ ?_ _ | refine Below.drew ?_ | refine below_drewN ?_ _ | (simp; done) | (simp; omega) | omega)) (hb1.mono (by first | (simp; done) | (simp; omega) | omega)); have hsz := hbel.size; have hz1 := hb1.size; (try simp only [World.size_alloc] at hz1); (try have hq0 : w.heap.size < w1.heap.size := by omega); (try have hq1 : w.heap.size + 1 < w1.heap.size := by omega); (try have hq2 : w.heap.size + 1 + 1 < w1.heap.size := by omega); (try have hq3 : w.heap.size + 1 + 1 + 1 < w1.heap.size := by omega)) | (go_at_call 73; refine (leftOf_any _ _ _ _ row r (hr.below (by repeat' (first | with_reducible assumption | with_reducible exact Below.refl _ _ | refine Below.alloc ?_ ?_ _ | refine Below.setCell ?_ ?_ _ | refine Below.drew ?_ | refine below_drewN ?_ _ | (simp; done) | (simp; omega) | omega)) (by first | (simp; done) | (simp; omega) | omega)) hn hok'.out g1 g2 g3).mono ?_; rintro e w1 ⟨rfl, hb1⟩; obtain ⟨hc1, hf1⟩ := bcell hb1; have hbel : Below w.heap.size w w1 := Below.trans (by repeat' (first | with_reducible assumption | with_reducible exact Below.refl _ _ | refine Below.alloc ?_ ?_ _ | refine Below.setCell ?_ ?_ _ | refine Below.drew ?_ | refine below_drewN ?_ _ | (simp; done) | (simp; omega) | omega)) (hb1.mono (by first | (simp; done) | (simp; omega) | omega)); have hsz := hbel.size; have hz1 := hb1.size; (try simp only [World.size_alloc] at hz1); (try have hq0 : w.heap.size < w1.heap.size := by omega); (try have hq1 : w.heap.size + 1 < w1.heap.size := by omega); (try have hq2 : w.heap.size + 1 + 1 < w1.heap.size := by omega); (try have hq3 : w.heap.size + 1 + 1 + 1 < w1.heap.size := by omega)))
      refine bodyPost_ret (v := .tuple #[.agg #[.int .i64 (leftOf row r).lo, .int .i64 (leftOf row r).hi], .int .i64 0]) (by first | (simp [results, Try.results21, go_sem]; done) | (simp [results, Try.results21, go_sem, World.cell?_setCell_same', *]; done) | (simp [results, Try.results21, go_sem]; first | exact ⟨rfl, rfl⟩ | rfl)) rfl ⟨by rw [hs.out, he.out], (by repeat' (first | with_reducible assumption | with_reducible exact Below.refl _ _ | refine Below.alloc ?_ ?_ _ | refine Below.setCell ?_ ?_ _ | refine Below.drew ?_ | refine below_drewN ?_ _ | (simp; done) | (simp; omega) | omega))⟩
    · have hs : Hid (leftS row r = ⟨0, 0⟩) := by unfold leftS; rw [if_neg (by simp [h1])]; trivial
      have he : Hid (leftE row r = 3) := by unfold leftE; rw [if_neg (by simp [h0]), if_neg h1]; trivial
      clear h0
      go_enter Try.func21, Try.ntmps21
      go_wp2_with (first | (go_at_call 25; refine (checkRow_any _ _ _ _ row (hr.below (by repeat' (first | with_reducible assumption | with_reducible exact Below.refl _ _ | refine Below.alloc ?_ ?_ _ | refine Below.setCell ?_ ?_ _ | refine Below.drew ?_ | refine below_drewN ?_ _ | (simp; done) | (simp; omega) | omega)) (by first | (simp; done) | (simp; omega) | omega)) hn).mono ?_; rintro e w1 ⟨rfl, hb1⟩; obtain ⟨hc1, hf1⟩ := bcell hb1; have hbel : Below w.heap.size w w1 := Below.trans (by repeat' (first | with_reducible assumption | with_reducible exact Below.refl _ _ | refine Below.alloc ?_ ?_ _ | refine Below.setCell ?_ ?_ _ | refine Below.drew ?_ | refine below_drewN ?_ _ | (simp; done) | (simp; omega) | omega)) (hb1.mono (by first | (simp; done) | (simp; omega) | omega)); have hsz := hbel.size; have hz1 := hb1.size; (try simp only [World.size_alloc] at hz1); (try have hq0 : w.heap.size < w1.heap.size := by omega); (try have hq1 : w.heap.size + 1 < w1.heap.size := by omega); (try have hq2 : w.heap.size + 1 + 1 < w1.heap.size := by omega); (try have hq3 : w.heap.size + 1 + 1 + 1 < w1.heap.size := by omega)) | (go_at_call 72; refine (isWithin_any r 1000000 _).mono ?_; rintro e w1 ⟨rfl, hb1⟩; obtain ⟨hc1, hf1⟩ := bcell hb1; have hbel : Below w.heap.size w w1 := Below.trans (by repeat' (first | with_reducible assumption | with_reducible exact Below.refl _ _ | refine Below.alloc ?_ ?_ _ | refine Below.setCell ?_ ?_ _ | refine Below.drew ?_ | refine below_drewN ?_ _ | (simp; done) | (simp; omega) | omega)) (hb1.mono (by first | (simp; done) | (simp; omega) | omega)); have hsz := hbel.size; have hz1 := hb1.size; (try simp only [World.size_alloc] at hz1); (try have hq0 : w.heap.size < w1.heap.size := by omega); (try have hq1 : w.heap.size + 1 < w1.heap.size := by omega); (try have hq2 : w.heap.size + 1 + 1 < w1.heap.size := by omega); (try have hq3 : w.heap.size + 1 + 1 + 1 < w1.heap.size := by omega)))
      refine bodyPost_ret (v := .tuple #[.agg #[.int .i64 0, .int .i64 0], .int .i64 3]) (by first | (simp [results, Try.results21, go_sem]; done) | (simp [results, Try.results21, go_sem, World.cell?_setCell_same', *]; done) | (simp [results, Try.results21, go_sem]; first | exact ⟨rfl, rfl⟩ | rfl)) rfl ⟨by rw [hs.out, he.out], (by repeat' (first | with_reducible assumption | with_reducible exact Below.refl _ _ | refine Below.alloc ?_ ?_ _ | refine Below.setCell ?_ ?_ _ | refine Below.drew ?_ | refine below_drewN ?_ _ | (simp; done) | (simp; omega) | omega))⟩
  · have hc : (checkRow row != 0) = true := by simp [h0]
    have hs : Hid (leftS row r = ⟨0, 0⟩) := by unfold leftS; rw [if_neg (by simp [h0])]; trivial
    have he : Hid (leftE row r = checkRow row) := by unfold leftE; rw [if_pos h0]; trivial
    clear h0
    go_enter Try.func21, Try.ntmps21
    go_wp2_with (first | (go_at_call 25; refine (checkRow_any _ _ _ _ row (hr.below (by repeat' (first | with_reducible assumption | with_reducible exact Below.refl _ _ | refine Below.alloc ?_ ?_ _ | refine Below.setCell ?_ ?_ _ | refine Below.drew ?_ | refine below_drewN ?_ _ | (simp; done) | (simp; omega) | omega)) (by first | (simp; done) | (simp; omega) | omega)) hn).mono ?_; rintro e w1 ⟨rfl, hb1⟩; obtain ⟨hc1, hf1⟩ := bcell hb1; have hbel : Below w.heap.size w w1 := Below.trans (by repeat' (first | with_reducible assumption | with_reducible exact Below.refl _ _ | refine Below.alloc ?_ ?_ _ | refine Below.setCell ?_ ?_ _ | refine Below.drew ?_ | refine below_drewN ?_ _ | (simp; done) | (simp; omega) | omega)) (hb1.mono (by first | (simp; done) | (simp; omega) | omega)); have hsz := hbel.size; have hz1 := hb1.size; (try simp only [World.size_alloc] at hz1); (try have hq0 : w.heap.size < w1.heap.size := by omega); (try have hq1 : w.heap.size + 1 < w1.heap.size := by omega); (try have hq2 : w.heap.size + 1 + 1 < w1.heap.size := by omega); (try have hq3 : w.heap.size + 1 + 1 + 1 < w1.heap.size := by omega)))
    refine bodyPost_ret (v := .tuple #[.agg #[.int .i64 0, .int .i64 0], .int .i64 (checkRow row)]) (by first | (simp [results, Try.results21, go_sem]; done) | (simp [results, Try.results21, go_sem, World.cell?_setCell_same', *]; done) | (simp [results, Try.results21, go_sem]; first | exact ⟨rfl, rfl⟩ | rfl)) rfl ⟨by rw [hs.out, he.out], (by repeat' (first | with_reducible assumption | with_reducible exact Below.refl _ _ | refine Below.alloc ?_ ?_ _ | refine Below.setCell ?_ ?_ _ | refine Below.drew ?_ | refine below_drewN ?_ _ | (simp; done) | (simp; omega) | omega))⟩

/-- How much is needed, or the error. -/
def needS (row : List Mt) (left : Int) (sure : Bool) : Int := if checkRow row = 0 ∧ 0 ≤ left ∧ left ≤ 1000000 ∧ neededAll sure left row ≤ 1000000 then neededAll sure left row else 0
def needE (row : List Mt) (left : Int) (sure : Bool) : Int := if checkRow row ≠ 0 then checkRow row else if left < 0 ∨ 1000000 < left then 3 else if 1000000 < neededAll sure left row then 4 else 0
set_option maxHeartbeats 400000 in
theorem refNeeded_any (w : World) (A : Option Addr) (n c : Nat) (row : List Mt) (left : Int) (sure : Bool) (hr : MtS w w.heap.size A n row) (hn : n ≤ 12) :
    Calls Try.prog 23 #[.slice A n c, .int .i64 left, .bool sure] w fun e w' =>
      e = .returned (.tuple #[.int .i64 (needS row left sure), .int .i64 (needE row left sure)]) ∧ Below w.heap.size w w' := by
  by_cases h0 : checkRow row = 0
  · have hc : (checkRow row != 0) = false := by simp [h0]
    obtain ⟨_, _, hok⟩ := checkRow_ok h0
    have hok' := hid hok
    clear hok
    by_cases h1 : 0 ≤ left
    · by_cases h2 : left ≤ 1000000
      · by_cases h3 : neededAll sure left row ≤ 1000000
        · have hs : Hid (needS row left sure = neededAll sure left row) := if_pos ⟨h0, h1, h2, h3⟩
          have he : Hid (needE row left sure = 0) := by unfold needE; rw [if_neg (by simp [h0]), if_neg (by omega), if_neg (by omega)]; trivial
          clear h0
          go_enter Try.func23, Try.ntmps23
          go_wp2_with (first | (go_at_call 25; refine (checkRow_any _ _ _ _ row (hr.below (by repeat' (first | with_reducible assumption | with_reducible exact Below.refl _ _ | refine Below.alloc ?_ ?_ _ | refine Below.setCell ?_ ?_ _ | refine Below.drew ?_ | refine below_drewN ?_ _ | (simp; done) | (simp; omega) | omega)) (by first | (simp; done) | (simp; omega) | omega)) hn).mono ?_; rintro e w1 ⟨rfl, hb1⟩; obtain ⟨hc1, hf1⟩ := bcell hb1; have hbel : Below w.heap.size w w1 := Below.trans (by repeat' (first | with_reducible assumption | with_reducible exact Below.refl _ _ | refine Below.alloc ?_ ?_ _ | refine Below.setCell ?_ ?_ _ | refine Below.drew ?_ | refine below_drewN ?_ _ | (simp; done) | (simp; omega) | omega)) (hb1.mono (by first | (simp; done) | (simp; omega) | omega)); have hsz := hbel.size; have hz1 := hb1.size; (try simp only [World.size_alloc] at hz1); (try have hq0 : w.heap.size < w1.heap.size := by omega); (try have hq1 : w.heap.size + 1 < w1.heap.size := by omega); (try have hq2 : w.heap.size + 1 + 1 < w1.heap.size := by omega); (try have hq3 : w.heap.size + 1 + 1 + 1 < w1.heap.size := by omega)) | (go_at_call 77; refine (neededOf_any _ _ _ _ row left sure (hr.below (by repeat' (first | with_reducible assumption | with_reducible exact Below.refl _ _ | refine Below.alloc ?_ ?_ _ | refine Below.setCell ?_ ?_ _ | refine Below.drew ?_ | refine below_drewN ?_ _ | (simp; done) | (simp; omega) | omega)) (by first | (simp; done) | (simp; omega) | omega)) hn hok'.out h1).mono ?_; rintro e w1 ⟨rfl, hb1⟩; obtain ⟨hc1, hf1⟩ := bcell hb1; have hbel : Below w.heap.size w w1 := Below.trans (by repeat' (first | with_reducible assumption | with_reducible exact Below.refl _ _ | refine Below.alloc ?_ ?_ _ | refine Below.setCell ?_ ?_ _ | refine Below.drew ?_ | refine below_drewN ?_ _ | (simp; done) | (simp; omega) | omega)) (hb1.mono (by first | (simp; done) | (simp; omega) | omega)); have hsz := hbel.size; have hz1 := hb1.size; (try simp only [World.size_alloc] at hz1); (try have hq0 : w.heap.size < w1.heap.size := by omega); (try have hq1 : w.heap.size + 1 < w1.heap.size := by omega); (try have hq2 : w.heap.size + 1 + 1 < w1.heap.size := by omega); (try have hq3 : w.heap.size + 1 + 1 + 1 < w1.heap.size := by omega)))
          go_ret2
          exact ⟨by rw [hs.out, he.out]; rfl, (by repeat' (first | with_reducible assumption | with_reducible exact Below.refl _ _ | refine Below.alloc ?_ ?_ _ | refine Below.setCell ?_ ?_ _ | refine Below.drew ?_ | refine below_drewN ?_ _ | (simp; done) | (simp; omega) | omega))⟩
        · have hs : Hid (needS row left sure = 0) := if_neg (by omega)
          have he : Hid (needE row left sure = 4) := by unfold needE; rw [if_neg (by simp [h0]), if_neg (by omega), if_pos (by omega)]; trivial
          clear h0
          go_enter Try.func23, Try.ntmps23
          go_wp2_with (first | (go_at_call 25; refine (checkRow_any _ _ _ _ row (hr.below (by repeat' (first | with_reducible assumption | with_reducible exact Below.refl _ _ | refine Below.alloc ?_ ?_ _ | refine Below.setCell ?_ ?_ _ | refine Below.drew ?_ | refine below_drewN ?_ _ | (simp; done) | (simp; omega) | omega)) (by first | (simp; done) | (simp; omega) | omega)) hn).mono ?_; rintro e w1 ⟨rfl, hb1⟩; obtain ⟨hc1, hf1⟩ := bcell hb1; have hbel : Below w.heap.size w w1 := Below.trans (by repeat' (first | with_reducible assumption | with_reducible exact Below.refl _ _ | refine Below.alloc ?_ ?_ _ | refine Below.setCell ?_ ?_ _ | refine Below.drew ?_ | refine below_drewN ?_ _ | (simp; done) | (simp; omega) | omega)) (hb1.mono (by first | (simp; done) | (simp; omega) | omega)); have hsz := hbel.size; have hz1 := hb1.size; (try simp only [World.size_alloc] at hz1); (try have hq0 : w.heap.size < w1.heap.size := by omega); (try have hq1 : w.heap.size + 1 < w1.heap.size := by omega); (try have hq2 : w.heap.size + 1 + 1 < w1.heap.size := by omega); (try have hq3 : w.heap.size + 1 + 1 + 1 < w1.heap.size := by omega)) | (go_at_call 77; refine (neededOf_any _ _ _ _ row left sure (hr.below (by repeat' (first | with_reducible assumption | with_reducible exact Below.refl _ _ | refine Below.alloc ?_ ?_ _ | refine Below.setCell ?_ ?_ _ | refine Below.drew ?_ | refine below_drewN ?_ _ | (simp; done) | (simp; omega) | omega)) (by first | (simp; done) | (simp; omega) | omega)) hn hok'.out h1).mono ?_; rintro e w1 ⟨rfl, hb1⟩; obtain ⟨hc1, hf1⟩ := bcell hb1; have hbel : Below w.heap.size w w1 := Below.trans (by repeat' (first | with_reducible assumption | with_reducible exact Below.refl _ _ | refine Below.alloc ?_ ?_ _ | refine Below.setCell ?_ ?_ _ | refine Below.drew ?_ | refine below_drewN ?_ _ | (simp; done) | (simp; omega) | omega)) (hb1.mono (by first | (simp; done) | (simp; omega) | omega)); have hsz := hbel.size; have hz1 := hb1.size; (try simp only [World.size_alloc] at hz1); (try have hq0 : w.heap.size < w1.heap.size := by omega); (try have hq1 : w.heap.size + 1 < w1.heap.size := by omega); (try have hq2 : w.heap.size + 1 + 1 < w1.heap.size := by omega); (try have hq3 : w.heap.size + 1 + 1 + 1 < w1.heap.size := by omega)))
          go_ret2
          exact ⟨by rw [hs.out, he.out]; rfl, (by repeat' (first | with_reducible assumption | with_reducible exact Below.refl _ _ | refine Below.alloc ?_ ?_ _ | refine Below.setCell ?_ ?_ _ | refine Below.drew ?_ | refine below_drewN ?_ _ | (simp; done) | (simp; omega) | omega))⟩
      · have hs : Hid (needS row left sure = 0) := if_neg (by omega)
        have he : Hid (needE row left sure = 3) := by unfold needE; rw [if_neg (by simp [h0]), if_pos (by omega)]; trivial
        clear h0
        go_enter Try.func23, Try.ntmps23
        go_wp2_with (first | (go_at_call 25; refine (checkRow_any _ _ _ _ row (hr.below (by repeat' (first | with_reducible assumption | with_reducible exact Below.refl _ _ | refine Below.alloc ?_ ?_ _ | refine Below.setCell ?_ ?_ _ | refine Below.drew ?_ | refine below_drewN ?_ _ | (simp; done) | (simp; omega) | omega)) (by first | (simp; done) | (simp; omega) | omega)) hn).mono ?_; rintro e w1 ⟨rfl, hb1⟩; obtain ⟨hc1, hf1⟩ := bcell hb1; have hbel : Below w.heap.size w w1 := Below.trans (by repeat' (first | with_reducible assumption | with_reducible exact Below.refl _ _ | refine Below.alloc ?_ ?_ _ | refine Below.setCell ?_ ?_ _ | refine Below.drew ?_ | refine below_drewN ?_ _ | (simp; done) | (simp; omega) | omega)) (hb1.mono (by first | (simp; done) | (simp; omega) | omega)); have hsz := hbel.size; have hz1 := hb1.size; (try simp only [World.size_alloc] at hz1); (try have hq0 : w.heap.size < w1.heap.size := by omega); (try have hq1 : w.heap.size + 1 < w1.heap.size := by omega); (try have hq2 : w.heap.size + 1 + 1 < w1.heap.size := by omega); (try have hq3 : w.heap.size + 1 + 1 + 1 < w1.heap.size := by omega)))
        go_ret2
        exact ⟨by rw [hs.out, he.out]; rfl, (by repeat' (first | with_reducible assumption | with_reducible exact Below.refl _ _ | refine Below.alloc ?_ ?_ _ | refine Below.setCell ?_ ?_ _ | refine Below.drew ?_ | refine below_drewN ?_ _ | (simp; done) | (simp; omega) | omega))⟩
    · have hs : Hid (needS row left sure = 0) := if_neg (by omega)
      have he : Hid (needE row left sure = 3) := by unfold needE; rw [if_neg (by simp [h0]), if_pos (by omega)]; trivial
      clear h0
      go_enter Try.func23, Try.ntmps23
      go_wp2_with (first | (go_at_call 25; refine (checkRow_any _ _ _ _ row (hr.below (by repeat' (first | with_reducible assumption | with_reducible exact Below.refl _ _ | refine Below.alloc ?_ ?_ _ | refine Below.setCell ?_ ?_ _ | refine Below.drew ?_ | refine below_drewN ?_ _ | (simp; done) | (simp; omega) | omega)) (by first | (simp; done) | (simp; omega) | omega)) hn).mono ?_; rintro e w1 ⟨rfl, hb1⟩; obtain ⟨hc1, hf1⟩ := bcell hb1; have hbel : Below w.heap.size w w1 := Below.trans (by repeat' (first | with_reducible assumption | with_reducible exact Below.refl _ _ | refine Below.alloc ?_ ?_ _ | refine Below.setCell ?_ ?_ _ | refine Below.drew ?_ | refine below_drewN ?_ _ | (simp; done) | (simp; omega) | omega)) (hb1.mono (by first | (simp; done) | (simp; omega) | omega)); have hsz := hbel.size; have hz1 := hb1.size; (try simp only [World.size_alloc] at hz1); (try have hq0 : w.heap.size < w1.heap.size := by omega); (try have hq1 : w.heap.size + 1 < w1.heap.size := by omega); (try have hq2 : w.heap.size + 1 + 1 < w1.heap.size := by omega); (try have hq3 : w.heap.size + 1 + 1 + 1 < w1.heap.size := by omega)))
      go_ret2
      exact ⟨by rw [hs.out, he.out]; rfl, (by repeat' (first | with_reducible assumption | with_reducible exact Below.refl _ _ | refine Below.alloc ?_ ?_ _ | refine Below.setCell ?_ ?_ _ | refine Below.drew ?_ | refine below_drewN ?_ _ | (simp; done) | (simp; omega) | omega))⟩
  · have hc : (checkRow row != 0) = true := by simp [h0]
    have hs : Hid (needS row left sure = 0) := if_neg (by simp [h0])
    have he : Hid (needE row left sure = checkRow row) := by unfold needE; rw [if_pos h0]; trivial
    clear h0
    go_enter Try.func23, Try.ntmps23
    go_wp2_with (first | (go_at_call 25; refine (checkRow_any _ _ _ _ row (hr.below (by repeat' (first | with_reducible assumption | with_reducible exact Below.refl _ _ | refine Below.alloc ?_ ?_ _ | refine Below.setCell ?_ ?_ _ | refine Below.drew ?_ | refine below_drewN ?_ _ | (simp; done) | (simp; omega) | omega)) (by first | (simp; done) | (simp; omega) | omega)) hn).mono ?_; rintro e w1 ⟨rfl, hb1⟩; obtain ⟨hc1, hf1⟩ := bcell hb1; have hbel : Below w.heap.size w w1 := Below.trans (by repeat' (first | with_reducible assumption | with_reducible exact Below.refl _ _ | refine Below.alloc ?_ ?_ _ | refine Below.setCell ?_ ?_ _ | refine Below.drew ?_ | refine below_drewN ?_ _ | (simp; done) | (simp; omega) | omega)) (hb1.mono (by first | (simp; done) | (simp; omega) | omega)); have hsz := hbel.size; have hz1 := hb1.size; (try simp only [World.size_alloc] at hz1); (try have hq0 : w.heap.size < w1.heap.size := by omega); (try have hq1 : w.heap.size + 1 < w1.heap.size := by omega); (try have hq2 : w.heap.size + 1 + 1 < w1.heap.size := by omega); (try have hq3 : w.heap.size + 1 + 1 + 1 < w1.heap.size := by omega)))
    go_ret2
    exact ⟨by rw [hs.out, he.out]; rfl, (by repeat' (first | with_reducible assumption | with_reducible exact Below.refl _ _ | refine Below.alloc ?_ ?_ _ | refine Below.setCell ?_ ?_ _ | refine Below.drew ?_ | refine below_drewN ?_ _ | (simp; done) | (simp; omega) | omega))⟩

def okW (r : Rg) : Bool := okR r 1000000
def checkScales (row : List Mt) (sc : List Rg) : Int := if checkRow row ≠ 0 then checkRow row else if sc.length ≠ row.length + 1 then 15 else if sc.all okW then 0 else 3
set_option maxHeartbeats 400000 in
theorem checkScales_any (w : World) (A A' : Option Addr) (n c n' c' : Nat) (row : List Mt) (sc : List Rg) (hr : MtS w w.heap.size A n row) (hn : n ≤ 12) (hr' : RgS w w.heap.size A' n' sc) (hn' : n' ≤ 12) :
    Calls Try.prog 31 #[.slice A n c, .slice A' n' c'] w fun e w' => e = .returned (.int .i64 (checkScales row sc)) ∧ Below w.heap.size w w' := by
  have hlen := hid hr.len
  have hlen' := hid hr'.len
  by_cases h0 : checkRow row = 0
  · have hc : (checkRow row != 0) = false := by simp [h0]
    by_cases h1 : n' = n + 1
    · have h1' : ((n' : Int) != (n : Int) + 1) = false := by rw [h1]; simp
      have he1 : sc.all okW = true → Hid (checkScales row sc = 0) := fun h => by unfold checkScales; rw [if_neg (by simp [h0]), if_neg (by rw [hlen.out, hlen'.out]; omega), if_pos h]; trivial
      have he2 : ∀ k r, sc[k]? = some r → okR r 1000000 = false → Hid (checkScales row sc = 3) := fun k r hk h => by
        unfold checkScales
        rw [if_neg (by simp [h0]), if_neg (by rw [hlen.out, hlen'.out]; omega), if_neg]
        · trivial
        · intro hh
          have := List.all_eq_true.1 hh r (List.mem_of_getElem? hk)
          rw [okW, h] at this; cases this
      have H1 := hid he1
      have H2 := hid he2
      clear h0 h1 he1 he2
      go_enter Try.func31, Try.ntmps31
      go_wp2_with (first | (go_at_call 25; refine (checkRow_any _ _ _ _ row (hr.below (by repeat' (first | with_reducible assumption | with_reducible exact Below.refl _ _ | refine Below.alloc ?_ ?_ _ | refine Below.setCell ?_ ?_ _ | refine Below.drew ?_ | refine below_drewN ?_ _ | (simp; done) | (simp; omega) | omega)) (by first | (simp; done) | (simp; omega) | omega)) hn).mono ?_; rintro e w1 ⟨rfl, hb1⟩; obtain ⟨hc1, hf1⟩ := bcell hb1; have hbel : Below w.heap.size w w1 := Below.trans (by repeat' (first | with_reducible assumption | with_reducible exact Below.refl _ _ | refine Below.alloc ?_ ?_ _ | refine Below.setCell ?_ ?_ _ | refine Below.drew ?_ | refine below_drewN ?_ _ | (simp; done) | (simp; omega) | omega)) (hb1.mono (by first | (simp; done) | (simp; omega) | omega)); have hsz := hbel.size; have hz1 := hb1.size; (try simp only [World.size_alloc] at hz1); (try have hq0 : w.heap.size < w1.heap.size := by omega); (try have hq1 : w.heap.size + 1 < w1.heap.size := by omega); (try have hq2 : w.heap.size + 1 + 1 < w1.heap.size := by omega); (try have hq3 : w.heap.size + 1 + 1 + 1 < w1.heap.size := by omega)))
      go_loopw [5] (fun i wr => ∃ k : Nat, k ≤ n' ∧ i = .int .i64 k ∧ Hid ((sc.take k).all okW = true) ∧ Below w.heap.size w wr) (fun i _ => n' - (intOf i).toNat)
      case atStart => exact ⟨0, by omega, rfl, rfl, (by repeat' (first | with_reducible assumption | with_reducible exact Below.refl _ _ | refine Below.alloc ?_ ?_ _ | refine Below.setCell ?_ ?_ _ | refine Below.drew ?_ | refine below_drewN ?_ _ | (simp; done) | (simp; omega) | omega))⟩
      case round =>
        obtain ⟨k, hk, rfl, hall, hbel⟩ := hrel
        have hsz := hbel.size
        by_cases hlt : k < n'
        · obtain ⟨b, off, m, rfl, hb, hm, c0, c1⟩ := (hr'.below hbel (Nat.le_refl _)).at_ hlt
          have Hm := hid hm
          clear hm
          have hb' : b < wr.heap.size := by omega
          by_cases ok1 : okR m 1000000 = true
          · go_wp2_with (first | (go_at_call 72; refine (isWithin_any m 1000000 _).mono ?_; rintro e w1 ⟨rfl, hb1⟩; obtain ⟨hc1, hf1⟩ := bcell hb1; have hbel : Below w.heap.size w w1 := Below.trans (by repeat' (first | with_reducible assumption | with_reducible exact Below.refl _ _ | refine Below.alloc ?_ ?_ _ | refine Below.setCell ?_ ?_ _ | refine Below.drew ?_ | refine below_drewN ?_ _ | (simp; done) | (simp; omega) | omega)) (hb1.mono (by first | (simp; done) | (simp; omega) | omega)); have hsz := hbel.size; have hz1 := hb1.size; (try simp only [World.size_alloc] at hz1); (try have hq0 : w.heap.size < w1.heap.size := by omega); (try have hq1 : w.heap.size + 1 < w1.heap.size := by omega); (try have hq2 : w.heap.size + 1 + 1 < w1.heap.size := by omega); (try have hq3 : w.heap.size + 1 + 1 + 1 < w1.heap.size := by omega)))
            exact ⟨⟨k + 1, by omega, by go_num, all_take_succ hall.out Hm.out ok1, (by repeat' (first | with_reducible assumption | with_reducible exact Below.refl _ _ | refine Below.alloc ?_ ?_ _ | refine Below.setCell ?_ ?_ _ | refine Below.drew ?_ | refine below_drewN ?_ _ | (simp; done) | (simp; omega) | omega))⟩, by simp [intOf]; omega⟩
          · have ok1' : okR m 1000000 = false := by simpa using ok1
            go_wp2_with (first | (go_at_call 72; refine (isWithin_any m 1000000 _).mono ?_; rintro e w1 ⟨rfl, hb1⟩; obtain ⟨hc1, hf1⟩ := bcell hb1; have hbel : Below w.heap.size w w1 := Below.trans (by repeat' (first | with_reducible assumption | with_reducible exact Below.refl _ _ | refine Below.alloc ?_ ?_ _ | refine Below.setCell ?_ ?_ _ | refine Below.drew ?_ | refine below_drewN ?_ _ | (simp; done) | (simp; omega) | omega)) (hb1.mono (by first | (simp; done) | (simp; omega) | omega)); have hsz := hbel.size; have hz1 := hb1.size; (try simp only [World.size_alloc] at hz1); (try have hq0 : w.heap.size < w1.heap.size := by omega); (try have hq1 : w.heap.size + 1 < w1.heap.size := by omega); (try have hq2 : w.heap.size + 1 + 1 < w1.heap.size := by omega); (try have hq3 : w.heap.size + 1 + 1 + 1 < w1.heap.size := by omega)))
            go_ret
            exact ⟨by rw [(H2.out k m Hm.out ok1').out]; rfl, (by repeat' (first | with_reducible assumption | with_reducible exact Below.refl _ _ | refine Below.alloc ?_ ?_ _ | refine Below.setCell ?_ ?_ _ | refine Below.drew ?_ | refine below_drewN ?_ _ | (simp; done) | (simp; omega) | omega))⟩
        · have hfin : Hid (checkScales row sc = 0) := H1.out (by have := hall.out; rwa [List.take_of_length_le (by rw [hlen'.out]; omega)] at this)
          go_wp2
          go_ret
          exact ⟨by rw [hfin.out]; rfl, (by repeat' (first | with_reducible assumption | with_reducible exact Below.refl _ _ | refine Below.alloc ?_ ?_ _ | refine Below.setCell ?_ ?_ _ | refine Below.drew ?_ | refine below_drewN ?_ _ | (simp; done) | (simp; omega) | omega))⟩
    · have h1' : ((n' : Int) != (n : Int) + 1) = true := by rw [bne_iff_ne]; omega
      have he : Hid (checkScales row sc = 15) := by unfold checkScales; rw [if_neg (by simp [h0]), if_pos (by rw [hlen.out, hlen'.out]; omega)]; trivial
      clear h0 h1
      go_enter Try.func31, Try.ntmps31
      go_wp2_with (first | (go_at_call 25; refine (checkRow_any _ _ _ _ row (hr.below (by repeat' (first | with_reducible assumption | with_reducible exact Below.refl _ _ | refine Below.alloc ?_ ?_ _ | refine Below.setCell ?_ ?_ _ | refine Below.drew ?_ | refine below_drewN ?_ _ | (simp; done) | (simp; omega) | omega)) (by first | (simp; done) | (simp; omega) | omega)) hn).mono ?_; rintro e w1 ⟨rfl, hb1⟩; obtain ⟨hc1, hf1⟩ := bcell hb1; have hbel : Below w.heap.size w w1 := Below.trans (by repeat' (first | with_reducible assumption | with_reducible exact Below.refl _ _ | refine Below.alloc ?_ ?_ _ | refine Below.setCell ?_ ?_ _ | refine Below.drew ?_ | refine below_drewN ?_ _ | (simp; done) | (simp; omega) | omega)) (hb1.mono (by first | (simp; done) | (simp; omega) | omega)); have hsz := hbel.size; have hz1 := hb1.size; (try simp only [World.size_alloc] at hz1); (try have hq0 : w.heap.size < w1.heap.size := by omega); (try have hq1 : w.heap.size + 1 < w1.heap.size := by omega); (try have hq2 : w.heap.size + 1 + 1 < w1.heap.size := by omega); (try have hq3 : w.heap.size + 1 + 1 + 1 < w1.heap.size := by omega)))
      go_ret
      exact ⟨by rw [he.out]; rfl, (by repeat' (first | with_reducible assumption | with_reducible exact Below.refl _ _ | refine Below.alloc ?_ ?_ _ | refine Below.setCell ?_ ?_ _ | refine Below.drew ?_ | refine below_drewN ?_ _ | (simp; done) | (simp; omega) | omega))⟩
  · have hc : (checkRow row != 0) = true := by simp [h0]
    have he : Hid (checkScales row sc = checkRow row) := by unfold checkScales; rw [if_pos h0]; trivial
    clear h0
    go_enter Try.func31, Try.ntmps31
    go_wp2_with (first | (go_at_call 25; refine (checkRow_any _ _ _ _ row (hr.below (by repeat' (first | with_reducible assumption | with_reducible exact Below.refl _ _ | refine Below.alloc ?_ ?_ _ | refine Below.setCell ?_ ?_ _ | refine Below.drew ?_ | refine below_drewN ?_ _ | (simp; done) | (simp; omega) | omega)) (by first | (simp; done) | (simp; omega) | omega)) hn).mono ?_; rintro e w1 ⟨rfl, hb1⟩; obtain ⟨hc1, hf1⟩ := bcell hb1; have hbel : Below w.heap.size w w1 := Below.trans (by repeat' (first | with_reducible assumption | with_reducible exact Below.refl _ _ | refine Below.alloc ?_ ?_ _ | refine Below.setCell ?_ ?_ _ | refine Below.drew ?_ | refine below_drewN ?_ _ | (simp; done) | (simp; omega) | omega)) (hb1.mono (by first | (simp; done) | (simp; omega) | omega)); have hsz := hbel.size; have hz1 := hb1.size; (try simp only [World.size_alloc] at hz1); (try have hq0 : w.heap.size < w1.heap.size := by omega); (try have hq1 : w.heap.size + 1 < w1.heap.size := by omega); (try have hq2 : w.heap.size + 1 + 1 < w1.heap.size := by omega); (try have hq3 : w.heap.size + 1 + 1 + 1 < w1.heap.size := by omega)))
    go_ret
    exact ⟨by rw [he.out]; rfl, (by repeat' (first | with_reducible assumption | with_reducible exact Below.refl _ _ | refine Below.alloc ?_ ?_ _ | refine Below.setCell ?_ ?_ _ | refine Below.drew ?_ | refine below_drewN ?_ _ | (simp; done) | (simp; omega) | omega))⟩
end Go.Proofs.Ytdcglphekafpdaa
