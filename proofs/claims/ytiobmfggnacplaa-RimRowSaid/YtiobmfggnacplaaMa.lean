/- Texts of the proof, laid together by program. -/
import Derived.WalkKit
import Derived.WalkSpells
import Derived.WalkLawsBesides
import Derived.Deep.Draws
import Derived.Deep.AppendLies
import Derived.Laws.Rows
import Derived.StillTail
import Derived.RangeFuncNested
import Derived.RangeFuncBound
import Derived.RangeFuncCalls
import Derived.RangeFuncLeaves
import Derived.OwnWalkIn
import Derived.TacticsInMore
import Derived.LoopNIn
import Derived.LoopIn
import Derived.OrdersIn
import Derived.RegionIn
import Derived.Maps.OwnOps
import Derived.Maps.OwnSet
import Derived.Maps.RangeWalk
import Derived.Lib.MinMax
import Derived.Test.YtiobmfggnacplaaProg
import Derived.Deep.QuietTactic
import Derived.BigQuiet
import Derived.LoopTactic
set_option linter.unusedSimpArgs false
set_option linter.unusedVariables false
/- Words for memory: what a slice value reads as; plain theorems on worlds. No program in sight. -/
namespace Go.Proofs.Ytiobmfggnacplaa
open Go.RowKit

theorem hid {p : Prop} (h : p) : Hid p := h
/-- What holds of worlds: below block B all is as it was. A world that is behind another one keeps its cells. -/
theorem bcell {W w1 : World} {B : Nat} (hb : Below B W w1) : (∀ b o, b < B → w1.cell? ⟨b, o, none⟩ = W.cell? ⟨b, o, none⟩) ∧ (∀ b o, b < B → w1.frozen? ⟨b, o, none⟩ = W.frozen? ⟨b, o, none⟩) :=
  ⟨fun b o h => hb.cell (p := ⟨b, o, none⟩) h, fun b o h => hb.frozen (p := ⟨b, o, none⟩) h⟩
theorem below_drewN {B : Nat} {a w : World} (h : Below B a w) (n : Nat) : Below B a (w.drewN n) := ⟨h.os, h.tape, h.output, h.size, h.block⟩

/-- The slice value '.slice A n c' holds the cells xs (n elements of so many cells) and lies below block B. -/
def Sl (w : World) (B size : Nat) (A : Option Addr) (n : Nat) (xs : List Value) : Prop :=
  xs.length = n * size ∧ (0 < n → ∃ b off, A = some ⟨b, off, none⟩ ∧ b < B ∧ ∀ j u, xs[j]? = some u → w.cell? ⟨b, off + j, none⟩ = some u)

section
variable {w w' : World} {B B' size n : Nat} {A : Option Addr} {xs : List Value}
theorem Sl.none_ : Sl w B size A 0 [] := ⟨by simp, fun h => absurd h (by omega)⟩
theorem Sl.keep (h : Sl w B size A n xs) (hk : ∀ p : Addr, p.block < B → w'.cell? p = w.cell? p) : Sl w' B size A n xs :=
  ⟨h.1, fun hn => by
    obtain ⟨b, off, e, hb, hc⟩ := h.2 hn
    exact ⟨b, off, e, hb, fun j u hu => (hk ⟨b, off + j, none⟩ hb).trans (hc j u hu)⟩⟩
theorem Sl.more (h : Sl w B size A n xs) (hB : B ≤ B') : Sl w B' size A n xs :=
  ⟨h.1, fun hn => by
    obtain ⟨b, off, e, hb, hc⟩ := h.2 hn
    exact ⟨b, off, e, by omega, hc⟩⟩
theorem Sl.below (h : Sl w B size A n xs) (hb : Below B w w') : Sl w' B size A n xs := h.keep fun _ hp => hb.cell hp
theorem Sl.below' (h : Sl w B size A n xs) (hb : Below B w w') (hB : B ≤ B') : Sl w' B' size A n xs := (h.below hb).more hB
theorem Sl.drew (h : Sl w B size A n xs) : Sl w.drew B size A n xs := h
theorem Sl.drewN (h : Sl w B size A n xs) (k : Nat) : Sl (w.drewN k) B size A n xs := h
theorem Sl.alloc (h : Sl w B size A n xs) (hB : B ≤ w.heap.size) (o : Obj) : Sl (w.alloc o) B size A n xs := h.keep fun p hp => World.cell?_alloc_lt w o p (by omega)
theorem Sl.setCell (h : Sl w B size A n xs) {p : Addr} (hB : B ≤ p.block) (u : Value) : Sl (w.setCell p u) B size A n xs :=
  h.keep fun q hq => World.cell?_setCell_other w p q u (fun e => by subst e; omega)
/-- A cut 's[k:m]' of it. -/
theorem Sl.cut (h : Sl w B size A n xs) {k m cap : Nat} (hk : k ≤ m) (hm : m ≤ n) (hc : n ≤ cap) :
    Sl w B size (if cap = k then A else A.map (·.add (k * size))) (m - k) ((xs.drop (k * size)).take ((m - k) * size)) := by
  refine ⟨?_, fun hn => ?_⟩
  · rw [List.length_take, List.length_drop, h.1, ← Nat.sub_mul, Nat.min_eq_left]
    exact Nat.mul_le_mul_right _ (by omega)
  · obtain ⟨b, off, rfl, hb, hcell⟩ := h.2 (by omega)
    rw [if_neg (by omega)]
    refine ⟨b, off + k * size, ?_, hb, fun j u hu => ?_⟩
    · simp only [Option.map_some, Addr.add]
      split <;> simp_all
    · rw [Nat.add_assoc]
      refine hcell _ u ?_
      rw [List.getElem?_take] at hu
      split at hu
      · rwa [List.getElem?_drop] at hu
      · cases hu
theorem Sl.of_own {base : Nat} {e : TypeId} {c : Nat} (h : w.ownsRow base e size (.slice A n c) n xs) : Sl w w.heap.size size A n xs := by
  refine ⟨h.1, fun hn => ?_⟩
  obtain ⟨g, cap, hv, _, hlt⟩ := h.form hn
  have hA : A = some ⟨g, 0, none⟩ := by injection hv
  subst hA
  refine ⟨g, 0, rfl, hlt, fun j u hu => ?_⟩
  have := h.cells (g := g) rfl j u hu
  rwa [Addr.add_lit] at this
end

/-- Block g is just the cells cs of element type t, none frozen. -/
def Blk (w : World) (g : Nat) (t : TypeId) (cs : Array Value) : Prop := w.heap[g]? = some (.cells cs t (0, 0))

section
variable {w w' : World} {g : Nat} {t : TypeId} {cs : Array Value}
theorem Blk.lt (h : Blk w g t cs) : g < w.heap.size := by
  rcases Nat.lt_or_ge g w.heap.size with hlt | hge
  · exact hlt
  · unfold Blk at h; rw [Array.getElem?_eq_none hge] at h; cases h
theorem Blk.cell (h : Blk w g t cs) (i : Nat) : w.cell? ⟨g, i, none⟩ = cs[i]? := cell_of_row w g i cs t (0, 0) h
theorem Blk.frozen (h : Blk w g t cs) (i : Nat) : w.frozen? ⟨g, i, none⟩ = false := by
  unfold Blk at h
  simp [World.frozen?, h]
theorem Blk.new (w : World) (t : TypeId) (cs : Array Value) : Blk (w.alloc (.cells cs t)) w.heap.size t cs := heap_alloc_new w _
theorem Blk.new' {w : World} {t : TypeId} {cs : Array Value} {g : Nat} (h : w.heap.size = g) : Blk (w.alloc (.cells cs t)) g t cs := by subst h; exact Blk.new w t cs
theorem Blk.drew (h : Blk w g t cs) : Blk w.drew g t cs := h
theorem Blk.drewN (h : Blk w g t cs) (n : Nat) : Blk (w.drewN n) g t cs := h
theorem Blk.alloc (h : Blk w g t cs) (o : Obj) : Blk (w.alloc o) g t cs := (Below.heap_alloc w o g h.lt).trans h
theorem Blk.set_ (h : Blk w g t cs) (i : Nat) (u : Value) : Blk (w.setCell ⟨g, i, none⟩ u) g t (cs.setIfInBounds i u) := by
  unfold Blk at h ⊢
  simp [World.setCell, Array.getElem?_modify, h]
theorem Blk.set2 {x y a b : Value} (h : Blk w g t #[x, y]) : Blk ((w.setCell ⟨g, 0, none⟩ a).setCell ⟨g, 1, none⟩ b) g t #[a, b] := (h.set_ 0 a).set_ 1 b
theorem Blk.far (h : Blk w g t cs) {p : Addr} (hp : g ≠ p.block) (u : Value) : Blk (w.setCell p u) g t cs := (Below.heap_setCell w p u g hp).trans h
theorem Blk.below {B : Nat} (h : Blk w g t cs) (hb : Below B w w') (hg : g < B) : Blk w' g t cs := (hb.block g hg).trans h
theorem Blk.grown {row : Option Nat} (h : Blk w g t cs) (hb : w.grownBy w' row) (hg : some g ≠ row) : Blk w' g t cs := (hb.block g h.lt hg).trans h
end

/-- The cells of a number. -/
def cI (x : Int) : List Value := [.int .i64 x]
theorem flat_at {α : Type} {f : α → List Value} {s : Nat} (hf : ∀ x, (f x).length = s) : ∀ (l : List α) (k j : Nat) (x : α), l[k]? = some x → j < s → (l.flatMap f)[k * s + j]? = (f x)[j]?
  | [], k, j, x, h, _ => by simp at h
  | y :: l, 0, j, x, h, hj => by
    obtain rfl : y = x := by simpa using h
    rw [List.flatMap_cons, List.getElem?_append_left (by rw [hf]; omega)]
    simp
  | y :: l, k + 1, j, x, h, hj => by
    rw [List.flatMap_cons, List.getElem?_append_right (by rw [hf, Nat.succ_mul]; omega), hf]
    have := flat_at hf l k j x (by simpa using h) hj
    rw [← this]
    congr 1
    rw [Nat.succ_mul]; omega
theorem flat_len {α : Type} {f : α → List Value} {s : Nat} (hf : ∀ x, (f x).length = s) (l : List α) : (l.flatMap f).length = l.length * s := by
  induction l with
  | nil => simp
  | cons x l ih => rw [List.flatMap_cons, List.length_append, hf, ih, List.length_cons, Nat.succ_mul]; omega

def InS (w : World) (B : Nat) (A : Option Addr) (n : Nat) (l : List Int) : Prop := Sl w B 1 A n (l.flatMap cI)


section
variable {w w' : World} {B B' n : Nat} {A : Option Addr}
theorem InS.len {l : List Int} (h : InS w B A n l) : l.length = n := by
  have := h.1; rw [flat_len (s := 1) (fun _ => rfl)] at this; omega
theorem InS.at_ {l : List Int} (h : InS w B A n l) {k : Nat} (hk : k < n) : ∃ b off x, A = some ⟨b, off, none⟩ ∧ b < B ∧ l[k]? = some x ∧
    w.cell? ⟨b, off + k, none⟩ = some (.int .i64 x) := by
  obtain ⟨b, off, hA, hb, hc⟩ := h.2 (by omega)
  have hl : k < l.length := by rw [h.len]; exact hk
  have hm : l[k]? = some l[k] := List.getElem?_eq_getElem hl
  refine ⟨b, off, l[k], hA, hb, hm, ?_⟩
  have := hc (k * 1 + 0) _ (by rw [flat_at (s := 1) (f := cI) (fun _ => rfl) l k 0 _ hm (by omega)]; rfl)
  simpa using this
theorem InS.below {l : List Int} (h : InS w B A n l) (hb : Below B w w') (hB : B ≤ B') : InS w' B' A n l := Sl.below' h hb hB
end
theorem add_at (b off j : Nat) : (⟨b, off, none⟩ : Addr).add j = ⟨b, off + j, none⟩ := by unfold Addr.add; split <;> simp_all
theorem two_cells {w : World} {a b : Value} {B : Nat} {t : TypeId} {j : Nat} {u : Value} (hj : [a, b][j]? = some u) (hB : w.heap.size = B) : (w.alloc (.cells #[a, b] t)).cell? ((⟨B, 0, none⟩ : Addr).add j) = some u := by
  rw [show (⟨B, 0, none⟩ : Addr).add j = ⟨B, j, none⟩ by unfold Addr.add; split <;> simp_all]
  exact (Blk.cell (Blk.new' hB) j).trans (by simpa using hj)
theorem two_one (a b : Int) : ∀ u ∈ [Value.int .i64 a, .int .i64 b], u.oneCell' = true := by
  intro u hu
  simp only [List.mem_cons, List.not_mem_nil, or_false] at hu
  rcases hu with rfl | rfl <;> rfl
theorem one1 (x : Int) : ∀ u ∈ [Value.int .i64 x], u.oneCell' = true := by
  intro u hu
  simp only [List.mem_cons, List.not_mem_nil, or_false] at hu
  subst hu; rfl
theorem sl_of_owns {w : World} {base : Nat} {e : TypeId} {size : Nat} {v : Value} {n : Nat} {xs : List Value} (h : w.ownsRow base e size v n xs) : ∃ A c, v = .slice A n c ∧ Sl w w.heap.size size A n xs := by
  obtain ⟨hl, ⟨rfl, rfl⟩ | ⟨g, cap, cur, rfl, hb, hg, hn, hc, hs, ht⟩⟩ := h
  · exact ⟨none, 0, rfl, hl, fun h => absurd h (by omega)⟩
  · refine ⟨_, cap, rfl, hl, fun hn0 => ⟨g, 0, rfl, (Array.getElem?_eq_some_iff.1 hg).1, fun j u hj => ?_⟩⟩
    have hjl : j < n * size := by rw [← hl]; exact (List.getElem?_eq_some_iff.1 hj).1
    rw [← ht, List.getElem?_take_of_lt hjl] at hj
    simp only [Nat.zero_add]
    exact (cell_of_row w g j cur e (0, 0) hg).trans (by simpa using hj)
theorem own_full {e : TypeId} {size base n : Nat} {xs : List Value} (w : World) {cur : Array Value} (hb : base ≤ w.heap.size) (hm : n ≤ maxLen) (hs : cur.size = n * size) (hx : cur.toList = xs) :
    (w.alloc (.cells cur e)).ownsRow base e size (.slice (some ⟨w.heap.size, 0, none⟩) n n) n xs := by
  subst hx
  refine ⟨by simpa using hs, .inr ⟨w.heap.size, n, cur, rfl, hb, heap_alloc_new w _, Nat.le_refl _, hm, hs, ?_⟩⟩
  rw [List.take_of_length_le (by simp; omega)]
theorem own_form2 {w : World} {base : Nat} {e : TypeId} {size : Nat} {v : Value} {n : Nat} {xs : List Value} (h : w.ownsRow base e size v n xs) (hn : 0 < n) : ∃ g cap, v = .slice (some ⟨g, 0, none⟩) n cap ∧ base ≤ g ∧ g < w.heap.size := by
  obtain ⟨g, cap, h1, h2, h3⟩ := h.form hn
  exact ⟨g, cap, h1, h2, h3⟩
theorem own_cell {w : World} {base : Nat} {e : TypeId} {size g n cap : Nat} {xs : List Value} (h : w.ownsRow base e size (.slice (some ⟨g, 0, none⟩) n cap) n xs) {j : Nat} {u : Value} (hj : xs[j]? = some u) : w.cell? ⟨g, j, none⟩ = some u := by
  have := h.cells (g := g) rfl j u hj
  rwa [Addr.add_lit, Nat.zero_add] at this
theorem owns_below {w w' : World} {base : Nat} {e : TypeId} {size : Nat} {v : Value} {n : Nat} {xs : List Value} (h : w.ownsRow base e size v n xs) (hb : Below w.heap.size w w') : w'.ownsRow base e size v n xs :=
  h.kept (row := none) ⟨hb.os, hb.tape, hb.output, hb.size, fun k hk _ => hb.block k hk⟩ (by cases hv : v.ownBlock with | none => exact .inl rfl | some k => exact .inr (by simp))
theorem owns_mono {w : World} {base base' : Nat} {e : TypeId} {size : Nat} {v : Value} {n : Nat} {xs : List Value} (h : w.ownsRow base e size v n xs) (hb : base' ≤ base) : w.ownsRow base' e size v n xs := by
  obtain ⟨h1, h2 | ⟨g, cap, cur, hv, hb', h3⟩⟩ := h
  · exact ⟨h1, .inl h2⟩
  · exact ⟨h1, .inr ⟨g, cap, cur, hv, Nat.le_trans hb hb', h3⟩⟩
theorem below_own {B : Nat} {a w w' : World} {row : Option Nat} {R : Nat → Prop} (h : Below B a w) (ho : ∀ k, row = some k → B ≤ k ∧ R k) (k : w.grownBy w' row) (hB : B ≤ a.heap.size) : Below B a w' :=
  ⟨k.os.trans h.os, k.tape.trans h.tape, k.output.trans h.output, Nat.le_trans h.size k.size, fun i hi => (k.block i (by have := h.size; omega) (fun e => by have := (ho i e.symm).1; omega)).trans (h.block i hi)⟩
/-- Two own slices lie apart. -/
def Apart (v u : Value) : Prop := ∀ q, v.ownBlock = some q → u.ownBlock ≠ some q
theorem Apart.symm {v u : Value} (h : Apart v u) : Apart u v := fun q h1 h2 => h q h2 h1
theorem app_step {wr w6 : World} {o : Obj} {v v6 u : Value} {B e s m : Nat} {ys : List Value} (hD : Apart v u) (hu : wr.ownsRow B e s u m ys) (hgr : (wr.alloc o).grownBy w6 v.ownBlock) (hob : v6.ownBlock = v.ownBlock ∨ v6.ownBlock = some (wr.heap.size + 1)) : w6.ownsRow B e s u m ys ∧ Apart v6 u := by
  refine ⟨(hu.alloc o).kept hgr ?_, fun q h1 h2 => ?_⟩
  · cases h : u.ownBlock with
    | none => exact .inl rfl
    | some q => exact .inr fun e => hD q e.symm h
  · rcases hob with e | e
    · exact hD q (e.symm.trans h1) h2
    · rw [e] at h1
      have := (hu.lt q h2).2
      simp at h1
      omega
theorem flatI_succ {F : Nat → Int} {k : Nat} : ((List.range (k + 1)).map F).flatMap cI = ((List.range k).map F).flatMap cI ++ [.int .i64 (F k)] := by
  rw [List.range_succ, List.map_append, List.flatMap_append]; simp [cI]
theorem flatI_len {F : Nat → Int} {k : Nat} : (((List.range k).map F).flatMap cI).length = k := by
  rw [flat_len (s := 1) (fun _ => rfl)]; simp
theorem flatI_get (l : List Int) (j : Nat) : (l.flatMap cI)[j]? = (l[j]?).map (Value.int .i64) := by
  induction l generalizing j with
  | nil => rfl
  | cons x l ih =>
    cases j with
    | zero => rfl
    | succ j => simpa [cI] using ih j
theorem flatI_len' (l : List Int) : (l.flatMap cI).length = l.length := by rw [flat_len (s := 1) (fun _ => rfl), Nat.mul_one]
theorem one_flatI (l : List Int) : ∀ u ∈ l.flatMap cI, u.oneCell' = true := by
  intro v hv
  obtain ⟨r, -, hr⟩ := List.mem_flatMap.1 hv
  simp only [cI, List.mem_cons, List.not_mem_nil, or_false] at hr
  subst hr; rfl
theorem ins_take {w : World} {B b off n : Nat} {l : List Int} (h : InS w B (some ⟨b, off, none⟩) n l) {k : Nat} (hk : k ≤ n) : ∀ j u, ((l.take k).flatMap cI)[j]? = some u → w.cell? ((⟨b, off, none⟩ : Addr).add j) = some u := by
  intro j u hj
  rw [add_at]
  rw [flatI_get] at hj
  have hjk : j < k := by
    rcases Nat.lt_or_ge j k with h1 | h1
    · exact h1
    · rw [List.getElem?_eq_none (by rw [List.length_take]; omega)] at hj; cases hj
  rw [List.getElem?_take_of_lt hjk, ← flatI_get] at hj
  obtain ⟨b', off', e, _, hc⟩ := h.2 (by omega)
  cases e
  exact hc j u hj
theorem ins_drop {w : World} {B b off n : Nat} {l : List Int} (h : InS w B (some ⟨b, off, none⟩) n l) {k : Nat} : ∀ j u, ((l.drop k).flatMap cI)[j]? = some u → w.cell? ((⟨b, off + k, none⟩ : Addr).add j) = some u := by
  intro j u hj
  rw [add_at, Nat.add_assoc]
  rw [flatI_get, List.getElem?_drop, ← flatI_get] at hj
  have hl := h.len
  have hlt : k + j < l.length := by
    rcases Nat.lt_or_ge (k + j) l.length with h1 | h1
    · exact h1
    · rw [List.getElem?_eq_none (by rw [flatI_len']; exact h1)] at hj; cases hj
  obtain ⟨b', off', e, _, hc⟩ := h.2 (by omega)
  cases e
  exact hc (k + j) u hj
theorem ins_some {w : World} {B n : Nat} {A : Option Addr} {l : List Int} (h : InS w B A n l) (hn : 0 < n) : ∃ b off, A = some ⟨b, off, none⟩ ∧ b < B := by
  obtain ⟨b, off, e, hb, _⟩ := h.2 hn
  exact ⟨b, off, e, hb⟩
theorem own_cap {w : World} {base n e s : Nat} {A : Option Addr} {cap : Nat} {xs : List Value} (h : w.ownsRow base e s (.slice A n cap) n xs) : n ≤ cap := by
  rcases h.2 with ⟨e1, e2⟩ | ⟨g, cap', cur, e1, _, _, hn, _⟩
  · cases e1; omega
  · cases e1; exact hn
theorem ins_blk {w : World} {g t : Nat} {l : List Int} {B : Nat} (h : Blk w g t (l.flatMap cI).toArray) (hB : g < B) : InS w B (some ⟨g, 0, none⟩) l.length l :=
  ⟨flat_len (s := 1) (fun _ => rfl) l, fun _ => ⟨g, 0, rfl, hB, fun j u hj => by rw [Nat.zero_add, h.cell]; simpa using hj⟩⟩
theorem own_set {A : World} {base e size n g : Nat} {v : Value} {xs : List Value} (h : A.ownsRow base e size v n xs) (hb : g < base) (u : Value) : (A.setCell ⟨g, 0, none⟩ u).ownsRow base e size v n xs := by
  refine ⟨h.1, h.2.imp id ?_⟩
  rintro ⟨g', cap, cur, e1, h1, h2, h3⟩
  exact ⟨g', cap, cur, e1, h1, (Below.heap_setCell _ _ _ _ (by simp; omega)).trans h2, h3⟩
/-- Small numbers of a kind. -/
def SmS (k : IntKind) (w : World) (B : Nat) (A : Option Addr) (n : Nat) (l : List Int) : Prop := Sl w B 1 A n (l.flatMap fun x => [.int k x])
theorem SmS.len {k : IntKind} {w : World} {B n : Nat} {A : Option Addr} {l : List Int} (h : SmS k w B A n l) : l.length = n := by
  have := h.1; rw [flat_len (s := 1) (fun _ => rfl)] at this; omega
theorem SmS.below {k : IntKind} {w w' : World} {B B' n : Nat} {A : Option Addr} {l : List Int} (h : SmS k w B A n l) (hb : Below B w w') (hB : B ≤ B') : SmS k w' B' A n l := Sl.below' h hb hB
theorem SmS.at_ {kd : IntKind} {w : World} {B n : Nat} {A : Option Addr} {l : List Int} (h : SmS kd w B A n l) {k : Nat} (hk : k < n) : ∃ b off x, A = some ⟨b, off, none⟩ ∧ b < B ∧ l[k]? = some x ∧
    w.cell? ⟨b, off + k, none⟩ = some (.int kd x) := by
  obtain ⟨b, off, hA, hb, hc⟩ := h.2 (by omega)
  have hl : k < l.length := by rw [h.len]; exact hk
  have hm : l[k]? = some l[k] := List.getElem?_eq_getElem hl
  refine ⟨b, off, l[k], hA, hb, hm, ?_⟩
  have := hc (k * 1 + 0) _ (by rw [flat_at (s := 1) (f := fun x => [Value.int kd x]) (fun _ => rfl) l k 0 _ hm (by omega)]; rfl)
  simpa using this
end Go.Proofs.Ytiobmfggnacplaa
/- Plain law of rims: lists turned, which one comes before, the least reading. -/
namespace Go.Proofs.Ytiobmfggnacplaa
/-- A list turned by a number. -/
def rot (l : List Int) (k : Nat) : List Int := l.drop k ++ l.take k
theorem rot_len (l : List Int) (k : Nat) : (rot l k).length = l.length := by simp [rot]; omega
theorem rot_zero (l : List Int) : rot l 0 = l := by simp [rot]
theorem rot_all (l : List Int) : rot l l.length = l := by simp [rot]
theorem rot_at {l : List Int} {k i : Nat} (hk : k ≤ l.length) (hi : i < l.length) : (rot l k)[i]? = l[(i + k) % l.length]? := by
  unfold rot
  rcases Nat.lt_or_ge i (l.length - k) with h | h
  · rw [List.getElem?_append_left (by simpa using h), List.getElem?_drop, Nat.mod_eq_of_lt (by omega), Nat.add_comm]
  · rw [List.getElem?_append_right (by simpa using h), List.length_drop, List.getElem?_take, if_pos (by omega)]
    congr 1
    rw [Nat.mod_eq_sub_mod (by omega), Nat.mod_eq_of_lt (by omega)]
    omega
theorem rot_ext {l m : List Int} {k : Nat} (hk : k ≤ l.length) (hl : m.length = l.length) (h : ∀ i, i < l.length → m[i]? = l[(i + k) % l.length]?) : rot l k = m := by
  refine List.ext_getElem? fun i => ?_
  rcases Nat.lt_or_ge i l.length with hi | hi
  · rw [rot_at hk hi, h i hi]
  · rw [List.getElem?_eq_none (by rw [rot_len]; exact hi), List.getElem?_eq_none (by omega)]
theorem rot_rot {l : List Int} {j k : Nat} (hj : j ≤ l.length) (hk : k ≤ l.length) (h0 : 0 < l.length) : rot (rot l j) k = rot l ((j + k) % l.length) := by
  refine rot_ext (by rw [rot_len]; exact hk) (by rw [rot_len, rot_len]) fun i hi => ?_
  rw [rot_len] at hi ⊢
  have hm := Nat.mod_lt (j + k) h0
  rw [rot_at (by omega) hi, rot_at hj (Nat.mod_lt _ h0)]
  congr 1
  rw [Nat.mod_add_mod, Nat.add_mod_mod, show i + k + j = i + (j + k) by omega]
theorem rot_mem {l : List Int} {k : Nat} {x : Int} : x ∈ rot l k ↔ x ∈ l := by
  unfold rot
  rw [List.mem_append, or_comm, ← List.mem_append, List.take_append_drop]
/-- A list comes before another one. -/
def bef : List Int → List Int → Bool
  | [], [] => false
  | [], _ :: _ => true
  | _ :: _, [] => false
  | a :: l, b :: m => if a = b then bef l m else decide (a < b)
theorem bef_self : ∀ l : List Int, bef l l = false
  | [] => rfl
  | a :: l => by rw [bef, if_pos rfl]; exact bef_self l
theorem bef_cons_same (a : Int) (l m : List Int) : bef (a :: l) (a :: m) = bef l m := by rw [bef, if_pos rfl]
theorem bef_app : ∀ (p l m : List Int), bef (p ++ l) (p ++ m) = bef l m
  | [], _, _ => rfl
  | a :: p, l, m => by rw [List.cons_append, List.cons_append, bef_cons_same]; exact bef_app p l m
theorem bef_trans : ∀ {a b c : List Int}, bef a b = true → bef b c = true → bef a c = true
  | [], [], _, h, _ => by simp [bef] at h
  | [], _ :: _, [], _, h => by simp [bef] at h
  | [], _ :: _, _ :: _, _, _ => rfl
  | _ :: _, [], _, h, _ => by simp [bef] at h
  | _ :: _, _ :: _, [], _, h => by simp [bef] at h
  | x :: a, y :: b, z :: c, h1, h2 => by
    rw [bef] at h1 h2 ⊢
    by_cases e1 : x = y
    · rw [if_pos e1] at h1
      subst e1
      by_cases e2 : x = z
      · rw [if_pos e2] at h2 ⊢
        exact bef_trans h1 h2
      · rw [if_neg e2] at h2 ⊢; exact h2
    · rw [if_neg e1, decide_eq_true_eq] at h1
      by_cases e2 : y = z
      · rw [if_neg (by omega), decide_eq_true_eq]; omega
      · rw [if_neg e2, decide_eq_true_eq] at h2
        rw [if_neg (by omega), decide_eq_true_eq]; omega
theorem bef_asymm {a b : List Int} (h : bef a b = true) : bef b a = false := by
  cases h2 : bef b a
  · rfl
  · have := bef_trans h h2
    rw [bef_self] at this; cases this
theorem bef_eq : ∀ {a b : List Int}, bef a b = false → bef b a = false → a = b
  | [], [], _, _ => rfl
  | [], _ :: _, h, _ => by simp [bef] at h
  | _ :: _, [], _, h => by simp [bef] at h
  | x :: a, y :: b, h1, h2 => by
    rw [bef] at h1 h2
    by_cases e : x = y
    · subst e
      rw [if_pos rfl] at h1 h2
      rw [bef_eq h1 h2]
    · rw [if_neg e, decide_eq_false_iff_not] at h1
      rw [if_neg (fun h => e h.symm), decide_eq_false_iff_not] at h2
      omega
theorem bef_total {a b : List Int} (h : bef a b = false) : bef b a = true ∨ a = b := by
  cases h2 : bef b a
  · exact .inr (bef_eq h h2)
  · exact .inl rfl
/-- Not after, and before: before. -/
theorem bef_le_lt {a b c : List Int} (h1 : bef b a = false) (h2 : bef b c = true) : bef a c = true := by
  rcases bef_total h1 with h | h
  · exact bef_trans h h2
  · rw [← h]; exact h2
theorem bef_lt_le {a b c : List Int} (h1 : bef a b = true) (h2 : bef c b = false) : bef a c = true := by
  rcases bef_total h2 with h | h
  · exact bef_trans h1 h
  · rw [h]; exact h1
theorem bef_le_le {a b c : List Int} (h1 : bef b a = false) (h2 : bef c b = false) : bef c a = false := by
  cases h : bef c a
  · rfl
  · have := bef_lt_le h h1
    rw [this] at h2; cases h2
theorem bef_nil (l : List Int) : bef l [] = false := by cases l <;> rfl
/-- A beginning does not come after. -/
theorem bef_pre (p l : List Int) : bef (p ++ l) p = false := by
  have := bef_app p l []
  rw [List.append_nil] at this
  rw [this, bef_nil]
theorem bef_pre_lt (p : List Int) {l : List Int} (h : l ≠ []) : bef p (p ++ l) = true := by
  have := bef_app p [] l
  rw [List.append_nil] at this
  rw [this]
  cases l with
  | nil => exact absurd rfl h
  | cons a l => rfl
/-- Where they differ first: before stays before, whatever follows. -/
theorem bef_more : ∀ {a b : List Int} (x y : List Int), bef a b = true → ¬ a <+: b → bef (a ++ x) (b ++ y) = true
  | [], b, _, _, _, h => absurd (List.nil_prefix) h
  | _ :: _, [], _, _, h, _ => by simp [bef] at h
  | u :: a, v :: b, x, y, h1, h2 => by
    rw [List.cons_append, List.cons_append, bef]
    rw [bef] at h1
    by_cases e : u = v
    · subst e
      rw [if_pos rfl] at h1 ⊢
      exact bef_more x y h1 (fun h => h2 (by obtain ⟨t, rfl⟩ := h; exact ⟨t, rfl⟩))
    · rw [if_neg e] at h1 ⊢
      exact h1
theorem bef_same_len {a b : List Int} (x y : List Int) (hl : a.length = b.length) (h : bef a b = true) : bef (a ++ x) (b ++ y) = true :=
  bef_more x y h fun hp => by
    have := hp.eq_of_length hl
    subst this
    rw [bef_self] at h; cases h
theorem bef_cut {a b x y : List Int} (hl : a.length = b.length) (h : bef (a ++ x) (b ++ y) = true) (hn : a ≠ b) : bef a b = true := by
  cases h2 : bef a b
  · rcases bef_total h2 with h3 | h3
    · have := bef_asymm (bef_same_len y x hl.symm h3)
      rw [this] at h; cases h
    · exact absurd h3 hn
  · rfl
/-- The start of the least reading among the first n turns. -/
def lst (l : List Int) : Nat → Nat
  | 0 => 0
  | n + 1 => if bef (rot l n) (rot l (lst l n)) then n else lst l n
def lstart (l : List Int) : Nat := lst l l.length
def least (l : List Int) : List Int := rot l (lstart l)
theorem lst_lt (l : List Int) : ∀ n, lst l n ≤ n - 1
  | 0 => by simp [lst]
  | n + 1 => by
    have := lst_lt l n
    unfold lst
    split <;> omega
theorem lst_min (l : List Int) : ∀ n j, j < n → bef (rot l j) (rot l (lst l n)) = false
  | n + 1, j, h => by
    unfold lst
    split
    · rename_i h1
      rcases Nat.lt_or_ge j n with h2 | h2
      · have := lst_min l n j h2
        cases h3 : bef (rot l j) (rot l n)
        · rfl
        · rw [bef_trans h3 h1] at this; cases this
      · obtain rfl : j = n := by omega
        exact bef_self _
    · rename_i h1
      rcases Nat.lt_or_ge j n with h2 | h2
      · exact lst_min l n j h2
      · obtain rfl : j = n := by omega
        simpa using h1
theorem lst_first (l : List Int) : ∀ n j, j < lst l n → bef (rot l (lst l n)) (rot l j) = true
  | 0, j, h => by simp [lst] at h
  | n + 1, j, h => by
    unfold lst at h ⊢
    split
    · rename_i h1
      rw [if_pos h1] at h
      exact bef_lt_le h1 (lst_min l n j h)
    · rename_i h1
      rw [if_neg h1] at h
      exact lst_first l n j h
theorem lstart_lt {l : List Int} (h : 0 < l.length) : lstart l < l.length := by
  have := lst_lt l l.length
  unfold lstart
  omega
theorem least_min {l : List Int} {j : Nat} (h : j < l.length) : bef (rot l j) (least l) = false := lst_min l _ j h
theorem least_len (l : List Int) : (least l).length = l.length := rot_len _ _
/-- A list turned has the same least reading. -/
theorem least_rot {l : List Int} {k : Nat} (hk : k < l.length) : least (rot l k) = least l := by
  have h0 : 0 < l.length := by omega
  have h1 : 0 < (rot l k).length := by rw [rot_len]; exact h0
  have ha := lstart_lt h1
  have hb := lstart_lt h0
  rw [rot_len] at ha
  refine bef_eq ?_ ?_
  · show bef (rot (rot l k) (lstart (rot l k))) (least l) = false
    rw [rot_rot (by omega) (by omega) h0]
    exact least_min (Nat.mod_lt _ h0)
  · have h2 : rot (rot l k) ((lstart l + (l.length - k)) % l.length) = least l := by
      have h3 := Nat.mod_lt (lstart l + (l.length - k)) h0
      rw [rot_rot (by omega) (by omega) h0, Nat.add_mod_mod, show k + (lstart l + (l.length - k)) = lstart l + l.length by omega, Nat.add_mod_right, Nat.mod_eq_of_lt hb]; rfl
    rw [← h2]
    exact least_min (by rw [rot_len]; exact Nat.mod_lt _ h0)
end Go.Proofs.Ytiobmfggnacplaa
/- A law of our own for a region that draws its order: all operations but a tail yield, in every world that meets S, one and the same value, and keep S; then the region may be walked in the order of the text, the tail in the world at hand. Over any program. -/
namespace Go.Proofs.Ytiobmfggnacplaa
open Go

section
variable {P : Program} {ops : Array Oper} {md : Region.Mode} {S : World → Prop}

/-- In a world: the operation yields v, and S holds behind it. -/
def HUpon (P : Program) (S : World → Prop) (v : Value) : Result Next → Prop
  | .ok (.value u) W' => u = v ∧ S W'
  | .ok .skip W' => v = undef ∧ S W'
  | .ok (.enter f args) W' => Calls P f args W' fun e W'' => e = .returned v ∧ S W''
  | _ => False

/-- In every world that meets S. -/
def HYields (P : Program) (ops : Array Oper) (S : World → Prop) (o : Oper) (v : Value) (a : Act) : Prop :=
  (Region.wanted o (yielded ops a.tmps) = true ∧ ∀ W, S W → HUpon P S v ((execOp a.eval o).run P W)) ∨ (Region.wanted o (yielded ops a.tmps) = false ∧ v = undef)

theorem HYields.of_same {o : Oper} {v : Value} {a a' : Act} (hy : HYields P ops S o v a) (he : execOp a'.eval o = execOp a.eval o)
    (hw : Region.wanted o (yielded ops a'.tmps) = Region.wanted o (yielded ops a.tmps)) : HYields P ops S o v a' := by
  unfold HYields at *
  rw [he, hw]
  exact hy

/-- The list of operations, in the order of the text. -/
def wpHd (P : Program) (ops : Array Oper) (S : World → Prop) (Q : Act → Prop) : List Oper → Act → Prop
  | [], a => Q a
  | o :: rest, a => ∃ v, HYields P ops S o v a ∧ wpHd P ops S Q rest (a.put o.dst v)

def hOp (P : Program) (ops : Array Oper) (S : World → Prop) (i : Nat) (K : Act → Prop) (a : Act) : Prop :=
  match ops[i]? with
  | none => K a
  | some o => ∃ v, HYields P ops S o v a ∧ K (a.put o.dst v)

theorem hOp_mono {i : Nat} {a : Act} {K K' : Act → Prop} (h : ∀ a, K a → K' a) (hh : hOp P ops S i K a) : hOp P ops S i K' a := by
  unfold hOp at *
  split
  · rename_i ho; simp only [ho] at hh; exact h _ hh
  · rename_i o ho; simp only [ho] at hh; obtain ⟨v, hy, hk⟩ := hh; exact ⟨v, hy, h _ hk⟩

theorem wpOp_of_hOp {i : Nat} {a : Act} {w : World} {K : Act → Prop} {K' : Act → World → Prop} {Q' : Exit → Act → World → Prop} (hS : S w) (h : ∀ a w, S w → K a → K' a w)
    (hh : hOp P ops S i K a) : wpOp P ops Q' i K' a w := by
  unfold hOp at hh
  unfold wpOp
  split
  · rename_i ho; simp only [ho] at hh; exact h _ _ hS hh
  · rename_i o ho
    simp only [ho] at hh
    obtain ⟨v, hy, hk⟩ := hh
    rcases hy with ⟨hw, hy⟩ | ⟨hw, rfl⟩
    · simp only [hw, if_true]
      refine .inl ?_
      have h1 := hy w hS
      unfold Oper.wp
      generalize (execOp a.eval o).run P w = r at h1
      cases r with
      | ok n w' =>
        cases n <;> simp only [HUpon] at h1 <;> simp only [Oper.upon]
        case value u => obtain ⟨rfl, h2⟩ := h1; exact h _ _ h2 hk
        case skip => obtain ⟨rfl, h2⟩ := h1; exact h _ _ h2 hk
        case enter f args => exact h1.mono fun e w'' ⟨he, hw'⟩ => by subst he; exact h _ _ hw' hk
      | halt x w' => simp only [HUpon] at h1
    · simp only [hw, Bool.false_eq_true, if_false]; exact h _ _ hS hk

theorem hOp_put {j : Nat} {oi oj : Oper} {v : Value} (hj : ops[j]? = some oj) (hap : oi.apart ops oj = true)
    (hsi : ∀ cs b, oi.op ≠ .select cs b) (hsj : ∀ cs b, oj.op ≠ .select cs b) {K : Act → Prop} {a : Act}
    (hy : HYields P ops S oi v a) (h : hOp P ops S j K (a.put oi.dst v)) :
    hOp P ops S j (fun a' => HYields P ops S oi v a' ∧ K (a'.put oi.dst v)) a := by
  obtain ⟨h1, h2, h3⟩ := Oper.apart_spec hap
  unfold hOp at *
  simp only [hj] at *
  obtain ⟨u, hu, hk⟩ := h
  refine ⟨u, hu.of_same (execOp_put oj hsj a oi.dst v h1).symm (wanted_put oj a oi.dst v h1).symm, hy.of_same (execOp_put oi hsi a oj.dst u h3) (wanted_put oi a oj.dst u h3), ?_⟩
  rw [← Act.put_comm a v u h2]
  exact hk

def wpAnyD (P : Program) (md : Region.Mode) (ops : Array Oper) (S : World → Prop) (n : Nat) (L : Array Bool → Act → Prop) : Nat → Array Bool → Act → Prop
  | 0, listed, a => L listed a
  | f + 1, listed, a =>
    Region.ready md ops listed ≠ [] ∧ ∀ i ∈ Region.ready md ops listed, i < n ∧ hOp P ops S i (wpAnyD P md ops S n L f (listed.setIfInBounds i true)) a

theorem wpAny_of_hd {n g : Nat} {L : Array Bool → Act → Prop} {Q' : Exit → Act → World → Prop} (hL : ∀ listed a w, S w → L listed a → wpAny P md ops Q' g listed a w) :
    ∀ (f : Nat) (listed : Array Bool) (a : Act) (w : World), S w → wpAnyD P md ops S n L f listed a → wpAny P md ops Q' (f + g) listed a w
  | 0, listed, a, w, hS, h => by rw [Nat.zero_add]; exact hL _ _ _ hS h
  | f + 1, listed, a, w, hS, h => by
    rw [show f + 1 + g = (f + g) + 1 by omega]
    exact ⟨fun h0 => absurd h0 h.1, fun i hi => wpOp_of_hOp hS (fun a' w' hS' h' => wpAny_of_hd hL f _ a' w' hS' h') (h.2 i hi).2⟩

theorem wpAnyD_first {n i : Nat} {oi : Oper} {v : Value} {L : Array Bool → Act → Prop} (hi : ops[i]? = some oi) (hsel : ∀ (j : Nat) (o : Oper) cs b, ops[j]? = some o → o.op ≠ .select cs b)
    (hin : i < n) (htail : ∀ listed, HeadInv md ops n listed → listed.getD i true = false → ∀ t, n ≤ t → t ∉ Region.ready md ops listed)
    (hdone : ∀ listed a, L listed a → ∀ j ∈ Region.ready md ops listed, n ≤ j) :
    ∀ (f : Nat) (listed : Array Bool) (a : Act), HeadInv md ops n listed →
      (∀ j oj, ops[j]? = some oj → j ≠ i → listed.getD j true = false → (∀ e ∈ oj.after, Region.binds md e = true → e.on ≠ i) → oi.apart ops oj = true) →
      i ∈ Region.ready md ops listed → HYields P ops S oi v a →
      wpAnyD P md ops S n L f (listed.setIfInBounds i true) (a.put oi.dst v) → wpAnyD P md ops S n L (f + 1) listed a := by
  intro f
  induction f with
  | zero =>
    intro listed a inv _ hr hy H
    have hun := (mem_ready.1 hr).1
    refine ⟨fun h => (by rw [h] at hr; cases hr), fun j hj => ?_⟩
    have hjn : j < n := by
      rcases Nat.lt_or_ge j n with h | h
      · exact h
      · exact absurd hj (htail listed inv hun j h)
    refine ⟨hjn, ?_⟩
    by_cases hji : j = i
    · subst hji
      unfold hOp
      simp only [hi]
      exact ⟨v, hy, H⟩
    · have := hdone _ _ H j (ready_mono hj hji)
      omega
  | succ f ih =>
    intro listed a inv hfree hr hy H
    have hun := (mem_ready.1 hr).1
    refine ⟨fun h => (by rw [h] at hr; cases hr), fun j hj => ?_⟩
    have hjn : j < n := by
      rcases Nat.lt_or_ge j n with h | h
      · exact h
      · exact absurd hj (htail listed inv hun j h)
    refine ⟨hjn, ?_⟩
    by_cases hji : j = i
    · subst hji
      unfold hOp
      simp only [hi]
      exact ⟨v, hy, H⟩
    · have h1 := (H.2 j (ready_mono hj hji)).2
      obtain ⟨hjun, oj, hoj, hall⟩ := mem_ready.1 hj
      have hnot : ∀ e ∈ oj.after, Region.binds md e = true → e.on ≠ i := fun e he hb heq => by
        have h1 := hall e he hb
        rw [heq, getD_both hun] at h1
        cases h1
      have h2 := hOp_put hoj (hfree j oj hoj hji hjun hnot) (fun cs b => hsel i oi cs b hi) (fun cs b => hsel j oj cs b hoj) hy h1
      have hfree' : ∀ k ok, ops[k]? = some ok → k ≠ i → (listed.setIfInBounds j true).getD k true = false →
          (∀ e ∈ ok.after, Region.binds md e = true → e.on ≠ i) → oi.apart ops ok = true := fun k ok hk hki hun hno => by
        refine hfree k ok hk hki ?_ hno
        by_cases hjk : j = k
        · subst hjk; exact hjun
        · rw [getD_set_ne true hjk] at hun; exact hun
      refine hOp_mono (fun a' h3 => ih (listed.setIfInBounds j true) a' (inv.set hj hjn) hfree' (ready_mono hr (Ne.symm hji)) h3.1 ?_) h2
      rw [Array.setIfInBounds_comm _ _ hji]
      exact h3.2

theorem wpAnyD_lex {n g : Nat} {Lq : Act → Prop} (hsel : Region.noSelect ops = true)
    (htail : ∀ i, i < n → ∀ listed, HeadInv md ops n listed → listed.getD i true = false → ∀ t, n ≤ t → t ∉ Region.ready md ops listed) :
    ∀ (l : List Oper) (k : Nat) (listed : Array Bool) (a : Act), (∀ j, j < l.length → l[j]? = ops[k + j]?) → k + l.length = n → HeadInv md ops n listed →
    Region.lexHead md ops g l.length k listed = true → wpHd P ops S Lq l a →
    wpAnyD P md ops S n (fun listed' a' => Region.seqB md ops g n listed' = true ∧ Lq a') l.length listed a
  | [], k, listed, a, _, hk, _, hB, h => by
    have : k = n := by simpa using hk
    subst this
    exact ⟨by simpa [Region.lexHead] using hB, h⟩
  | o :: l, k, listed, a, hl, hk, inv, hB, h => by
    have h0 : ops[k]? = some o := by simpa using (hl 0 (by simp)).symm
    simp only [List.length_cons, Region.lexHead, Bool.and_eq_true] at hB
    obtain ⟨⟨hr, hf⟩, hB'⟩ := hB
    have hkn : k < n := by simp only [List.length_cons] at hk; omega
    have hr' : k ∈ Region.ready md ops listed := by simpa using hr
    obtain ⟨v, hy, hK⟩ := h
    exact wpAnyD_first h0 (Region.noSelect_spec hsel) hkn (htail k hkn) (fun listed' a' hL => seqB_ready hL.1) l.length listed a inv (Region.free_spec h0 hf) hr' hy
      (wpAnyD_lex hsel htail l (k + 1) _ _ (fun j hj => by have := hl (j + 1) (by simp; omega); simpa [Nat.add_assoc, Nat.add_comm 1 j] using this) (by simp only [List.length_cons] at hk; omega) (inv.set hr' hkn) hB' hK)

/-- A region with a tail that is forced. -/
theorem wp_region_hd {id : Nat} {Q : Exit → Act → World → Prop} {a : Act} {w : World} {l : List Oper} (n : Nat) (S : World → Prop) (hm : P.follows .mixedOrders = true) (hB : Region.lexTailB .any l.toArray n = true)
    (hS : S w.drew) (h : wpHd P l.toArray S (fun a' => ∀ W, S W → wpList P l.toArray Q (l.drop n) a' W) (l.take n) a) : (Code.region id l.toArray true).wp P Q a w := by
  simp only [Region.lexTailB, Bool.and_eq_true, decide_eq_true_eq] at hB
  obtain ⟨⟨⟨⟨hsel, hn⟩, hs⟩, hc⟩, hlex⟩ := hB
  have hn' : n < l.length := by simpa using hn
  have htl : (l.take n).length = n := by simp; omega
  have hdl : (l.drop n).length = l.toArray.size - n := by simp
  have inv0 : HeadInv .any l.toArray n (Array.replicate l.toArray.size false) :=
    ⟨by simp, fun j oj _ hl => (by rw [getD_replicate_false] at hl; cases hl), fun t _ ht => getD_in (by simpa using ht) (getD_replicate_false _ _)⟩
  have H := wpAnyD_lex (md := .any) (g := l.toArray.size - n) hsel (fun i hi listed inv hun => tail_waits hs hc hn inv _ i rfl hi hun) (l.take n) 0 _ a (fun j hj => by
    have hj' : j < n := by rw [htl] at hj; exact hj
    simp [hj']) (by simpa using htl) inv0 (by rw [htl]; exact hlex) h
  refine wp_region_any hm ?_
  have := wpAny_of_hd (Q' := Q) (g := l.toArray.size - n) (fun listed a' w' hS' hL => by
    have := wpAny_of_seq (md := .any) (Q' := Q) (l.drop n) n listed a' w' (fun j => by simp [List.getElem?_drop]) (by rw [hdl]; exact hL.1) (hL.2 w' hS')
    rwa [hdl] at this) _ _ _ _ hS H
  rw [htl, show n + (l.toArray.size - n) = l.toArray.size by omega] at this
  exact this

theorem lexHead_of_lexFrom : ∀ (f k : Nat) (listed : Array Bool), Region.lexFrom md ops f k listed = true → Region.lexHead md ops 0 f k listed = true
  | 0, k, listed, h => by simpa [Region.lexFrom, Region.lexHead, Region.seqB] using h
  | f + 1, k, listed, h => by
    simp only [Region.lexFrom, Bool.and_eq_true] at h
    simp only [Region.lexHead, Bool.and_eq_true]
    exact ⟨h.1, lexHead_of_lexFrom f (k + 1) _ h.2⟩

/-- A region without such a tail. -/
theorem wp_region_hd_all {id : Nat} {Q : Exit → Act → World → Prop} {a : Act} {w : World} {l : List Oper} (S : World → Prop) (hm : P.follows .mixedOrders = true) (hB : Region.lexB .any l.toArray = true)
    (hS : S w.drew) (h : wpHd P l.toArray S (fun a' => ∀ W, S W → wpList P l.toArray Q [] a' W) l a) : (Code.region id l.toArray true).wp P Q a w := by
  simp only [Region.lexB, Bool.and_eq_true] at hB
  have hsz : l.toArray.size = l.length := by simp
  have inv0 : HeadInv .any l.toArray l.length (Array.replicate l.toArray.size false) :=
    ⟨by simp, fun j oj _ hl => (by rw [getD_replicate_false] at hl; cases hl), fun t h1 h2 => by rw [hsz] at h2; omega⟩
  have H := wpAnyD_lex (md := .any) (g := 0) hB.1 (fun i hi listed inv hun t ht hr => by
    have := (mem_ready.1 hr).2
    obtain ⟨ot, hot, _⟩ := this
    have := (Array.getElem?_eq_some_iff.1 hot).1
    rw [hsz] at this
    omega) l 0 _ a (fun j hj => by simp) (by simp) inv0 (by rw [← hsz]; exact lexHead_of_lexFrom _ _ _ hB.2) h
  refine wp_region_any hm ?_
  have := wpAny_of_hd (Q' := Q) (g := 0) (fun listed a' w' hS' hL => ⟨by simpa [Region.seqB] using hL.1, hL.2 w' hS'⟩) _ _ _ _ hS H
  simpa using this

/-! Steps. -/
theorem wpHd_nil {Q : Act → Prop} {a : Act} (h : Q a) : wpHd P ops S Q [] a := h
/-- An operation that leaves the world alone. -/
theorem wpHd_val {Q : Act → Prop} {a : Act} {o : Oper} {rest : List Oper} {v : Value} (hw : Region.wanted o (yielded ops a.tmps) = true)
    (hv : ∀ W, S W → (execOp a.eval o).run P W = .ok (.value v) W) (h : wpHd P ops S Q rest (a.put o.dst v)) : wpHd P ops S Q (o :: rest) a :=
  ⟨v, .inl ⟨hw, fun W hW => by rw [hv W hW]; exact ⟨rfl, hW⟩⟩, h⟩
theorem wpHd_not {Q : Act → Prop} {a : Act} {o : Oper} {rest : List Oper} (hw : Region.wanted o (yielded ops a.tmps) = false)
    (h : wpHd P ops S Q rest (a.put o.dst undef)) : wpHd P ops S Q (o :: rest) a := ⟨undef, .inr ⟨hw, rfl⟩, h⟩
theorem wpHd_call {Q : Act → Prop} {a : Act} {o : Oper} {rest : List Oper} {v : Value} {f : FuncId} {args : Array Value} (hw : Region.wanted o (yielded ops a.tmps) = true)
    (hv : ∀ W, S W → (execOp a.eval o).run P W = .ok (.enter f args) W) (hc : ∀ W, S W → Calls P f args W fun e W' => e = .returned v ∧ S W')
    (h : wpHd P ops S Q rest (a.put o.dst v)) : wpHd P ops S Q (o :: rest) a :=
  ⟨v, .inl ⟨hw, fun W hW => by rw [hv W hW]; exact hc W hW⟩, h⟩
/-- A call that leaves all that was there as it was. -/
theorem wpHd_callB {Q : Act → Prop} {a : Act} {o : Oper} {rest : List Oper} {v : Value} {f : FuncId} {args : Array Value} {w0 : World} (hw : Region.wanted o (yielded ops a.tmps) = true)
    (hc : ∀ W, RowKit.Below w0.heap.size w0 W → Calls P f args W fun e W' => e = .returned v ∧ RowKit.Below W.heap.size W W')
    (hv : ∀ W, RowKit.Below w0.heap.size w0 W → (execOp a.eval o).run P W = .ok (.enter f args) W)
    (h : wpHd P ops (fun W => RowKit.Below w0.heap.size w0 W) Q rest (a.put o.dst v)) : wpHd P ops (fun W => RowKit.Below w0.heap.size w0 W) Q (o :: rest) a :=
  wpHd_call hw hv (fun W hW => (hc W hW).mono fun _ _ ⟨he, hb⟩ => ⟨he, hW.trans (hb.mono hW.size)⟩) h
end
end Go.Proofs.Ytiobmfggnacplaa
/- The law on a region that draws its order (YtiobmfggnacplaaH), in a round of a range over a function: at the fence that shuts nothing out. Over any program. -/
namespace Go.Proofs.Ytiobmfggnacplaa
open Go

/-- The fence that shuts nothing out, in a round or not. -/
def Wd (ro : Option Nat) : Fence := { Fence.wide with round := ro }
@[go_sem, simp] theorem Wd_round (ro : Option Nat) : (Wd ro).round = ro := rfl
@[go_sem, simp] theorem Wd_depth (ro : Option Nat) : (Wd ro).depth = none := rfl
@[go_sem, simp] theorem Wd_fn (ro : Option Nat) (f : FuncId) : (Wd ro).fn f = True := rfl
@[go_sem, simp] theorem Wd_in (ro : Option Nat) (l : Nat) : (Wd ro).inRound l = Wd (some l) := rfl
theorem calls_wd {ro : Option Nat} {n : Nat} {P : Program} {f : FuncId} {args : Array Value} {w : World} {R : Ending → World → Prop} (h : Calls P f args w R) : CallsIn (Wd ro) n P f args w R :=
  (callsIn_wide (n := n)).2 h

section
variable {P : Program} {ops : Array Oper} {md : Region.Mode} {S : World → Prop} {ro : Option Nat} {n : Nat}

def noDefer (ops : Array Oper) : Bool := ops.all fun o => match o.op with | .defer _ => false | _ => true
theorem noDefer_spec (h : noDefer ops = true) (j : Nat) (o : Oper) (ho : ops[j]? = some o) : ∀ c, o.op ≠ .defer c := by
  intro c hc
  have hm : o ∈ ops := Array.mem_of_getElem? ho
  have := Array.all_eq_true'.1 h o hm
  rw [hc] at this
  cases this

theorem wpOpIn_of_hOp {i : Nat} {a : Act} {w : World} {K : Act → Prop} {K' : Act → World → Prop} {Q' : Exit → Act → World → Prop} (hd : noDefer ops = true) (hS : S w) (h : ∀ a w, S w → K a → K' a w)
    (hh : hOp P ops S i K a) : wpOpIn (Wd ro) n P ops Q' i K' a w := by
  unfold hOp at hh
  unfold wpOpIn
  split
  · rename_i ho; simp only [ho] at hh; exact h _ _ hS hh
  · rename_i o ho
    simp only [ho] at hh
    obtain ⟨v, hy, hk⟩ := hh
    rcases hy with ⟨hw, hy⟩ | ⟨hw, rfl⟩
    · simp only [hw, if_true]
      have h1 := hy w hS
      unfold Oper.wpIn
      refine ⟨fun f _ => trivial, ?_⟩
      rw [Oper.semAt_eq _ _ _ (noDefer_spec hd i o ho)]
      generalize (execOp a.eval o).run P w = r at h1
      cases r with
      | ok n w' =>
        cases n <;> simp only [HUpon] at h1 <;> simp only [Oper.uponIn]
        case value u => obtain ⟨rfl, h2⟩ := h1; exact h _ _ h2 hk
        case skip => obtain ⟨rfl, h2⟩ := h1; exact h _ _ h2 hk
        case enter f args =>
          refine ⟨fun hx => (by cases hx), calls_wd (h1.mono ?_)⟩
          rintro e w'' ⟨rfl, hw'⟩
          exact h _ _ hw' hk
      | halt x w' => simp only [HUpon] at h1
    · simp only [hw, Bool.false_eq_true, if_false]; exact ⟨fun f _ => trivial, h _ _ hS hk⟩

theorem wpAnyIn_of_hd {m g : Nat} {L : Array Bool → Act → Prop} {Q' : Exit → Act → World → Prop} (hd : noDefer ops = true) (hL : ∀ listed a w, S w → L listed a → wpAnyIn (Wd ro) n P md ops Q' g listed a w) :
    ∀ (f : Nat) (listed : Array Bool) (a : Act) (w : World), S w → wpAnyD P md ops S m L f listed a → wpAnyIn (Wd ro) n P md ops Q' (f + g) listed a w
  | 0, listed, a, w, hS, h => by rw [Nat.zero_add]; exact hL _ _ _ hS h
  | f + 1, listed, a, w, hS, h => by
    rw [show f + 1 + g = (f + g) + 1 by omega]
    exact ⟨fun h0 => absurd h0 h.1, fun i hi => wpOpIn_of_hOp hd hS (fun a' w' hS' h' => wpAnyIn_of_hd hd hL f _ a' w' hS' h') (h.2 i hi).2⟩

theorem wpAnyIn_of_seq {Q' : Exit → Act → World → Prop} : ∀ (l : List Oper) (k : Nat) (listed : Array Bool) (a : Act) (w : World), (∀ j, l[j]? = ops[k + j]?) →
    Region.seqB md ops l.length k listed = true → wpListIn (Wd ro) n P ops Q' l a w → wpAnyIn (Wd ro) n P md ops Q' l.length listed a w
  | [], _, _, _, _, _, hB, h => ⟨by simpa [Region.seqB] using hB, h⟩
  | o :: l, k, listed, a, w, hl, hB, h => by
    have h0 : ops[k]? = some o := by simpa using (hl 0).symm
    simp only [List.length_cons, Region.seqB, Bool.and_eq_true, decide_eq_true_eq] at hB
    refine ⟨fun h1 => (by rw [hB.1] at h1; cases h1), fun i hi => ?_⟩
    rw [hB.1] at hi
    have hik : i = k := by simpa using hi
    subst hik
    have hw : wpOpIn (Wd ro) n P ops Q' i (wpListIn (Wd ro) n P ops Q' l) a w := by unfold wpOpIn; simp only [h0]; exact h
    exact wpOpIn_mono (fun a' w' h' => wpAnyIn_of_seq l (i + 1) _ a' w' (fun j => by have := hl (j + 1); simpa [Nat.add_assoc, Nat.add_comm 1 j] using this) hB.2 h') hw

/-- A region with a tail that is forced, in a round. -/
theorem wpIn_region_hd {id : Nat} {Q : Exit → Act → World → Prop} {a : Act} {w : World} {l : List Oper} (m : Nat) (S : World → Prop) (hm : P.follows .mixedOrders = true) (hB : (Region.lexTailB .any l.toArray m && noDefer l.toArray) = true)
    (hS : S w.drew) (h : wpHd P l.toArray S (fun a' => ∀ W, S W → wpListIn (Wd ro) n P l.toArray Q (l.drop m) a' W) (l.take m) a) : (Code.region id l.toArray true).wpIn (Wd ro) n P Q a w := by
  simp only [Region.lexTailB, Bool.and_eq_true, decide_eq_true_eq] at hB
  obtain ⟨⟨⟨⟨⟨hsel, hn⟩, hs⟩, hc⟩, hlex⟩, hd⟩ := hB
  have hn' : m < l.length := by simpa using hn
  have htl : (l.take m).length = m := by simp; omega
  have hdl : (l.drop m).length = l.toArray.size - m := by simp
  have inv0 : HeadInv .any l.toArray m (Array.replicate l.toArray.size false) :=
    ⟨by simp, fun j oj _ hl => (by rw [getD_replicate_false] at hl; cases hl), fun t _ ht => getD_in (by simpa using ht) (getD_replicate_false _ _)⟩
  have H := wpAnyD_lex (md := .any) (g := l.toArray.size - m) hsel (fun i hi listed inv hun => tail_waits hs hc hn inv _ i rfl hi hun) (l.take m) 0 _ a (fun j hj => by
    have hj' : j < m := by rw [htl] at hj; exact hj
    simp [hj']) (by simpa using htl) inv0 (by rw [htl]; exact hlex) h
  refine wpIn_region_any hm ?_
  have := wpAnyIn_of_hd (ro := ro) (n := n) (Q' := Q) (g := l.toArray.size - m) hd (fun listed a' w' hS' hL => by
    have := wpAnyIn_of_seq (ro := ro) (n := n) (md := .any) (Q' := Q) (l.drop m) m listed a' w' (fun j => by simp [List.getElem?_drop]) (by rw [hdl]; exact hL.1) (hL.2 w' hS')
    rwa [hdl] at this) _ _ _ _ hS H
  rw [htl, show m + (l.toArray.size - m) = l.toArray.size by omega] at this
  exact this

/-- A region without such a tail, in a round. -/
theorem wpIn_region_hd_all {id : Nat} {Q : Exit → Act → World → Prop} {a : Act} {w : World} {l : List Oper} (S : World → Prop) (hm : P.follows .mixedOrders = true) (hB : (Region.lexB .any l.toArray && noDefer l.toArray) = true)
    (hS : S w.drew) (h : wpHd P l.toArray S (fun a' => ∀ W, S W → wpListIn (Wd ro) n P l.toArray Q [] a' W) l a) : (Code.region id l.toArray true).wpIn (Wd ro) n P Q a w := by
  simp only [Region.lexB, Bool.and_eq_true] at hB
  obtain ⟨hB, hd⟩ := hB
  have hsz : l.toArray.size = l.length := by simp
  have inv0 : HeadInv .any l.toArray l.length (Array.replicate l.toArray.size false) :=
    ⟨by simp, fun j oj _ hl => (by rw [getD_replicate_false] at hl; cases hl), fun t h1 h2 => by rw [hsz] at h2; omega⟩
  have H := wpAnyD_lex (md := .any) (g := 0) hB.1 (fun i hi listed inv hun t ht hr => by
    have := (mem_ready.1 hr).2
    obtain ⟨ot, hot, _⟩ := this
    have := (Array.getElem?_eq_some_iff.1 hot).1
    rw [hsz] at this
    omega) l 0 _ a (fun j hj => by simp) (by simp) inv0 (by rw [← hsz]; exact lexHead_of_lexFrom _ _ _ hB.2) h
  refine wpIn_region_any hm ?_
  have := wpAnyIn_of_hd (ro := ro) (n := n) (Q' := Q) (g := 0) hd (fun listed a' w' hS' hL => ⟨by simpa [Region.seqB] using hL.1, hL.2 w' hS'⟩) _ _ _ _ hS H
  simpa using this
end

/-! Leaving a function that holds marks. -/
/-- The marks have been taken; all else is as it was. -/
structure Off (Ds : List Nat) (w w' : World) : Prop where
  os : w'.os = w.os
  tape : w'.tape = w.tape
  output : w'.output = w.output
  size : w'.heap.size = w.heap.size
  block : ∀ k, k ∉ Ds → w'.heap[k]? = w.heap[k]?
  was : ∀ D, D ∈ Ds → w.heap[D]? = some (.deferred (some []))
  now : ∀ D, D ∈ Ds → w'.heap[D]? = some (.deferred none)
theorem Off.cell {Ds : List Nat} {w w' : World} (h : Off Ds w w') (a : Addr) : w'.cell? a = w.cell? a := by
  by_cases hm : a.block ∈ Ds
  · simp [World.cell?, h.was _ hm, h.now _ hm]
  · exact World.cell?_of_block (h.block _ hm)
theorem Off.below {Ds : List Nat} {w w' w0 : World} {B : Nat} (h : Off Ds w w') (hb : RowKit.Below B w0 w) (hD : ∀ D ∈ Ds, B ≤ D) : RowKit.Below B w0 w' :=
  hb.trans ⟨h.os, h.tape, h.output, by rw [h.size]; exact Nat.le_refl _, fun k hk => h.block k (fun hm => by have := hD k hm; omega)⟩
theorem Off.blk {Ds : List Nat} {w w' : World} (h : Off Ds w w') {g : Nat} {cs : Array Value} {t : TypeId} {fr : Nat × Nat} (hb : w.heap[g]? = some (.cells cs t fr)) : w'.heap[g]? = some (.cells cs t fr) :=
  (h.block g (fun hm => by rw [h.was g hm] at hb; cases hb)).trans hb

def markOf (D : Nat) : Deferred := { target := .collected D, args := #[] }
theorem leavesM_marks {P : Program} {n : Nat} {fn : Func} {tmps : Array Value} {R : Ending → World → Prop} : ∀ (Ds : List Nat) (w : World), Ds.Nodup → (∀ D, D ∈ Ds → w.heap[D]? = some (.deferred (some []))) →
    (∀ w', Off Ds w w' → ∃ v, (results fn tmps).run P w' = .ok v w' ∧ R (.returned v) w') → LeavesInM (Wd none) n P fn tmps R (Ds.map markOf) .returning w
  | [], w, _, _, h => h w ⟨rfl, rfl, rfl, rfl, fun _ _ => rfl, fun _ hm => (by cases hm), fun _ hm => (by cases hm)⟩
  | D :: Ds, w, hnd, hD, h => by
    obtain ⟨hn1, hn2⟩ := List.nodup_cons.1 hnd
    have h0 := hD D (by simp)
    refine ⟨by simp, .inl ⟨D, _, rfl, run_takeDeferred h0, ?_⟩⟩
    refine leavesM_marks Ds (w.putObj D (.deferred none)) hn2 (fun D' hm => ?_) (fun w' ho => h w' ?_)
    · rw [World.putObj_heap_other (fun e => hn1 (by rw [← e]; exact hm))]
      exact hD D' (by simp [hm])
    · refine ⟨ho.os, ho.tape, ho.output, ho.size.trans (by simp [World.putObj]), fun k hk => ?_, hD, fun D' hm => ?_⟩
      · simp only [List.mem_cons, not_or] at hk
        rw [ho.block k hk.2, World.putObj_heap_other hk.1]
      · rcases List.mem_cons.1 hm with rfl | hm
        · rw [ho.block D' hn1, World.putObj_heap_same (Array.getElem?_eq_some_iff.1 h0).1]
        · exact ho.now D' hm

/-! For a range over a function: what lies in cells, or below, abides the law's own book-keeping. -/
theorem Blk.ownk {A B : World} {row : Option Nat} {g : Nat} {t : TypeId} {cs : Array Value} (h : Blk A g t cs) (hg : A.grownBy B row) (hr : ∀ r, row = some r → ∃ o : Obj, A.heap[r]? = some o ∧ o.isCells = false) : Blk B g t cs :=
  h.grown hg (fun e => by
    obtain ⟨o, ho, hc⟩ := hr g e.symm
    rw [show A.heap[g]? = _ from h] at ho
    cases ho
    cases hc)
theorem Below.ownk {w A B : World} {row : Option Nat} {B0 : Nat} (h : RowKit.Below B0 w A) (hg : A.grownBy B row) (h0 : B0 ≤ A.heap.size) (hr : ∀ r, row = some r → B0 ≤ r) : RowKit.Below B0 w B := h.grown hg h0 hr
theorem with_frame {F : Fence} {n : Nat} {P : Program} {c : Code} {Q : Exit → Act → World → Prop} {tmps : Array Value} {ds : List Deferred} {w : World} (h : ∀ T, T = tmps → c.wpIn F n P Q { tmps := T, defers := ds } w) : c.wpIn F n P Q { tmps, defers := ds } w := h _ rfl
theorem keepsFrom_below {B : Nat} {W W' : World} (h : RowKit.Below W.heap.size W W') : KeepsFrom B W W' :=
  ⟨h.size, fun k _ _ hk _ => (h.block k (Array.getElem?_eq_some_iff.1 hk).1).trans hk⟩
end Go.Proofs.Ytiobmfggnacplaa
/- A second law of our own for a region that draws its order: early operations yield one and the same value in every world that is behind a first one; the others (an allocation, a store, an append) come in whatever order is left, each in whatever world is behind the one before it. Over any program. -/
namespace Go.Proofs.Ytiobmfggnacplaa
open Go

/-- A world that is behind another one: what was there is as it was. -/
abbrev Ext (w W : World) : Prop := RowKit.Below w.heap.size w W
theorem Ext.trans' {a b c : World} (h : Ext a b) (k : Ext b c) : Ext a c := h.trans (k.mono h.size)

section
variable {P : Program} {ops : Array Oper} {md : Region.Mode} {X : World}

def EUpon (P : Program) (W0 : World) (v : Value) : Result Next → Prop
  | .ok (.value u) W' => u = v ∧ Ext W0 W'
  | .ok .skip W' => v = undef ∧ Ext W0 W'
  | .ok (.enter f args) W' => W' = W0 ∧ Calls P f args W0 fun e W'' => e = .returned v ∧ Ext W0 W''
  | _ => False
/-- In every world behind X. -/
def EYields (P : Program) (ops : Array Oper) (X : World) (o : Oper) (v : Value) (a : Act) : Prop :=
  (Region.wanted o (yielded ops a.tmps) = true ∧ ∀ W, Ext X W → EUpon P W v ((execOp a.eval o).run P W)) ∨ (Region.wanted o (yielded ops a.tmps) = false ∧ v = undef)
theorem EYields.of_same {o : Oper} {v : Value} {a a' : Act} (hy : EYields P ops X o v a) (he : execOp a'.eval o = execOp a.eval o)
    (hw : Region.wanted o (yielded ops a'.tmps) = Region.wanted o (yielded ops a.tmps)) : EYields P ops X o v a' := by
  unfold EYields at *
  rw [he, hw]
  exact hy

/-- One operation, wherever it may lead, but to no panic. -/
def LUpon (P : Program) (o : Oper) (a : Act) (K : Act → World → Prop) : Result Next → Prop
  | .ok (.value u) W' => K (a.put o.dst u) W'
  | .ok .skip W' => K (a.put o.dst undef) W'
  | .ok (.enter f args) W' => Calls P f args W' fun e W'' => ∃ v, e = .returned v ∧ K (a.put o.dst v) W''
  | _ => False
def lOp (P : Program) (ops : Array Oper) (i : Nat) (K : Act → World → Prop) (a : Act) (w : World) : Prop :=
  match ops[i]? with
  | none => K a w
  | some o => if Region.wanted o (yielded ops a.tmps) = true then LUpon P o a K ((execOp a.eval o).run P w) else K (a.put o.dst undef) w

theorem LUpon_mono {o : Oper} {a : Act} {K K' : Act → World → Prop} (h : ∀ a w, K a w → K' a w) {r : Result Next} (hh : LUpon P o a K r) : LUpon P o a K' r := by
  cases r with
  | ok n w' =>
    cases n <;> simp only [LUpon] at hh ⊢
    case value u => exact h _ _ hh
    case skip => exact h _ _ hh
    case enter f args => exact hh.mono fun e W ⟨v, he, hk⟩ => ⟨v, he, h _ _ hk⟩
  | halt x w' => simp only [LUpon] at hh
theorem lOp_mono {i : Nat} {a : Act} {w : World} {K K' : Act → World → Prop} (h : ∀ a w, K a w → K' a w) (hh : lOp P ops i K a w) : lOp P ops i K' a w := by
  unfold lOp at *
  split
  · rename_i ho; simp only [ho] at hh; exact h _ _ hh
  · rename_i o ho
    simp only [ho] at hh
    split
    · rename_i hw; simp only [hw, if_true] at hh; exact LUpon_mono h hh
    · rename_i hw; simp only [hw] at hh; exact h _ _ hh

theorem lOp_put {j : Nat} {oi oj : Oper} {v : Value} (hj : ops[j]? = some oj) (hap : oi.apart ops oj = true)
    (hsi : ∀ cs b, oi.op ≠ .select cs b) (hsj : ∀ cs b, oj.op ≠ .select cs b) {K : Act → World → Prop} {a : Act} {w : World}
    (hy : EYields P ops X oi v a) (h : lOp P ops j K (a.put oi.dst v) w) :
    lOp P ops j (fun a' w' => EYields P ops X oi v a' ∧ K (a'.put oi.dst v) w') a w := by
  obtain ⟨h1, h2, h3⟩ := Oper.apart_spec hap
  have keep : ∀ (u : Value), EYields P ops X oi v (a.put oj.dst u) := fun u => hy.of_same (execOp_put oi hsi a oj.dst u h3) (wanted_put oi a oj.dst u h3)
  have swap : ∀ (u : Value) (W : World), K ((a.put oi.dst v).put oj.dst u) W → EYields P ops X oi v (a.put oj.dst u) ∧ K ((a.put oj.dst u).put oi.dst v) W := fun u W hk => ⟨keep u, by rw [← Act.put_comm a v u h2]; exact hk⟩
  unfold lOp at *
  simp only [hj] at *
  rw [wanted_put oj a oi.dst v h1] at h
  split
  · rename_i hw
    simp only [hw, if_true] at h
    rw [execOp_put oj hsj a oi.dst v h1] at h
    generalize (execOp a.eval oj).run P w = r at *
    cases r with
    | ok n w' =>
      cases n <;> simp only [LUpon] at h ⊢
      case value u => exact swap u _ h
      case skip => exact swap _ _ h
      case enter f args => exact h.mono fun e W ⟨u, he, hk⟩ => ⟨u, he, swap u _ hk⟩
    | halt x w' => simp only [LUpon] at h
  · rename_i hw
    simp only [hw] at h
    exact swap _ _ h

/-- Whatever order is left, in whatever worlds. -/
def wpM (P : Program) (md : Region.Mode) (ops : Array Oper) (X : World) (Q : Act → World → Prop) : Nat → Array Bool → Act → World → Prop
  | 0, listed, a, w => Region.ready md ops listed = [] ∧ ∀ W, Ext w W → Ext X W → Q a W
  | f + 1, listed, a, w => ∀ W, Ext w W → Ext X W → (Region.ready md ops listed = [] → Q a W) ∧
      ∀ i ∈ Region.ready md ops listed, lOp P ops i (fun a' W' => Ext X W' ∧ wpM P md ops X Q f (listed.setIfInBounds i true) a' W') a W
theorem wpM_ext {Q : Act → World → Prop} {f : Nat} {listed : Array Bool} {a : Act} {w w' : World} (h : wpM P md ops X Q f listed a w) (he : Ext w w') : wpM P md ops X Q f listed a w' := by
  cases f with
  | zero => exact ⟨h.1, fun W h1 h2 => h.2 W (he.trans' h1) h2⟩
  | succ f => exact fun W h1 h2 => h W (he.trans' h1) h2

theorem lOp_of_early {i : Nat} {oi : Oper} {v : Value} {a : Act} {W : World} {K : Act → World → Prop} (hi : ops[i]? = some oi) (hX : Ext X W) (hy : EYields P ops X oi v a) (hK : ∀ W', Ext W W' → K (a.put oi.dst v) W') : lOp P ops i K a W := by
  unfold lOp
  simp only [hi]
  rcases hy with ⟨hw, hy⟩ | ⟨hw, rfl⟩
  · simp only [hw, if_true]
    have h1 := hy W hX
    generalize (execOp a.eval oi).run P W = r at h1
    cases r with
    | ok n w' =>
      cases n <;> simp only [EUpon] at h1 <;> simp only [LUpon]
      case value u => obtain ⟨rfl, h2⟩ := h1; exact hK _ h2
      case skip => obtain ⟨rfl, h2⟩ := h1; exact hK _ h2
      case enter f args => obtain ⟨rfl, h2⟩ := h1; exact h2.mono fun e W'' ⟨he, hx⟩ => ⟨v, he, hK _ hx⟩
    | halt x w' => simp only [EUpon] at h1
  · simp only [hw, Bool.false_eq_true, if_false]; exact hK _ (RowKit.Below.refl _ _)

theorem wpM_first {Q : Act → World → Prop} {i : Nat} {oi : Oper} {v : Value} (hi : ops[i]? = some oi) (hsel : ∀ (j : Nat) (o : Oper) cs b, ops[j]? = some o → o.op ≠ .select cs b) :
    ∀ (f : Nat) (listed : Array Bool) (a : Act) (w : World),
      (∀ j oj, ops[j]? = some oj → j ≠ i → listed.getD j true = false → (∀ e ∈ oj.after, Region.binds md e = true → e.on ≠ i) → oi.apart ops oj = true) →
      i ∈ Region.ready md ops listed → EYields P ops X oi v a →
      wpM P md ops X Q f (listed.setIfInBounds i true) (a.put oi.dst v) w → wpM P md ops X Q (f + 1) listed a w := by
  intro f
  induction f with
  | zero =>
    intro listed a w hfree hr hy H W hwW hXW
    refine ⟨fun h => (by rw [h] at hr; cases hr), fun j hj => ?_⟩
    by_cases hji : j = i
    · subst hji
      exact lOp_of_early hi hXW hy fun W' hW' => ⟨hXW.trans' hW', wpM_ext H (hwW.trans' hW')⟩
    · have := ready_mono hj hji
      rw [H.1] at this
      cases this
  | succ f ih =>
    intro listed a w hfree hr hy H W hwW hXW
    refine ⟨fun h => (by rw [h] at hr; cases hr), fun j hj => ?_⟩
    by_cases hji : j = i
    · subst hji
      exact lOp_of_early hi hXW hy fun W' hW' => ⟨hXW.trans' hW', wpM_ext H (hwW.trans' hW')⟩
    · have h1 := (H W hwW hXW).2 j (ready_mono hj hji)
      obtain ⟨hjun, oj, hoj, hall⟩ := mem_ready.1 hj
      have hnot : ∀ e ∈ oj.after, Region.binds md e = true → e.on ≠ i := fun e he hb heq => by
        have h1 := hall e he hb
        have h0 := (mem_ready.1 hr).1
        rw [heq, getD_both h0] at h1
        cases h1
      have h2 := lOp_put hoj (hfree j oj hoj hji hjun hnot) (fun cs b => hsel i oi cs b hi) (fun cs b => hsel j oj cs b hoj) hy h1
      have hfree' : ∀ k ok, ops[k]? = some ok → k ≠ i → (listed.setIfInBounds j true).getD k true = false →
          (∀ e ∈ ok.after, Region.binds md e = true → e.on ≠ i) → oi.apart ops ok = true := fun k ok hk hki hun hno => by
        refine hfree k ok hk hki ?_ hno
        by_cases hjk : j = k
        · subst hjk; exact hjun
        · rw [getD_set_ne true hjk] at hun; exact hun
      refine lOp_mono (fun a' W' h3 => ⟨h3.2.1, ih (listed.setIfInBounds j true) a' W' hfree' (ready_mono hr (Ne.symm hji)) h3.1 ?_⟩) h2
      rw [Array.setIfInBounds_comm _ _ hji]
      exact h3.2.2

/-- The early operations, by their numbers, in order. -/
def wpE (P : Program) (ops : Array Oper) (X : World) (L : Act → Prop) : List (Nat × Oper) → Act → Prop
  | [], a => L a
  | (_, o) :: rest, a => ∃ v, EYields P ops X o v a ∧ wpE P ops X L rest (a.put o.dst v)
def setAll (listed : Array Bool) : List Nat → Array Bool
  | [] => listed
  | i :: l => setAll (listed.setIfInBounds i true) l
/-- Each one is ready in its turn, and free. -/
def earlyB (md : Region.Mode) (ops : Array Oper) : List Nat → Array Bool → Bool
  | [], _ => true
  | i :: l, listed => (Region.ready md ops listed).contains i && Region.free md ops listed i && earlyB md ops l (listed.setIfInBounds i true)
def pick (ops : Array Oper) : List Nat → List (Nat × Oper)
  | [] => []
  | i :: l => match ops[i]? with
    | some o => (i, o) :: pick ops l
    | none => pick ops l

theorem wpM_early {Q : Act → World → Prop} (hsel : Region.noSelect ops = true) {w : World} : ∀ (E : List Nat) (g : Nat) (listed : Array Bool) (a : Act), earlyB md ops E listed = true →
    wpE P ops X (fun a' => wpM P md ops X Q g (setAll listed E) a' w) (pick ops E) a → wpM P md ops X Q (E.length + g) listed a w
  | [], g, listed, a, _, h => by simpa [setAll, pick, wpE] using h
  | i :: E, g, listed, a, hB, h => by
    simp only [earlyB, Bool.and_eq_true] at hB
    obtain ⟨⟨hr, hf⟩, hB'⟩ := hB
    have hr' : i ∈ Region.ready md ops listed := by simpa using hr
    obtain ⟨_, oi, hoi, _⟩ := mem_ready.1 hr'
    simp only [pick, hoi, wpE] at h
    obtain ⟨v, hy, hK⟩ := h
    rw [List.length_cons, show E.length + 1 + g = (E.length + g) + 1 by omega]
    exact wpM_first hoi (Region.noSelect_spec hsel) _ _ _ _ (Region.free_spec hoi hf) hr' hy (wpM_early hsel E g _ _ hB' hK)

theorem wpOp_of_lOp {i : Nat} {a : Act} {w : World} {K K' : Act → World → Prop} {Q' : Exit → Act → World → Prop} (h : ∀ a w, K a w → K' a w) (hh : lOp P ops i K a w) : wpOp P ops Q' i K' a w := by
  unfold lOp at hh
  unfold wpOp
  split
  · rename_i ho; simp only [ho] at hh; exact h _ _ hh
  · rename_i o ho
    simp only [ho] at hh
    split
    · rename_i hw
      simp only [hw, if_true] at hh
      refine .inl ?_
      unfold Oper.wp
      generalize (execOp a.eval o).run P w = r at hh
      cases r with
      | ok n w' =>
        cases n <;> simp only [LUpon] at hh <;> simp only [Oper.upon]
        case value u => exact h _ _ hh
        case skip => exact h _ _ hh
        case enter f args =>
          refine hh.mono ?_
          rintro e W ⟨v, rfl, hk⟩
          exact h _ _ hk
      | halt x w' => simp only [LUpon] at hh
    · rename_i hw; simp only [hw] at hh; exact h _ _ hh
theorem wpAny_of_M {Q : Act → World → Prop} {Q' : Exit → Act → World → Prop} (hQ : ∀ a w, Q a w → Q' .normal a w) : ∀ (f : Nat) (listed : Array Bool) (a : Act) (w : World), Ext X w → wpM P md ops X Q f listed a w → wpAny P md ops Q' f listed a w
  | 0, _, _, _, hX, h => ⟨h.1, hQ _ _ (h.2 _ (RowKit.Below.refl _ _) hX)⟩
  | f + 1, _, _, w, hX, h =>
    have h' := h w (RowKit.Below.refl _ _) hX
    ⟨fun h0 => hQ _ _ (h'.1 h0), fun i hi => wpOp_of_lOp (fun _ _ hk => wpAny_of_M hQ f _ _ _ hk.1 hk.2) (h'.2 i hi)⟩

/-- The law, outside a round. -/
theorem wp_region_el {id : Nat} {Q : Exit → Act → World → Prop} {a : Act} {w : World} {l : List Oper} (E : List Nat) (g : Nat) (hm : P.follows .mixedOrders = true)
    (hB : (Region.noSelect l.toArray && decide (E.length + g = l.length) && earlyB .any l.toArray E (Array.replicate l.length false)) = true)
    (h : ∀ X, X = w.drew → wpE P l.toArray X (fun a' => wpM P .any l.toArray X (fun a w => wpList P l.toArray Q [] a w) g (setAll (Array.replicate l.length false) E) a' X) (pick l.toArray E) a) : (Code.region id l.toArray true).wp P Q a w := by
  simp only [Bool.and_eq_true, decide_eq_true_eq] at hB
  obtain ⟨⟨hsel, hn⟩, hE⟩ := hB
  refine wp_region_any hm ?_
  have := wpM_early (X := w.drew) hsel E g _ a hE (h _ rfl)
  rw [hn] at this
  have := wpAny_of_M (Q' := Q) (fun _ _ hk => hk) _ _ _ _ (RowKit.Below.refl _ _) this
  simpa using this

variable {ro : Option Nat} {n : Nat}
theorem wpOpIn_of_lOp {i : Nat} {a : Act} {w : World} {K K' : Act → World → Prop} {Q' : Exit → Act → World → Prop} (hd : noDefer ops = true) (h : ∀ a w, K a w → K' a w) (hh : lOp P ops i K a w) : wpOpIn (Wd ro) n P ops Q' i K' a w := by
  unfold lOp at hh
  unfold wpOpIn
  split
  · rename_i ho; simp only [ho] at hh; exact h _ _ hh
  · rename_i o ho
    simp only [ho] at hh
    split
    · rename_i hw
      simp only [hw, if_true] at hh
      unfold Oper.wpIn
      refine ⟨fun f _ => trivial, ?_⟩
      rw [Oper.semAt_eq _ _ _ (noDefer_spec hd i o ho)]
      generalize (execOp a.eval o).run P w = r at hh
      cases r with
      | ok n w' =>
        cases n <;> simp only [LUpon] at hh <;> simp only [Oper.uponIn]
        case value u => exact h _ _ hh
        case skip => exact h _ _ hh
        case enter f args =>
          refine ⟨fun hx => (by cases hx), calls_wd (hh.mono ?_)⟩
          rintro e W ⟨v, rfl, hk⟩
          exact h _ _ hk
      | halt x w' => simp only [LUpon] at hh
    · rename_i hw; simp only [hw] at hh; exact ⟨fun f _ => trivial, h _ _ hh⟩
theorem wpAnyIn_of_M {Q : Act → World → Prop} {Q' : Exit → Act → World → Prop} (hd : noDefer ops = true) (hQ : ∀ a w, Q a w → Q' .normal a w) : ∀ (f : Nat) (listed : Array Bool) (a : Act) (w : World), Ext X w → wpM P md ops X Q f listed a w → wpAnyIn (Wd ro) n P md ops Q' f listed a w
  | 0, _, _, _, hX, h => ⟨h.1, hQ _ _ (h.2 _ (RowKit.Below.refl _ _) hX)⟩
  | f + 1, _, _, w, hX, h =>
    have h' := h w (RowKit.Below.refl _ _) hX
    ⟨fun h0 => hQ _ _ (h'.1 h0), fun i hi => wpOpIn_of_lOp hd (fun _ _ hk => wpAnyIn_of_M hd hQ f _ _ _ hk.1 hk.2) (h'.2 i hi)⟩
/-- The law, at the wide fence. -/
theorem wpIn_region_el {id : Nat} {Q : Exit → Act → World → Prop} {a : Act} {w : World} {l : List Oper} (E : List Nat) (g : Nat) (hm : P.follows .mixedOrders = true)
    (hB : (noDefer l.toArray && Region.noSelect l.toArray && decide (E.length + g = l.length) && earlyB .any l.toArray E (Array.replicate l.length false)) = true)
    (h : ∀ X, X = w.drew → wpE P l.toArray X (fun a' => wpM P .any l.toArray X (fun a w => wpListIn (Wd ro) n P l.toArray Q [] a w) g (setAll (Array.replicate l.length false) E) a' X) (pick l.toArray E) a) : (Code.region id l.toArray true).wpIn (Wd ro) n P Q a w := by
  simp only [Bool.and_eq_true, decide_eq_true_eq] at hB
  obtain ⟨⟨⟨hd, hsel⟩, hn⟩, hE⟩ := hB
  refine wpIn_region_any hm ?_
  have := wpM_early (X := w.drew) hsel E g _ a hE (h _ rfl)
  rw [hn] at this
  have := wpAnyIn_of_M (ro := ro) (n := n) (Q' := Q) hd (fun _ _ hk => hk) _ _ _ _ (RowKit.Below.refl _ _) this
  simpa using this

/-! Steps. -/
theorem wpE_val {L : Act → Prop} {a : Act} {i : Nat} {o : Oper} {rest : List (Nat × Oper)} {v : Value} (hw : Region.wanted o (yielded ops a.tmps) = true)
    (hv : ∀ W, Ext X W → (execOp a.eval o).run P W = .ok (.value v) W) (h : wpE P ops X L rest (a.put o.dst v)) : wpE P ops X L ((i, o) :: rest) a :=
  ⟨v, .inl ⟨hw, fun W hW => by rw [hv W hW]; exact ⟨rfl, RowKit.Below.refl _ _⟩⟩, h⟩
theorem wpE_not {L : Act → Prop} {a : Act} {i : Nat} {o : Oper} {rest : List (Nat × Oper)} (hw : Region.wanted o (yielded ops a.tmps) = false)
    (h : wpE P ops X L rest (a.put o.dst undef)) : wpE P ops X L ((i, o) :: rest) a := ⟨undef, .inr ⟨hw, rfl⟩, h⟩
theorem wpE_call {L : Act → Prop} {a : Act} {i : Nat} {o : Oper} {rest : List (Nat × Oper)} {v : Value} {f : FuncId} {args : Array Value} (hw : Region.wanted o (yielded ops a.tmps) = true)
    (hc : ∀ W, Ext X W → Calls P f args W fun e W' => e = .returned v ∧ RowKit.Below W.heap.size W W')
    (hv : ∀ W, Ext X W → (execOp a.eval o).run P W = .ok (.enter f args) W)
    (h : wpE P ops X L rest (a.put o.dst v)) : wpE P ops X L ((i, o) :: rest) a :=
  ⟨v, .inl ⟨hw, fun W hW => by rw [hv W hW]; exact ⟨rfl, hc W hW⟩⟩, h⟩
theorem wpE_valP {L : Act → Prop} {a : Act} {i : Nat} {o : Oper} {E : List Nat} {v : Value} (ho : ops[i]? = some o) (hw : Region.wanted o (yielded ops a.tmps) = true)
    (hv : ∀ W, Ext X W → (execOp a.eval o).run P W = .ok (.value v) W) (h : wpE P ops X L (pick ops E) (a.put o.dst v)) : wpE P ops X L (pick ops (i :: E)) a := by
  simp only [pick, ho]
  exact wpE_val hw hv h
theorem wpE_notP {L : Act → Prop} {a : Act} {i : Nat} {o : Oper} {E : List Nat} (ho : ops[i]? = some o) (hw : Region.wanted o (yielded ops a.tmps) = false)
    (h : wpE P ops X L (pick ops E) (a.put o.dst undef)) : wpE P ops X L (pick ops (i :: E)) a := by
  simp only [pick, ho]
  exact wpE_not hw h
theorem wpE_callP {L : Act → Prop} {a : Act} {i : Nat} {o : Oper} {E : List Nat} {v : Value} {f : FuncId} {args : Array Value} (ho : ops[i]? = some o) (hw : Region.wanted o (yielded ops a.tmps) = true)
    (hc : ∀ W, Ext X W → Calls P f args W fun e W' => e = .returned v ∧ RowKit.Below W.heap.size W W')
    (hv : ∀ W, Ext X W → (execOp a.eval o).run P W = .ok (.enter f args) W)
    (h : wpE P ops X L (pick ops E) (a.put o.dst v)) : wpE P ops X L (pick ops (i :: E)) a := by
  simp only [pick, ho]
  exact wpE_call hw hc hv h
theorem wpE_nilP {L : Act → Prop} {a : Act} (h : L a) : wpE P ops X L (pick ops []) a := h
theorem wpM_end {Q : Act → World → Prop} {listed : Array Bool} {a : Act} {w : World} (hr : (Region.ready md ops listed).isEmpty = true) (h : ∀ W, Ext w W → Ext X W → Q a W) : wpM P md ops X Q 0 listed a w :=
  ⟨by simpa using hr, h⟩
/-- The one operation that is ready leaves a value. -/
theorem wpM_one {Q : Act → World → Prop} {f : Nat} {listed : Array Bool} {a : Act} {w : World} (k : Nat) (o : Oper) (ho : ops[k]? = some o) (hr : decide (Region.ready md ops listed = [k]) = true) (hw : Region.wanted o (yielded ops a.tmps) = true)
    (h : ∀ W, Ext w W → Ext X W → LUpon P o a (fun a' W' => Ext X W' ∧ wpM P md ops X Q f (listed.setIfInBounds k true) a' W') ((execOp a.eval o).run P W)) : wpM P md ops X Q (f + 1) listed a w := by
  intro W h1 h2
  rw [of_decide_eq_true hr]
  refine ⟨fun h => (by cases h), fun i hi => ?_⟩
  obtain rfl : i = k := by simpa using hi
  unfold lOp
  simp only [ho, hw, if_true]
  exact h W h1 h2
end
end Go.Proofs.Ytiobmfggnacplaa
/- Regions that draw their order, with several things that write: what is free first, then the one that is ready, from there on anew. -/
namespace Go.Proofs.Ytiobmfggnacplaa
open Go.RowKit
section
variable {P : Program} {md : Region.Mode} {ops : Array Oper}
theorem wpM_rebase {X Y : World} {Q : Act → World → Prop} (hXY : Ext X Y) : ∀ (f : Nat) (listed : Array Bool) (a : Act) (w : World), Ext Y w → wpM P md ops Y Q f listed a w → wpM P md ops X Q f listed a w
  | 0, listed, a, w, hYw, h => ⟨h.1, fun W h1 _ => h.2 W h1 (hYw.trans' h1)⟩
  | f + 1, listed, a, w, hYw, h => fun W h1 h2 => by
    have hW := h W h1 (hYw.trans' h1)
    refine ⟨hW.1, fun i hi => lOp_mono (fun a' W' hh => ⟨hXY.trans' hh.1, wpM_rebase hXY f _ a' W' hh.1 hh.2⟩) (hW.2 i hi)⟩
/-- From this world on. -/
theorem wpM_here {X w : World} {Q : Act → World → Prop} {f : Nat} {listed : Array Bool} {a : Act} (hX : Ext X w) (h : ∀ Y, Y = w → wpM P md ops Y Q f listed a Y) : wpM P md ops X Q f listed a w :=
  wpM_rebase hX f listed a w (RowKit.Below.refl _ _) (h w rfl)
end
end Go.Proofs.Ytiobmfggnacplaa
/- The second law again, with a condition on worlds in the place of a first world: what is free is read where the condition holds, and what writes has to keep it, wherever it writes. -/
namespace Go.Proofs.Ytiobmfggnacplaa.Sx
open Go
section
variable {P : Program} {ops : Array Oper} {md : Region.Mode} {S : World → Prop}

/-- In every world behind X. -/
def EYields (P : Program) (ops : Array Oper) (S : World → Prop) (o : Oper) (v : Value) (a : Act) : Prop :=
  (Region.wanted o (yielded ops a.tmps) = true ∧ ∀ W, S W → EUpon P W v ((execOp a.eval o).run P W)) ∨ (Region.wanted o (yielded ops a.tmps) = false ∧ v = undef)
theorem EYields.of_same {o : Oper} {v : Value} {a a' : Act} (hy : EYields P ops S o v a) (he : execOp a'.eval o = execOp a.eval o)
    (hw : Region.wanted o (yielded ops a'.tmps) = Region.wanted o (yielded ops a.tmps)) : EYields P ops S o v a' := by
  unfold EYields at *
  rw [he, hw]
  exact hy

theorem lOp_put {j : Nat} {oi oj : Oper} {v : Value} (hj : ops[j]? = some oj) (hap : oi.apart ops oj = true)
    (hsi : ∀ cs b, oi.op ≠ .select cs b) (hsj : ∀ cs b, oj.op ≠ .select cs b) {K : Act → World → Prop} {a : Act} {w : World}
    (hy : EYields P ops S oi v a) (h : lOp P ops j K (a.put oi.dst v) w) :
    lOp P ops j (fun a' w' => EYields P ops S oi v a' ∧ K (a'.put oi.dst v) w') a w := by
  obtain ⟨h1, h2, h3⟩ := Oper.apart_spec hap
  have keep : ∀ (u : Value), EYields P ops S oi v (a.put oj.dst u) := fun u => hy.of_same (execOp_put oi hsi a oj.dst u h3) (wanted_put oi a oj.dst u h3)
  have swap : ∀ (u : Value) (W : World), K ((a.put oi.dst v).put oj.dst u) W → EYields P ops S oi v (a.put oj.dst u) ∧ K ((a.put oj.dst u).put oi.dst v) W := fun u W hk => ⟨keep u, by rw [← Act.put_comm a v u h2]; exact hk⟩
  unfold lOp at *
  simp only [hj] at *
  rw [wanted_put oj a oi.dst v h1] at h
  split
  · rename_i hw
    simp only [hw, if_true] at h
    rw [execOp_put oj hsj a oi.dst v h1] at h
    generalize (execOp a.eval oj).run P w = r at *
    cases r with
    | ok n w' =>
      cases n <;> simp only [LUpon] at h ⊢
      case value u => exact swap u _ h
      case skip => exact swap _ _ h
      case enter f args => exact h.mono fun e W ⟨u, he, hk⟩ => ⟨u, he, swap u _ hk⟩
    | halt x w' => simp only [LUpon] at h
  · rename_i hw
    simp only [hw] at h
    exact swap _ _ h

/-- Whatever order is left, in whatever worlds. -/
def wpM (P : Program) (md : Region.Mode) (ops : Array Oper) (S : World → Prop) (Q : Act → World → Prop) : Nat → Array Bool → Act → World → Prop
  | 0, listed, a, w => Region.ready md ops listed = [] ∧ ∀ W, Ext w W → S W → Q a W
  | f + 1, listed, a, w => ∀ W, Ext w W → S W → (Region.ready md ops listed = [] → Q a W) ∧
      ∀ i ∈ Region.ready md ops listed, lOp P ops i (fun a' W' => S W' ∧ wpM P md ops S Q f (listed.setIfInBounds i true) a' W') a W
theorem wpM_ext {Q : Act → World → Prop} {f : Nat} {listed : Array Bool} {a : Act} {w w' : World} (h : wpM P md ops S Q f listed a w) (he : Ext w w') : wpM P md ops S Q f listed a w' := by
  cases f with
  | zero => exact ⟨h.1, fun W h1 h2 => h.2 W (he.trans' h1) h2⟩
  | succ f => exact fun W h1 h2 => h W (he.trans' h1) h2

theorem lOp_of_early {i : Nat} {oi : Oper} {v : Value} {a : Act} {W : World} {K : Act → World → Prop} (hi : ops[i]? = some oi) (hX : S W) (hy : EYields P ops S oi v a) (hK : ∀ W', Ext W W' → K (a.put oi.dst v) W') : lOp P ops i K a W := by
  unfold lOp
  simp only [hi]
  rcases hy with ⟨hw, hy⟩ | ⟨hw, rfl⟩
  · simp only [hw, if_true]
    have h1 := hy W hX
    generalize (execOp a.eval oi).run P W = r at h1
    cases r with
    | ok n w' =>
      cases n <;> simp only [EUpon] at h1 <;> simp only [LUpon]
      case value u => obtain ⟨rfl, h2⟩ := h1; exact hK _ h2
      case skip => obtain ⟨rfl, h2⟩ := h1; exact hK _ h2
      case enter f args => obtain ⟨rfl, h2⟩ := h1; exact h2.mono fun e W'' ⟨he, hx⟩ => ⟨v, he, hK _ hx⟩
    | halt x w' => simp only [EUpon] at h1
  · simp only [hw, Bool.false_eq_true, if_false]; exact hK _ (RowKit.Below.refl _ _)

theorem wpM_first (hS : ∀ W W', S W → Ext W W' → S W') {Q : Act → World → Prop} {i : Nat} {oi : Oper} {v : Value} (hi : ops[i]? = some oi) (hsel : ∀ (j : Nat) (o : Oper) cs b, ops[j]? = some o → o.op ≠ .select cs b) :
    ∀ (f : Nat) (listed : Array Bool) (a : Act) (w : World),
      (∀ j oj, ops[j]? = some oj → j ≠ i → listed.getD j true = false → (∀ e ∈ oj.after, Region.binds md e = true → e.on ≠ i) → oi.apart ops oj = true) →
      i ∈ Region.ready md ops listed → EYields P ops S oi v a →
      wpM P md ops S Q f (listed.setIfInBounds i true) (a.put oi.dst v) w → wpM P md ops S Q (f + 1) listed a w := by
  intro f
  induction f with
  | zero =>
    intro listed a w hfree hr hy H W hwW hXW
    refine ⟨fun h => (by rw [h] at hr; cases hr), fun j hj => ?_⟩
    by_cases hji : j = i
    · subst hji
      exact lOp_of_early hi hXW hy fun W' hW' => ⟨hS _ _ hXW hW', wpM_ext H (hwW.trans' hW')⟩
    · have := ready_mono hj hji
      rw [H.1] at this
      cases this
  | succ f ih =>
    intro listed a w hfree hr hy H W hwW hXW
    refine ⟨fun h => (by rw [h] at hr; cases hr), fun j hj => ?_⟩
    by_cases hji : j = i
    · subst hji
      exact lOp_of_early hi hXW hy fun W' hW' => ⟨hS _ _ hXW hW', wpM_ext H (hwW.trans' hW')⟩
    · have h1 := (H W hwW hXW).2 j (ready_mono hj hji)
      obtain ⟨hjun, oj, hoj, hall⟩ := mem_ready.1 hj
      have hnot : ∀ e ∈ oj.after, Region.binds md e = true → e.on ≠ i := fun e he hb heq => by
        have h1 := hall e he hb
        have h0 := (mem_ready.1 hr).1
        rw [heq, getD_both h0] at h1
        cases h1
      have h2 := lOp_put hoj (hfree j oj hoj hji hjun hnot) (fun cs b => hsel i oi cs b hi) (fun cs b => hsel j oj cs b hoj) hy h1
      have hfree' : ∀ k ok, ops[k]? = some ok → k ≠ i → (listed.setIfInBounds j true).getD k true = false →
          (∀ e ∈ ok.after, Region.binds md e = true → e.on ≠ i) → oi.apart ops ok = true := fun k ok hk hki hun hno => by
        refine hfree k ok hk hki ?_ hno
        by_cases hjk : j = k
        · subst hjk; exact hjun
        · rw [getD_set_ne true hjk] at hun; exact hun
      refine lOp_mono (fun a' W' h3 => ⟨h3.2.1, ih (listed.setIfInBounds j true) a' W' hfree' (ready_mono hr (Ne.symm hji)) h3.1 ?_⟩) h2
      rw [Array.setIfInBounds_comm _ _ hji]
      exact h3.2.2

/-- The early operations, by their numbers, in order. -/
def wpE (P : Program) (ops : Array Oper) (S : World → Prop) (L : Act → Prop) : List (Nat × Oper) → Act → Prop
  | [], a => L a
  | (_, o) :: rest, a => ∃ v, EYields P ops S o v a ∧ wpE P ops S L rest (a.put o.dst v)
theorem wpM_early (hS : ∀ W W', S W → Ext W W' → S W') {Q : Act → World → Prop} (hsel : Region.noSelect ops = true) {w : World} : ∀ (E : List Nat) (g : Nat) (listed : Array Bool) (a : Act), earlyB md ops E listed = true →
    wpE P ops S (fun a' => wpM P md ops S Q g (setAll listed E) a' w) (pick ops E) a → wpM P md ops S Q (E.length + g) listed a w
  | [], g, listed, a, _, h => by simpa [setAll, pick, wpE] using h
  | i :: E, g, listed, a, hB, h => by
    simp only [earlyB, Bool.and_eq_true] at hB
    obtain ⟨⟨hr, hf⟩, hB'⟩ := hB
    have hr' : i ∈ Region.ready md ops listed := by simpa using hr
    obtain ⟨_, oi, hoi, _⟩ := mem_ready.1 hr'
    simp only [pick, hoi, wpE] at h
    obtain ⟨v, hy, hK⟩ := h
    rw [List.length_cons, show E.length + 1 + g = (E.length + g) + 1 by omega]
    exact wpM_first hS hoi (Region.noSelect_spec hsel) _ _ _ _ (Region.free_spec hoi hf) hr' hy (wpM_early hS hsel E g _ _ hB' hK)

theorem wpAny_of_M {Q : Act → World → Prop} {Q' : Exit → Act → World → Prop} (hQ : ∀ a w, Q a w → Q' .normal a w) : ∀ (f : Nat) (listed : Array Bool) (a : Act) (w : World), S w → wpM P md ops S Q f listed a w → wpAny P md ops Q' f listed a w
  | 0, _, _, _, hX, h => ⟨h.1, hQ _ _ (h.2 _ (RowKit.Below.refl _ _) hX)⟩
  | f + 1, _, _, w, hX, h =>
    have h' := h w (RowKit.Below.refl _ _) hX
    ⟨fun h0 => hQ _ _ (h'.1 h0), fun i hi => wpOp_of_lOp (fun _ _ hk => wpAny_of_M hQ f _ _ _ hk.1 hk.2) (h'.2 i hi)⟩

/-- The law, outside a round. -/
theorem wp_region_el (S : World → Prop) (hS : ∀ W W', S W → Ext W W' → S W') {id : Nat} {Q : Exit → Act → World → Prop} {a : Act} {w : World} {l : List Oper} (E : List Nat) (g : Nat) (hm : P.follows .mixedOrders = true)
    (hB : (Region.noSelect l.toArray && decide (E.length + g = l.length) && earlyB .any l.toArray E (Array.replicate l.length false)) = true) (h0 : S w.drew)
    (h : wpE P l.toArray S (fun a' => wpM P .any l.toArray S (fun a w => wpList P l.toArray Q [] a w) g (setAll (Array.replicate l.length false) E) a' w.drew) (pick l.toArray E) a) : (Code.region id l.toArray true).wp P Q a w := by
  simp only [Bool.and_eq_true, decide_eq_true_eq] at hB
  obtain ⟨⟨hsel, hn⟩, hE⟩ := hB
  refine wp_region_any hm ?_
  have := wpM_early (w := w.drew) hS hsel E g _ a hE h
  rw [hn] at this
  have := wpAny_of_M (Q' := Q) (fun _ _ hk => hk) _ _ _ _ h0 this
  simpa using this
theorem wpE_val {L : Act → Prop} {a : Act} {i : Nat} {o : Oper} {rest : List (Nat × Oper)} {v : Value} (hw : Region.wanted o (yielded ops a.tmps) = true)
    (hv : ∀ W, S W → (execOp a.eval o).run P W = .ok (.value v) W) (h : wpE P ops S L rest (a.put o.dst v)) : wpE P ops S L ((i, o) :: rest) a :=
  ⟨v, .inl ⟨hw, fun W hW => by rw [hv W hW]; exact ⟨rfl, RowKit.Below.refl _ _⟩⟩, h⟩
theorem wpE_not {L : Act → Prop} {a : Act} {i : Nat} {o : Oper} {rest : List (Nat × Oper)} (hw : Region.wanted o (yielded ops a.tmps) = false)
    (h : wpE P ops S L rest (a.put o.dst undef)) : wpE P ops S L ((i, o) :: rest) a := ⟨undef, .inr ⟨hw, rfl⟩, h⟩
theorem wpE_call {L : Act → Prop} {a : Act} {i : Nat} {o : Oper} {rest : List (Nat × Oper)} {v : Value} {f : FuncId} {args : Array Value} (hw : Region.wanted o (yielded ops a.tmps) = true)
    (hc : ∀ W, S W → Calls P f args W fun e W' => e = .returned v ∧ RowKit.Below W.heap.size W W')
    (hv : ∀ W, S W → (execOp a.eval o).run P W = .ok (.enter f args) W)
    (h : wpE P ops S L rest (a.put o.dst v)) : wpE P ops S L ((i, o) :: rest) a :=
  ⟨v, .inl ⟨hw, fun W hW => by rw [hv W hW]; exact ⟨rfl, hc W hW⟩⟩, h⟩
theorem wpM_end {Q : Act → World → Prop} {listed : Array Bool} {a : Act} {w : World} (hr : (Region.ready md ops listed).isEmpty = true) (h : ∀ W, Ext w W → S W → Q a W) : wpM P md ops S Q 0 listed a w :=
  ⟨by simpa using hr, h⟩
/-- The one operation that is ready leaves a value. -/
theorem wpM_one {Q : Act → World → Prop} {f : Nat} {listed : Array Bool} {a : Act} {w : World} (k : Nat) (o : Oper) (ho : ops[k]? = some o) (hr : decide (Region.ready md ops listed = [k]) = true) (hw : Region.wanted o (yielded ops a.tmps) = true)
    (h : ∀ W, Ext w W → S W → LUpon P o a (fun a' W' => S W' ∧ wpM P md ops S Q f (listed.setIfInBounds k true) a' W') ((execOp a.eval o).run P W)) : wpM P md ops S Q (f + 1) listed a w := by
  intro W h1 h2
  rw [of_decide_eq_true hr]
  refine ⟨fun h => (by cases h), fun i hi => ?_⟩
  obtain rfl : i = k := by simpa using hi
  unfold lOp
  simp only [ho, hw, if_true]
  exact h W h1 h2
theorem wpM_two {P : Program} {md : Region.Mode} {ops : Array Oper}  {Q : Act → World → Prop} {f : Nat} {listed : Array Bool} {a : Act} {w : World} (i j : Nat) (o o' : Oper) (ho : ops[i]? = some o) (ho' : ops[j]? = some o') (hr : decide (Region.ready md ops listed = [i, j]) = true) (hw : Region.wanted o (yielded ops a.tmps) = true) (hw' : Region.wanted o' (yielded ops a.tmps) = true)
    (h : ∀ W, Ext w W → S W → LUpon P o a (fun a' W' => S W' ∧ wpM P md ops S Q f (listed.setIfInBounds i true) a' W') ((execOp a.eval o).run P W))
    (h' : ∀ W, Ext w W → S W → LUpon P o' a (fun a' W' => S W' ∧ wpM P md ops S Q f (listed.setIfInBounds j true) a' W') ((execOp a.eval o').run P W)) : wpM P md ops S Q (f + 1) listed a w := by
  intro W h1 h2
  rw [of_decide_eq_true hr]
  refine ⟨fun h => (by cases h), fun q hq => ?_⟩
  rcases List.mem_cons.1 hq with rfl | hq
  · unfold lOp
    simp only [ho, hw, if_true]
    exact h W h1 h2
  · obtain rfl : q = j := by simpa using hq
    unfold lOp
    simp only [ho', hw', if_true]
    exact h' W h1 h2
end
end Go.Proofs.Ytiobmfggnacplaa.Sx
/- Steps and words over the laws of this folder: an append as one step of a region, two things that are ready, what lies as it lay but for some blocks, maps. -/
namespace Go.Proofs.Ytiobmfggnacplaa
open Go.RowKit
/-- An append to an own slice as one step of a region that draws. -/
theorem lupon_append_own {P : Program} (w : World) {o : Oper} {a : Act} {K : Act → World → Prop} (s x : Operand) (t : TypeId)
    (ho : o.op = .call { callee := .builtin .append, args := #[s, x], argTypes := #[t, t] })
    (base : Nat) (e : TypeId) (i : TypeInfo) (z : Value) (size bytes : Nat) (ht : P.underlying t = some (.slice e)) (hi : P.info? e = some i) (hz : i.zero = some z)
    (hsize : i.size = size) (hby : i.bytes = bytes) (hzs : z.cells.size = size) (hsz : 0 < size)
    (v : Value) (n : Nat) (xs : List Value) (hs : a.eval s = v) (hown : w.ownsRow base e size v n xs)
    (ad : Addr) (m c : Nat) (news : List Value) (hx : a.eval x = .slice (some ad) m c) (hl : news.length = m * size) (hnews : ∀ j u, news[j]? = some u → w.cell? (ad.add j) = some u) (h1 : ∀ u ∈ news, u.oneCell' = true)
    (h63 : n + m ≤ maxLen) (hbytes : (n + m) * bytes ≤ 140737488355328) (hbase : base ≤ w.heap.size)
    (h : ∀ v' w', w'.ownsRow base e size v' (n + m) (xs ++ news) → w.grownBy w' v.ownBlock → K (a.put o.dst v') w') : LUpon P o a K ((execOp a.eval o).run P w) := by
  obtain ⟨v', w', hr, h2, h3, h4⟩ := run_append_own (P := P) w base t o.type e i z size bytes ht hi hz hsize hby hzs hsz v n xs hown ad m c news hl hnews h1 h63 hbytes hbase
  unfold execOp
  simp only [ho, resolve, invoke, builtin, Sem.run_bind, Sem.run_pure, Result.andThen_ok, List.map_toArray, List.map_cons, List.map_nil, hs, hx, hr]
  exact h v' w' h2 h3
/-- What has come when k rounds are over. -/
def upto {α : Type} (f : Nat → α) (k : Nat) : List α := (List.range k).map f
theorem upto_succ {α : Type} (f : Nat → α) (k : Nat) : upto f (k + 1) = upto f k ++ [f k] := by simp [upto, List.range_succ]
theorem upto_length {α : Type} (f : Nat → α) (k : Nat) : (upto f k).length = k := by simp [upto]
/-- Below n₀ all blocks but some lie as they lay. -/
def KpG (n₀ : Nat) (G : Nat → Prop) (W W' : World) : Prop := W.heap.size ≤ W'.heap.size ∧ ∀ k, k < n₀ → ¬ G k → W'.heap[k]? = W.heap[k]?
theorem KpG.refl (n₀ : Nat) (G : Nat → Prop) (W : World) : KpG n₀ G W W := ⟨Nat.le_refl _, fun _ _ _ => rfl⟩
theorem KpG.trans {n₀ : Nat} {G : Nat → Prop} {A B C : World} (h : KpG n₀ G A B) (k : KpG n₀ G B C) : KpG n₀ G A C := ⟨Nat.le_trans h.1 k.1, fun i hi hg => (k.2 i hi hg).trans (h.2 i hi hg)⟩
theorem KpG.putObj {n₀ : Nat} {G : Nat → Prop} {w : World} (hn : n₀ ≤ w.heap.size) (W : World) (l : Nat) (o o' : Obj) (hl : w.heap.size ≤ l) (h : W.heap[l]? = some o) (_ : o.isCells = false) (_ : o.isWalk = false) : KpG n₀ G W (W.putObj l o') :=
  have hb := belowK_b hn W l o o' hl h ‹_› ‹_›
  ⟨hb.size, fun k hk _ => hb.block k hk⟩
theorem KpG.cell {n₀ : Nat} {G : Nat → Prop} {W W' : World} (h : KpG n₀ G W W') {p : Addr} (hp : p.block < n₀) (hg : ¬ G p.block) : W'.cell? p = W.cell? p := World.cell?_of_block (h.2 _ hp hg)
theorem KpG.of_below {n₀ : Nat} {G : Nat → Prop} {W W' : World} (h : Below n₀ W W') : KpG n₀ G W W' := ⟨h.size, fun k hk _ => h.block k hk⟩
theorem KpG.setCell {n₀ : Nat} {G : Nat → Prop} (W : World) {p : Addr} (hp : G p.block) (u : Value) : KpG n₀ G W (W.setCell p u) :=
  ⟨by simp [World.setCell], fun k _ hg => Below.heap_setCell _ _ _ _ (fun e => hg (by rw [e]; exact hp))⟩
theorem KpG.alloc {n₀ : Nat} {G : Nat → Prop} (W : World) (h : n₀ ≤ W.heap.size) (o : Obj) : KpG n₀ G W (W.alloc o) := KpG.of_below ((Below.refl _ W).alloc h o)
theorem keepsFrom_own {A B : World} {base e size n b : Nat} {v : Value} {xs : List Value} (h : A.ownsRow base e size v n xs) (hg : A.grownBy B v.ownBlock) : KeepsFrom b A B := by
  refine ⟨hg.size, fun k o _ hk ho => (hg.block k (Array.getElem?_eq_some_iff.1 hk).1 ?_).trans hk⟩
  rcases h.2 with ⟨rfl, _⟩ | ⟨g, cap, cur, rfl, _, hgg, _⟩
  · simp [Value.ownBlock]
  · simp only [Value.ownBlock, ne_eq, Option.some.injEq]
    rintro rfl
    rw [hgg] at hk
    injection hk with hk
    subst hk
    cases ho
theorem own_ownk {A B : World} {row : Option Nat} {base e size n : Nat} {v : Value} {xs : List Value} (h : A.ownsRow base e size v n xs) (hg : A.grownBy B row) (hr : ∀ r, row = some r → ∃ o : Obj, A.heap[r]? = some o ∧ o.isCells = false) : B.ownsRow base e size v n xs := by
  refine h.kept hg ?_
  rcases h.2 with ⟨rfl, _⟩ | ⟨g, cap, cur, rfl, _, hgg, _⟩
  · exact .inl rfl
  · right
    intro e
    obtain ⟨o, ho, hc⟩ := hr g e.symm
    rw [hgg] at ho
    injection ho with ho
    subst ho
    cases hc
theorem own_off {A B : World} {Ds : List Nat} {base e size n : Nat} {v : Value} {xs : List Value} (h : A.ownsRow base e size v n xs) (ho : Off Ds A B) : B.ownsRow base e size v n xs := by
  refine ⟨h.1, h.2.imp id ?_⟩
  rintro ⟨g', cap, cur, e1, h1, h2, h3⟩
  exact ⟨g', cap, cur, e1, h1, ho.blk h2, h3⟩
open Go.ChangeMaps Go.MapKept in
theorem turned_grown {w w' : World} {b : Nat} (h : w.mapTurned w' b) : w.grownBy w' (some b) := by
  obtain ⟨es, clock, es', clock', hb, rfl⟩ := h
  exact ⟨rfl, rfl, rfl, by simp [setBlock], fun i _ hi => heap_setBlock_other hb _ (fun e => hi (by rw [e]))⟩
theorem wpM_two {P : Program} {md : Region.Mode} {ops : Array Oper} {X : World} {Q : Act → World → Prop} {f : Nat} {listed : Array Bool} {a : Act} {w : World} (i j : Nat) (o o' : Oper) (ho : ops[i]? = some o) (ho' : ops[j]? = some o') (hr : decide (Region.ready md ops listed = [i, j]) = true) (hw : Region.wanted o (yielded ops a.tmps) = true) (hw' : Region.wanted o' (yielded ops a.tmps) = true)
    (h : ∀ W, Ext w W → Ext X W → LUpon P o a (fun a' W' => Ext X W' ∧ wpM P md ops X Q f (listed.setIfInBounds i true) a' W') ((execOp a.eval o).run P W))
    (h' : ∀ W, Ext w W → Ext X W → LUpon P o' a (fun a' W' => Ext X W' ∧ wpM P md ops X Q f (listed.setIfInBounds j true) a' W') ((execOp a.eval o').run P W)) : wpM P md ops X Q (f + 1) listed a w := by
  intro W h1 h2
  rw [of_decide_eq_true hr]
  refine ⟨fun h => (by cases h), fun q hq => ?_⟩
  rcases List.mem_cons.1 hq with rfl | hq
  · unfold lOp
    simp only [ho, hw, if_true]
    exact h W h1 h2
  · obtain rfl : q = j := by simpa using hq
    unfold lOp
    simp only [ho', hw', if_true]
    exact h' W h1 h2
section
variable {P : Program} {w w' : World} {k : TypeId} {R : Value → Option (DataW Unit × List MemPlace)} {b m : Nat} {D : DataW Unit}
theorem map_below (h : w.ownsMap P k R b m D) (hb : Below w.heap.size w w') : w'.ownsMap P k R b m D := by
  obtain ⟨es, clock, h1, h2⟩ := h
  exact ⟨es, clock, (hb.block b (Array.getElem?_eq_some_iff.1 h1).1).trans h1, h2⟩
theorem map_off {Ds : List Nat} (h : w.ownsMap P k R b m D) (ho : Off Ds w w') (hb : b ∉ Ds) : w'.ownsMap P k R b m D := by
  obtain ⟨es, clock, h1, h2⟩ := h
  exact ⟨es, clock, (ho.block b hb).trans h1, h2⟩
end
end Go.Proofs.Ytiobmfggnacplaa
/- Walks: ranges of numbers. -/
namespace Go.Proofs.Ytiobmfggnacplaa
open Go.RowKit
def inR (lo hi x : Int) : Bool := decide (lo ≤ x ∧ x ≤ hi)
theorem inR_t {lo hi x : Int} : inR lo hi x = true ↔ lo ≤ x ∧ x ≤ hi := by simp [inR]
theorem inR_f {lo hi x : Int} : inR lo hi x = false ↔ x < lo ∨ hi < x := by simp [inR]; omega
theorem all_take_succ {α : Type} {p : α → Bool} {l : List α} {k : Nat} {x : α} (h : (l.take k).all p = true) (hx : l[k]? = some x) (hp : p x = true) : (l.take (k + 1)).all p = true := by
  rw [List.take_add_one, hx, List.all_append, h]
  simp [hp]
set_option maxHeartbeats 400000 in
theorem wclo_any (x lo hi : Int) (b1 b2 : Nat) (w : World) (c1 : w.cell? ⟨b1, 0, none⟩ = some (.int .i64 lo)) (c2 : w.cell? ⟨b2, 0, none⟩ = some (.int .i64 hi)) :
    Calls Try.prog 90 #[.int .i64 x, .pointer (some ⟨b1, 0, none⟩), .pointer (some ⟨b2, 0, none⟩)] w fun e w' => e = .returned (.bool (!inR lo hi x)) ∧ w = w' := by
  have e : Hid (inR lo hi x = decide (lo ≤ x ∧ x ≤ hi)) := rfl
  by_cases h1 : x < lo <;> by_cases h2 : hi < x
  all_goals
    go_enter Try.func90, Try.ntmps90
    go_wp2
    go_ret
    refine ⟨?_, rfl⟩
    rw [e.out]
    first | (rw [decide_eq_true (by omega)]; rfl) | (rw [decide_eq_false (by omega)]; rfl)

/-- An index that is below 0 just if all are good. -/
def IdxPost (good : Bool) (B : Nat) (w : World) (e : Ending) (w' : World) : Prop := ∃ z : Int, e = .returned (.int .i64 z) ∧ (0 ≤ z ↔ good = false) ∧ Below B w w'

theorem all_false {α : Type} {p : α → Bool} {l : List α} {k : Nat} {x : α} (hx : l[k]? = some x) (hp : p x = false) : l.all p = false := by
  cases h : l.all p
  · rfl
  · have := List.all_eq_true.1 h x (List.mem_of_getElem? hx)
    rw [hp] at this; cases this

set_option maxHeartbeats 400000 in
theorem idxI_any (A : Option Addr) (n c : Nat) (l : List Int) (lo hi : Int) (b1 b2 : Nat) (w : World) (hl : InS w w.heap.size A n l) (hn : n ≤ 100) (c1 : w.cell? ⟨b1, 0, none⟩ = some (.int .i64 lo)) (c2 : w.cell? ⟨b2, 0, none⟩ = some (.int .i64 hi)) :
    Calls Try.prog 99 #[.slice A n c, .func (.func 90) #[] #[.pointer (some ⟨b1, 0, none⟩), .pointer (some ⟨b2, 0, none⟩)]] w (IdxPost (l.all (inR lo hi)) w.heap.size w) := by
  have hlen := hid hl.len
  go_enter Try.func99, Try.ntmps99
  go_wp2
  go_loop [8] (fun i => ∃ k : Nat, k ≤ n ∧ i = .int .i64 k ∧ Hid ((l.take k).all (inR lo hi) = true)) (fun i => n - (intOf i).toNat)
  case atStart => exact ⟨0, by omega, rfl, rfl⟩
  case round =>
    obtain ⟨k, hk, rfl, hall⟩ := hrel
    by_cases hlt : k < n
    · obtain ⟨b, off, x, rfl, hb, hm, c0⟩ := hl.at_ hlt
      have Hm := hid hm
      clear hm
      cases hx : inR lo hi x
      · go_wp2_with (first | (go_at_call 90; refine (wclo_any x lo hi b1 b2 _ c1 c2).mono ?_; rw [hx]; rintro e w1 ⟨rfl, rfl⟩))
        go_ret
        exact ⟨k, rfl, by simp [all_false Hm.out hx], Below.refl _ _⟩
      · go_wp2_with (first | (go_at_call 90; refine (wclo_any x lo hi b1 b2 _ c1 c2).mono ?_; rw [hx]; rintro e w1 ⟨rfl, rfl⟩))
        exact ⟨⟨k + 1, by omega, by go_num, all_take_succ hall.out Hm.out hx⟩, by simp [intOf]; omega⟩
    · have hfin : Hid (l.all (inR lo hi) = true) := by have := hall.out; rwa [List.take_of_length_le (by rw [hlen.out]; omega)] at this
      go_wp2
      go_ret
      exact ⟨-1, rfl, by simp [hfin.out], Below.refl _ _⟩

theorem idx_t {good : Bool} {z : Int} (h : 0 ≤ z ↔ good = false) (hg : good = true) : z < 0 := by subst hg; simp at h; exact h
theorem idx_f {good : Bool} {z : Int} (h : 0 ≤ z ↔ good = false) (hg : good = false) : 0 ≤ z := h.2 hg
set_option maxHeartbeats 400000 in
theorem containsI_any (A : Option Addr) (n c : Nat) (l : List Int) (lo hi : Int) (b1 b2 : Nat) (w : World) (hl : InS w w.heap.size A n l) (hn : n ≤ 100) (c1 : w.cell? ⟨b1, 0, none⟩ = some (.int .i64 lo)) (c2 : w.cell? ⟨b2, 0, none⟩ = some (.int .i64 hi)) :
    Calls Try.prog 89 #[.slice A n c, .func (.func 90) #[] #[.pointer (some ⟨b1, 0, none⟩), .pointer (some ⟨b2, 0, none⟩)]] w fun e w' => e = .returned (.bool (!(l.all (inR lo hi)))) ∧ Below w.heap.size w w' := by
  cases hg : (l.all (inR lo hi))
  · have Hg := hid hg
    clear hg
    go_enter Try.func89, Try.ntmps89
    go_wp2_with (first | (go_at_call 99; refine (idxI_any A n c l lo hi b1 b2 _ hl hn c1 c2).mono ?_; rintro e w1 ⟨z, rfl, hz, hb1⟩; have hz2 := idx_f hz Hg.out; clear hz))
    go_ret
    exact ⟨by first | rfl | (simp; done) | simp [hz2], hb1⟩
  · have Hg := hid hg
    clear hg
    go_enter Try.func89, Try.ntmps89
    go_wp2_with (first | (go_at_call 99; refine (idxI_any A n c l lo hi b1 b2 _ hl hn c1 c2).mono ?_; rintro e w1 ⟨z, rfl, hz, hb1⟩; have hz2 := idx_t hz Hg.out; clear hz))
    go_ret
    exact ⟨by first | rfl | (simp; done) | simp [hz2], hb1⟩

set_option maxHeartbeats 400000 in
theorem within_any (A : Option Addr) (n c : Nat) (l : List Int) (lo hi : Int) (w : World) (hl : InS w w.heap.size A n l) (hn : n ≤ 100) :
    Calls Try.prog 59 #[.int .i64 lo, .int .i64 hi, .slice A n c] w fun e w' => e = .returned (.bool (l.all (inR lo hi))) ∧ Below w.heap.size w w' := by
  cases hg : l.all (inR lo hi)
  all_goals
    go_enter Try.func59, Try.ntmps59
    go_wp2_with (first | (go_at_call 89; refine (containsI_any A n c l lo hi _ _ _ (hl.below (by repeat' (first | with_reducible assumption | with_reducible exact Below.refl _ _ | refine Below.alloc ?_ ?_ _ | refine Below.setCell ?_ ?_ _ | refine Below.drew ?_ | refine below_drewN ?_ _ | (simp; done) | (simp; omega) | omega)) (by first | (simp; done) | (simp; omega) | omega)) hn (by go_simp) (by go_simp)).mono ?_; rw [hg]; rintro e w1 ⟨rfl, hb1⟩))
    go_ret
    exact ⟨rfl, Below.trans (by repeat' (first | with_reducible assumption | with_reducible exact Below.refl _ _ | refine Below.alloc ?_ ?_ _ | refine Below.setCell ?_ ?_ _ | refine Below.drew ?_ | refine below_drewN ?_ _ | (simp; done) | (simp; omega) | omega)) (hb1.mono (by first | (simp; done) | (simp; omega) | omega))⟩

theorem inS_lit1 {w : World} {g B : Nat} (x : Int) (hg : w.heap.size = g) (hB : g < B) : InS (w.alloc (.cells #[.int .i64 x] 3)) B (some ⟨g, 0, none⟩) 1 [x] := by
  refine ⟨rfl, fun hn => ⟨g, 0, rfl, hB, fun j u hu => ?_⟩⟩
  rw [(Blk.new' hg).cell, Nat.zero_add]
  simpa [cI] using hu
theorem inS_lit2 {w : World} {g B : Nat} (x y : Int) (hg : w.heap.size = g) (hB : g < B) : InS (w.alloc (.cells #[.int .i64 x, .int .i64 y] 3)) B (some ⟨g, 0, none⟩) 2 [x, y] := by
  refine ⟨rfl, fun hn => ⟨g, 0, rfl, hB, fun j u hu => ?_⟩⟩
  rw [(Blk.new' hg).cell, Nat.zero_add]
  simpa [cI] using hu

end Go.Proofs.Ytiobmfggnacplaa
/- Walks: lists of numbers: equal. -/
namespace Go.Proofs.Ytiobmfggnacplaa
open Go.RowKit
attribute [local go_sem] Oper.semAt_some
theorem take_eq_succ {α : Type} {a b : List α} {k : Nat} {x : α} (h : a.take k = b.take k) (ha : a[k]? = some x) (hb : b[k]? = some x) : a.take (k + 1) = b.take (k + 1) := by
  rw [List.take_add_one, List.take_add_one, h, ha, hb]
theorem ne_of_at {α : Type} {a b : List α} {k : Nat} {x y : α} (ha : a[k]? = some x) (hb : b[k]? = some y) (h : x ≠ y) : a ≠ b := fun e => by
  rw [e, hb] at ha; exact h (Option.some.inj ha).symm
def eqI (a b : List Int) : Bool := decide (a = b)
theorem eqI_t {a b : List Int} : eqI a b = true ↔ a = b := by simp [eqI]
set_option maxRecDepth 10000 in
set_option maxHeartbeats 800000 in
theorem same_any (w : World) (A B : Option Addr) (n c m d : Nat) (a b : List Int) (ha : InS w w.heap.size A n a) (hb : InS w w.heap.size B m b) (hn : n ≤ 1000000) :
    Calls Try.prog 65 #[.slice A n c, .slice B m d] w fun e w' => e = .returned (.bool (eqI a b)) ∧ Below w.heap.size w w' := by
  have la := hid ha.len
  have lb := hid hb.len
  by_cases hnm : n = m
  · subst hnm
    have t0 : ((n : Int) != (n : Int)) = false := by simp
    go_enter Try.func65, Try.ntmps65
    go_wp2
    go_loopw [5] (fun i wr => ∃ k : Nat, k ≤ n ∧ i = .int .i64 k ∧ Hid (a.take k = b.take k) ∧ Below w.heap.size w wr) (fun i _ => n - (intOf i).toNat)
    case atStart => exact ⟨0, by omega, rfl, by simp [Hid], Below.refl _ _⟩
    case round =>
      obtain ⟨k, hk, rfl, heq, hbel⟩ := hrel
      have hsz := hbel.size
      by_cases hlt : k < n
      · obtain ⟨b1, o1, x, rfl, hb1, hx, c1⟩ := (ha.below hbel (Nat.le_refl _)).at_ hlt
        obtain ⟨b2, o2, y, rfl, hb2, hy, d1⟩ := (hb.below hbel (Nat.le_refl _)).at_ hlt
        have HX := hid hx
        have HY := hid hy
        have hlti : (k : Int) < n := by omega
        have hk0 : (0 : Int) ≤ k := by omega
        clear hx hy
        by_cases hxy : x = y
        · subst hxy
          have t1 : (x != x) = false := by simp
          go_wp2
          go_quiet (fail)
          go_wp2
          exact ⟨⟨k + 1, by omega, by go_num, take_eq_succ heq.out HX.out HY.out, below_drewN hbel _⟩, by simp [intOf]; omega⟩
        · have t1 : (x != y) = true := by simpa using hxy
          have hfin : Hid (eqI a b = false) := hid (by cases h : eqI a b; exact rfl; exact absurd (eqI_t.1 h) (ne_of_at HX.out HY.out hxy))
          clear hxy
          go_wp2
          go_quiet (fail)
          go_wp2
          go_ret
          exact ⟨by rw [hfin.out]; rfl, below_drewN hbel _⟩
      · obtain rfl : k = n := by omega
        have hfin : Hid (eqI a b = true) := hid (eqI_t.2 (by have := heq.out; rwa [List.take_of_length_le (by rw [la.out]; omega), List.take_of_length_le (by rw [lb.out]; omega)] at this))
        go_wp2
        go_ret
        exact ⟨by rw [hfin.out]; rfl, hbel⟩
  · have t0 : ((n : Int) != (m : Int)) = true := by simp; omega
    have hfin : Hid (eqI a b = false) := hid (by cases h : eqI a b; exact rfl; exact absurd (eqI_t.1 h) (fun e => hnm (by rw [← la.out, ← lb.out, e])))
    clear hnm
    go_enter Try.func65, Try.ntmps65
    go_wp2
    go_ret
    exact ⟨by rw [hfin.out]; rfl, Below.refl _ _⟩
set_option maxRecDepth 10000 in
set_option maxHeartbeats 800000 in
theorem equal_any (w : World) (A B : Option Addr) (n c m d : Nat) (a b : List Int) (ha : InS w w.heap.size A n a) (hb : InS w w.heap.size B m b) (hn : n ≤ 1000000) :
    Calls Try.prog 67 #[.slice A n c, .slice B m d] w fun e w' => e = .returned (.bool (eqI a b)) ∧ Below w.heap.size w w' := by
  have la := hid ha.len
  have lb := hid hb.len
  by_cases hnm : n = m
  · subst hnm
    have t0 : ((n : Int) != (n : Int)) = false := by simp
    go_enter Try.func67, Try.ntmps67
    go_wp2
    go_loopw [13] (fun i wr => ∃ k : Nat, k ≤ n ∧ i = .int .i64 k ∧ Hid (a.take k = b.take k) ∧ Below w.heap.size w wr) (fun i _ => n - (intOf i).toNat)
    case atStart => exact ⟨0, by omega, rfl, by simp [Hid], Below.refl _ _⟩
    case round =>
      obtain ⟨k, hk, rfl, heq, hbel⟩ := hrel
      have hsz := hbel.size
      by_cases hlt : k < n
      · obtain ⟨b1, o1, x, rfl, hb1, hx, c1⟩ := (ha.below hbel (Nat.le_refl _)).at_ hlt
        obtain ⟨b2, o2, y, rfl, hb2, hy, d1⟩ := (hb.below hbel (Nat.le_refl _)).at_ hlt
        have HX := hid hx
        have HY := hid hy
        have hlti : (k : Int) < n := by omega
        have hk0 : (0 : Int) ≤ k := by omega
        clear hx hy
        by_cases hxy : x = y
        · subst hxy
          have t1 : (x != x) = false := by simp
          go_wp2
          go_quiet (fail)
          go_wp2
          exact ⟨⟨k + 1, by omega, by go_num, take_eq_succ heq.out HX.out HY.out, below_drewN hbel _⟩, by simp [intOf]; omega⟩
        · have t1 : (x != y) = true := by simpa using hxy
          have hfin : Hid (eqI a b = false) := hid (by cases h : eqI a b; exact rfl; exact absurd (eqI_t.1 h) (ne_of_at HX.out HY.out hxy))
          clear hxy
          go_wp2
          go_quiet (fail)
          go_wp2
          go_ret
          exact ⟨by rw [hfin.out]; rfl, below_drewN hbel _⟩
      · obtain rfl : k = n := by omega
        have hfin : Hid (eqI a b = true) := hid (eqI_t.2 (by have := heq.out; rwa [List.take_of_length_le (by rw [la.out]; omega), List.take_of_length_le (by rw [lb.out]; omega)] at this))
        go_wp2
        go_ret
        exact ⟨by rw [hfin.out]; rfl, hbel⟩
  · have t0 : ((n : Int) != (m : Int)) = true := by simp; omega
    have hfin : Hid (eqI a b = false) := hid (by cases h : eqI a b; exact rfl; exact absurd (eqI_t.1 h) (fun e => hnm (by rw [← la.out, ← lb.out, e])))
    clear hnm
    go_enter Try.func67, Try.ntmps67
    go_wp2
    go_ret
    exact ⟨by rw [hfin.out]; rfl, Below.refl _ _⟩
theorem ints_any (w : World) (A B : Option Addr) (n c m d : Nat) (a b : List Int) (ha : InS w w.heap.size A n a) (hb : InS w w.heap.size B m b) (hn : n ≤ 1000000) :
    Calls Try.prog 27 #[.slice A n c, .slice B m d] w fun e w' => e = .returned (.bool (eqI a b)) ∧ Below w.heap.size w w' := by
  obtain ⟨bv, hbv⟩ : ∃ bv, eqI a b = bv := ⟨_, rfl⟩
  have Hbv := hid hbv
  rw [hbv]
  clear hbv
  go_enter Try.func27, Try.ntmps27
  go_wp2_with (first | (go_at_call 65; refine (same_any _ A B n c m d a b ha hb hn).mono ?_; rw [Hbv.out]; rintro e w1 ⟨rfl, hb1⟩))
  refine bodyPost_ret (v := .bool bv) (by first | (simp [results, Try.results27, go_sem]; done) | (simp [results, Try.results27, go_sem, *]; done) | (simp [results, Try.results27, go_sem, World.cell?_setCell_same', *]; done) | (simp [results, Try.results27, go_sem]; first | exact ⟨rfl, rfl⟩ | rfl)) rfl ⟨rfl, hb1⟩
theorem great_any (A : Option Addr) (n c : Nat) (w : World) : Calls Try.prog 17 #[.slice A n c] w fun e w' => e = .returned (.bool (decide (80 < n))) ∧ Below w.heap.size w w' := by
  go_enter Try.func17, Try.ntmps17
  go_wp2
  go_ret
  exact ⟨by simp; omega, Below.refl _ _⟩
end Go.Proofs.Ytiobmfggnacplaa
