/- Texts of the proof, laid together by program. -/
import Derived.WalkKit
import Derived.WalkSpells
import Derived.WalkLawsBesides
import Derived.Deep.Draws
import Derived.Deep.AppendLies
import Derived.Laws.Rows
import Derived.StillTail
import Derived.RangeFuncNested
import Derived.RangeFuncBound
import Derived.RangeFuncCalls
import Derived.RangeFuncLeaves
import Derived.OwnWalkIn
import Derived.TacticsInMore
import Derived.LoopNIn
import Derived.LoopIn
import Derived.OrdersIn
import Derived.RegionIn
import Derived.Maps.OwnOps
import Derived.Maps.OwnSet
import Derived.Maps.RangeWalk
import Derived.Lib.MinMax
set_option linter.unusedSimpArgs false
set_option linter.unusedVariables false
/- Words for memory: what a slice value reads as; plain theorems on worlds. No program in sight. -/
namespace Go.Proofs.Ytnpilfpackdimaa
open Go.RowKit

theorem hid {p : Prop} (h : p) : Hid p := h
/-- What holds of worlds: below block B all is as it was. A world that is behind another one keeps its cells. -/
theorem bcell {W w1 : World} {B : Nat} (hb : Below B W w1) : (∀ b o, b < B → w1.cell? ⟨b, o, none⟩ = W.cell? ⟨b, o, none⟩) ∧ (∀ b o, b < B → w1.frozen? ⟨b, o, none⟩ = W.frozen? ⟨b, o, none⟩) :=
  ⟨fun b o h => hb.cell (p := ⟨b, o, none⟩) h, fun b o h => hb.frozen (p := ⟨b, o, none⟩) h⟩
theorem below_drewN {B : Nat} {a w : World} (h : Below B a w) (n : Nat) : Below B a (w.drewN n) := ⟨h.os, h.tape, h.output, h.size, h.block⟩

/-- The slice value '.slice A n c' holds the cells xs (n elements of so many cells) and lies below block B. -/
def Sl (w : World) (B size : Nat) (A : Option Addr) (n : Nat) (xs : List Value) : Prop :=
  xs.length = n * size ∧ (0 < n → ∃ b off, A = some ⟨b, off, none⟩ ∧ b < B ∧ ∀ j u, xs[j]? = some u → w.cell? ⟨b, off + j, none⟩ = some u)

section
variable {w w' : World} {B B' size n : Nat} {A : Option Addr} {xs : List Value}
theorem Sl.none_ : Sl w B size A 0 [] := ⟨by simp, fun h => absurd h (by omega)⟩
theorem Sl.keep (h : Sl w B size A n xs) (hk : ∀ p : Addr, p.block < B → w'.cell? p = w.cell? p) : Sl w' B size A n xs :=
  ⟨h.1, fun hn => by
    obtain ⟨b, off, e, hb, hc⟩ := h.2 hn
    exact ⟨b, off, e, hb, fun j u hu => (hk ⟨b, off + j, none⟩ hb).trans (hc j u hu)⟩⟩
theorem Sl.more (h : Sl w B size A n xs) (hB : B ≤ B') : Sl w B' size A n xs :=
  ⟨h.1, fun hn => by
    obtain ⟨b, off, e, hb, hc⟩ := h.2 hn
    exact ⟨b, off, e, by omega, hc⟩⟩
theorem Sl.below (h : Sl w B size A n xs) (hb : Below B w w') : Sl w' B size A n xs := h.keep fun _ hp => hb.cell hp
theorem Sl.below' (h : Sl w B size A n xs) (hb : Below B w w') (hB : B ≤ B') : Sl w' B' size A n xs := (h.below hb).more hB
theorem Sl.drew (h : Sl w B size A n xs) : Sl w.drew B size A n xs := h
theorem Sl.drewN (h : Sl w B size A n xs) (k : Nat) : Sl (w.drewN k) B size A n xs := h
theorem Sl.alloc (h : Sl w B size A n xs) (hB : B ≤ w.heap.size) (o : Obj) : Sl (w.alloc o) B size A n xs := h.keep fun p hp => World.cell?_alloc_lt w o p (by omega)
theorem Sl.setCell (h : Sl w B size A n xs) {p : Addr} (hB : B ≤ p.block) (u : Value) : Sl (w.setCell p u) B size A n xs :=
  h.keep fun q hq => World.cell?_setCell_other w p q u (fun e => by subst e; omega)
/-- A cut 's[k:m]' of it. -/
theorem Sl.cut (h : Sl w B size A n xs) {k m cap : Nat} (hk : k ≤ m) (hm : m ≤ n) (hc : n ≤ cap) :
    Sl w B size (if cap = k then A else A.map (·.add (k * size))) (m - k) ((xs.drop (k * size)).take ((m - k) * size)) := by
  refine ⟨?_, fun hn => ?_⟩
  · rw [List.length_take, List.length_drop, h.1, ← Nat.sub_mul, Nat.min_eq_left]
    exact Nat.mul_le_mul_right _ (by omega)
  · obtain ⟨b, off, rfl, hb, hcell⟩ := h.2 (by omega)
    rw [if_neg (by omega)]
    refine ⟨b, off + k * size, ?_, hb, fun j u hu => ?_⟩
    · simp only [Option.map_some, Addr.add]
      split <;> simp_all
    · rw [Nat.add_assoc]
      refine hcell _ u ?_
      rw [List.getElem?_take] at hu
      split at hu
      · rwa [List.getElem?_drop] at hu
      · cases hu
theorem Sl.of_own {base : Nat} {e : TypeId} {c : Nat} (h : w.ownsRow base e size (.slice A n c) n xs) : Sl w w.heap.size size A n xs := by
  refine ⟨h.1, fun hn => ?_⟩
  obtain ⟨g, cap, hv, _, hlt⟩ := h.form hn
  have hA : A = some ⟨g, 0, none⟩ := by injection hv
  subst hA
  refine ⟨g, 0, rfl, hlt, fun j u hu => ?_⟩
  have := h.cells (g := g) rfl j u hu
  rwa [Addr.add_lit] at this
end

/-- Block g is just the cells cs of element type t, none frozen. -/
def Blk (w : World) (g : Nat) (t : TypeId) (cs : Array Value) : Prop := w.heap[g]? = some (.cells cs t (0, 0))

section
variable {w w' : World} {g : Nat} {t : TypeId} {cs : Array Value}
theorem Blk.lt (h : Blk w g t cs) : g < w.heap.size := by
  rcases Nat.lt_or_ge g w.heap.size with hlt | hge
  · exact hlt
  · unfold Blk at h; rw [Array.getElem?_eq_none hge] at h; cases h
theorem Blk.cell (h : Blk w g t cs) (i : Nat) : w.cell? ⟨g, i, none⟩ = cs[i]? := cell_of_row w g i cs t (0, 0) h
theorem Blk.frozen (h : Blk w g t cs) (i : Nat) : w.frozen? ⟨g, i, none⟩ = false := by
  unfold Blk at h
  simp [World.frozen?, h]
theorem Blk.new (w : World) (t : TypeId) (cs : Array Value) : Blk (w.alloc (.cells cs t)) w.heap.size t cs := heap_alloc_new w _
theorem Blk.new' {w : World} {t : TypeId} {cs : Array Value} {g : Nat} (h : w.heap.size = g) : Blk (w.alloc (.cells cs t)) g t cs := by subst h; exact Blk.new w t cs
theorem Blk.drew (h : Blk w g t cs) : Blk w.drew g t cs := h
theorem Blk.drewN (h : Blk w g t cs) (n : Nat) : Blk (w.drewN n) g t cs := h
theorem Blk.alloc (h : Blk w g t cs) (o : Obj) : Blk (w.alloc o) g t cs := (Below.heap_alloc w o g h.lt).trans h
theorem Blk.set_ (h : Blk w g t cs) (i : Nat) (u : Value) : Blk (w.setCell ⟨g, i, none⟩ u) g t (cs.setIfInBounds i u) := by
  unfold Blk at h ⊢
  simp [World.setCell, Array.getElem?_modify, h]
theorem Blk.set2 {x y a b : Value} (h : Blk w g t #[x, y]) : Blk ((w.setCell ⟨g, 0, none⟩ a).setCell ⟨g, 1, none⟩ b) g t #[a, b] := (h.set_ 0 a).set_ 1 b
theorem Blk.far (h : Blk w g t cs) {p : Addr} (hp : g ≠ p.block) (u : Value) : Blk (w.setCell p u) g t cs := (Below.heap_setCell w p u g hp).trans h
theorem Blk.below {B : Nat} (h : Blk w g t cs) (hb : Below B w w') (hg : g < B) : Blk w' g t cs := (hb.block g hg).trans h
theorem Blk.grown {row : Option Nat} (h : Blk w g t cs) (hb : w.grownBy w' row) (hg : some g ≠ row) : Blk w' g t cs := (hb.block g h.lt hg).trans h
end

/-- The cells of a number. -/
def cI (x : Int) : List Value := [.int .i64 x]
theorem flat_at {α : Type} {f : α → List Value} {s : Nat} (hf : ∀ x, (f x).length = s) : ∀ (l : List α) (k j : Nat) (x : α), l[k]? = some x → j < s → (l.flatMap f)[k * s + j]? = (f x)[j]?
  | [], k, j, x, h, _ => by simp at h
  | y :: l, 0, j, x, h, hj => by
    obtain rfl : y = x := by simpa using h
    rw [List.flatMap_cons, List.getElem?_append_left (by rw [hf]; omega)]
    simp
  | y :: l, k + 1, j, x, h, hj => by
    rw [List.flatMap_cons, List.getElem?_append_right (by rw [hf, Nat.succ_mul]; omega), hf]
    have := flat_at hf l k j x (by simpa using h) hj
    rw [← this]
    congr 1
    rw [Nat.succ_mul]; omega
theorem flat_len {α : Type} {f : α → List Value} {s : Nat} (hf : ∀ x, (f x).length = s) (l : List α) : (l.flatMap f).length = l.length * s := by
  induction l with
  | nil => simp
  | cons x l ih => rw [List.flatMap_cons, List.length_append, hf, ih, List.length_cons, Nat.succ_mul]; omega

def InS (w : World) (B : Nat) (A : Option Addr) (n : Nat) (l : List Int) : Prop := Sl w B 1 A n (l.flatMap cI)


section
variable {w w' : World} {B B' n : Nat} {A : Option Addr}
theorem InS.len {l : List Int} (h : InS w B A n l) : l.length = n := by
  have := h.1; rw [flat_len (s := 1) (fun _ => rfl)] at this; omega
theorem InS.at_ {l : List Int} (h : InS w B A n l) {k : Nat} (hk : k < n) : ∃ b off x, A = some ⟨b, off, none⟩ ∧ b < B ∧ l[k]? = some x ∧
    w.cell? ⟨b, off + k, none⟩ = some (.int .i64 x) := by
  obtain ⟨b, off, hA, hb, hc⟩ := h.2 (by omega)
  have hl : k < l.length := by rw [h.len]; exact hk
  have hm : l[k]? = some l[k] := List.getElem?_eq_getElem hl
  refine ⟨b, off, l[k], hA, hb, hm, ?_⟩
  have := hc (k * 1 + 0) _ (by rw [flat_at (s := 1) (f := cI) (fun _ => rfl) l k 0 _ hm (by omega)]; rfl)
  simpa using this
theorem InS.below {l : List Int} (h : InS w B A n l) (hb : Below B w w') (hB : B ≤ B') : InS w' B' A n l := Sl.below' h hb hB
end
theorem add_at (b off j : Nat) : (⟨b, off, none⟩ : Addr).add j = ⟨b, off + j, none⟩ := by unfold Addr.add; split <;> simp_all
theorem two_cells {w : World} {a b : Value} {B : Nat} {t : TypeId} {j : Nat} {u : Value} (hj : [a, b][j]? = some u) (hB : w.heap.size = B) : (w.alloc (.cells #[a, b] t)).cell? ((⟨B, 0, none⟩ : Addr).add j) = some u := by
  rw [show (⟨B, 0, none⟩ : Addr).add j = ⟨B, j, none⟩ by unfold Addr.add; split <;> simp_all]
  exact (Blk.cell (Blk.new' hB) j).trans (by simpa using hj)
theorem two_one (a b : Int) : ∀ u ∈ [Value.int .i64 a, .int .i64 b], u.oneCell' = true := by
  intro u hu
  simp only [List.mem_cons, List.not_mem_nil, or_false] at hu
  rcases hu with rfl | rfl <;> rfl
theorem one1 (x : Int) : ∀ u ∈ [Value.int .i64 x], u.oneCell' = true := by
  intro u hu
  simp only [List.mem_cons, List.not_mem_nil, or_false] at hu
  subst hu; rfl
theorem sl_of_owns {w : World} {base : Nat} {e : TypeId} {size : Nat} {v : Value} {n : Nat} {xs : List Value} (h : w.ownsRow base e size v n xs) : ∃ A c, v = .slice A n c ∧ Sl w w.heap.size size A n xs := by
  obtain ⟨hl, ⟨rfl, rfl⟩ | ⟨g, cap, cur, rfl, hb, hg, hn, hc, hs, ht⟩⟩ := h
  · exact ⟨none, 0, rfl, hl, fun h => absurd h (by omega)⟩
  · refine ⟨_, cap, rfl, hl, fun hn0 => ⟨g, 0, rfl, (Array.getElem?_eq_some_iff.1 hg).1, fun j u hj => ?_⟩⟩
    have hjl : j < n * size := by rw [← hl]; exact (List.getElem?_eq_some_iff.1 hj).1
    rw [← ht, List.getElem?_take_of_lt hjl] at hj
    simp only [Nat.zero_add]
    exact (cell_of_row w g j cur e (0, 0) hg).trans (by simpa using hj)
theorem own_full {e : TypeId} {size base n : Nat} {xs : List Value} (w : World) {cur : Array Value} (hb : base ≤ w.heap.size) (hm : n ≤ maxLen) (hs : cur.size = n * size) (hx : cur.toList = xs) :
    (w.alloc (.cells cur e)).ownsRow base e size (.slice (some ⟨w.heap.size, 0, none⟩) n n) n xs := by
  subst hx
  refine ⟨by simpa using hs, .inr ⟨w.heap.size, n, cur, rfl, hb, heap_alloc_new w _, Nat.le_refl _, hm, hs, ?_⟩⟩
  rw [List.take_of_length_le (by simp; omega)]
theorem own_form2 {w : World} {base : Nat} {e : TypeId} {size : Nat} {v : Value} {n : Nat} {xs : List Value} (h : w.ownsRow base e size v n xs) (hn : 0 < n) : ∃ g cap, v = .slice (some ⟨g, 0, none⟩) n cap ∧ base ≤ g ∧ g < w.heap.size := by
  obtain ⟨g, cap, h1, h2, h3⟩ := h.form hn
  exact ⟨g, cap, h1, h2, h3⟩
theorem own_cell {w : World} {base : Nat} {e : TypeId} {size g n cap : Nat} {xs : List Value} (h : w.ownsRow base e size (.slice (some ⟨g, 0, none⟩) n cap) n xs) {j : Nat} {u : Value} (hj : xs[j]? = some u) : w.cell? ⟨g, j, none⟩ = some u := by
  have := h.cells (g := g) rfl j u hj
  rwa [Addr.add_lit, Nat.zero_add] at this
theorem owns_below {w w' : World} {base : Nat} {e : TypeId} {size : Nat} {v : Value} {n : Nat} {xs : List Value} (h : w.ownsRow base e size v n xs) (hb : Below w.heap.size w w') : w'.ownsRow base e size v n xs :=
  h.kept (row := none) ⟨hb.os, hb.tape, hb.output, hb.size, fun k hk _ => hb.block k hk⟩ (by cases hv : v.ownBlock with | none => exact .inl rfl | some k => exact .inr (by simp))
theorem owns_mono {w : World} {base base' : Nat} {e : TypeId} {size : Nat} {v : Value} {n : Nat} {xs : List Value} (h : w.ownsRow base e size v n xs) (hb : base' ≤ base) : w.ownsRow base' e size v n xs := by
  obtain ⟨h1, h2 | ⟨g, cap, cur, hv, hb', h3⟩⟩ := h
  · exact ⟨h1, .inl h2⟩
  · exact ⟨h1, .inr ⟨g, cap, cur, hv, Nat.le_trans hb hb', h3⟩⟩
theorem below_own {B : Nat} {a w w' : World} {row : Option Nat} {R : Nat → Prop} (h : Below B a w) (ho : ∀ k, row = some k → B ≤ k ∧ R k) (k : w.grownBy w' row) (hB : B ≤ a.heap.size) : Below B a w' :=
  ⟨k.os.trans h.os, k.tape.trans h.tape, k.output.trans h.output, Nat.le_trans h.size k.size, fun i hi => (k.block i (by have := h.size; omega) (fun e => by have := (ho i e.symm).1; omega)).trans (h.block i hi)⟩
/-- Two own slices lie apart. -/
def Apart (v u : Value) : Prop := ∀ q, v.ownBlock = some q → u.ownBlock ≠ some q
theorem Apart.symm {v u : Value} (h : Apart v u) : Apart u v := fun q h1 h2 => h q h2 h1
theorem app_step {wr w6 : World} {o : Obj} {v v6 u : Value} {B e s m : Nat} {ys : List Value} (hD : Apart v u) (hu : wr.ownsRow B e s u m ys) (hgr : (wr.alloc o).grownBy w6 v.ownBlock) (hob : v6.ownBlock = v.ownBlock ∨ v6.ownBlock = some (wr.heap.size + 1)) : w6.ownsRow B e s u m ys ∧ Apart v6 u := by
  refine ⟨(hu.alloc o).kept hgr ?_, fun q h1 h2 => ?_⟩
  · cases h : u.ownBlock with
    | none => exact .inl rfl
    | some q => exact .inr fun e => hD q e.symm h
  · rcases hob with e | e
    · exact hD q (e.symm.trans h1) h2
    · rw [e] at h1
      have := (hu.lt q h2).2
      simp at h1
      omega
theorem flatI_succ {F : Nat → Int} {k : Nat} : ((List.range (k + 1)).map F).flatMap cI = ((List.range k).map F).flatMap cI ++ [.int .i64 (F k)] := by
  rw [List.range_succ, List.map_append, List.flatMap_append]; simp [cI]
theorem flatI_len {F : Nat → Int} {k : Nat} : (((List.range k).map F).flatMap cI).length = k := by
  rw [flat_len (s := 1) (fun _ => rfl)]; simp
theorem flatI_get (l : List Int) (j : Nat) : (l.flatMap cI)[j]? = (l[j]?).map (Value.int .i64) := by
  induction l generalizing j with
  | nil => rfl
  | cons x l ih =>
    cases j with
    | zero => rfl
    | succ j => simpa [cI] using ih j
theorem flatI_len' (l : List Int) : (l.flatMap cI).length = l.length := by rw [flat_len (s := 1) (fun _ => rfl), Nat.mul_one]
theorem one_flatI (l : List Int) : ∀ u ∈ l.flatMap cI, u.oneCell' = true := by
  intro v hv
  obtain ⟨r, -, hr⟩ := List.mem_flatMap.1 hv
  simp only [cI, List.mem_cons, List.not_mem_nil, or_false] at hr
  subst hr; rfl
theorem ins_take {w : World} {B b off n : Nat} {l : List Int} (h : InS w B (some ⟨b, off, none⟩) n l) {k : Nat} (hk : k ≤ n) : ∀ j u, ((l.take k).flatMap cI)[j]? = some u → w.cell? ((⟨b, off, none⟩ : Addr).add j) = some u := by
  intro j u hj
  rw [add_at]
  rw [flatI_get] at hj
  have hjk : j < k := by
    rcases Nat.lt_or_ge j k with h1 | h1
    · exact h1
    · rw [List.getElem?_eq_none (by rw [List.length_take]; omega)] at hj; cases hj
  rw [List.getElem?_take_of_lt hjk, ← flatI_get] at hj
  obtain ⟨b', off', e, _, hc⟩ := h.2 (by omega)
  cases e
  exact hc j u hj
theorem ins_drop {w : World} {B b off n : Nat} {l : List Int} (h : InS w B (some ⟨b, off, none⟩) n l) {k : Nat} : ∀ j u, ((l.drop k).flatMap cI)[j]? = some u → w.cell? ((⟨b, off + k, none⟩ : Addr).add j) = some u := by
  intro j u hj
  rw [add_at, Nat.add_assoc]
  rw [flatI_get, List.getElem?_drop, ← flatI_get] at hj
  have hl := h.len
  have hlt : k + j < l.length := by
    rcases Nat.lt_or_ge (k + j) l.length with h1 | h1
    · exact h1
    · rw [List.getElem?_eq_none (by rw [flatI_len']; exact h1)] at hj; cases hj
  obtain ⟨b', off', e, _, hc⟩ := h.2 (by omega)
  cases e
  exact hc (k + j) u hj
theorem ins_some {w : World} {B n : Nat} {A : Option Addr} {l : List Int} (h : InS w B A n l) (hn : 0 < n) : ∃ b off, A = some ⟨b, off, none⟩ ∧ b < B := by
  obtain ⟨b, off, e, hb, _⟩ := h.2 hn
  exact ⟨b, off, e, hb⟩
theorem own_cap {w : World} {base n e s : Nat} {A : Option Addr} {cap : Nat} {xs : List Value} (h : w.ownsRow base e s (.slice A n cap) n xs) : n ≤ cap := by
  rcases h.2 with ⟨e1, e2⟩ | ⟨g, cap', cur, e1, _, _, hn, _⟩
  · cases e1; omega
  · cases e1; exact hn
theorem ins_blk {w : World} {g t : Nat} {l : List Int} {B : Nat} (h : Blk w g t (l.flatMap cI).toArray) (hB : g < B) : InS w B (some ⟨g, 0, none⟩) l.length l :=
  ⟨flat_len (s := 1) (fun _ => rfl) l, fun _ => ⟨g, 0, rfl, hB, fun j u hj => by rw [Nat.zero_add, h.cell]; simpa using hj⟩⟩
theorem own_set {A : World} {base e size n g : Nat} {v : Value} {xs : List Value} (h : A.ownsRow base e size v n xs) (hb : g < base) (u : Value) : (A.setCell ⟨g, 0, none⟩ u).ownsRow base e size v n xs := by
  refine ⟨h.1, h.2.imp id ?_⟩
  rintro ⟨g', cap, cur, e1, h1, h2, h3⟩
  exact ⟨g', cap, cur, e1, h1, (Below.heap_setCell _ _ _ _ (by simp; omega)).trans h2, h3⟩
/-- Small numbers of a kind. -/
def SmS (k : IntKind) (w : World) (B : Nat) (A : Option Addr) (n : Nat) (l : List Int) : Prop := Sl w B 1 A n (l.flatMap fun x => [.int k x])
theorem SmS.len {k : IntKind} {w : World} {B n : Nat} {A : Option Addr} {l : List Int} (h : SmS k w B A n l) : l.length = n := by
  have := h.1; rw [flat_len (s := 1) (fun _ => rfl)] at this; omega
theorem SmS.below {k : IntKind} {w w' : World} {B B' n : Nat} {A : Option Addr} {l : List Int} (h : SmS k w B A n l) (hb : Below B w w') (hB : B ≤ B') : SmS k w' B' A n l := Sl.below' h hb hB
theorem SmS.at_ {kd : IntKind} {w : World} {B n : Nat} {A : Option Addr} {l : List Int} (h : SmS kd w B A n l) {k : Nat} (hk : k < n) : ∃ b off x, A = some ⟨b, off, none⟩ ∧ b < B ∧ l[k]? = some x ∧
    w.cell? ⟨b, off + k, none⟩ = some (.int kd x) := by
  obtain ⟨b, off, hA, hb, hc⟩ := h.2 (by omega)
  have hl : k < l.length := by rw [h.len]; exact hk
  have hm : l[k]? = some l[k] := List.getElem?_eq_getElem hl
  refine ⟨b, off, l[k], hA, hb, hm, ?_⟩
  have := hc (k * 1 + 0) _ (by rw [flat_at (s := 1) (f := fun x => [Value.int kd x]) (fun _ => rfl) l k 0 _ hm (by omega)]; rfl)
  simpa using this
end Go.Proofs.Ytnpilfpackdimaa
/- Plain law of blames: sets as lists and as bits, the order of lists. No program in sight. -/
namespace Go.Proofs.Ytnpilfpackdimaa
/-- Strictly increasing numbers from one on, below another one. -/
def isL (below : Int) : Int → List Int → Bool
  | _, [] => true
  | nx, x :: l => decide (nx ≤ x ∧ x < below) && isL below (x + 1) l
theorem isL_cons {below nx x : Int} {l : List Int} : isL below nx (x :: l) = true ↔ (nx ≤ x ∧ x < below) ∧ isL below (x + 1) l = true := by
  show (decide (nx ≤ x ∧ x < below) && isL below (x + 1) l) = true ↔ _
  rw [Bool.and_eq_true, decide_eq_true_eq]
theorem isL_snoc (below : Int) (x : Int) : ∀ (l : List Int) (nx : Int), isL below nx (l ++ [x]) = (isL below nx l && decide ((l.getLastD (nx - 1)) + 1 ≤ x ∧ x < below))
  | [], nx => by
    show (decide (nx ≤ x ∧ x < below) && true) = (true && decide (nx - 1 + 1 ≤ x ∧ x < below))
    rw [Bool.and_true, Bool.true_and, show nx - 1 + 1 = nx by omega]
  | y :: l, nx => by
    show (decide (nx ≤ y ∧ y < below) && isL below (y + 1) (l ++ [x])) = _
    rw [isL_snoc below x l (y + 1), ← Bool.and_assoc]
    congr 2
    cases l with
    | nil => simp
    | cons z l => simp [List.getLastD]
/-- The last number that came, one less than the first that may come if none has. -/
def lastL (l : List Int) : Int := l.getLastD (-1)
theorem isL_take {below : Int} {l : List Int} {k : Nat} {x : Int} (h : l[k]? = some x) : isL below 0 (l.take (k + 1)) = (isL below 0 (l.take k) && decide (lastL (l.take k) + 1 ≤ x ∧ x < below)) := by
  rw [List.take_add_one, h]
  exact isL_snoc below x _ 0
theorem lastL_take {l : List Int} {k : Nat} {x : Int} (h : l[k]? = some x) : lastL (l.take (k + 1)) = x := by
  rw [List.take_add_one, h]
  unfold lastL
  simp
theorem isL_off {below : Int} : ∀ {l : List Int} {k : Nat} {nx : Int}, isL below nx (l.take k) = false → isL below nx l = false
  | _, 0, _, h => by simp [isL] at h
  | [], _ + 1, _, h => by simp [isL] at h
  | x :: l, k + 1, nx, h => by
    have h1 : (decide (nx ≤ x ∧ x < below) && isL below (x + 1) (l.take k)) = false := h
    show (decide (nx ≤ x ∧ x < below) && isL below (x + 1) l) = false
    rcases Bool.and_eq_false_iff.1 h1 with h2 | h2
    · rw [h2]; rfl
    · rw [isL_off h2, Bool.and_false]
theorem isL_bd {below : Int} : ∀ {l : List Int} {nx : Int}, isL below nx l = true → ∀ x ∈ l, nx ≤ x ∧ x < below
  | y :: l, nx, h, x, hx => by
    have h1 := isL_cons.1 h
    rcases List.mem_cons.1 hx with rfl | hx
    · exact h1.1
    · have := isL_bd h1.2 x hx
      omega
theorem isL_len {below : Int} : ∀ {l : List Int} {nx : Int}, isL below nx l = true → l = [] ∨ nx + l.length ≤ below
  | [], _, _ => .inl rfl
  | x :: l, nx, h => by
    have h1 := isL_cons.1 h
    refine .inr ?_
    rcases isL_len h1.2 with rfl | h2
    · simp; omega
    · rw [List.length_cons]; omega
theorem isL_len8 {below : Int} {l : List Int} (h : isL below 0 l = true) (hb : 0 ≤ below) : (l.length : Int) ≤ below := by
  rcases isL_len h with rfl | h1
  · simpa using hb
  · omega
theorem isL_weak {below below' : Int} (hb : below ≤ below') : ∀ {l : List Int} {nx : Int}, isL below nx l = true → isL below' nx l = true
  | [], _, _ => rfl
  | x :: l, nx, h => by
    have h1 := isL_cons.1 h
    exact isL_cons.2 ⟨by omega, isL_weak hb h1.2⟩
theorem isL_low {below : Int} : ∀ {l : List Int} {nx nx' : Int}, nx' ≤ nx → isL below nx l = true → isL below nx' l = true
  | [], _, _, _, _ => rfl
  | x :: l, nx, nx', hn, h => by
    have h1 := isL_cons.1 h
    exact isL_cons.2 ⟨by omega, h1.2⟩
/-- Lists with the same members are one. -/
theorem isL_ext {below below' : Int} : ∀ {l l' : List Int} {nx nx' : Int}, isL below nx l = true → isL below' nx' l' = true → (∀ x, x ∈ l ↔ x ∈ l') → l = l'
  | [], [], _, _, _, _, _ => rfl
  | [], y :: l', _, _, _, _, hm => absurd ((hm y).2 (List.mem_cons_self)) (by simp)
  | x :: l, [], _, _, _, _, hm => absurd ((hm x).1 (List.mem_cons_self)) (by simp)
  | x :: l, y :: l', nx, nx', h, h', hm => by
    have h1 := isL_cons.1 h
    have h2 := isL_cons.1 h'
    have e : x = y := by
      have hx := (hm x).1 (List.mem_cons_self)
      have hy := (hm y).2 (List.mem_cons_self)
      rcases List.mem_cons.1 hx with e | hx
      · exact e
      · rcases List.mem_cons.1 hy with e | hy
        · exact e.symm
        · have := isL_bd h2.2 x hx
          have := isL_bd h1.2 y hy
          omega
    subst e
    refine congrArg (List.cons x) (isL_ext h1.2 h2.2 fun z => ⟨fun hz => ?_, fun hz => ?_⟩)
    · rcases List.mem_cons.1 ((hm z).1 (List.mem_cons_of_mem _ hz)) with e | hz'
      · subst e
        have := isL_bd h1.2 z hz
        omega
      · exact hz'
    · rcases List.mem_cons.1 ((hm z).2 (List.mem_cons_of_mem _ hz)) with e | hz'
      · subst e
        have := isL_bd h2.2 z hz
        omega
      · exact hz'
theorem isL_nodup {below : Int} : ∀ {l : List Int} {nx : Int}, isL below nx l = true → l.Nodup
  | [], _, _ => List.nodup_nil
  | x :: l, nx, h => by
    have h1 := isL_cons.1 h
    exact List.nodup_cons.2 ⟨fun hm => by have := isL_bd h1.2 x hm; omega, isL_nodup h1.2⟩
/-- A number stands in a list. -/
def has (l : List Int) (x : Int) : Bool := l.any (· == x)
theorem has_iff {l : List Int} {x : Int} : has l x = true ↔ x ∈ l := by
  unfold has
  rw [List.any_eq_true]
  exact ⟨fun ⟨y, h1, h2⟩ => by rw [← eq_of_beq h2]; exact h1, fun h => ⟨x, h, by simp⟩⟩
theorem has_not {l : List Int} {x : Int} : has l x = false ↔ x ∉ l := by
  rw [← has_iff]; simp
/-! Bits. -/
def bitsL (l : List Int) : Nat := l.foldl (fun b x => b ||| 2 ^ x.toNat) 0
theorem bitsL_snoc (l : List Int) (x : Int) : bitsL (l ++ [x]) = bitsL l ||| 2 ^ x.toNat := by unfold bitsL; rw [List.foldl_append]; rfl
theorem bitsL_take {l : List Int} {k : Nat} {x : Int} (h : l[k]? = some x) : bitsL (l.take (k + 1)) = bitsL (l.take k) ||| 2 ^ x.toNat := by
  rw [List.take_add_one, h]
  exact bitsL_snoc _ _
theorem bitsL_testGo (i : Nat) : ∀ (l : List Int) (b : Nat), (∀ x ∈ l, 0 ≤ x) → (l.foldl (fun b x => b ||| 2 ^ x.toNat) b).testBit i = (b.testBit i || has l (i : Int))
  | [], b, _ => by simp [has]
  | x :: l, b, h => by
    rw [List.foldl_cons, bitsL_testGo i l _ fun y hy => h y (List.mem_cons_of_mem _ hy), Nat.testBit_or, Nat.testBit_two_pow, Bool.or_assoc]
    congr 1
    have hx := h x (List.mem_cons_self)
    unfold has
    rw [List.any_cons]
    congr 1
    by_cases e : x.toNat = i
    · have : x = (i : Int) := by omega
      simp [e, this]
    · have : ¬ x = (i : Int) := by omega
      simp [e, this]
theorem bitsL_test {l : List Int} (h : ∀ x ∈ l, 0 ≤ x) (i : Nat) : (bitsL l).testBit i = has l (i : Int) := by
  unfold bitsL
  rw [bitsL_testGo i l 0 h]; simp
theorem bitsL_lt {n : Nat} {l : List Int} (h : isL (n : Int) 0 l = true) : bitsL l < 2 ^ n := by
  refine Nat.lt_pow_two_of_testBit _ fun i hi => ?_
  rw [bitsL_test fun x hx => (isL_bd h x hx).1]
  rw [has_not]
  intro hm
  have := isL_bd h _ hm
  omega
/-- The places of a number's bits, below n. -/
def listed (b n : Nat) : List Int := ((List.range n).filter fun i => b.testBit i).map fun i : Nat => (i : Int)
theorem listed_succ (b k : Nat) : listed b (k + 1) = listed b k ++ (if b.testBit k then [(k : Int)] else []) := by
  unfold listed
  rw [List.range_succ, List.filter_append, List.map_append]
  cases h : b.testBit k <;> simp [h]
theorem listed_len (b : Nat) : ∀ n, (listed b n).length ≤ n
  | 0 => by simp [listed]
  | n + 1 => by
    rw [listed_succ, List.length_append]
    have := listed_len b n
    split <;> simp <;> omega
theorem mem_listed {b n : Nat} {x : Int} : x ∈ listed b n ↔ ∃ i : Nat, x = (i : Int) ∧ i < n ∧ b.testBit i = true := by
  unfold listed
  simp only [List.mem_map, List.mem_filter, List.mem_range]
  exact ⟨fun ⟨i, ⟨h1, h2⟩, e⟩ => ⟨i, e.symm, h1, h2⟩, fun ⟨i, e, h1, h2⟩ => ⟨i, ⟨h1, h2⟩, e.symm⟩⟩
theorem has_listed {b n i : Nat} : has (listed b n) (i : Int) = (decide (i < n) && b.testBit i) := by
  rw [Bool.eq_iff_iff, has_iff, mem_listed, Bool.and_eq_true, decide_eq_true_eq]
  exact ⟨fun ⟨j, e, h⟩ => by rw [show i = j by omega]; exact h, fun h => ⟨i, rfl, h⟩⟩
theorem isL_listed {b n : Nat} {below : Int} : ∀ (k : Nat), (k : Int) ≤ below → isL below 0 (listed b k) = true
  | 0, _ => rfl
  | k + 1, h => by
    rw [listed_succ]
    have ih := isL_listed (b := b) (n := n) k (below := below) (by omega)
    split
    · rw [isL_snoc, ih, Bool.true_and, decide_eq_true_eq]
      refine ⟨?_, by omega⟩
      have hl : ∀ x ∈ listed b k, x < (k : Int) := fun x hx => by
        obtain ⟨i, rfl, h1, -⟩ := mem_listed.1 hx
        omega
      rcases List.eq_nil_or_concat (listed b k) with e | ⟨l', y, e⟩
      · rw [e]; simp
      · rw [List.concat_eq_append] at e
        have := hl y (by rw [e]; simp)
        rw [e]
        simp
        omega
    · rw [List.append_nil]; exact ih
theorem isL_listed' (b n : Nat) : isL (n : Int) 0 (listed b n) = true := isL_listed (n := n) n (Int.le_refl _)
theorem listed_bits {n : Nat} {l : List Int} (h : isL (n : Int) 0 l = true) : listed (bitsL l) n = l := by
  refine isL_ext (isL_listed' _ n) h fun x => ?_
  rw [mem_listed]
  constructor
  · rintro ⟨i, rfl, h1, h2⟩
    rw [bitsL_test fun x hx => (isL_bd h x hx).1] at h2
    exact has_iff.1 h2
  · intro hx
    have := isL_bd h x hx
    refine ⟨x.toNat, by omega, by omega, ?_⟩
    rw [bitsL_test fun x hx => (isL_bd h x hx).1, has_iff, show ((x.toNat : Nat) : Int) = x by omega]
    exact hx
theorem bits_listed {b n : Nat} (h : b < 2 ^ n) : bitsL (listed b n) = b := by
  refine Nat.eq_of_testBit_eq fun i => ?_
  rw [bitsL_test fun x hx => by obtain ⟨i, rfl, -⟩ := mem_listed.1 hx; omega, has_listed]
  by_cases hi : i < n
  · simp [hi]
  · rw [Nat.testBit_lt_two_pow (Nat.lt_of_lt_of_le h (Nat.pow_le_pow_right (by omega) (by omega)))]; simp
theorem bitsL_inj {n : Nat} {l l' : List Int} (h : isL (n : Int) 0 l = true) (h' : isL (n : Int) 0 l' = true) (e : bitsL l = bitsL l') : l = l' := by
  rw [← listed_bits h, ← listed_bits h', e]
theorem bits8_ext {a b : Nat} (ha : a < 256) (hb : b < 256) (h : ∀ i, i < 8 → a.testBit i = b.testBit i) : a = b := by
  refine Nat.eq_of_testBit_eq fun i => ?_
  by_cases hi : i < 8
  · exact h i hi
  · have e8 : (256 : Nat) ≤ 2 ^ i := Nat.le_trans (by decide : 256 ≤ 2 ^ 8) (Nat.pow_le_pow_right (by omega) (by omega))
    rw [Nat.testBit_lt_two_pow (Nat.lt_of_lt_of_le ha e8), Nat.testBit_lt_two_pow (Nat.lt_of_lt_of_le hb e8)]
/-! The order of lists. -/
def before : List Int → List Int → Bool
  | _, [] => false
  | [], _ :: _ => true
  | x :: a, y :: b => if x = y then before a b else decide (x < y)
theorem before_cons {x y : Int} {a b : List Int} : before (x :: a) (y :: b) = if x = y then before a b else decide (x < y) := rfl
theorem before_irr : ∀ (l : List Int), before l l = false
  | [] => rfl
  | x :: l => by rw [before_cons, if_pos rfl]; exact before_irr l
theorem before_trans : ∀ {a b c : List Int}, before a b = true → before b c = true → before a c = true
  | _, [], _, h, _ => by cases ‹List Int› <;> simp [before] at h
  | _, _ :: _, [], _, h => by simp [before] at h
  | [], _ :: _, _ :: _, _, _ => rfl
  | x :: a, y :: b, z :: c, h, h' => by
    rw [before_cons] at h h' ⊢
    by_cases e1 : x = y
    · subst e1
      rw [if_pos rfl] at h
      by_cases e2 : x = z
      · subst e2
        rw [if_pos rfl] at h' ⊢
        exact before_trans h h'
      · rw [if_neg e2] at h' ⊢; exact h'
    · rw [if_neg e1] at h
      have h1 := of_decide_eq_true h
      by_cases e2 : y = z
      · subst e2
        rw [if_neg e1]; exact h
      · rw [if_neg e2] at h'
        have h2 := of_decide_eq_true h'
        rw [if_neg (by omega)]
        exact decide_eq_true (by omega)
theorem before_tot : ∀ {a b : List Int}, a ≠ b → before a b = false → before b a = true
  | [], [], h, _ => absurd rfl h
  | [], _ :: _, _, h => by simp [before] at h
  | _ :: _, [], _, _ => rfl
  | x :: a, y :: b, hne, h => by
    rw [before_cons] at h ⊢
    by_cases e : x = y
    · subst e
      rw [if_pos rfl] at h ⊢
      exact before_tot (fun e => hne (by rw [e])) h
    · rw [if_neg e] at h
      rw [if_neg (Ne.symm e)]
      have := of_decide_eq_false h
      exact decide_eq_true (by omega)
theorem before_asym {a b : List Int} (h : before a b = true) : before b a = false := by
  cases h' : before b a
  · rfl
  · have := before_trans h h'
    rw [before_irr] at this; cases this
theorem before_ne {a b : List Int} (h : before a b = true) : a ≠ b := fun e => by rw [e, before_irr] at h; cases h
/-- In order, each once. -/
def Srt (L : List (List Int)) : Prop := L.Pairwise fun a b => before a b = true
theorem srt_nodup {L : List (List Int)} (h : Srt L) : L.Nodup := List.Pairwise.imp (fun h => before_ne h) h
theorem srt_ext : ∀ {L L' : List (List Int)}, Srt L → Srt L' → (∀ l, l ∈ L ↔ l ∈ L') → L = L'
  | [], [], _, _, _ => rfl
  | [], y :: _, _, _, hm => absurd ((hm y).2 (List.mem_cons_self)) (by simp)
  | x :: _, [], _, _, hm => absurd ((hm x).1 (List.mem_cons_self)) (by simp)
  | x :: L, y :: L', h, h', hm => by
    have h1 := List.pairwise_cons.1 h
    have h2 := List.pairwise_cons.1 h'
    have e : x = y := by
      rcases List.mem_cons.1 ((hm x).1 (List.mem_cons_self)) with e | hx
      · exact e
      · rcases List.mem_cons.1 ((hm y).2 (List.mem_cons_self)) with e | hy
        · exact e.symm
        · have := before_asym (h2.1 x hx)
          rw [h1.1 y hy] at this; cases this
    subst e
    refine congrArg (List.cons x) (srt_ext h1.2 h2.2 fun z => ⟨fun hz => ?_, fun hz => ?_⟩)
    · rcases List.mem_cons.1 ((hm z).1 (List.mem_cons_of_mem _ hz)) with e | hz'
      · exact absurd e.symm (before_ne (h1.1 z hz))
      · exact hz'
    · rcases List.mem_cons.1 ((hm z).2 (List.mem_cons_of_mem _ hz)) with e | hz'
      · exact absurd e.symm (before_ne (h2.1 z hz))
      · exact hz'
/-- A list is put in from the end on. -/
def insB (x : List Int) (o : List (List Int)) : List (List Int) := (o.reverse.dropWhile (before x)).reverse ++ x :: (o.reverse.takeWhile (before x)).reverse
def sortL (L : List (List Int)) : List (List Int) := L.foldl (fun o x => insB x o) []
theorem insB_parts (x : List Int) (o : List (List Int)) : (o.reverse.dropWhile (before x)).reverse ++ (o.reverse.takeWhile (before x)).reverse = o := by
  rw [← List.reverse_append, List.takeWhile_append_dropWhile, List.reverse_reverse]
theorem mem_insB {x y : List Int} {o : List (List Int)} : y ∈ insB x o ↔ y = x ∨ y ∈ o := by
  unfold insB
  conv => rhs; rw [← insB_parts x o]
  simp only [List.mem_append, List.mem_cons]
  constructor
  · rintro (h | h | h)
    · exact .inr (.inl h)
    · exact .inl h
    · exact .inr (.inr h)
  · rintro (h | h | h)
    · exact .inr (.inl h)
    · exact .inl h
    · exact .inr (.inr h)
theorem insB_len (x : List Int) (o : List (List Int)) : (insB x o).length = o.length + 1 := by
  have := congrArg List.length (insB_parts x o)
  unfold insB
  simp only [List.length_append, List.length_cons] at this ⊢
  omega
theorem dropWhile_head {α : Type} {p : α → Bool} : ∀ {l : List α} {y : α} {r : List α}, l.dropWhile p = y :: r → p y = false
  | [], _, _, h => by simp at h
  | x :: l, y, r, h => by
    rw [List.dropWhile_cons] at h
    split at h
    · exact dropWhile_head h
    · rename_i hx
      obtain ⟨rfl, -⟩ := List.cons.inj h
      simpa using hx
theorem insB_srt {x : List Int} {o : List (List Int)} (h : Srt o) (hx : x ∉ o) : Srt (insB x o) := by
  have hp := insB_parts x o
  have hs : Srt ((o.reverse.dropWhile (before x)).reverse ++ (o.reverse.takeWhile (before x)).reverse) := by rw [hp]; exact h
  obtain ⟨h1, h2, h3⟩ := List.pairwise_append.1 hs
  have ht : ∀ y ∈ (o.reverse.takeWhile (before x)).reverse, before x y = true := fun y hy => by
    rw [List.mem_reverse] at hy
    exact List.all_eq_true.1 List.all_takeWhile y hy
  refine List.pairwise_append.2 ⟨h1, List.pairwise_cons.2 ⟨ht, h2⟩, fun a ha b hb => ?_⟩
  have hax : before a x = true := by
    cases hd : o.reverse.dropWhile (before x) with
    | nil => rw [hd] at ha; simp at ha
    | cons y r =>
      have hy := dropWhile_head hd
      rw [hd, List.reverse_cons] at h1 ha
      have hyo : y ∈ o := by rw [← hp]; exact List.mem_append_left _ (by rw [hd]; simp)
      have hyx : before y x = true := before_tot (fun e => hx (e ▸ hyo)) hy
      obtain ⟨-, -, h4⟩ := List.pairwise_append.1 h1
      rcases List.mem_append.1 ha with h5 | h5
      · exact before_trans (h4 a h5 y (by simp)) hyx
      · rw [List.mem_singleton.1 h5]; exact hyx
  rcases List.mem_cons.1 hb with rfl | hb
  · exact hax
  · exact h3 a ha b hb
theorem mem_sortGo {y : List Int} : ∀ {L o : List (List Int)}, y ∈ L.foldl (fun o x => insB x o) o ↔ y ∈ L ∨ y ∈ o
  | [], o => by simp
  | x :: L, o => by
    rw [List.foldl_cons, mem_sortGo, mem_insB, List.mem_cons]
    constructor
    · rintro (h | h | h)
      · exact .inl (.inr h)
      · exact .inl (.inl h)
      · exact .inr h
    · rintro ((h | h) | h)
      · exact .inr (.inl h)
      · exact .inl h
      · exact .inr (.inr h)
theorem mem_sortL {y : List Int} {L : List (List Int)} : y ∈ sortL L ↔ y ∈ L := by
  unfold sortL; rw [mem_sortGo]; simp
theorem sortGo_len : ∀ {L o : List (List Int)}, (L.foldl (fun o x => insB x o) o).length = L.length + o.length
  | [], o => by simp
  | x :: L, o => by rw [List.foldl_cons, sortGo_len, insB_len, List.length_cons]; omega
theorem sortL_len (L : List (List Int)) : (sortL L).length = L.length := by unfold sortL; rw [sortGo_len]; simp
theorem sortGo_srt : ∀ {L o : List (List Int)}, Srt o → L.Nodup → (∀ y ∈ L, y ∉ o) → Srt (L.foldl (fun o x => insB x o) o)
  | [], o, h, _, _ => h
  | x :: L, o, h, hn, hd => by
    have h1 := List.nodup_cons.1 hn
    rw [List.foldl_cons]
    refine sortGo_srt (insB_srt h (hd x (List.mem_cons_self))) h1.2 fun y hy => ?_
    rw [mem_insB]
    rintro (e | e)
    · exact h1.1 (e ▸ hy)
    · exact hd y (List.mem_cons_of_mem _ hy) e
theorem sortL_srt {L : List (List Int)} (h : L.Nodup) : Srt (sortL L) := sortGo_srt List.Pairwise.nil h fun _ _ => by simp
theorem sortL_snoc (L : List (List Int)) (x : List Int) : sortL (L ++ [x]) = insB x (sortL L) := by unfold sortL; rw [List.foldl_append]; rfl
end Go.Proofs.Ytnpilfpackdimaa
/- A law of our own for a region that draws its order: all operations but a tail yield, in every world that meets S, one and the same value, and keep S; then the region may be walked in the order of the text, the tail in the world at hand. Over any program. -/
namespace Go.Proofs.Ytnpilfpackdimaa
open Go

section
variable {P : Program} {ops : Array Oper} {md : Region.Mode} {S : World → Prop}

/-- In a world: the operation yields v, and S holds behind it. -/
def HUpon (P : Program) (S : World → Prop) (v : Value) : Result Next → Prop
  | .ok (.value u) W' => u = v ∧ S W'
  | .ok .skip W' => v = undef ∧ S W'
  | .ok (.enter f args) W' => Calls P f args W' fun e W'' => e = .returned v ∧ S W''
  | _ => False

/-- In every world that meets S. -/
def HYields (P : Program) (ops : Array Oper) (S : World → Prop) (o : Oper) (v : Value) (a : Act) : Prop :=
  (Region.wanted o (yielded ops a.tmps) = true ∧ ∀ W, S W → HUpon P S v ((execOp a.eval o).run P W)) ∨ (Region.wanted o (yielded ops a.tmps) = false ∧ v = undef)

theorem HYields.of_same {o : Oper} {v : Value} {a a' : Act} (hy : HYields P ops S o v a) (he : execOp a'.eval o = execOp a.eval o)
    (hw : Region.wanted o (yielded ops a'.tmps) = Region.wanted o (yielded ops a.tmps)) : HYields P ops S o v a' := by
  unfold HYields at *
  rw [he, hw]
  exact hy

/-- The list of operations, in the order of the text. -/
def wpHd (P : Program) (ops : Array Oper) (S : World → Prop) (Q : Act → Prop) : List Oper → Act → Prop
  | [], a => Q a
  | o :: rest, a => ∃ v, HYields P ops S o v a ∧ wpHd P ops S Q rest (a.put o.dst v)

def hOp (P : Program) (ops : Array Oper) (S : World → Prop) (i : Nat) (K : Act → Prop) (a : Act) : Prop :=
  match ops[i]? with
  | none => K a
  | some o => ∃ v, HYields P ops S o v a ∧ K (a.put o.dst v)

theorem hOp_mono {i : Nat} {a : Act} {K K' : Act → Prop} (h : ∀ a, K a → K' a) (hh : hOp P ops S i K a) : hOp P ops S i K' a := by
  unfold hOp at *
  split
  · rename_i ho; simp only [ho] at hh; exact h _ hh
  · rename_i o ho; simp only [ho] at hh; obtain ⟨v, hy, hk⟩ := hh; exact ⟨v, hy, h _ hk⟩

theorem wpOp_of_hOp {i : Nat} {a : Act} {w : World} {K : Act → Prop} {K' : Act → World → Prop} {Q' : Exit → Act → World → Prop} (hS : S w) (h : ∀ a w, S w → K a → K' a w)
    (hh : hOp P ops S i K a) : wpOp P ops Q' i K' a w := by
  unfold hOp at hh
  unfold wpOp
  split
  · rename_i ho; simp only [ho] at hh; exact h _ _ hS hh
  · rename_i o ho
    simp only [ho] at hh
    obtain ⟨v, hy, hk⟩ := hh
    rcases hy with ⟨hw, hy⟩ | ⟨hw, rfl⟩
    · simp only [hw, if_true]
      refine .inl ?_
      have h1 := hy w hS
      unfold Oper.wp
      generalize (execOp a.eval o).run P w = r at h1
      cases r with
      | ok n w' =>
        cases n <;> simp only [HUpon] at h1 <;> simp only [Oper.upon]
        case value u => obtain ⟨rfl, h2⟩ := h1; exact h _ _ h2 hk
        case skip => obtain ⟨rfl, h2⟩ := h1; exact h _ _ h2 hk
        case enter f args => exact h1.mono fun e w'' ⟨he, hw'⟩ => by subst he; exact h _ _ hw' hk
      | halt x w' => simp only [HUpon] at h1
    · simp only [hw, Bool.false_eq_true, if_false]; exact h _ _ hS hk

theorem hOp_put {j : Nat} {oi oj : Oper} {v : Value} (hj : ops[j]? = some oj) (hap : oi.apart ops oj = true)
    (hsi : ∀ cs b, oi.op ≠ .select cs b) (hsj : ∀ cs b, oj.op ≠ .select cs b) {K : Act → Prop} {a : Act}
    (hy : HYields P ops S oi v a) (h : hOp P ops S j K (a.put oi.dst v)) :
    hOp P ops S j (fun a' => HYields P ops S oi v a' ∧ K (a'.put oi.dst v)) a := by
  obtain ⟨h1, h2, h3⟩ := Oper.apart_spec hap
  unfold hOp at *
  simp only [hj] at *
  obtain ⟨u, hu, hk⟩ := h
  refine ⟨u, hu.of_same (execOp_put oj hsj a oi.dst v h1).symm (wanted_put oj a oi.dst v h1).symm, hy.of_same (execOp_put oi hsi a oj.dst u h3) (wanted_put oi a oj.dst u h3), ?_⟩
  rw [← Act.put_comm a v u h2]
  exact hk

def wpAnyD (P : Program) (md : Region.Mode) (ops : Array Oper) (S : World → Prop) (n : Nat) (L : Array Bool → Act → Prop) : Nat → Array Bool → Act → Prop
  | 0, listed, a => L listed a
  | f + 1, listed, a =>
    Region.ready md ops listed ≠ [] ∧ ∀ i ∈ Region.ready md ops listed, i < n ∧ hOp P ops S i (wpAnyD P md ops S n L f (listed.setIfInBounds i true)) a

theorem wpAny_of_hd {n g : Nat} {L : Array Bool → Act → Prop} {Q' : Exit → Act → World → Prop} (hL : ∀ listed a w, S w → L listed a → wpAny P md ops Q' g listed a w) :
    ∀ (f : Nat) (listed : Array Bool) (a : Act) (w : World), S w → wpAnyD P md ops S n L f listed a → wpAny P md ops Q' (f + g) listed a w
  | 0, listed, a, w, hS, h => by rw [Nat.zero_add]; exact hL _ _ _ hS h
  | f + 1, listed, a, w, hS, h => by
    rw [show f + 1 + g = (f + g) + 1 by omega]
    exact ⟨fun h0 => absurd h0 h.1, fun i hi => wpOp_of_hOp hS (fun a' w' hS' h' => wpAny_of_hd hL f _ a' w' hS' h') (h.2 i hi).2⟩

theorem wpAnyD_first {n i : Nat} {oi : Oper} {v : Value} {L : Array Bool → Act → Prop} (hi : ops[i]? = some oi) (hsel : ∀ (j : Nat) (o : Oper) cs b, ops[j]? = some o → o.op ≠ .select cs b)
    (hin : i < n) (htail : ∀ listed, HeadInv md ops n listed → listed.getD i true = false → ∀ t, n ≤ t → t ∉ Region.ready md ops listed)
    (hdone : ∀ listed a, L listed a → ∀ j ∈ Region.ready md ops listed, n ≤ j) :
    ∀ (f : Nat) (listed : Array Bool) (a : Act), HeadInv md ops n listed →
      (∀ j oj, ops[j]? = some oj → j ≠ i → listed.getD j true = false → (∀ e ∈ oj.after, Region.binds md e = true → e.on ≠ i) → oi.apart ops oj = true) →
      i ∈ Region.ready md ops listed → HYields P ops S oi v a →
      wpAnyD P md ops S n L f (listed.setIfInBounds i true) (a.put oi.dst v) → wpAnyD P md ops S n L (f + 1) listed a := by
  intro f
  induction f with
  | zero =>
    intro listed a inv _ hr hy H
    have hun := (mem_ready.1 hr).1
    refine ⟨fun h => (by rw [h] at hr; cases hr), fun j hj => ?_⟩
    have hjn : j < n := by
      rcases Nat.lt_or_ge j n with h | h
      · exact h
      · exact absurd hj (htail listed inv hun j h)
    refine ⟨hjn, ?_⟩
    by_cases hji : j = i
    · subst hji
      unfold hOp
      simp only [hi]
      exact ⟨v, hy, H⟩
    · have := hdone _ _ H j (ready_mono hj hji)
      omega
  | succ f ih =>
    intro listed a inv hfree hr hy H
    have hun := (mem_ready.1 hr).1
    refine ⟨fun h => (by rw [h] at hr; cases hr), fun j hj => ?_⟩
    have hjn : j < n := by
      rcases Nat.lt_or_ge j n with h | h
      · exact h
      · exact absurd hj (htail listed inv hun j h)
    refine ⟨hjn, ?_⟩
    by_cases hji : j = i
    · subst hji
      unfold hOp
      simp only [hi]
      exact ⟨v, hy, H⟩
    · have h1 := (H.2 j (ready_mono hj hji)).2
      obtain ⟨hjun, oj, hoj, hall⟩ := mem_ready.1 hj
      have hnot : ∀ e ∈ oj.after, Region.binds md e = true → e.on ≠ i := fun e he hb heq => by
        have h1 := hall e he hb
        rw [heq, getD_both hun] at h1
        cases h1
      have h2 := hOp_put hoj (hfree j oj hoj hji hjun hnot) (fun cs b => hsel i oi cs b hi) (fun cs b => hsel j oj cs b hoj) hy h1
      have hfree' : ∀ k ok, ops[k]? = some ok → k ≠ i → (listed.setIfInBounds j true).getD k true = false →
          (∀ e ∈ ok.after, Region.binds md e = true → e.on ≠ i) → oi.apart ops ok = true := fun k ok hk hki hun hno => by
        refine hfree k ok hk hki ?_ hno
        by_cases hjk : j = k
        · subst hjk; exact hjun
        · rw [getD_set_ne true hjk] at hun; exact hun
      refine hOp_mono (fun a' h3 => ih (listed.setIfInBounds j true) a' (inv.set hj hjn) hfree' (ready_mono hr (Ne.symm hji)) h3.1 ?_) h2
      rw [Array.setIfInBounds_comm _ _ hji]
      exact h3.2

theorem wpAnyD_lex {n g : Nat} {Lq : Act → Prop} (hsel : Region.noSelect ops = true)
    (htail : ∀ i, i < n → ∀ listed, HeadInv md ops n listed → listed.getD i true = false → ∀ t, n ≤ t → t ∉ Region.ready md ops listed) :
    ∀ (l : List Oper) (k : Nat) (listed : Array Bool) (a : Act), (∀ j, j < l.length → l[j]? = ops[k + j]?) → k + l.length = n → HeadInv md ops n listed →
    Region.lexHead md ops g l.length k listed = true → wpHd P ops S Lq l a →
    wpAnyD P md ops S n (fun listed' a' => Region.seqB md ops g n listed' = true ∧ Lq a') l.length listed a
  | [], k, listed, a, _, hk, _, hB, h => by
    have : k = n := by simpa using hk
    subst this
    exact ⟨by simpa [Region.lexHead] using hB, h⟩
  | o :: l, k, listed, a, hl, hk, inv, hB, h => by
    have h0 : ops[k]? = some o := by simpa using (hl 0 (by simp)).symm
    simp only [List.length_cons, Region.lexHead, Bool.and_eq_true] at hB
    obtain ⟨⟨hr, hf⟩, hB'⟩ := hB
    have hkn : k < n := by simp only [List.length_cons] at hk; omega
    have hr' : k ∈ Region.ready md ops listed := by simpa using hr
    obtain ⟨v, hy, hK⟩ := h
    exact wpAnyD_first h0 (Region.noSelect_spec hsel) hkn (htail k hkn) (fun listed' a' hL => seqB_ready hL.1) l.length listed a inv (Region.free_spec h0 hf) hr' hy
      (wpAnyD_lex hsel htail l (k + 1) _ _ (fun j hj => by have := hl (j + 1) (by simp; omega); simpa [Nat.add_assoc, Nat.add_comm 1 j] using this) (by simp only [List.length_cons] at hk; omega) (inv.set hr' hkn) hB' hK)

/-- A region with a tail that is forced. -/
theorem wp_region_hd {id : Nat} {Q : Exit → Act → World → Prop} {a : Act} {w : World} {l : List Oper} (n : Nat) (S : World → Prop) (hm : P.follows .mixedOrders = true) (hB : Region.lexTailB .any l.toArray n = true)
    (hS : S w.drew) (h : wpHd P l.toArray S (fun a' => ∀ W, S W → wpList P l.toArray Q (l.drop n) a' W) (l.take n) a) : (Code.region id l.toArray true).wp P Q a w := by
  simp only [Region.lexTailB, Bool.and_eq_true, decide_eq_true_eq] at hB
  obtain ⟨⟨⟨⟨hsel, hn⟩, hs⟩, hc⟩, hlex⟩ := hB
  have hn' : n < l.length := by simpa using hn
  have htl : (l.take n).length = n := by simp; omega
  have hdl : (l.drop n).length = l.toArray.size - n := by simp
  have inv0 : HeadInv .any l.toArray n (Array.replicate l.toArray.size false) :=
    ⟨by simp, fun j oj _ hl => (by rw [getD_replicate_false] at hl; cases hl), fun t _ ht => getD_in (by simpa using ht) (getD_replicate_false _ _)⟩
  have H := wpAnyD_lex (md := .any) (g := l.toArray.size - n) hsel (fun i hi listed inv hun => tail_waits hs hc hn inv _ i rfl hi hun) (l.take n) 0 _ a (fun j hj => by
    have hj' : j < n := by rw [htl] at hj; exact hj
    simp [hj']) (by simpa using htl) inv0 (by rw [htl]; exact hlex) h
  refine wp_region_any hm ?_
  have := wpAny_of_hd (Q' := Q) (g := l.toArray.size - n) (fun listed a' w' hS' hL => by
    have := wpAny_of_seq (md := .any) (Q' := Q) (l.drop n) n listed a' w' (fun j => by simp [List.getElem?_drop]) (by rw [hdl]; exact hL.1) (hL.2 w' hS')
    rwa [hdl] at this) _ _ _ _ hS H
  rw [htl, show n + (l.toArray.size - n) = l.toArray.size by omega] at this
  exact this

theorem lexHead_of_lexFrom : ∀ (f k : Nat) (listed : Array Bool), Region.lexFrom md ops f k listed = true → Region.lexHead md ops 0 f k listed = true
  | 0, k, listed, h => by simpa [Region.lexFrom, Region.lexHead, Region.seqB] using h
  | f + 1, k, listed, h => by
    simp only [Region.lexFrom, Bool.and_eq_true] at h
    simp only [Region.lexHead, Bool.and_eq_true]
    exact ⟨h.1, lexHead_of_lexFrom f (k + 1) _ h.2⟩

/-- A region without such a tail. -/
theorem wp_region_hd_all {id : Nat} {Q : Exit → Act → World → Prop} {a : Act} {w : World} {l : List Oper} (S : World → Prop) (hm : P.follows .mixedOrders = true) (hB : Region.lexB .any l.toArray = true)
    (hS : S w.drew) (h : wpHd P l.toArray S (fun a' => ∀ W, S W → wpList P l.toArray Q [] a' W) l a) : (Code.region id l.toArray true).wp P Q a w := by
  simp only [Region.lexB, Bool.and_eq_true] at hB
  have hsz : l.toArray.size = l.length := by simp
  have inv0 : HeadInv .any l.toArray l.length (Array.replicate l.toArray.size false) :=
    ⟨by simp, fun j oj _ hl => (by rw [getD_replicate_false] at hl; cases hl), fun t h1 h2 => by rw [hsz] at h2; omega⟩
  have H := wpAnyD_lex (md := .any) (g := 0) hB.1 (fun i hi listed inv hun t ht hr => by
    have := (mem_ready.1 hr).2
    obtain ⟨ot, hot, _⟩ := this
    have := (Array.getElem?_eq_some_iff.1 hot).1
    rw [hsz] at this
    omega) l 0 _ a (fun j hj => by simp) (by simp) inv0 (by rw [← hsz]; exact lexHead_of_lexFrom _ _ _ hB.2) h
  refine wp_region_any hm ?_
  have := wpAny_of_hd (Q' := Q) (g := 0) (fun listed a' w' hS' hL => ⟨by simpa [Region.seqB] using hL.1, hL.2 w' hS'⟩) _ _ _ _ hS H
  simpa using this

/-! Steps. -/
theorem wpHd_nil {Q : Act → Prop} {a : Act} (h : Q a) : wpHd P ops S Q [] a := h
/-- An operation that leaves the world alone. -/
theorem wpHd_val {Q : Act → Prop} {a : Act} {o : Oper} {rest : List Oper} {v : Value} (hw : Region.wanted o (yielded ops a.tmps) = true)
    (hv : ∀ W, S W → (execOp a.eval o).run P W = .ok (.value v) W) (h : wpHd P ops S Q rest (a.put o.dst v)) : wpHd P ops S Q (o :: rest) a :=
  ⟨v, .inl ⟨hw, fun W hW => by rw [hv W hW]; exact ⟨rfl, hW⟩⟩, h⟩
theorem wpHd_not {Q : Act → Prop} {a : Act} {o : Oper} {rest : List Oper} (hw : Region.wanted o (yielded ops a.tmps) = false)
    (h : wpHd P ops S Q rest (a.put o.dst undef)) : wpHd P ops S Q (o :: rest) a := ⟨undef, .inr ⟨hw, rfl⟩, h⟩
theorem wpHd_call {Q : Act → Prop} {a : Act} {o : Oper} {rest : List Oper} {v : Value} {f : FuncId} {args : Array Value} (hw : Region.wanted o (yielded ops a.tmps) = true)
    (hv : ∀ W, S W → (execOp a.eval o).run P W = .ok (.enter f args) W) (hc : ∀ W, S W → Calls P f args W fun e W' => e = .returned v ∧ S W')
    (h : wpHd P ops S Q rest (a.put o.dst v)) : wpHd P ops S Q (o :: rest) a :=
  ⟨v, .inl ⟨hw, fun W hW => by rw [hv W hW]; exact hc W hW⟩, h⟩
/-- A call that leaves all that was there as it was. -/
theorem wpHd_callB {Q : Act → Prop} {a : Act} {o : Oper} {rest : List Oper} {v : Value} {f : FuncId} {args : Array Value} {w0 : World} (hw : Region.wanted o (yielded ops a.tmps) = true)
    (hc : ∀ W, RowKit.Below w0.heap.size w0 W → Calls P f args W fun e W' => e = .returned v ∧ RowKit.Below W.heap.size W W')
    (hv : ∀ W, RowKit.Below w0.heap.size w0 W → (execOp a.eval o).run P W = .ok (.enter f args) W)
    (h : wpHd P ops (fun W => RowKit.Below w0.heap.size w0 W) Q rest (a.put o.dst v)) : wpHd P ops (fun W => RowKit.Below w0.heap.size w0 W) Q (o :: rest) a :=
  wpHd_call hw hv (fun W hW => (hc W hW).mono fun _ _ ⟨he, hb⟩ => ⟨he, hW.trans (hb.mono hW.size)⟩) h
end
end Go.Proofs.Ytnpilfpackdimaa
/- The law on a region that draws its order (YtnpilfpackdimaaH), in a round of a range over a function: at the fence that shuts nothing out. Over any program. -/
namespace Go.Proofs.Ytnpilfpackdimaa
open Go

/-- The fence that shuts nothing out, in a round or not. -/
def Wd (ro : Option Nat) : Fence := { Fence.wide with round := ro }
@[go_sem, simp] theorem Wd_round (ro : Option Nat) : (Wd ro).round = ro := rfl
@[go_sem, simp] theorem Wd_depth (ro : Option Nat) : (Wd ro).depth = none := rfl
@[go_sem, simp] theorem Wd_fn (ro : Option Nat) (f : FuncId) : (Wd ro).fn f = True := rfl
@[go_sem, simp] theorem Wd_in (ro : Option Nat) (l : Nat) : (Wd ro).inRound l = Wd (some l) := rfl
theorem calls_wd {ro : Option Nat} {n : Nat} {P : Program} {f : FuncId} {args : Array Value} {w : World} {R : Ending → World → Prop} (h : Calls P f args w R) : CallsIn (Wd ro) n P f args w R :=
  (callsIn_wide (n := n)).2 h

section
variable {P : Program} {ops : Array Oper} {md : Region.Mode} {S : World → Prop} {ro : Option Nat} {n : Nat}

def noDefer (ops : Array Oper) : Bool := ops.all fun o => match o.op with | .defer _ => false | _ => true
theorem noDefer_spec (h : noDefer ops = true) (j : Nat) (o : Oper) (ho : ops[j]? = some o) : ∀ c, o.op ≠ .defer c := by
  intro c hc
  have hm : o ∈ ops := Array.mem_of_getElem? ho
  have := Array.all_eq_true'.1 h o hm
  rw [hc] at this
  cases this

theorem wpOpIn_of_hOp {i : Nat} {a : Act} {w : World} {K : Act → Prop} {K' : Act → World → Prop} {Q' : Exit → Act → World → Prop} (hd : noDefer ops = true) (hS : S w) (h : ∀ a w, S w → K a → K' a w)
    (hh : hOp P ops S i K a) : wpOpIn (Wd ro) n P ops Q' i K' a w := by
  unfold hOp at hh
  unfold wpOpIn
  split
  · rename_i ho; simp only [ho] at hh; exact h _ _ hS hh
  · rename_i o ho
    simp only [ho] at hh
    obtain ⟨v, hy, hk⟩ := hh
    rcases hy with ⟨hw, hy⟩ | ⟨hw, rfl⟩
    · simp only [hw, if_true]
      have h1 := hy w hS
      unfold Oper.wpIn
      refine ⟨fun f _ => trivial, ?_⟩
      rw [Oper.semAt_eq _ _ _ (noDefer_spec hd i o ho)]
      generalize (execOp a.eval o).run P w = r at h1
      cases r with
      | ok n w' =>
        cases n <;> simp only [HUpon] at h1 <;> simp only [Oper.uponIn]
        case value u => obtain ⟨rfl, h2⟩ := h1; exact h _ _ h2 hk
        case skip => obtain ⟨rfl, h2⟩ := h1; exact h _ _ h2 hk
        case enter f args =>
          refine ⟨fun hx => (by cases hx), calls_wd (h1.mono ?_)⟩
          rintro e w'' ⟨rfl, hw'⟩
          exact h _ _ hw' hk
      | halt x w' => simp only [HUpon] at h1
    · simp only [hw, Bool.false_eq_true, if_false]; exact ⟨fun f _ => trivial, h _ _ hS hk⟩

theorem wpAnyIn_of_hd {m g : Nat} {L : Array Bool → Act → Prop} {Q' : Exit → Act → World → Prop} (hd : noDefer ops = true) (hL : ∀ listed a w, S w → L listed a → wpAnyIn (Wd ro) n P md ops Q' g listed a w) :
    ∀ (f : Nat) (listed : Array Bool) (a : Act) (w : World), S w → wpAnyD P md ops S m L f listed a → wpAnyIn (Wd ro) n P md ops Q' (f + g) listed a w
  | 0, listed, a, w, hS, h => by rw [Nat.zero_add]; exact hL _ _ _ hS h
  | f + 1, listed, a, w, hS, h => by
    rw [show f + 1 + g = (f + g) + 1 by omega]
    exact ⟨fun h0 => absurd h0 h.1, fun i hi => wpOpIn_of_hOp hd hS (fun a' w' hS' h' => wpAnyIn_of_hd hd hL f _ a' w' hS' h') (h.2 i hi).2⟩

theorem wpAnyIn_of_seq {Q' : Exit → Act → World → Prop} : ∀ (l : List Oper) (k : Nat) (listed : Array Bool) (a : Act) (w : World), (∀ j, l[j]? = ops[k + j]?) →
    Region.seqB md ops l.length k listed = true → wpListIn (Wd ro) n P ops Q' l a w → wpAnyIn (Wd ro) n P md ops Q' l.length listed a w
  | [], _, _, _, _, _, hB, h => ⟨by simpa [Region.seqB] using hB, h⟩
  | o :: l, k, listed, a, w, hl, hB, h => by
    have h0 : ops[k]? = some o := by simpa using (hl 0).symm
    simp only [List.length_cons, Region.seqB, Bool.and_eq_true, decide_eq_true_eq] at hB
    refine ⟨fun h1 => (by rw [hB.1] at h1; cases h1), fun i hi => ?_⟩
    rw [hB.1] at hi
    have hik : i = k := by simpa using hi
    subst hik
    have hw : wpOpIn (Wd ro) n P ops Q' i (wpListIn (Wd ro) n P ops Q' l) a w := by unfold wpOpIn; simp only [h0]; exact h
    exact wpOpIn_mono (fun a' w' h' => wpAnyIn_of_seq l (i + 1) _ a' w' (fun j => by have := hl (j + 1); simpa [Nat.add_assoc, Nat.add_comm 1 j] using this) hB.2 h') hw

/-- A region with a tail that is forced, in a round. -/
theorem wpIn_region_hd {id : Nat} {Q : Exit → Act → World → Prop} {a : Act} {w : World} {l : List Oper} (m : Nat) (S : World → Prop) (hm : P.follows .mixedOrders = true) (hB : (Region.lexTailB .any l.toArray m && noDefer l.toArray) = true)
    (hS : S w.drew) (h : wpHd P l.toArray S (fun a' => ∀ W, S W → wpListIn (Wd ro) n P l.toArray Q (l.drop m) a' W) (l.take m) a) : (Code.region id l.toArray true).wpIn (Wd ro) n P Q a w := by
  simp only [Region.lexTailB, Bool.and_eq_true, decide_eq_true_eq] at hB
  obtain ⟨⟨⟨⟨⟨hsel, hn⟩, hs⟩, hc⟩, hlex⟩, hd⟩ := hB
  have hn' : m < l.length := by simpa using hn
  have htl : (l.take m).length = m := by simp; omega
  have hdl : (l.drop m).length = l.toArray.size - m := by simp
  have inv0 : HeadInv .any l.toArray m (Array.replicate l.toArray.size false) :=
    ⟨by simp, fun j oj _ hl => (by rw [getD_replicate_false] at hl; cases hl), fun t _ ht => getD_in (by simpa using ht) (getD_replicate_false _ _)⟩
  have H := wpAnyD_lex (md := .any) (g := l.toArray.size - m) hsel (fun i hi listed inv hun => tail_waits hs hc hn inv _ i rfl hi hun) (l.take m) 0 _ a (fun j hj => by
    have hj' : j < m := by rw [htl] at hj; exact hj
    simp [hj']) (by simpa using htl) inv0 (by rw [htl]; exact hlex) h
  refine wpIn_region_any hm ?_
  have := wpAnyIn_of_hd (ro := ro) (n := n) (Q' := Q) (g := l.toArray.size - m) hd (fun listed a' w' hS' hL => by
    have := wpAnyIn_of_seq (ro := ro) (n := n) (md := .any) (Q' := Q) (l.drop m) m listed a' w' (fun j => by simp [List.getElem?_drop]) (by rw [hdl]; exact hL.1) (hL.2 w' hS')
    rwa [hdl] at this) _ _ _ _ hS H
  rw [htl, show m + (l.toArray.size - m) = l.toArray.size by omega] at this
  exact this

/-- A region without such a tail, in a round. -/
theorem wpIn_region_hd_all {id : Nat} {Q : Exit → Act → World → Prop} {a : Act} {w : World} {l : List Oper} (S : World → Prop) (hm : P.follows .mixedOrders = true) (hB : (Region.lexB .any l.toArray && noDefer l.toArray) = true)
    (hS : S w.drew) (h : wpHd P l.toArray S (fun a' => ∀ W, S W → wpListIn (Wd ro) n P l.toArray Q [] a' W) l a) : (Code.region id l.toArray true).wpIn (Wd ro) n P Q a w := by
  simp only [Region.lexB, Bool.and_eq_true] at hB
  obtain ⟨hB, hd⟩ := hB
  have hsz : l.toArray.size = l.length := by simp
  have inv0 : HeadInv .any l.toArray l.length (Array.replicate l.toArray.size false) :=
    ⟨by simp, fun j oj _ hl => (by rw [getD_replicate_false] at hl; cases hl), fun t h1 h2 => by rw [hsz] at h2; omega⟩
  have H := wpAnyD_lex (md := .any) (g := 0) hB.1 (fun i hi listed inv hun t ht hr => by
    have := (mem_ready.1 hr).2
    obtain ⟨ot, hot, _⟩ := this
    have := (Array.getElem?_eq_some_iff.1 hot).1
    rw [hsz] at this
    omega) l 0 _ a (fun j hj => by simp) (by simp) inv0 (by rw [← hsz]; exact lexHead_of_lexFrom _ _ _ hB.2) h
  refine wpIn_region_any hm ?_
  have := wpAnyIn_of_hd (ro := ro) (n := n) (Q' := Q) (g := 0) hd (fun listed a' w' hS' hL => ⟨by simpa [Region.seqB] using hL.1, hL.2 w' hS'⟩) _ _ _ _ hS H
  simpa using this
end

/-! Leaving a function that holds marks. -/
/-- The marks have been taken; all else is as it was. -/
structure Off (Ds : List Nat) (w w' : World) : Prop where
  os : w'.os = w.os
  tape : w'.tape = w.tape
  output : w'.output = w.output
  size : w'.heap.size = w.heap.size
  block : ∀ k, k ∉ Ds → w'.heap[k]? = w.heap[k]?
  was : ∀ D, D ∈ Ds → w.heap[D]? = some (.deferred (some []))
  now : ∀ D, D ∈ Ds → w'.heap[D]? = some (.deferred none)
theorem Off.cell {Ds : List Nat} {w w' : World} (h : Off Ds w w') (a : Addr) : w'.cell? a = w.cell? a := by
  by_cases hm : a.block ∈ Ds
  · simp [World.cell?, h.was _ hm, h.now _ hm]
  · exact World.cell?_of_block (h.block _ hm)
theorem Off.below {Ds : List Nat} {w w' w0 : World} {B : Nat} (h : Off Ds w w') (hb : RowKit.Below B w0 w) (hD : ∀ D ∈ Ds, B ≤ D) : RowKit.Below B w0 w' :=
  hb.trans ⟨h.os, h.tape, h.output, by rw [h.size]; exact Nat.le_refl _, fun k hk => h.block k (fun hm => by have := hD k hm; omega)⟩
theorem Off.blk {Ds : List Nat} {w w' : World} (h : Off Ds w w') {g : Nat} {cs : Array Value} {t : TypeId} {fr : Nat × Nat} (hb : w.heap[g]? = some (.cells cs t fr)) : w'.heap[g]? = some (.cells cs t fr) :=
  (h.block g (fun hm => by rw [h.was g hm] at hb; cases hb)).trans hb

def markOf (D : Nat) : Deferred := { target := .collected D, args := #[] }
theorem leavesM_marks {P : Program} {n : Nat} {fn : Func} {tmps : Array Value} {R : Ending → World → Prop} : ∀ (Ds : List Nat) (w : World), Ds.Nodup → (∀ D, D ∈ Ds → w.heap[D]? = some (.deferred (some []))) →
    (∀ w', Off Ds w w' → ∃ v, (results fn tmps).run P w' = .ok v w' ∧ R (.returned v) w') → LeavesInM (Wd none) n P fn tmps R (Ds.map markOf) .returning w
  | [], w, _, _, h => h w ⟨rfl, rfl, rfl, rfl, fun _ _ => rfl, fun _ hm => (by cases hm), fun _ hm => (by cases hm)⟩
  | D :: Ds, w, hnd, hD, h => by
    obtain ⟨hn1, hn2⟩ := List.nodup_cons.1 hnd
    have h0 := hD D (by simp)
    refine ⟨by simp, .inl ⟨D, _, rfl, run_takeDeferred h0, ?_⟩⟩
    refine leavesM_marks Ds (w.putObj D (.deferred none)) hn2 (fun D' hm => ?_) (fun w' ho => h w' ?_)
    · rw [World.putObj_heap_other (fun e => hn1 (by rw [← e]; exact hm))]
      exact hD D' (by simp [hm])
    · refine ⟨ho.os, ho.tape, ho.output, ho.size.trans (by simp [World.putObj]), fun k hk => ?_, hD, fun D' hm => ?_⟩
      · simp only [List.mem_cons, not_or] at hk
        rw [ho.block k hk.2, World.putObj_heap_other hk.1]
      · rcases List.mem_cons.1 hm with rfl | hm
        · rw [ho.block D' hn1, World.putObj_heap_same (Array.getElem?_eq_some_iff.1 h0).1]
        · exact ho.now D' hm

/-! For a range over a function: what lies in cells, or below, abides the law's own book-keeping. -/
theorem Blk.ownk {A B : World} {row : Option Nat} {g : Nat} {t : TypeId} {cs : Array Value} (h : Blk A g t cs) (hg : A.grownBy B row) (hr : ∀ r, row = some r → ∃ o : Obj, A.heap[r]? = some o ∧ o.isCells = false) : Blk B g t cs :=
  h.grown hg (fun e => by
    obtain ⟨o, ho, hc⟩ := hr g e.symm
    rw [show A.heap[g]? = _ from h] at ho
    cases ho
    cases hc)
theorem Below.ownk {w A B : World} {row : Option Nat} {B0 : Nat} (h : RowKit.Below B0 w A) (hg : A.grownBy B row) (h0 : B0 ≤ A.heap.size) (hr : ∀ r, row = some r → B0 ≤ r) : RowKit.Below B0 w B := h.grown hg h0 hr
theorem with_frame {F : Fence} {n : Nat} {P : Program} {c : Code} {Q : Exit → Act → World → Prop} {tmps : Array Value} {ds : List Deferred} {w : World} (h : ∀ T, T = tmps → c.wpIn F n P Q { tmps := T, defers := ds } w) : c.wpIn F n P Q { tmps, defers := ds } w := h _ rfl
theorem keepsFrom_below {B : Nat} {W W' : World} (h : RowKit.Below W.heap.size W W') : KeepsFrom B W W' :=
  ⟨h.size, fun k _ _ hk _ => (h.block k (Array.getElem?_eq_some_iff.1 hk).1).trans hk⟩
end Go.Proofs.Ytnpilfpackdimaa
/- A second law of our own for a region that draws its order: early operations yield one and the same value in every world that is behind a first one; the others (an allocation, a store, an append) come in whatever order is left, each in whatever world is behind the one before it. Over any program. -/
namespace Go.Proofs.Ytnpilfpackdimaa
open Go

/-- A world that is behind another one: what was there is as it was. -/
abbrev Ext (w W : World) : Prop := RowKit.Below w.heap.size w W
theorem Ext.trans' {a b c : World} (h : Ext a b) (k : Ext b c) : Ext a c := h.trans (k.mono h.size)

section
variable {P : Program} {ops : Array Oper} {md : Region.Mode} {X : World}

def EUpon (P : Program) (W0 : World) (v : Value) : Result Next → Prop
  | .ok (.value u) W' => u = v ∧ Ext W0 W'
  | .ok .skip W' => v = undef ∧ Ext W0 W'
  | .ok (.enter f args) W' => W' = W0 ∧ Calls P f args W0 fun e W'' => e = .returned v ∧ Ext W0 W''
  | _ => False
/-- In every world behind X. -/
def EYields (P : Program) (ops : Array Oper) (X : World) (o : Oper) (v : Value) (a : Act) : Prop :=
  (Region.wanted o (yielded ops a.tmps) = true ∧ ∀ W, Ext X W → EUpon P W v ((execOp a.eval o).run P W)) ∨ (Region.wanted o (yielded ops a.tmps) = false ∧ v = undef)
theorem EYields.of_same {o : Oper} {v : Value} {a a' : Act} (hy : EYields P ops X o v a) (he : execOp a'.eval o = execOp a.eval o)
    (hw : Region.wanted o (yielded ops a'.tmps) = Region.wanted o (yielded ops a.tmps)) : EYields P ops X o v a' := by
  unfold EYields at *
  rw [he, hw]
  exact hy

/-- One operation, wherever it may lead, but to no panic. -/
def LUpon (P : Program) (o : Oper) (a : Act) (K : Act → World → Prop) : Result Next → Prop
  | .ok (.value u) W' => K (a.put o.dst u) W'
  | .ok .skip W' => K (a.put o.dst undef) W'
  | .ok (.enter f args) W' => Calls P f args W' fun e W'' => ∃ v, e = .returned v ∧ K (a.put o.dst v) W''
  | _ => False
def lOp (P : Program) (ops : Array Oper) (i : Nat) (K : Act → World → Prop) (a : Act) (w : World) : Prop :=
  match ops[i]? with
  | none => K a w
  | some o => if Region.wanted o (yielded ops a.tmps) = true then LUpon P o a K ((execOp a.eval o).run P w) else K (a.put o.dst undef) w

theorem LUpon_mono {o : Oper} {a : Act} {K K' : Act → World → Prop} (h : ∀ a w, K a w → K' a w) {r : Result Next} (hh : LUpon P o a K r) : LUpon P o a K' r := by
  cases r with
  | ok n w' =>
    cases n <;> simp only [LUpon] at hh ⊢
    case value u => exact h _ _ hh
    case skip => exact h _ _ hh
    case enter f args => exact hh.mono fun e W ⟨v, he, hk⟩ => ⟨v, he, h _ _ hk⟩
  | halt x w' => simp only [LUpon] at hh
theorem lOp_mono {i : Nat} {a : Act} {w : World} {K K' : Act → World → Prop} (h : ∀ a w, K a w → K' a w) (hh : lOp P ops i K a w) : lOp P ops i K' a w := by
  unfold lOp at *
  split
  · rename_i ho; simp only [ho] at hh; exact h _ _ hh
  · rename_i o ho
    simp only [ho] at hh
    split
    · rename_i hw; simp only [hw, if_true] at hh; exact LUpon_mono h hh
    · rename_i hw; simp only [hw] at hh; exact h _ _ hh

theorem lOp_put {j : Nat} {oi oj : Oper} {v : Value} (hj : ops[j]? = some oj) (hap : oi.apart ops oj = true)
    (hsi : ∀ cs b, oi.op ≠ .select cs b) (hsj : ∀ cs b, oj.op ≠ .select cs b) {K : Act → World → Prop} {a : Act} {w : World}
    (hy : EYields P ops X oi v a) (h : lOp P ops j K (a.put oi.dst v) w) :
    lOp P ops j (fun a' w' => EYields P ops X oi v a' ∧ K (a'.put oi.dst v) w') a w := by
  obtain ⟨h1, h2, h3⟩ := Oper.apart_spec hap
  have keep : ∀ (u : Value), EYields P ops X oi v (a.put oj.dst u) := fun u => hy.of_same (execOp_put oi hsi a oj.dst u h3) (wanted_put oi a oj.dst u h3)
  have swap : ∀ (u : Value) (W : World), K ((a.put oi.dst v).put oj.dst u) W → EYields P ops X oi v (a.put oj.dst u) ∧ K ((a.put oj.dst u).put oi.dst v) W := fun u W hk => ⟨keep u, by rw [← Act.put_comm a v u h2]; exact hk⟩
  unfold lOp at *
  simp only [hj] at *
  rw [wanted_put oj a oi.dst v h1] at h
  split
  · rename_i hw
    simp only [hw, if_true] at h
    rw [execOp_put oj hsj a oi.dst v h1] at h
    generalize (execOp a.eval oj).run P w = r at *
    cases r with
    | ok n w' =>
      cases n <;> simp only [LUpon] at h ⊢
      case value u => exact swap u _ h
      case skip => exact swap _ _ h
      case enter f args => exact h.mono fun e W ⟨u, he, hk⟩ => ⟨u, he, swap u _ hk⟩
    | halt x w' => simp only [LUpon] at h
  · rename_i hw
    simp only [hw] at h
    exact swap _ _ h

/-- Whatever order is left, in whatever worlds. -/
def wpM (P : Program) (md : Region.Mode) (ops : Array Oper) (X : World) (Q : Act → World → Prop) : Nat → Array Bool → Act → World → Prop
  | 0, listed, a, w => Region.ready md ops listed = [] ∧ ∀ W, Ext w W → Ext X W → Q a W
  | f + 1, listed, a, w => ∀ W, Ext w W → Ext X W → (Region.ready md ops listed = [] → Q a W) ∧
      ∀ i ∈ Region.ready md ops listed, lOp P ops i (fun a' W' => Ext X W' ∧ wpM P md ops X Q f (listed.setIfInBounds i true) a' W') a W
theorem wpM_ext {Q : Act → World → Prop} {f : Nat} {listed : Array Bool} {a : Act} {w w' : World} (h : wpM P md ops X Q f listed a w) (he : Ext w w') : wpM P md ops X Q f listed a w' := by
  cases f with
  | zero => exact ⟨h.1, fun W h1 h2 => h.2 W (he.trans' h1) h2⟩
  | succ f => exact fun W h1 h2 => h W (he.trans' h1) h2

theorem lOp_of_early {i : Nat} {oi : Oper} {v : Value} {a : Act} {W : World} {K : Act → World → Prop} (hi : ops[i]? = some oi) (hX : Ext X W) (hy : EYields P ops X oi v a) (hK : ∀ W', Ext W W' → K (a.put oi.dst v) W') : lOp P ops i K a W := by
  unfold lOp
  simp only [hi]
  rcases hy with ⟨hw, hy⟩ | ⟨hw, rfl⟩
  · simp only [hw, if_true]
    have h1 := hy W hX
    generalize (execOp a.eval oi).run P W = r at h1
    cases r with
    | ok n w' =>
      cases n <;> simp only [EUpon] at h1 <;> simp only [LUpon]
      case value u => obtain ⟨rfl, h2⟩ := h1; exact hK _ h2
      case skip => obtain ⟨rfl, h2⟩ := h1; exact hK _ h2
      case enter f args => obtain ⟨rfl, h2⟩ := h1; exact h2.mono fun e W'' ⟨he, hx⟩ => ⟨v, he, hK _ hx⟩
    | halt x w' => simp only [EUpon] at h1
  · simp only [hw, Bool.false_eq_true, if_false]; exact hK _ (RowKit.Below.refl _ _)

theorem wpM_first {Q : Act → World → Prop} {i : Nat} {oi : Oper} {v : Value} (hi : ops[i]? = some oi) (hsel : ∀ (j : Nat) (o : Oper) cs b, ops[j]? = some o → o.op ≠ .select cs b) :
    ∀ (f : Nat) (listed : Array Bool) (a : Act) (w : World),
      (∀ j oj, ops[j]? = some oj → j ≠ i → listed.getD j true = false → (∀ e ∈ oj.after, Region.binds md e = true → e.on ≠ i) → oi.apart ops oj = true) →
      i ∈ Region.ready md ops listed → EYields P ops X oi v a →
      wpM P md ops X Q f (listed.setIfInBounds i true) (a.put oi.dst v) w → wpM P md ops X Q (f + 1) listed a w := by
  intro f
  induction f with
  | zero =>
    intro listed a w hfree hr hy H W hwW hXW
    refine ⟨fun h => (by rw [h] at hr; cases hr), fun j hj => ?_⟩
    by_cases hji : j = i
    · subst hji
      exact lOp_of_early hi hXW hy fun W' hW' => ⟨hXW.trans' hW', wpM_ext H (hwW.trans' hW')⟩
    · have := ready_mono hj hji
      rw [H.1] at this
      cases this
  | succ f ih =>
    intro listed a w hfree hr hy H W hwW hXW
    refine ⟨fun h => (by rw [h] at hr; cases hr), fun j hj => ?_⟩
    by_cases hji : j = i
    · subst hji
      exact lOp_of_early hi hXW hy fun W' hW' => ⟨hXW.trans' hW', wpM_ext H (hwW.trans' hW')⟩
    · have h1 := (H W hwW hXW).2 j (ready_mono hj hji)
      obtain ⟨hjun, oj, hoj, hall⟩ := mem_ready.1 hj
      have hnot : ∀ e ∈ oj.after, Region.binds md e = true → e.on ≠ i := fun e he hb heq => by
        have h1 := hall e he hb
        have h0 := (mem_ready.1 hr).1
        rw [heq, getD_both h0] at h1
        cases h1
      have h2 := lOp_put hoj (hfree j oj hoj hji hjun hnot) (fun cs b => hsel i oi cs b hi) (fun cs b => hsel j oj cs b hoj) hy h1
      have hfree' : ∀ k ok, ops[k]? = some ok → k ≠ i → (listed.setIfInBounds j true).getD k true = false →
          (∀ e ∈ ok.after, Region.binds md e = true → e.on ≠ i) → oi.apart ops ok = true := fun k ok hk hki hun hno => by
        refine hfree k ok hk hki ?_ hno
        by_cases hjk : j = k
        · subst hjk; exact hjun
        · rw [getD_set_ne true hjk] at hun; exact hun
      refine lOp_mono (fun a' W' h3 => ⟨h3.2.1, ih (listed.setIfInBounds j true) a' W' hfree' (ready_mono hr (Ne.symm hji)) h3.1 ?_⟩) h2
      rw [Array.setIfInBounds_comm _ _ hji]
      exact h3.2.2

/-- The early operations, by their numbers, in order. -/
def wpE (P : Program) (ops : Array Oper) (X : World) (L : Act → Prop) : List (Nat × Oper) → Act → Prop
  | [], a => L a
  | (_, o) :: rest, a => ∃ v, EYields P ops X o v a ∧ wpE P ops X L rest (a.put o.dst v)
def setAll (listed : Array Bool) : List Nat → Array Bool
  | [] => listed
  | i :: l => setAll (listed.setIfInBounds i true) l
/-- Each one is ready in its turn, and free. -/
def earlyB (md : Region.Mode) (ops : Array Oper) : List Nat → Array Bool → Bool
  | [], _ => true
  | i :: l, listed => (Region.ready md ops listed).contains i && Region.free md ops listed i && earlyB md ops l (listed.setIfInBounds i true)
def pick (ops : Array Oper) : List Nat → List (Nat × Oper)
  | [] => []
  | i :: l => match ops[i]? with
    | some o => (i, o) :: pick ops l
    | none => pick ops l

theorem wpM_early {Q : Act → World → Prop} (hsel : Region.noSelect ops = true) {w : World} : ∀ (E : List Nat) (g : Nat) (listed : Array Bool) (a : Act), earlyB md ops E listed = true →
    wpE P ops X (fun a' => wpM P md ops X Q g (setAll listed E) a' w) (pick ops E) a → wpM P md ops X Q (E.length + g) listed a w
  | [], g, listed, a, _, h => by simpa [setAll, pick, wpE] using h
  | i :: E, g, listed, a, hB, h => by
    simp only [earlyB, Bool.and_eq_true] at hB
    obtain ⟨⟨hr, hf⟩, hB'⟩ := hB
    have hr' : i ∈ Region.ready md ops listed := by simpa using hr
    obtain ⟨_, oi, hoi, _⟩ := mem_ready.1 hr'
    simp only [pick, hoi, wpE] at h
    obtain ⟨v, hy, hK⟩ := h
    rw [List.length_cons, show E.length + 1 + g = (E.length + g) + 1 by omega]
    exact wpM_first hoi (Region.noSelect_spec hsel) _ _ _ _ (Region.free_spec hoi hf) hr' hy (wpM_early hsel E g _ _ hB' hK)

theorem wpOp_of_lOp {i : Nat} {a : Act} {w : World} {K K' : Act → World → Prop} {Q' : Exit → Act → World → Prop} (h : ∀ a w, K a w → K' a w) (hh : lOp P ops i K a w) : wpOp P ops Q' i K' a w := by
  unfold lOp at hh
  unfold wpOp
  split
  · rename_i ho; simp only [ho] at hh; exact h _ _ hh
  · rename_i o ho
    simp only [ho] at hh
    split
    · rename_i hw
      simp only [hw, if_true] at hh
      refine .inl ?_
      unfold Oper.wp
      generalize (execOp a.eval o).run P w = r at hh
      cases r with
      | ok n w' =>
        cases n <;> simp only [LUpon] at hh <;> simp only [Oper.upon]
        case value u => exact h _ _ hh
        case skip => exact h _ _ hh
        case enter f args =>
          refine hh.mono ?_
          rintro e W ⟨v, rfl, hk⟩
          exact h _ _ hk
      | halt x w' => simp only [LUpon] at hh
    · rename_i hw; simp only [hw] at hh; exact h _ _ hh
theorem wpAny_of_M {Q : Act → World → Prop} {Q' : Exit → Act → World → Prop} (hQ : ∀ a w, Q a w → Q' .normal a w) : ∀ (f : Nat) (listed : Array Bool) (a : Act) (w : World), Ext X w → wpM P md ops X Q f listed a w → wpAny P md ops Q' f listed a w
  | 0, _, _, _, hX, h => ⟨h.1, hQ _ _ (h.2 _ (RowKit.Below.refl _ _) hX)⟩
  | f + 1, _, _, w, hX, h =>
    have h' := h w (RowKit.Below.refl _ _) hX
    ⟨fun h0 => hQ _ _ (h'.1 h0), fun i hi => wpOp_of_lOp (fun _ _ hk => wpAny_of_M hQ f _ _ _ hk.1 hk.2) (h'.2 i hi)⟩

/-- The law, outside a round. -/
theorem wp_region_el {id : Nat} {Q : Exit → Act → World → Prop} {a : Act} {w : World} {l : List Oper} (E : List Nat) (g : Nat) (hm : P.follows .mixedOrders = true)
    (hB : (Region.noSelect l.toArray && decide (E.length + g = l.length) && earlyB .any l.toArray E (Array.replicate l.length false)) = true)
    (h : ∀ X, X = w.drew → wpE P l.toArray X (fun a' => wpM P .any l.toArray X (fun a w => wpList P l.toArray Q [] a w) g (setAll (Array.replicate l.length false) E) a' X) (pick l.toArray E) a) : (Code.region id l.toArray true).wp P Q a w := by
  simp only [Bool.and_eq_true, decide_eq_true_eq] at hB
  obtain ⟨⟨hsel, hn⟩, hE⟩ := hB
  refine wp_region_any hm ?_
  have := wpM_early (X := w.drew) hsel E g _ a hE (h _ rfl)
  rw [hn] at this
  have := wpAny_of_M (Q' := Q) (fun _ _ hk => hk) _ _ _ _ (RowKit.Below.refl _ _) this
  simpa using this

variable {ro : Option Nat} {n : Nat}
theorem wpOpIn_of_lOp {i : Nat} {a : Act} {w : World} {K K' : Act → World → Prop} {Q' : Exit → Act → World → Prop} (hd : noDefer ops = true) (h : ∀ a w, K a w → K' a w) (hh : lOp P ops i K a w) : wpOpIn (Wd ro) n P ops Q' i K' a w := by
  unfold lOp at hh
  unfold wpOpIn
  split
  · rename_i ho; simp only [ho] at hh; exact h _ _ hh
  · rename_i o ho
    simp only [ho] at hh
    split
    · rename_i hw
      simp only [hw, if_true] at hh
      unfold Oper.wpIn
      refine ⟨fun f _ => trivial, ?_⟩
      rw [Oper.semAt_eq _ _ _ (noDefer_spec hd i o ho)]
      generalize (execOp a.eval o).run P w = r at hh
      cases r with
      | ok n w' =>
        cases n <;> simp only [LUpon] at hh <;> simp only [Oper.uponIn]
        case value u => exact h _ _ hh
        case skip => exact h _ _ hh
        case enter f args =>
          refine ⟨fun hx => (by cases hx), calls_wd (hh.mono ?_)⟩
          rintro e W ⟨v, rfl, hk⟩
          exact h _ _ hk
      | halt x w' => simp only [LUpon] at hh
    · rename_i hw; simp only [hw] at hh; exact ⟨fun f _ => trivial, h _ _ hh⟩
theorem wpAnyIn_of_M {Q : Act → World → Prop} {Q' : Exit → Act → World → Prop} (hd : noDefer ops = true) (hQ : ∀ a w, Q a w → Q' .normal a w) : ∀ (f : Nat) (listed : Array Bool) (a : Act) (w : World), Ext X w → wpM P md ops X Q f listed a w → wpAnyIn (Wd ro) n P md ops Q' f listed a w
  | 0, _, _, _, hX, h => ⟨h.1, hQ _ _ (h.2 _ (RowKit.Below.refl _ _) hX)⟩
  | f + 1, _, _, w, hX, h =>
    have h' := h w (RowKit.Below.refl _ _) hX
    ⟨fun h0 => hQ _ _ (h'.1 h0), fun i hi => wpOpIn_of_lOp hd (fun _ _ hk => wpAnyIn_of_M hd hQ f _ _ _ hk.1 hk.2) (h'.2 i hi)⟩
/-- The law, at the wide fence. -/
theorem wpIn_region_el {id : Nat} {Q : Exit → Act → World → Prop} {a : Act} {w : World} {l : List Oper} (E : List Nat) (g : Nat) (hm : P.follows .mixedOrders = true)
    (hB : (noDefer l.toArray && Region.noSelect l.toArray && decide (E.length + g = l.length) && earlyB .any l.toArray E (Array.replicate l.length false)) = true)
    (h : ∀ X, X = w.drew → wpE P l.toArray X (fun a' => wpM P .any l.toArray X (fun a w => wpListIn (Wd ro) n P l.toArray Q [] a w) g (setAll (Array.replicate l.length false) E) a' X) (pick l.toArray E) a) : (Code.region id l.toArray true).wpIn (Wd ro) n P Q a w := by
  simp only [Bool.and_eq_true, decide_eq_true_eq] at hB
  obtain ⟨⟨⟨hd, hsel⟩, hn⟩, hE⟩ := hB
  refine wpIn_region_any hm ?_
  have := wpM_early (X := w.drew) hsel E g _ a hE (h _ rfl)
  rw [hn] at this
  have := wpAnyIn_of_M (ro := ro) (n := n) (Q' := Q) hd (fun _ _ hk => hk) _ _ _ _ (RowKit.Below.refl _ _) this
  simpa using this

/-! Steps. -/
theorem wpE_val {L : Act → Prop} {a : Act} {i : Nat} {o : Oper} {rest : List (Nat × Oper)} {v : Value} (hw : Region.wanted o (yielded ops a.tmps) = true)
    (hv : ∀ W, Ext X W → (execOp a.eval o).run P W = .ok (.value v) W) (h : wpE P ops X L rest (a.put o.dst v)) : wpE P ops X L ((i, o) :: rest) a :=
  ⟨v, .inl ⟨hw, fun W hW => by rw [hv W hW]; exact ⟨rfl, RowKit.Below.refl _ _⟩⟩, h⟩
theorem wpE_not {L : Act → Prop} {a : Act} {i : Nat} {o : Oper} {rest : List (Nat × Oper)} (hw : Region.wanted o (yielded ops a.tmps) = false)
    (h : wpE P ops X L rest (a.put o.dst undef)) : wpE P ops X L ((i, o) :: rest) a := ⟨undef, .inr ⟨hw, rfl⟩, h⟩
theorem wpE_call {L : Act → Prop} {a : Act} {i : Nat} {o : Oper} {rest : List (Nat × Oper)} {v : Value} {f : FuncId} {args : Array Value} (hw : Region.wanted o (yielded ops a.tmps) = true)
    (hc : ∀ W, Ext X W → Calls P f args W fun e W' => e = .returned v ∧ RowKit.Below W.heap.size W W')
    (hv : ∀ W, Ext X W → (execOp a.eval o).run P W = .ok (.enter f args) W)
    (h : wpE P ops X L rest (a.put o.dst v)) : wpE P ops X L ((i, o) :: rest) a :=
  ⟨v, .inl ⟨hw, fun W hW => by rw [hv W hW]; exact ⟨rfl, hc W hW⟩⟩, h⟩
theorem wpE_valP {L : Act → Prop} {a : Act} {i : Nat} {o : Oper} {E : List Nat} {v : Value} (ho : ops[i]? = some o) (hw : Region.wanted o (yielded ops a.tmps) = true)
    (hv : ∀ W, Ext X W → (execOp a.eval o).run P W = .ok (.value v) W) (h : wpE P ops X L (pick ops E) (a.put o.dst v)) : wpE P ops X L (pick ops (i :: E)) a := by
  simp only [pick, ho]
  exact wpE_val hw hv h
theorem wpE_notP {L : Act → Prop} {a : Act} {i : Nat} {o : Oper} {E : List Nat} (ho : ops[i]? = some o) (hw : Region.wanted o (yielded ops a.tmps) = false)
    (h : wpE P ops X L (pick ops E) (a.put o.dst undef)) : wpE P ops X L (pick ops (i :: E)) a := by
  simp only [pick, ho]
  exact wpE_not hw h
theorem wpE_callP {L : Act → Prop} {a : Act} {i : Nat} {o : Oper} {E : List Nat} {v : Value} {f : FuncId} {args : Array Value} (ho : ops[i]? = some o) (hw : Region.wanted o (yielded ops a.tmps) = true)
    (hc : ∀ W, Ext X W → Calls P f args W fun e W' => e = .returned v ∧ RowKit.Below W.heap.size W W')
    (hv : ∀ W, Ext X W → (execOp a.eval o).run P W = .ok (.enter f args) W)
    (h : wpE P ops X L (pick ops E) (a.put o.dst v)) : wpE P ops X L (pick ops (i :: E)) a := by
  simp only [pick, ho]
  exact wpE_call hw hc hv h
theorem wpE_nilP {L : Act → Prop} {a : Act} (h : L a) : wpE P ops X L (pick ops []) a := h
theorem wpM_end {Q : Act → World → Prop} {listed : Array Bool} {a : Act} {w : World} (hr : (Region.ready md ops listed).isEmpty = true) (h : ∀ W, Ext w W → Ext X W → Q a W) : wpM P md ops X Q 0 listed a w :=
  ⟨by simpa using hr, h⟩
/-- The one operation that is ready leaves a value. -/
theorem wpM_one {Q : Act → World → Prop} {f : Nat} {listed : Array Bool} {a : Act} {w : World} (k : Nat) (o : Oper) (ho : ops[k]? = some o) (hr : decide (Region.ready md ops listed = [k]) = true) (hw : Region.wanted o (yielded ops a.tmps) = true)
    (h : ∀ W, Ext w W → Ext X W → LUpon P o a (fun a' W' => Ext X W' ∧ wpM P md ops X Q f (listed.setIfInBounds k true) a' W') ((execOp a.eval o).run P W)) : wpM P md ops X Q (f + 1) listed a w := by
  intro W h1 h2
  rw [of_decide_eq_true hr]
  refine ⟨fun h => (by cases h), fun i hi => ?_⟩
  obtain rfl : i = k := by simpa using hi
  unfold lOp
  simp only [ho, hw, if_true]
  exact h W h1 h2
end
end Go.Proofs.Ytnpilfpackdimaa
/- Regions that draw their order, with several things that write: what is free first, then the one that is ready, from there on anew. -/
namespace Go.Proofs.Ytnpilfpackdimaa
open Go.RowKit
section
variable {P : Program} {md : Region.Mode} {ops : Array Oper}
theorem wpM_rebase {X Y : World} {Q : Act → World → Prop} (hXY : Ext X Y) : ∀ (f : Nat) (listed : Array Bool) (a : Act) (w : World), Ext Y w → wpM P md ops Y Q f listed a w → wpM P md ops X Q f listed a w
  | 0, listed, a, w, hYw, h => ⟨h.1, fun W h1 _ => h.2 W h1 (hYw.trans' h1)⟩
  | f + 1, listed, a, w, hYw, h => fun W h1 h2 => by
    have hW := h W h1 (hYw.trans' h1)
    refine ⟨hW.1, fun i hi => lOp_mono (fun a' W' hh => ⟨hXY.trans' hh.1, wpM_rebase hXY f _ a' W' hh.1 hh.2⟩) (hW.2 i hi)⟩
/-- From this world on. -/
theorem wpM_here {X w : World} {Q : Act → World → Prop} {f : Nat} {listed : Array Bool} {a : Act} (hX : Ext X w) (h : ∀ Y, Y = w → wpM P md ops Y Q f listed a Y) : wpM P md ops X Q f listed a w :=
  wpM_rebase hX f listed a w (RowKit.Below.refl _ _) (h w rfl)
end
end Go.Proofs.Ytnpilfpackdimaa
/- The second law again, with a condition on worlds in the place of a first world: what is free is read where the condition holds, and what writes has to keep it, wherever it writes. -/
namespace Go.Proofs.Ytnpilfpackdimaa.Sx
open Go
section
variable {P : Program} {ops : Array Oper} {md : Region.Mode} {S : World → Prop}

/-- In every world behind X. -/
def EYields (P : Program) (ops : Array Oper) (S : World → Prop) (o : Oper) (v : Value) (a : Act) : Prop :=
  (Region.wanted o (yielded ops a.tmps) = true ∧ ∀ W, S W → EUpon P W v ((execOp a.eval o).run P W)) ∨ (Region.wanted o (yielded ops a.tmps) = false ∧ v = undef)
theorem EYields.of_same {o : Oper} {v : Value} {a a' : Act} (hy : EYields P ops S o v a) (he : execOp a'.eval o = execOp a.eval o)
    (hw : Region.wanted o (yielded ops a'.tmps) = Region.wanted o (yielded ops a.tmps)) : EYields P ops S o v a' := by
  unfold EYields at *
  rw [he, hw]
  exact hy

theorem lOp_put {j : Nat} {oi oj : Oper} {v : Value} (hj : ops[j]? = some oj) (hap : oi.apart ops oj = true)
    (hsi : ∀ cs b, oi.op ≠ .select cs b) (hsj : ∀ cs b, oj.op ≠ .select cs b) {K : Act → World → Prop} {a : Act} {w : World}
    (hy : EYields P ops S oi v a) (h : lOp P ops j K (a.put oi.dst v) w) :
    lOp P ops j (fun a' w' => EYields P ops S oi v a' ∧ K (a'.put oi.dst v) w') a w := by
  obtain ⟨h1, h2, h3⟩ := Oper.apart_spec hap
  have keep : ∀ (u : Value), EYields P ops S oi v (a.put oj.dst u) := fun u => hy.of_same (execOp_put oi hsi a oj.dst u h3) (wanted_put oi a oj.dst u h3)
  have swap : ∀ (u : Value) (W : World), K ((a.put oi.dst v).put oj.dst u) W → EYields P ops S oi v (a.put oj.dst u) ∧ K ((a.put oj.dst u).put oi.dst v) W := fun u W hk => ⟨keep u, by rw [← Act.put_comm a v u h2]; exact hk⟩
  unfold lOp at *
  simp only [hj] at *
  rw [wanted_put oj a oi.dst v h1] at h
  split
  · rename_i hw
    simp only [hw, if_true] at h
    rw [execOp_put oj hsj a oi.dst v h1] at h
    generalize (execOp a.eval oj).run P w = r at *
    cases r with
    | ok n w' =>
      cases n <;> simp only [LUpon] at h ⊢
      case value u => exact swap u _ h
      case skip => exact swap _ _ h
      case enter f args => exact h.mono fun e W ⟨u, he, hk⟩ => ⟨u, he, swap u _ hk⟩
    | halt x w' => simp only [LUpon] at h
  · rename_i hw
    simp only [hw] at h
    exact swap _ _ h

/-- Whatever order is left, in whatever worlds. -/
def wpM (P : Program) (md : Region.Mode) (ops : Array Oper) (S : World → Prop) (Q : Act → World → Prop) : Nat → Array Bool → Act → World → Prop
  | 0, listed, a, w => Region.ready md ops listed = [] ∧ ∀ W, Ext w W → S W → Q a W
  | f + 1, listed, a, w => ∀ W, Ext w W → S W → (Region.ready md ops listed = [] → Q a W) ∧
      ∀ i ∈ Region.ready md ops listed, lOp P ops i (fun a' W' => S W' ∧ wpM P md ops S Q f (listed.setIfInBounds i true) a' W') a W
theorem wpM_ext {Q : Act → World → Prop} {f : Nat} {listed : Array Bool} {a : Act} {w w' : World} (h : wpM P md ops S Q f listed a w) (he : Ext w w') : wpM P md ops S Q f listed a w' := by
  cases f with
  | zero => exact ⟨h.1, fun W h1 h2 => h.2 W (he.trans' h1) h2⟩
  | succ f => exact fun W h1 h2 => h W (he.trans' h1) h2

theorem lOp_of_early {i : Nat} {oi : Oper} {v : Value} {a : Act} {W : World} {K : Act → World → Prop} (hi : ops[i]? = some oi) (hX : S W) (hy : EYields P ops S oi v a) (hK : ∀ W', Ext W W' → K (a.put oi.dst v) W') : lOp P ops i K a W := by
  unfold lOp
  simp only [hi]
  rcases hy with ⟨hw, hy⟩ | ⟨hw, rfl⟩
  · simp only [hw, if_true]
    have h1 := hy W hX
    generalize (execOp a.eval oi).run P W = r at h1
    cases r with
    | ok n w' =>
      cases n <;> simp only [EUpon] at h1 <;> simp only [LUpon]
      case value u => obtain ⟨rfl, h2⟩ := h1; exact hK _ h2
      case skip => obtain ⟨rfl, h2⟩ := h1; exact hK _ h2
      case enter f args => obtain ⟨rfl, h2⟩ := h1; exact h2.mono fun e W'' ⟨he, hx⟩ => ⟨v, he, hK _ hx⟩
    | halt x w' => simp only [EUpon] at h1
  · simp only [hw, Bool.false_eq_true, if_false]; exact hK _ (RowKit.Below.refl _ _)

theorem wpM_first (hS : ∀ W W', S W → Ext W W' → S W') {Q : Act → World → Prop} {i : Nat} {oi : Oper} {v : Value} (hi : ops[i]? = some oi) (hsel : ∀ (j : Nat) (o : Oper) cs b, ops[j]? = some o → o.op ≠ .select cs b) :
    ∀ (f : Nat) (listed : Array Bool) (a : Act) (w : World),
      (∀ j oj, ops[j]? = some oj → j ≠ i → listed.getD j true = false → (∀ e ∈ oj.after, Region.binds md e = true → e.on ≠ i) → oi.apart ops oj = true) →
      i ∈ Region.ready md ops listed → EYields P ops S oi v a →
      wpM P md ops S Q f (listed.setIfInBounds i true) (a.put oi.dst v) w → wpM P md ops S Q (f + 1) listed a w := by
  intro f
  induction f with
  | zero =>
    intro listed a w hfree hr hy H W hwW hXW
    refine ⟨fun h => (by rw [h] at hr; cases hr), fun j hj => ?_⟩
    by_cases hji : j = i
    · subst hji
      exact lOp_of_early hi hXW hy fun W' hW' => ⟨hS _ _ hXW hW', wpM_ext H (hwW.trans' hW')⟩
    · have := ready_mono hj hji
      rw [H.1] at this
      cases this
  | succ f ih =>
    intro listed a w hfree hr hy H W hwW hXW
    refine ⟨fun h => (by rw [h] at hr; cases hr), fun j hj => ?_⟩
    by_cases hji : j = i
    · subst hji
      exact lOp_of_early hi hXW hy fun W' hW' => ⟨hS _ _ hXW hW', wpM_ext H (hwW.trans' hW')⟩
    · have h1 := (H W hwW hXW).2 j (ready_mono hj hji)
      obtain ⟨hjun, oj, hoj, hall⟩ := mem_ready.1 hj
      have hnot : ∀ e ∈ oj.after, Region.binds md e = true → e.on ≠ i := fun e he hb heq => by
        have h1 := hall e he hb
        have h0 := (mem_ready.1 hr).1
        rw [heq, getD_both h0] at h1
        cases h1
      have h2 := lOp_put hoj (hfree j oj hoj hji hjun hnot) (fun cs b => hsel i oi cs b hi) (fun cs b => hsel j oj cs b hoj) hy h1
      have hfree' : ∀ k ok, ops[k]? = some ok → k ≠ i → (listed.setIfInBounds j true).getD k true = false →
          (∀ e ∈ ok.after, Region.binds md e = true → e.on ≠ i) → oi.apart ops ok = true := fun k ok hk hki hun hno => by
        refine hfree k ok hk hki ?_ hno
        by_cases hjk : j = k
        · subst hjk; exact hjun
        · rw [getD_set_ne true hjk] at hun; exact hun
      refine lOp_mono (fun a' W' h3 => ⟨h3.2.1, ih (listed.setIfInBounds j true) a' W' hfree' (ready_mono hr (Ne.symm hji)) h3.1 ?_⟩) h2
      rw [Array.setIfInBounds_comm _ _ hji]
      exact h3.2.2

/-- The early operations, by their numbers, in order. -/
def wpE (P : Program) (ops : Array Oper) (S : World → Prop) (L : Act → Prop) : List (Nat × Oper) → Act → Prop
  | [], a => L a
  | (_, o) :: rest, a => ∃ v, EYields P ops S o v a ∧ wpE P ops S L rest (a.put o.dst v)
theorem wpM_early (hS : ∀ W W', S W → Ext W W' → S W') {Q : Act → World → Prop} (hsel : Region.noSelect ops = true) {w : World} : ∀ (E : List Nat) (g : Nat) (listed : Array Bool) (a : Act), earlyB md ops E listed = true →
    wpE P ops S (fun a' => wpM P md ops S Q g (setAll listed E) a' w) (pick ops E) a → wpM P md ops S Q (E.length + g) listed a w
  | [], g, listed, a, _, h => by simpa [setAll, pick, wpE] using h
  | i :: E, g, listed, a, hB, h => by
    simp only [earlyB, Bool.and_eq_true] at hB
    obtain ⟨⟨hr, hf⟩, hB'⟩ := hB
    have hr' : i ∈ Region.ready md ops listed := by simpa using hr
    obtain ⟨_, oi, hoi, _⟩ := mem_ready.1 hr'
    simp only [pick, hoi, wpE] at h
    obtain ⟨v, hy, hK⟩ := h
    rw [List.length_cons, show E.length + 1 + g = (E.length + g) + 1 by omega]
    exact wpM_first hS hoi (Region.noSelect_spec hsel) _ _ _ _ (Region.free_spec hoi hf) hr' hy (wpM_early hS hsel E g _ _ hB' hK)

theorem wpAny_of_M {Q : Act → World → Prop} {Q' : Exit → Act → World → Prop} (hQ : ∀ a w, Q a w → Q' .normal a w) : ∀ (f : Nat) (listed : Array Bool) (a : Act) (w : World), S w → wpM P md ops S Q f listed a w → wpAny P md ops Q' f listed a w
  | 0, _, _, _, hX, h => ⟨h.1, hQ _ _ (h.2 _ (RowKit.Below.refl _ _) hX)⟩
  | f + 1, _, _, w, hX, h =>
    have h' := h w (RowKit.Below.refl _ _) hX
    ⟨fun h0 => hQ _ _ (h'.1 h0), fun i hi => wpOp_of_lOp (fun _ _ hk => wpAny_of_M hQ f _ _ _ hk.1 hk.2) (h'.2 i hi)⟩

/-- The law, outside a round. -/
theorem wp_region_el (S : World → Prop) (hS : ∀ W W', S W → Ext W W' → S W') {id : Nat} {Q : Exit → Act → World → Prop} {a : Act} {w : World} {l : List Oper} (E : List Nat) (g : Nat) (hm : P.follows .mixedOrders = true)
    (hB : (Region.noSelect l.toArray && decide (E.length + g = l.length) && earlyB .any l.toArray E (Array.replicate l.length false)) = true) (h0 : S w.drew)
    (h : wpE P l.toArray S (fun a' => wpM P .any l.toArray S (fun a w => wpList P l.toArray Q [] a w) g (setAll (Array.replicate l.length false) E) a' w.drew) (pick l.toArray E) a) : (Code.region id l.toArray true).wp P Q a w := by
  simp only [Bool.and_eq_true, decide_eq_true_eq] at hB
  obtain ⟨⟨hsel, hn⟩, hE⟩ := hB
  refine wp_region_any hm ?_
  have := wpM_early (w := w.drew) hS hsel E g _ a hE h
  rw [hn] at this
  have := wpAny_of_M (Q' := Q) (fun _ _ hk => hk) _ _ _ _ h0 this
  simpa using this
theorem wpE_val {L : Act → Prop} {a : Act} {i : Nat} {o : Oper} {rest : List (Nat × Oper)} {v : Value} (hw : Region.wanted o (yielded ops a.tmps) = true)
    (hv : ∀ W, S W → (execOp a.eval o).run P W = .ok (.value v) W) (h : wpE P ops S L rest (a.put o.dst v)) : wpE P ops S L ((i, o) :: rest) a :=
  ⟨v, .inl ⟨hw, fun W hW => by rw [hv W hW]; exact ⟨rfl, RowKit.Below.refl _ _⟩⟩, h⟩
theorem wpE_not {L : Act → Prop} {a : Act} {i : Nat} {o : Oper} {rest : List (Nat × Oper)} (hw : Region.wanted o (yielded ops a.tmps) = false)
    (h : wpE P ops S L rest (a.put o.dst undef)) : wpE P ops S L ((i, o) :: rest) a := ⟨undef, .inr ⟨hw, rfl⟩, h⟩
theorem wpE_call {L : Act → Prop} {a : Act} {i : Nat} {o : Oper} {rest : List (Nat × Oper)} {v : Value} {f : FuncId} {args : Array Value} (hw : Region.wanted o (yielded ops a.tmps) = true)
    (hc : ∀ W, S W → Calls P f args W fun e W' => e = .returned v ∧ RowKit.Below W.heap.size W W')
    (hv : ∀ W, S W → (execOp a.eval o).run P W = .ok (.enter f args) W)
    (h : wpE P ops S L rest (a.put o.dst v)) : wpE P ops S L ((i, o) :: rest) a :=
  ⟨v, .inl ⟨hw, fun W hW => by rw [hv W hW]; exact ⟨rfl, hc W hW⟩⟩, h⟩
theorem wpM_end {Q : Act → World → Prop} {listed : Array Bool} {a : Act} {w : World} (hr : (Region.ready md ops listed).isEmpty = true) (h : ∀ W, Ext w W → S W → Q a W) : wpM P md ops S Q 0 listed a w :=
  ⟨by simpa using hr, h⟩
/-- The one operation that is ready leaves a value. -/
theorem wpM_one {Q : Act → World → Prop} {f : Nat} {listed : Array Bool} {a : Act} {w : World} (k : Nat) (o : Oper) (ho : ops[k]? = some o) (hr : decide (Region.ready md ops listed = [k]) = true) (hw : Region.wanted o (yielded ops a.tmps) = true)
    (h : ∀ W, Ext w W → S W → LUpon P o a (fun a' W' => S W' ∧ wpM P md ops S Q f (listed.setIfInBounds k true) a' W') ((execOp a.eval o).run P W)) : wpM P md ops S Q (f + 1) listed a w := by
  intro W h1 h2
  rw [of_decide_eq_true hr]
  refine ⟨fun h => (by cases h), fun i hi => ?_⟩
  obtain rfl : i = k := by simpa using hi
  unfold lOp
  simp only [ho, hw, if_true]
  exact h W h1 h2
theorem wpM_two {P : Program} {md : Region.Mode} {ops : Array Oper}  {Q : Act → World → Prop} {f : Nat} {listed : Array Bool} {a : Act} {w : World} (i j : Nat) (o o' : Oper) (ho : ops[i]? = some o) (ho' : ops[j]? = some o') (hr : decide (Region.ready md ops listed = [i, j]) = true) (hw : Region.wanted o (yielded ops a.tmps) = true) (hw' : Region.wanted o' (yielded ops a.tmps) = true)
    (h : ∀ W, Ext w W → S W → LUpon P o a (fun a' W' => S W' ∧ wpM P md ops S Q f (listed.setIfInBounds i true) a' W') ((execOp a.eval o).run P W))
    (h' : ∀ W, Ext w W → S W → LUpon P o' a (fun a' W' => S W' ∧ wpM P md ops S Q f (listed.setIfInBounds j true) a' W') ((execOp a.eval o').run P W)) : wpM P md ops S Q (f + 1) listed a w := by
  intro W h1 h2
  rw [of_decide_eq_true hr]
  refine ⟨fun h => (by cases h), fun q hq => ?_⟩
  rcases List.mem_cons.1 hq with rfl | hq
  · unfold lOp
    simp only [ho, hw, if_true]
    exact h W h1 h2
  · obtain rfl : q = j := by simpa using hq
    unfold lOp
    simp only [ho', hw', if_true]
    exact h' W h1 h2
end
end Go.Proofs.Ytnpilfpackdimaa.Sx
/- Steps and words over the laws of this folder: an append as one step of a region, two things that are ready, what lies as it lay but for some blocks, maps. -/
namespace Go.Proofs.Ytnpilfpackdimaa
open Go.RowKit
/-- An append to an own slice as one step of a region that draws. -/
theorem lupon_append_own {P : Program} (w : World) {o : Oper} {a : Act} {K : Act → World → Prop} (s x : Operand) (t : TypeId)
    (ho : o.op = .call { callee := .builtin .append, args := #[s, x], argTypes := #[t, t] })
    (base : Nat) (e : TypeId) (i : TypeInfo) (z : Value) (size bytes : Nat) (ht : P.underlying t = some (.slice e)) (hi : P.info? e = some i) (hz : i.zero = some z)
    (hsize : i.size = size) (hby : i.bytes = bytes) (hzs : z.cells.size = size) (hsz : 0 < size)
    (v : Value) (n : Nat) (xs : List Value) (hs : a.eval s = v) (hown : w.ownsRow base e size v n xs)
    (ad : Addr) (m c : Nat) (news : List Value) (hx : a.eval x = .slice (some ad) m c) (hl : news.length = m * size) (hnews : ∀ j u, news[j]? = some u → w.cell? (ad.add j) = some u) (h1 : ∀ u ∈ news, u.oneCell' = true)
    (h63 : n + m ≤ maxLen) (hbytes : (n + m) * bytes ≤ 140737488355328) (hbase : base ≤ w.heap.size)
    (h : ∀ v' w', w'.ownsRow base e size v' (n + m) (xs ++ news) → w.grownBy w' v.ownBlock → K (a.put o.dst v') w') : LUpon P o a K ((execOp a.eval o).run P w) := by
  obtain ⟨v', w', hr, h2, h3, h4⟩ := run_append_own (P := P) w base t o.type e i z size bytes ht hi hz hsize hby hzs hsz v n xs hown ad m c news hl hnews h1 h63 hbytes hbase
  unfold execOp
  simp only [ho, resolve, invoke, builtin, Sem.run_bind, Sem.run_pure, Result.andThen_ok, List.map_toArray, List.map_cons, List.map_nil, hs, hx, hr]
  exact h v' w' h2 h3
/-- What has come when k rounds are over. -/
def upto {α : Type} (f : Nat → α) (k : Nat) : List α := (List.range k).map f
theorem upto_succ {α : Type} (f : Nat → α) (k : Nat) : upto f (k + 1) = upto f k ++ [f k] := by simp [upto, List.range_succ]
theorem upto_length {α : Type} (f : Nat → α) (k : Nat) : (upto f k).length = k := by simp [upto]
/-- Below n₀ all blocks but some lie as they lay. -/
def KpG (n₀ : Nat) (G : Nat → Prop) (W W' : World) : Prop := W.heap.size ≤ W'.heap.size ∧ ∀ k, k < n₀ → ¬ G k → W'.heap[k]? = W.heap[k]?
theorem KpG.refl (n₀ : Nat) (G : Nat → Prop) (W : World) : KpG n₀ G W W := ⟨Nat.le_refl _, fun _ _ _ => rfl⟩
theorem KpG.trans {n₀ : Nat} {G : Nat → Prop} {A B C : World} (h : KpG n₀ G A B) (k : KpG n₀ G B C) : KpG n₀ G A C := ⟨Nat.le_trans h.1 k.1, fun i hi hg => (k.2 i hi hg).trans (h.2 i hi hg)⟩
theorem KpG.putObj {n₀ : Nat} {G : Nat → Prop} {w : World} (hn : n₀ ≤ w.heap.size) (W : World) (l : Nat) (o o' : Obj) (hl : w.heap.size ≤ l) (h : W.heap[l]? = some o) (_ : o.isCells = false) (_ : o.isWalk = false) : KpG n₀ G W (W.putObj l o') :=
  have hb := belowK_b hn W l o o' hl h ‹_› ‹_›
  ⟨hb.size, fun k hk _ => hb.block k hk⟩
theorem KpG.cell {n₀ : Nat} {G : Nat → Prop} {W W' : World} (h : KpG n₀ G W W') {p : Addr} (hp : p.block < n₀) (hg : ¬ G p.block) : W'.cell? p = W.cell? p := World.cell?_of_block (h.2 _ hp hg)
theorem KpG.of_below {n₀ : Nat} {G : Nat → Prop} {W W' : World} (h : Below n₀ W W') : KpG n₀ G W W' := ⟨h.size, fun k hk _ => h.block k hk⟩
theorem KpG.setCell {n₀ : Nat} {G : Nat → Prop} (W : World) {p : Addr} (hp : G p.block) (u : Value) : KpG n₀ G W (W.setCell p u) :=
  ⟨by simp [World.setCell], fun k _ hg => Below.heap_setCell _ _ _ _ (fun e => hg (by rw [e]; exact hp))⟩
theorem KpG.alloc {n₀ : Nat} {G : Nat → Prop} (W : World) (h : n₀ ≤ W.heap.size) (o : Obj) : KpG n₀ G W (W.alloc o) := KpG.of_below ((Below.refl _ W).alloc h o)
theorem keepsFrom_own {A B : World} {base e size n b : Nat} {v : Value} {xs : List Value} (h : A.ownsRow base e size v n xs) (hg : A.grownBy B v.ownBlock) : KeepsFrom b A B := by
  refine ⟨hg.size, fun k o _ hk ho => (hg.block k (Array.getElem?_eq_some_iff.1 hk).1 ?_).trans hk⟩
  rcases h.2 with ⟨rfl, _⟩ | ⟨g, cap, cur, rfl, _, hgg, _⟩
  · simp [Value.ownBlock]
  · simp only [Value.ownBlock, ne_eq, Option.some.injEq]
    rintro rfl
    rw [hgg] at hk
    injection hk with hk
    subst hk
    cases ho
theorem own_ownk {A B : World} {row : Option Nat} {base e size n : Nat} {v : Value} {xs : List Value} (h : A.ownsRow base e size v n xs) (hg : A.grownBy B row) (hr : ∀ r, row = some r → ∃ o : Obj, A.heap[r]? = some o ∧ o.isCells = false) : B.ownsRow base e size v n xs := by
  refine h.kept hg ?_
  rcases h.2 with ⟨rfl, _⟩ | ⟨g, cap, cur, rfl, _, hgg, _⟩
  · exact .inl rfl
  · right
    intro e
    obtain ⟨o, ho, hc⟩ := hr g e.symm
    rw [hgg] at ho
    injection ho with ho
    subst ho
    cases hc
theorem own_off {A B : World} {Ds : List Nat} {base e size n : Nat} {v : Value} {xs : List Value} (h : A.ownsRow base e size v n xs) (ho : Off Ds A B) : B.ownsRow base e size v n xs := by
  refine ⟨h.1, h.2.imp id ?_⟩
  rintro ⟨g', cap, cur, e1, h1, h2, h3⟩
  exact ⟨g', cap, cur, e1, h1, ho.blk h2, h3⟩
open Go.ChangeMaps Go.MapKept in
theorem turned_grown {w w' : World} {b : Nat} (h : w.mapTurned w' b) : w.grownBy w' (some b) := by
  obtain ⟨es, clock, es', clock', hb, rfl⟩ := h
  exact ⟨rfl, rfl, rfl, by simp [setBlock], fun i _ hi => heap_setBlock_other hb _ (fun e => hi (by rw [e]))⟩
theorem wpM_two {P : Program} {md : Region.Mode} {ops : Array Oper} {X : World} {Q : Act → World → Prop} {f : Nat} {listed : Array Bool} {a : Act} {w : World} (i j : Nat) (o o' : Oper) (ho : ops[i]? = some o) (ho' : ops[j]? = some o') (hr : decide (Region.ready md ops listed = [i, j]) = true) (hw : Region.wanted o (yielded ops a.tmps) = true) (hw' : Region.wanted o' (yielded ops a.tmps) = true)
    (h : ∀ W, Ext w W → Ext X W → LUpon P o a (fun a' W' => Ext X W' ∧ wpM P md ops X Q f (listed.setIfInBounds i true) a' W') ((execOp a.eval o).run P W))
    (h' : ∀ W, Ext w W → Ext X W → LUpon P o' a (fun a' W' => Ext X W' ∧ wpM P md ops X Q f (listed.setIfInBounds j true) a' W') ((execOp a.eval o').run P W)) : wpM P md ops X Q (f + 1) listed a w := by
  intro W h1 h2
  rw [of_decide_eq_true hr]
  refine ⟨fun h => (by cases h), fun q hq => ?_⟩
  rcases List.mem_cons.1 hq with rfl | hq
  · unfold lOp
    simp only [ho, hw, if_true]
    exact h W h1 h2
  · obtain rfl : q = j := by simpa using hq
    unfold lOp
    simp only [ho', hw', if_true]
    exact h' W h1 h2
section
variable {P : Program} {w w' : World} {k : TypeId} {R : Value → Option (DataW Unit × List MemPlace)} {b m : Nat} {D : DataW Unit}
theorem map_below (h : w.ownsMap P k R b m D) (hb : Below w.heap.size w w') : w'.ownsMap P k R b m D := by
  obtain ⟨es, clock, h1, h2⟩ := h
  exact ⟨es, clock, (hb.block b (Array.getElem?_eq_some_iff.1 h1).1).trans h1, h2⟩
theorem map_off {Ds : List Nat} (h : w.ownsMap P k R b m D) (ho : Off Ds w w') (hb : b ∉ Ds) : w'.ownsMap P k R b m D := by
  obtain ⟨es, clock, h1, h2⟩ := h
  exact ⟨es, clock, (ho.block b hb).trans h1, h2⟩
end
end Go.Proofs.Ytnpilfpackdimaa
