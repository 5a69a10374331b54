/- Texts of the proof, laid together by program. -/
import Derived.Test.YtolghmhodaphfaaMh
import Derived.Test.YtolghmhodaphfaaMg
import Derived.RangeFuncLeaves
import Derived.RangeFuncCalls
import Derived.Shelf.Abstract
import Derived.Shelf.RegionOpen
/- Plain law: the ways to write a number as factors. No program in sight. -/
namespace Go.Proofs.Ytolghmhodaphfaa
/-- All ways to write n as factors greater than 1, behind some factors. -/
def prodF : Nat → Nat → List Int → List (List Int)
  | 0, _, _ => []
  | d + 1, n, b => if n = 1 then [b] else ((List.range (n + 1)).filter fun f => decide (2 ≤ f) && n % f == 0).flatMap fun f => prodF d (n / f) (b ++ [(f : Int)])
/-- Those that begin with a factor below f. -/
def prodTo (d n : Nat) (b : List Int) (f : Nat) : List (List Int) := ((List.range f).filter fun f => decide (2 ≤ f) && n % f == 0).flatMap fun f => prodF d (n / f) (b ++ [(f : Int)])
theorem prodTo_two (d n : Nat) (b : List Int) : prodTo d n b 2 = [] := rfl
theorem prodTo_in {d n f : Nat} {b : List Int} (h : 2 ≤ f) (h2 : n % f = 0) : prodTo d n b (f + 1) = prodTo d n b f ++ prodF d (n / f) (b ++ [(f : Int)]) := by
  unfold prodTo
  rw [List.range_succ, List.filter_append, List.flatMap_append]
  congr 1
  rw [List.filter_cons_of_pos (by simp [h, h2])]
  simp
theorem prodTo_out {d n f : Nat} {b : List Int} (h2 : n % f ≠ 0) : prodTo d n b (f + 1) = prodTo d n b f := by
  unfold prodTo
  rw [List.range_succ, List.filter_append, List.flatMap_append]
  rw [List.filter_cons_of_neg (by simp [h2])]
  simp
theorem prodTo_all {d n : Nat} {b : List Int} (h : n ≠ 1) : prodF (d + 1) n b = prodTo d n b (n + 1) := by
  show (if n = 1 then [b] else _) = _
  rw [if_neg h]; rfl
theorem prodTo_le (d n : Nat) (b : List Int) (f : Nat) : ∀ g, f ≤ g → (prodTo d n b f).length ≤ (prodTo d n b g).length
  | 0, h => by obtain rfl : f = 0 := by omega
               exact Nat.le_refl _
  | g + 1, h => by
    rcases Nat.lt_or_ge g f with h1 | h1
    · obtain rfl : f = g + 1 := by omega
      exact Nat.le_refl _
    · have ih := prodTo_le d n b f g h1
      refine Nat.le_trans ih ?_
      unfold prodTo
      rw [List.range_succ, List.filter_append, List.flatMap_append, List.length_append]
      omega
theorem prodF_few : ∀ n, n ≤ 121 → (prodF n n []).length ≤ 1000 := by decide +kernel
end Go.Proofs.Ytolghmhodaphfaa
/- A range over a function, where the loop's blocks are told apart from the iterator's: an iterator may hand on what it ranges over. Over any program. -/
namespace Go.Proofs.Ytolghmhodaphfaa
open Go.RowKit
/-- The blocks that a loop holds as its own. -/
abbrev Foot := Nat → Prop
/-- From W to W' only blocks of the loop have turned; new ones may be its own. -/
structure Grow (own : Foot) (W : World) (own' : Foot) (W' : World) : Prop where
  os : W'.os = W.os
  tape : W'.tape = W.tape
  output : W'.output = W.output
  size : W.heap.size ≤ W'.heap.size
  from_ : ∀ k, own' k → own k ∨ W.heap.size ≤ k
  lt : ∀ k, own' k → k < W'.heap.size
  same : ∀ k, k < W.heap.size → ¬ own k → W'.heap[k]? = W.heap[k]?
theorem Grow.refl {own : Foot} {W : World} (h : ∀ k, own k → k < W.heap.size) : Grow own W own W := ⟨rfl, rfl, rfl, Nat.le_refl _, fun _ h => .inl h, h, fun _ _ _ => rfl⟩
theorem Grow.trans {o₁ o₂ o₃ : Foot} {A B C : World} (h : Grow o₁ A o₂ B) (k : Grow o₂ B o₃ C) : Grow o₁ A o₃ C := by
  refine ⟨k.os.trans h.os, k.tape.trans h.tape, k.output.trans h.output, Nat.le_trans h.size k.size, fun i hi => ?_, k.lt, fun i hi hn => ?_⟩
  · rcases k.from_ i hi with h1 | h1
    · exact h.from_ i h1
    · exact .inr (Nat.le_trans h.size h1)
  · refine (k.same i (Nat.lt_of_lt_of_le hi h.size) (fun h1 => ?_)).trans (h.same i hi hn)
    rcases h.from_ i h1 with h2 | h2
    · exact hn h2
    · omega
/-- What is said of the loop's blocks, and of those below s, stays while others turn. -/
def Stab {β : Type} (s : Nat) (J : β → Foot → World → Prop) : Prop := ∀ x own W W', J x own W → (∀ k, (k < s ∨ own k) → k < W.heap.size → W'.heap[k]? = W.heap[k]?) → W.heap.size ≤ W'.heap.size → W'.os = W.os → W'.tape = W.tape → W'.output = W.output → J x own W'
theorem room_none {F : Fence} (hd : F.depth = none) (k : Nat) : F.room k := fun d h => by rw [hd] at h; cases h
theorem RoundIn.any {F : Fence} (hd : F.depth = none) {m m' : Nat} {P : Program} {l : Nat} {f : FuncId} {tmps : Array Value} {assign body : Code} {w : World} {R : Ending → World → Prop}
    (h : RoundIn F m P l f tmps assign body w R) : RoundIn F m' P l f tmps assign body w R := ⟨h.1, fun c cs _ => h.2 c cs (room_none hd _)⟩
/-- What a loop promises for an element that has come, and what it asks. -/
def Takes {α : Type} (F : Fence) (P : Program) (l : Nat) (encs : α → Array Value) (Rd : α → World → Prop) (Nb : Nat) (J Jx : List α → Foot → World → Prop) : Prop :=
  ∀ m pre own x W, J pre own W → pre.length < Nb → (∀ k, own k → k < W.heap.size) → Rd x W → YieldAt F m P l (encs x) W fun e W' =>
    (e = .returned (.bool true) ∧ ∃ own', J (pre ++ [x]) own' W' ∧ Grow own W own' W') ∨ (e = .returned (.bool false) ∧ ∃ own', Jx (pre ++ [x]) own' W' ∧ Grow own W own' W')
/-- What an iterator promises whatever the loop: own₀ are the loop's blocks at the start. -/
def Gives {α : Type} (F : Fence) (P : Program) (gf : FuncId) (lb : Array Value) (encs : α → Array Value) (Rd : α → World → Prop) (Nb : Nat) (S Sp : List α → Prop) (own₀ : Foot) (W : World) : Prop :=
  ∀ (d l : Nat) (J Jx : List α → Foot → World → Prop), Stab W.heap.size J → Stab W.heap.size Jx → Takes F P l encs Rd Nb J Jx → (∀ k, own₀ k → k < W.heap.size) → J [] own₀ W →
    CallsIn F d P gf (#[.func (.yield l) #[] #[]] ++ lb) W fun e W' => (∃ v, e = .returned v) ∧
      ((∃ xs own', S xs ∧ J xs own' W' ∧ Grow own₀ W own' W') ∨ (∃ pre own', Sp pre ∧ Jx pre own' W' ∧ Grow own₀ W own' W'))
/-- How the body of such a round may be left. -/
def footPost {α : Type} (I : List α → Foot → World → Prop) (Ix : Code → List α → Foot → World → Prop) (xs : List α) (own : Foot) (W : World) : Exit → Act → World → Prop
  | .normal, _, W' => ∃ own', I xs own' W' ∧ Grow own W own' W'
  | .ret, _, W' => ∃ own', Ix .ret xs own' W' ∧ Grow own W own' W'
  | .exit id, _, W' => ∃ own', Ix (.exit id) xs own' W' ∧ Grow own W own' W'
  | _, _, _ => False
theorem wpIn_rangeFunc_foot {F : Fence} {n : Nat} {P : Program} {α : Type} {g : Operand} {ps : Array Tmp} {assign body : Code} {Q : Exit → Act → World → Prop} {a : Act} {w : World} (B : Nat) (hB : w.heap.size = B)
    (hd : F.depth = none) (hro : F.round = none) {gf : Nat} {lb : Array Value} (hg : a.eval g = .func (.func gf) #[] lb) (hFg : F.fn gf) (eg : ∀ args w, (callFunc gf args).run P w = .ok (.enter gf args) w)
    {encs : α → Array Value} {Rd : α → World → Prop} {Nb : Nat} {S Sp : List α → Prop} (own₀ : Foot) (hown : ∀ k, own₀ k → k < B)
    (hseq : ∀ W, Below B w W → Gives F P gf lb encs Rd Nb S Sp (fun k => own₀ k ∨ k = B ∨ k = B + 1) W)
    (hRd : ∀ x W W', Rd x W → (∀ (k : Nat) (o : Obj), W.heap[k]? = some o → o.isCells = true → W'.heap[k]? = some o) → W.heap.size ≤ W'.heap.size → Rd x W') (hps : ∀ x, (encs x).size = ps.size)
    (I : List α → Foot → World → Prop) (Ix : Code → List α → Foot → World → Prop) (hI : Stab B I) (hIx : ∀ c, Stab B (Ix c)) (h0 : I [] own₀ w)
    (Ax : α → Act → World → Prop)
    (hassign : ∀ (l : Nat) (x : α) (W : World) (K : Act → World → Prop), Rd x W → B + 2 ≤ W.heap.size → (∀ a' W', Below W.heap.size W W' → Ax x a' W' → K a' W') →
      assign.wpIn (F.inRound l) (n - 1 - 1) P (Exit.then K (fun _ _ _ => False)) { tmps := (ps.zip (encs x)).foldl (fun t (p, v) => t.setIfInBounds p v) a.tmps, defers := [] } W)
    (hAx : ∀ x a' W o, Ax x a' W → Ax x a' (W.putObj (B + 1) o))
    (hbody : ∀ (l : Nat) (pre : List α) (own : Foot) (x : α) (a' : Act) (W : World), I pre own W → pre.length < Nb → (∀ k, own k → k < W.heap.size) → (∀ k, own k → k ≠ B ∧ k ≠ B + 1) → Rd x W → Ax x a' W → B + 2 ≤ W.heap.size → body.wpIn (F.inRound l) (n - 1 - 1) P (footPost I Ix (pre ++ [x]) own W) a' W)
    (hdone : ∀ (D : Nat) (xs : List α) (own' : Foot) (W : World), B ≤ D → S xs → I xs own' W → Grow own₀ w own' W → (∀ k, own' k → k ≠ B ∧ k ≠ B + 1) → D = B → W.heap[D]? = some (.deferred (some [])) → Q .normal { a with defers := { target := .collected D, args := #[] } :: a.defers } W)
    (hstop : ∀ (D : Nat) (c : Code) (pre : List α) (own' : Foot) (W : World), B ≤ D → Sp pre → Ix c pre own' W → Grow own₀ w own' W → (∀ k, own' k → k ≠ B ∧ k ≠ B + 1) → D = B → W.heap[D]? = some (.deferred (some [])) → c.wpIn F n P Q { a with defers := { target := .collected D, args := #[] } :: a.defers } W) :
    (Code.rangeFunc g ps assign body).wpIn F n P Q a w := by
  refine wpIn_rangeFunc fun fn hfn => ?_
  rw [hro]
  let rec_ : LoopState → Option Code → Loop := fun st pe => { state := st, pending := pe, fn, tmps := a.tmps, params := ps, assign, body, defers := B }
  obtain ⟨W1, hW1⟩ : ∃ W1, (w.alloc (.deferred (some []))).alloc (.loop (rec_ .ready none)) = W1 := ⟨_, rfl⟩
  have hz1 : W1.heap.size = B + 2 := by rw [← hW1]; simp [hB]
  have hL1 : W1.heap[B + 1]? = some (.loop (rec_ .ready none)) := by
    rw [← hW1, ← hB]; have := World.alloc_heap_new (w.alloc (.deferred (some []))) (.loop (rec_ .ready none)); rwa [World.size_alloc] at this
  have hK1 : W1.heap[B]? = some (.deferred (some [])) := by
    rw [← hW1, ← hB]; exact (Below.heap_alloc _ _ _ (by simp)).trans (World.alloc_heap_new w _)
  have hb1 : Below B w W1 := by
    rw [← hW1, ← hB]; exact ((Below.refl _ w).alloc (Nat.le_refl _) _).alloc (by simp) _
  have hg1 : ∀ own, (∀ k, own k → k < B) → Grow own w own W1 := fun own h => ⟨hb1.os, hb1.tape, hb1.output, by omega, fun _ h => .inl h, fun k hk => by have := h k hk; omega, fun k hk _ => hb1.block k (by omega)⟩
  -- a put of the loop's own record
  have put : ∀ {β : Type} (J : β → Foot → World → Prop) (x : β) (own : Foot) (W : World) (o : Obj), Stab B J → J x own W → (∀ k, own k → k ≠ B ∧ k ≠ B + 1) → J x own (W.putObj (B + 1) o) := fun J x own W o hJ h hne =>
    hJ x own W _ h (fun k hk _ => World.putObj_heap_other (by rcases hk with h | h; omega; exact (hne k h).2)) (by simp [World.putObj]) rfl rfl rfl
  let J : List α → Foot → World → Prop := fun pre own W => ∃ oi : Foot, (∀ k, own k ↔ oi k ∨ k = B ∨ k = B + 1) ∧ (∀ k, oi k → k ≠ B ∧ k ≠ B + 1) ∧ I pre oi W ∧ W.heap[B + 1]? = some (.loop (rec_ .ready none)) ∧ W.heap[B]? = some (.deferred (some [])) ∧ Grow own₀ w oi W
  let Jx : List α → Foot → World → Prop := fun pre own W => ∃ oi : Foot, ∃ c, (∀ k, own k ↔ oi k ∨ k = B ∨ k = B + 1) ∧ (∀ k, oi k → k ≠ B ∧ k ≠ B + 1) ∧ Ix c pre oi W ∧ W.heap[B + 1]? = some (.loop (rec_ .done (some c))) ∧ W.heap[B]? = some (.deferred (some [])) ∧ Grow own₀ w oi W
  have growS : ∀ {own oi : Foot} {W W' : World}, Grow own₀ w oi W → (∀ k, k < W1.heap.size → W'.heap[k]? = W.heap[k]?) → W.heap.size ≤ W'.heap.size → W'.os = W.os → W'.tape = W.tape → W'.output = W.output → Grow own₀ w oi W' := fun h hk hz h1 h2 h3 =>
    ⟨h1.trans h.os, h2.trans h.tape, h3.trans h.output, Nat.le_trans h.size hz, h.from_, fun k hk' => Nat.lt_of_lt_of_le (h.lt k hk') hz, fun k hk' hn => (hk k (by omega)).trans (h.same k hk' hn)⟩
  have hJs : Stab W1.heap.size J := by
    rintro pre own W W' ⟨oi, h1, h2, h3, h4, h5, h6⟩ hk hz e1 e2 e3
    refine ⟨oi, h1, h2, hI pre oi W W' h3 (fun k hk' hlt => hk k (by rcases hk' with h | h; exact .inl (by omega); exact .inr ((h1 k).2 (.inl h))) hlt) hz e1 e2 e3, (hk _ (.inl (by omega)) (Array.getElem?_eq_some_iff.1 h4).1).trans h4, (hk _ (.inl (by omega)) (Array.getElem?_eq_some_iff.1 h5).1).trans h5, ?_⟩
    exact growS (own := own) h6 (fun k hk' => hk k (.inl hk') (by have := (Array.getElem?_eq_some_iff.1 h4).1; omega)) hz e1 e2 e3
  have hJxs : Stab W1.heap.size Jx := by
    rintro pre own W W' ⟨oi, c, h1, h2, h3, h4, h5, h6⟩ hk hz e1 e2 e3
    refine ⟨oi, c, h1, h2, hIx c pre oi W W' h3 (fun k hk' hlt => hk k (by rcases hk' with h | h; exact .inl (by omega); exact .inr ((h1 k).2 (.inl h))) hlt) hz e1 e2 e3, (hk _ (.inl (by omega)) (Array.getElem?_eq_some_iff.1 h4).1).trans h4, (hk _ (.inl (by omega)) (Array.getElem?_eq_some_iff.1 h5).1).trans h5, ?_⟩
    exact growS (own := own) h6 (fun k hk' => hk k (.inl hk') (by have := (Array.getElem?_eq_some_iff.1 h4).1; omega)) hz e1 e2 e3
  refine ⟨B + 1, [{ target := .collected B, args := #[] }], W1, { target := .fn (.func gf) lb, args := #[.func (.yield (B + 1)) #[] #[]] }, W1, gf, #[.func (.yield (B + 1)) #[] #[]] ++ lb, W1, ?_, ?_, ?_, ?_, ?_, ?_⟩
  · rw [← hW1]
    have := run_enterLoop_outer (P := P) (w := w) fn a.tmps ps assign body
    rw [hB] at this
    exact this
  · simp only [resolve, hg]; simp [go_sem]
  · intro f' hf'; simp [Target.leads] at hf'; subst hf'; exact hFg
  · simp [invoke, go_sem, eg]
  · intro h; rw [hd] at h; cases h
  refine (hseq W1 hb1 (n - 1) (B + 1) J Jx hJs hJxs ?_ (fun k hk => by rcases hk with h | h | h; have := hown k h; omega; omega; omega) ⟨own₀, fun k => Iff.rfl, fun k hk => by have := hown k hk; omega, ?_, hL1, hK1, hg1 _ hown⟩).mono ?_
  · -- one round
    rintro m pre own x W ⟨oi, h1, h2, h3, hl, hk, hgr⟩ hNb hlt hrd
    have hy := run_yield (P := P) (args := encs x) hl (hps x)
    have hBW : B + 2 ≤ W.heap.size := by have := (Array.getElem?_eq_some_iff.1 hl).1; omega
    refine ⟨fn, _, assign, body, hy, RoundIn.any hd (m := n - 1 - 1) (roundIn_of_wpIn hfn (hassign _ x W _ hrd hBW ?_))⟩
    intro a' Wa hba hax
    have hla := (hba.block _ (Array.getElem?_eq_some_iff.1 hl).1).trans hl
    have hka := (hba.block _ (Array.getElem?_eq_some_iff.1 hk).1).trans hk
    have hIa : I pre oi Wa := hI pre oi W Wa h3 (fun k _ hlt' => hba.block k hlt') hba.size hba.os hba.tape hba.output
    have hrda : Rd x Wa := hRd x W Wa hrd (fun k o ho _ => (hba.block k (Array.getElem?_eq_some_iff.1 ho).1).trans ho) hba.size
    have hga : Grow oi W oi Wa := ⟨hba.os, hba.tape, hba.output, hba.size, fun _ h => .inl h, fun k hk' => Nat.lt_of_lt_of_le (hlt k ((h1 k).2 (.inl hk'))) hba.size, fun k hk' _ => hba.block k hk'⟩
    refine ⟨_, run_beginRound hla rfl, ?_⟩
    obtain ⟨W2, hW2⟩ : ∃ W2, Wa.putObj (B + 1) (.loop { rec_ .ready none with state := .busy }) = W2 := ⟨_, rfl⟩
    have hl2 : W2.heap[B + 1]? = some (.loop { rec_ .ready none with state := .busy }) := by rw [← hW2]; exact World.putObj_heap_same (Array.getElem?_eq_some_iff.1 hla).1
    have hk2 : W2.heap[B]? = some (.deferred (some [])) := by rw [← hW2]; exact (World.putObj_heap_other (by omega)).trans hka
    have hz2 : W2.heap.size = Wa.heap.size := by rw [← hW2]; simp [World.putObj]
    have hI2 : I pre oi W2 := by rw [← hW2]; exact put I pre oi Wa _ hI hIa h2
    have hlt2 : ∀ k, oi k → k < W2.heap.size := fun k hk' => by have := hga.lt k hk'; omega
    have hrd2 : Rd x W2 := by
      refine hRd x Wa W2 hrda (fun k o ho hc => ?_) (by omega)
      rw [← hW2]
      refine (World.putObj_heap_other (fun e => ?_)).trans ho
      subst e; rw [hla] at ho; cases ho; cases hc
    have hg02 : ∀ k, k < W.heap.size → k ≠ B + 1 → W2.heap[k]? = W.heap[k]? := fun k hk' hne => by
      rw [← hW2]; exact (World.putObj_heap_other (fun e => hne (by omega))).trans (hba.block k hk')
    show Code.wpIn (F.inRound (B + 1)) (n - 1 - 1) P body _ a' (Wa.putObj (B + 1) (.loop { rec_ .ready none with state := .busy }))
    rw [hW2]
    have hax2 : Ax x a' W2 := by rw [← hW2]; exact hAx x a' Wa _ hax
    refine wpIn_mono (hbody _ pre oi x a' W2 hI2 hNb hlt2 h2 hrd2 hax2 (by have := hba.size; omega)) ?_
    -- behind the body
    have fin : ∀ (jump : Option Code) (own' : Foot) (W3 : World), Grow oi W2 own' W3 →
        (Instr.endRound (B + 1) jump).run P W3 = .ok (.bool jump.isNone) (W3.putObj (B + 1) (.loop (rec_ (if jump.isNone then .ready else .done) jump))) ∧
        (∀ k, own' k → k ≠ B ∧ k ≠ B + 1) ∧ (W3.putObj (B + 1) (.loop (rec_ (if jump.isNone then .ready else .done) jump))).heap[B + 1]? = some (.loop (rec_ (if jump.isNone then .ready else .done) jump)) ∧
        (W3.putObj (B + 1) (.loop (rec_ (if jump.isNone then .ready else .done) jump))).heap[B]? = some (.deferred (some [])) ∧
        Grow own W (fun k => own' k ∨ k = B ∨ k = B + 1) (W3.putObj (B + 1) (.loop (rec_ (if jump.isNone then .ready else .done) jump))) ∧ Grow own₀ w own' (W3.putObj (B + 1) (.loop (rec_ (if jump.isNone then .ready else .done) jump))) := by
      intro jump own' W3 hg3
      have hl3 := (hg3.same _ (Array.getElem?_eq_some_iff.1 hl2).1 (fun h => (h2 _ h).2 rfl)).trans hl2
      have hk3 := (hg3.same _ (Array.getElem?_eq_some_iff.1 hk2).1 (fun h => (h2 _ h).1 rfl)).trans hk2
      have hne : ∀ k, own' k → k ≠ B ∧ k ≠ B + 1 := fun k hk' => by
        rcases hg3.from_ k hk' with h | h
        · exact h2 k h
        · have := hba.size; omega
      have hsz : (W3.putObj (B + 1) (.loop (rec_ (if jump.isNone then .ready else .done) jump))).heap.size = W3.heap.size := by simp [World.putObj]
      have e1 : W2.os = W.os := by rw [← hW2]; exact hba.os
      have e2 : W2.tape = W.tape := by rw [← hW2]; exact hba.tape
      have e3 : W2.output = W.output := by rw [← hW2]; exact hba.output
      have hzW : W.heap.size ≤ W3.heap.size := by have := hba.size; have := hg3.size; omega
      refine ⟨run_endRound jump hl3, hne, World.putObj_heap_same (Array.getElem?_eq_some_iff.1 hl3).1, (World.putObj_heap_other (by omega)).trans hk3, ⟨hg3.os.trans e1, hg3.tape.trans e2, hg3.output.trans e3, by omega, fun k hk' => ?_, fun k hk' => ?_, fun k hk' hn => ?_⟩, ⟨hg3.os.trans (e1.trans hgr.os), hg3.tape.trans (e2.trans hgr.tape), hg3.output.trans (e3.trans hgr.output), by have := hgr.size; omega, fun k hk' => ?_, fun k hk' => by rw [hsz]; exact hg3.lt k hk', fun k hk' hn => ?_⟩⟩
      · rcases hk' with h | h
        · rcases hg3.from_ k h with h4 | h4
          · exact .inl ((h1 k).2 (.inl h4))
          · right; have := hba.size; omega
        · exact .inl ((h1 k).2 (.inr h))
      · rw [hsz]
        rcases hk' with h | h
        · exact hg3.lt k h
        · omega
      · have hn1 : k ≠ B + 1 := fun e => hn ((h1 k).2 (.inr (.inr e)))
        exact (World.putObj_heap_other (fun e => hn1 (by omega))).trans ((hg3.same k (by have := hba.size; omega) (fun h => hn ((h1 k).2 (.inl h)))).trans (hg02 k hk' hn1))
      · rcases hg3.from_ k hk' with h4 | h4
        · exact hgr.from_ k h4
        · right; have := hba.size; have := hgr.size; omega
      · have hkB : k ≠ B + 1 := by omega
        have hni : ¬ oi k := fun h => by
          rcases hgr.from_ k h with h4 | h4
          · exact hn h4
          · omega
        exact (World.putObj_heap_other (fun e => hkB (by omega))).trans ((hg3.same k (by have := hba.size; have := hgr.size; omega) hni).trans ((hg02 k (by have := hgr.size; omega) hkB).trans (hgr.same k hk' hn)))
    rintro e a3 W3 hp
    cases e with
    | normal =>
      obtain ⟨own', hi3, hg3⟩ := hp
      obtain ⟨q1, q2, q3, q4, q5, q6⟩ := fin none own' W3 hg3
      exact ⟨_, _, q1, .inl ⟨rfl, _, ⟨own', fun k => Iff.rfl, q2, put I _ own' W3 _ hI hi3 q2, q3, q4, q6⟩, q5⟩⟩
    | ret =>
      obtain ⟨own', hi3, hg3⟩ := hp
      obtain ⟨q1, q2, q3, q4, q5, q6⟩ := fin (some .ret) own' W3 hg3
      exact ⟨_, _, q1, .inr ⟨rfl, _, ⟨own', _, fun k => Iff.rfl, q2, put (Ix .ret) _ own' W3 _ (hIx _) hi3 q2, q3, q4, q6⟩, q5⟩⟩
    | exit id =>
      obtain ⟨own', hi3, hg3⟩ := hp
      obtain ⟨q1, q2, q3, q4, q5, q6⟩ := fin (some (.exit id)) own' W3 hg3
      exact ⟨_, _, q1, .inr ⟨rfl, _, ⟨own', _, fun k => Iff.rfl, q2, put (Ix (.exit id)) _ own' W3 _ (hIx _) hi3 q2, q3, q4, q6⟩, q5⟩⟩
    | goto t => exact hp.elim
    | panic ch => exact hp.elim
    | outgrown => exact hp.elim
  · -- at the start
    exact hI [] own₀ w W1 h0 (fun k _ hlt => hb1.block k (by omega)) (by omega) hb1.os hb1.tape hb1.output
  · -- behind the iterator
    have put' : ∀ (W : World) (o : Obj) (own : Foot), Grow own₀ w own W → Grow own₀ w own (W.putObj (B + 1) o) := fun W o own h => ⟨h.os, h.tape, h.output, by have := h.size; simpa [World.putObj] using this, h.from_, fun k hk => by have := h.lt k hk; simpa [World.putObj] using this, fun k hk hn => (World.putObj_heap_other (by omega)).trans (h.same k hk hn)⟩
    rintro e W2 ⟨⟨v, rfl⟩, (⟨xs, own', hS, ⟨oi, h1, h2, h3, hl, hk, hgr⟩, -⟩ | ⟨pre, own', hSp, ⟨oi, c, h1, h2, h3, hl, hk, hgr⟩, -⟩)⟩
    · exact ⟨none, _, run_endLoop (P := P) hl (by simp [rec_]), hdone _ xs oi _ (Nat.le_refl _) hS (put I _ oi W2 _ hI h3 h2) (put' _ _ _ hgr) h2 rfl ((World.putObj_heap_other (by omega)).trans hk)⟩
    · exact ⟨some c, _, run_endLoop (P := P) hl (by simp [rec_]), hstop _ c pre oi _ (Nat.le_refl _) hSp (put (Ix c) _ oi W2 _ (hIx c) h3 h2) (put' _ _ _ hgr) h2 rfl ((World.putObj_heap_other (by omega)).trans hk)⟩
/-! Marks beside a loop's own blocks. -/
def MarksO (own : Foot) (B M : Nat) (W : World) (ds : List Deferred) : Prop := ∃ Ds : List Nat, ds = Ds.map markOf ∧ Ds.Nodup ∧ ∀ D ∈ Ds, B ≤ D ∧ D < M ∧ ¬ own D ∧ W.heap[D]? = some (.deferred (some []))
theorem MarksO.nil (own : Foot) (B M : Nat) (W : World) : MarksO own B M W [] := ⟨[], rfl, List.nodup_nil, fun _ h => by cases h⟩
theorem MarksO.step {own own' : Foot} {B M M' : Nat} {W W' : World} {ds : List Deferred} (h : MarksO own B M W ds) (hM : M ≤ M') (ho : ∀ D, D < M → ¬ own D → ¬ own' D) (hk : ∀ D, D < M → ¬ own D → W'.heap[D]? = W.heap[D]?) : MarksO own' B M' W' ds := by
  obtain ⟨Ds, rfl, h1, h2⟩ := h
  refine ⟨Ds, rfl, h1, fun D hD => ?_⟩
  obtain ⟨q1, q2, q3, q4⟩ := h2 D hD
  exact ⟨q1, by omega, ho D q2 q3, (hk D q2 q3).trans q4⟩
theorem MarksO.push {own : Foot} {B M D : Nat} {W : World} {ds : List Deferred} (h : MarksO own B M W ds) (hB : B ≤ D) (hM : M ≤ D) (ho : ¬ own D) (hD : W.heap[D]? = some (.deferred (some []))) : MarksO own B (D + 1) W ({ target := .collected D, args := #[] } :: ds) := by
  obtain ⟨Ds, rfl, h1, h2⟩ := h
  refine ⟨D :: Ds, rfl, List.nodup_cons.2 ⟨fun hm => by have := (h2 D hm).2.1; omega, h1⟩, fun D' hD' => ?_⟩
  rcases List.mem_cons.1 hD' with rfl | hm
  · exact ⟨hB, by omega, ho, hD⟩
  · have := h2 D' hm
    exact ⟨this.1, by omega, this.2.2⟩
theorem MarksO.leaves {own : Foot} {B M : Nat} {P : Program} {n : Nat} {fn : Func} {tmps : Array Value} {R : Ending → World → Prop} {W : World} {ds : List Deferred} (h : MarksO own B M W ds)
    (hR : ∀ Ds w', (∀ D ∈ Ds, B ≤ D ∧ ¬ own D) → Off Ds W w' → ∃ v, (results fn tmps).run P w' = .ok v w' ∧ R (.returned v) w') : LeavesInM (Wd none) n P fn tmps R ds .returning W := by
  obtain ⟨Ds, rfl, h1, h2⟩ := h
  exact leavesM_marks Ds W h1 (fun D hD => (h2 D hD).2.2.2) (fun w' ho => hR Ds w' (fun D hD => ⟨(h2 D hD).1, (h2 D hD).2.2.1⟩) ho)
end Go.Proofs.Ytolghmhodaphfaa
/- Walks: a copy of a list; the iterator of the products is made. -/
namespace Go.Proofs.Ytolghmhodaphfaa
open Go.RowKit Go.Shelf
attribute [local go_sem] Oper.semAt_some
/-- A list of factors: its slice, and what it reads as. -/
structure PE where
  v : Value
  l : List Int
def encP (x : PE) : Array Value := #[x.v]
def RdP (x : PE) (W : World) : Prop := ∃ A n c, x.v = .slice A n c ∧ InS W W.heap.size A n x.l ∧ n ≤ 400
theorem cells_of_cell {W : World} {p : Addr} {u : Value} (h : W.cell? p = some u) : ∃ o : Obj, W.heap[p.block]? = some o ∧ o.isCells = true := by
  unfold World.cell? at h
  cases ho : W.heap[p.block]? with
  | none => simp [ho] at h
  | some o => cases o <;> first | exact ⟨_, rfl, rfl⟩ | simp [ho] at h
theorem rdP_keep (x : PE) (W W' : World) (h : RdP x W) (hk : ∀ (k : Nat) (o : Obj), W.heap[k]? = some o → o.isCells = true → W'.heap[k]? = some o) (hz : W.heap.size ≤ W'.heap.size) : RdP x W' := by
  obtain ⟨A, n, c, h1, h2, h3⟩ := h
  refine ⟨A, n, c, h1, ⟨h2.1, fun hn => ?_⟩, h3⟩
  obtain ⟨b, off, e, hb, hc⟩ := h2.2 hn
  refine ⟨b, off, e, by omega, fun j u hu => ?_⟩
  have h4 := hc j u hu
  obtain ⟨o, ho, hoc⟩ := cells_of_cell h4
  exact (World.cell?_of_block ((hk _ o ho hoc).trans ho.symm)).trans h4
theorem eq_nil23 (a : Addr) (n c : Nat) (W : World) : (binOp .eql 23 (.slice (some a) n c) (.slice none 0 0)).run Try.prog W = .ok (.bool false) W := by
  have h : ∀ d : Nat, (Op.equalIn (d + 1) 23 (.slice (some a) n c) (.slice none 0 0)).run Try.prog W = .ok false W := fun d => by
    unfold Op.equalIn
    simp only [Sem.run_bind, run_underlying under23, Result.andThen_ok]
    rfl
  simp only [binOp]
  simp [Op.equal, Op.maxDepth, h 9999]
set_option maxRecDepth 10000 in
theorem clone_any (w : World) (a : Addr) (n c : Nat) (l : List Int) (hl : InS w w.heap.size (some a) n l) (h0 : 0 < n) (hn : n ≤ 400) :
    Calls Try.prog 97 #[.slice (some a) n c] w fun e w' => ∃ q cap, e = .returned (.slice (some ⟨q, 0, none⟩) n cap) ∧ InS w' w'.heap.size (some ⟨q, 0, none⟩) n l ∧ w.heap.size ≤ q ∧ Below w.heap.size w w' := by
  obtain ⟨i0, hi0, hi1, hi2, hi3⟩ := info_parts' info2
  have I0 := hid hi0; have I1 := hid hi1; have I2 := hid hi2; have I3 := hid hi3
  clear hi0 hi1 hi2 hi3
  have hlen := hl.len
  have Hl := hid hl
  obtain ⟨b, off, hA, hb, hc⟩ := hl.2 h0
  cases hA
  have heq := eq_nil23 ⟨b, off, none⟩ n c
  go_enter Try.func97, Try.ntmps97
  go_wp2_with (at_builtin; refine wpList_append_cap rfl _ _ 23 rfl w.heap.size 2 i0 _ 1 8 under23 I0.out I1.out I2.out I3.out rfl _ 0 [] rfl rfl (Or.inr ⟨_, rfl, fun j u hj => by simp at hj⟩) ⟨b, off, none⟩ n c (l.flatMap cI) rfl (by rw [flatI_len', hlen, Nat.mul_one]) (fun j u hu => by rw [add_at]; exact (World.cell?_alloc_lt _ _ _ hb).trans (hc j u hu)) h0 (by unfold maxLen; omega) (by omega) (by simp) ?_; intro cap w2 ho2 hg2 hz2)
  obtain ⟨g, cap', hv, hg, hlt⟩ := World.ownsRow.form ho2 (by omega)
  cases hv
  have ho3 := hid ho2
  clear ho2
  go_wp2
  refine bodyPost_ret (v := .slice (some ⟨w.heap.size + 1, 0, none⟩) n cap) (by simp [results, Try.results97, go_sem]) rfl ⟨w.heap.size + 1, cap, rfl, ?_, by omega, below_grown0 ((Below.refl _ _).alloc (Nat.le_refl _) _) hg2 (Nat.le_refl _)⟩
  have h9 := ho3.out
  rw [Nat.zero_add, World.size_alloc] at h9
  exact Sl.of_own h9
theorem products_any (n : Int) (A : Option Addr) (k c : Nat) (w : World) : Calls Try.prog 87 #[.int .i64 n, .slice A k c] w fun e w' => e = .returned (.func (.func 96) #[] #[.pointer (some ⟨w.heap.size, 0, none⟩), .pointer (some ⟨w.heap.size + 1, 0, none⟩)]) ∧ (w.alloc (.cells #[.int .i64 n] 2)).alloc (.cells #[.slice A k c] 23) = w' := by
  go_enter Try.func87, Try.ntmps87
  go_wp2
  refine bodyPost_ret (v := .func (.func 96) #[] #[.pointer (some ⟨w.heap.size, 0, none⟩), .pointer (some ⟨w.heap.size + 1, 0, none⟩)]) (by simp [results, Try.results87, go_sem]) (by rfl) ⟨rfl, rfl⟩
end Go.Proofs.Ytolghmhodaphfaa
/- The iterator of the products keeps its promise, whatever the loop. -/
namespace Go.Proofs.Ytolghmhodaphfaa
open Go.RowKit Go.Shelf
attribute [local go_sem] Oper.semAt_some
/-- What the products' iterator reads. -/
structure ProdIn (W : World) (own : Foot) (Bn Bb n : Nat) (A : Option Addr) (k c : Nat) (b : List Int) : Prop where
  hn : W.cell? ⟨Bn, 0, none⟩ = some (.int .i64 (n : Int))
  hb : W.cell? ⟨Bb, 0, none⟩ = some (.slice A k c)
  hl : InS W W.heap.size A k b
  kc : k ≤ c
  ltn : Bn < W.heap.size
  ltb : Bb < W.heap.size
  on : ¬ own Bn
  ob : ¬ own Bb
  oA : ∀ bb off, A = some ⟨bb, off, none⟩ → bb < W.heap.size ∧ ¬ own bb
theorem ins_at {w w' : World} {B B' n : Nat} {A : Option Addr} {l : List Int} (h : InS w B A n l) (hB : B ≤ B') (hk : ∀ b off, A = some ⟨b, off, none⟩ → b < B → w'.heap[b]? = w.heap[b]?) : InS w' B' A n l :=
  ⟨h.1, fun hn => by
    obtain ⟨b, off, e, hb, hc⟩ := h.2 hn
    exact ⟨b, off, e, by omega, fun j u hu => (World.cell?_of_block (hk b off e hb)).trans (hc j u hu)⟩⟩
theorem ProdIn.grow {W W' : World} {own own' : Foot} {Bn Bb n : Nat} {A : Option Addr} {k c : Nat} {b : List Int} (h : ProdIn W own Bn Bb n A k c b) (hg : Grow own W own' W') : ProdIn W' own' Bn Bb n A k c b := by
  have no : ∀ q, q < W.heap.size → ¬ own q → ¬ own' q := fun q hq hn h' => by
    rcases hg.from_ q h' with h1 | h1
    · exact hn h1
    · omega
  exact ⟨(World.cell?_of_block (hg.same _ h.ltn h.on)).trans h.hn, (World.cell?_of_block (hg.same _ h.ltb h.ob)).trans h.hb, ins_at h.hl hg.size (fun b' off e hb => hg.same _ hb (h.oA b' off e).2), h.kc, Nat.lt_of_lt_of_le h.ltn hg.size, Nat.lt_of_lt_of_le h.ltb hg.size, no _ h.ltn h.on, no _ h.ltb h.ob, fun b' off e => ⟨Nat.lt_of_lt_of_le (h.oA b' off e).1 hg.size, no b' (h.oA b' off e).1 (h.oA b' off e).2⟩⟩
theorem grow_below {own : Foot} {W W' : World} (h : ∀ k, own k → k < W.heap.size) (hb : Below W.heap.size W W') : Grow own W own W' := ⟨hb.os, hb.tape, hb.output, hb.size, fun _ h => .inl h, fun k hk => Nat.lt_of_lt_of_le (h k hk) hb.size, fun k hk _ => hb.block k hk⟩
theorem grow_off {own : Foot} {W W' : World} {Ds : List Nat} {o₀ : Foot} {W0 : World} (h : Grow o₀ W0 own W) (ho : Off Ds W W') (hD : ∀ D ∈ Ds, W0.heap.size ≤ D) : Grow o₀ W0 own W' :=
  ⟨ho.os.trans h.os, ho.tape.trans h.tape, ho.output.trans h.output, by rw [ho.size]; exact h.size, h.from_, fun k hk => by rw [ho.size]; exact h.lt k hk, fun k hk hn => (ho.block k (fun hm => by have := hD k hm; omega)).trans (h.same k hk hn)⟩
theorem stab_off {β : Type} {s : Nat} {J : β → Foot → World → Prop} (hJ : Stab s J) {x : β} {own : Foot} {W W' : World} {Ds : List Nat} (h : J x own W) (ho : Off Ds W W') (hD : ∀ D ∈ Ds, s ≤ D ∧ ¬ own D) : J x own W' :=
  hJ x own W W' h (fun k hk _ => ho.block k (fun hm => by have := hD k hm; rcases hk with h1 | h1; omega; exact this.2 h1)) (by rw [ho.size]; exact Nat.le_refl _) ho.os ho.tape ho.output
theorem YieldAt.one {F : Fence} {m : Nat} {P : Program} {l : Nat} {args : Array Value} {W : World} {R R' : World → Prop} (hd : F.depth = none) (m' : Nat)
    (h : YieldAt F m P l args W fun e W' => (e = .returned (.bool true) ∧ R W') ∨ (e = .returned (.bool false) ∧ R' W')) :
    ∃ fn tmps assign body, (Instr.yield l args).run P W = .ok (.round l fn tmps assign body) W ∧ RoundIn F m' P l fn tmps assign body W (fun e W' => ∃ bv : Bool, e = .returned (.bool bv) ∧ (bv = true → R W') ∧ (bv = false → R' W')) := by
  obtain ⟨fn, tmps, assign, body, hy, hR⟩ := h
  refine ⟨fn, tmps, assign, body, hy, RoundIn.any hd (m := m) (RoundIn.mono hR ?_)⟩
  rintro e W' (⟨rfl, hr⟩ | ⟨rfl, hr⟩)
  · exact ⟨true, rfl, fun _ => hr, fun h => absurd h (by decide)⟩
  · exact ⟨false, rfl, fun h => absurd h (by decide), fun _ => hr⟩
set_option maxRecDepth 100000 in
set_option maxHeartbeats 2000000 in
theorem prod_one (d : Nat) (b : List Int) (W : World) (own₀ : Foot) (A : Option Addr) (k c Bn Bb : Nat) (hin : ProdIn W own₀ Bn Bb 1 A k c b) (hk0 : 0 < k) (hk4 : k ≤ 400) :
    Gives (Wd none) Try.prog 96 #[.pointer (some ⟨Bn, 0, none⟩), .pointer (some ⟨Bb, 0, none⟩)] encP RdP (prodF (d + 1) 1 b).length (fun xs => xs.map PE.l = prodF (d + 1) 1 b) (fun _ => True) own₀ W := by
  intro D l J Jx hJs hJxs hT hown h0
  obtain ⟨W1, hW1⟩ : ∃ W1, W.alloc (.cells #[.func (.yield l) #[] #[]] 25) = W1 := ⟨_, rfl⟩
  have hb1 : Below W.heap.size W W1 := by rw [← hW1]; exact (by repeat' (first | with_reducible assumption | with_reducible exact Below.refl _ _ | refine Below.alloc ?_ ?_ _ | refine Below.setCell ?_ ?_ _ | refine Below.drew ?_ | refine below_drewN ?_ _ | (simp; done) | (simp; omega) | omega))
  have T3 : Blk W1 W.heap.size 25 #[.func (.yield l) #[] #[]] := by rw [← hW1]; exact Blk.new' rfl
  have hg1 : Grow own₀ W own₀ W1 := ⟨hb1.os, hb1.tape, hb1.output, hb1.size, fun _ h => .inl h, fun k hk => Nat.lt_of_lt_of_le (hown k hk) hb1.size, fun k hk _ => hb1.block k hk⟩
  have hin1 := hin.grow hg1
  have hJ1 : J [] own₀ W1 := hJs [] own₀ W W1 h0 (fun k _ hlt => hb1.block k hlt) hb1.size hb1.os hb1.tape hb1.output
  have c1 := hin1.hn
  have c2 := hin1.hb
  have l1 := hin1.ltn
  have l2 := hin1.ltb
  have c3 := T3.cell 0
  have l3 := T3.lt
  obtain ⟨bb, off, hA, hbb⟩ := ins_some hin1.hl hk0
  have HIN := hid hin1
  have HT := hid hT
  have HJ := hid hJ1
  have HJs := hid hJs
  have hd0 : (Wd none).depth = none := rfl
  subst hA
  clear hin hin1 hT hJ1 h0 hJs
  refine callsIn_of_wp_marks (F := Wd none) Try.func96 rfl trivial ?_ rfl
  simp only [Try.ntmps96, List.size_toArray, List.length_cons, List.length_nil, Nat.reduceAdd, Nat.reduceSub, Array.replicate_succ, Array.replicate_zero, List.push_toArray, List.append_toArray, List.nil_append, List.cons_append]
  gi_wp2
  have hmx : Try.prog.follows .mixedOrders = true := by kernel_rfl
  gi_region_with_o (first | (gi_at_call 97; refine (calls_wd (clone_any _ ⟨bb, off, none⟩ k c b (Sl.drew HIN.out.hl) hk0 hk4)).mono ?_; rintro e w2 ⟨q, cap, rfl, hq, hq2, hb2⟩; have hb12 : Below W1.heap.size W1 w2 := (Below.refl _ W1).drew.trans hb2; have c3' := (T3.below hb12 l3).cell 0; have l3' := (T3.below hb12 l3).lt; have hJ2 : J [] own₀ w2 := HJs.out [] own₀ W1 w2 HJ.out (fun k _ hlt => hb12.block k hlt) hb12.size hb12.os hb12.tape hb12.output; obtain ⟨fn, tmps, assign, body, hy, hR⟩ := YieldAt.one hd0 (D - 1) (HT.out D [] own₀ ⟨.slice (some ⟨q, 0, none⟩) k cap, b⟩ w2 hJ2 (by show 0 < 1; omega) (fun k hk => Nat.lt_of_lt_of_le (hg1.lt k hk) hb12.size) ⟨_, _, _, rfl, hq, hk4⟩); simp only [encP] at hy) | (refine RoundIn.mono hR ?_; rintro e w3 ⟨bv, rfl, ht, hf⟩))
  all_goals gi_wp2
  all_goals
    have hg2 : Grow own₀ W own₀ w2 := hg1.trans (grow_below hg1.lt hb12)
    refine leavesM_marks [] _ (by simp) (by simp) (fun w' ho => ⟨_, results_none rfl _ _ _, ⟨_, rfl⟩, ?_⟩)
    cases bv with
    | true =>
      obtain ⟨own', hj, hgr⟩ := ht rfl
      exact .inl ⟨[⟨.slice (some ⟨q, 0, none⟩) k cap, b⟩], own', rfl, stab_off HJs.out hj ho (by simp), grow_off (hg2.trans hgr) ho (by simp)⟩
    | false =>
      obtain ⟨own', hj, hgr⟩ := hf rfl
      exact .inr ⟨_, own', trivial, stab_off hJxs hj ho (by simp), grow_off (hg2.trans hgr) ho (by simp)⟩
end Go.Proofs.Ytolghmhodaphfaa
