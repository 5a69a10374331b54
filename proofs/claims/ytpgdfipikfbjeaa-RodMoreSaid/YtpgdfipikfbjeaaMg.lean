/- Texts of the proof, laid together by program. -/
import Derived.Test.YtpgdfipikfbjeaaMf
import Derived.RangeFuncLeaves
import Derived.RangeFuncCalls
import Derived.Shelf.Abstract
import Derived.Lib.AppendZeros
import Derived.Test.YtpgdfipikfbjeaaMa
import Derived.Shelf.RegionOpen
import Derived.Test.YtpgdfipikfbjeaaMe
import Derived.Test.YtpgdfipikfbjeaaMb
set_option linter.unusedSimpArgs false
set_option linter.unusedVariables false
/- (As R, but an iterator that never writes into cells that have been there: what it hands on may be kept.) A range over a function, where the loop's blocks are told apart from the iterator's: an iterator may hand on what it ranges over. Over any program. -/
namespace Go.Proofs.Ytpgdfipikfbjeaa
open Go.RowKit
/-- The blocks that a loop holds as its own. -/
abbrev Foot := Nat → Prop
/-- From W to W' only blocks of the loop have turned; new ones may be its own. -/
structure Grow (own : Foot) (W : World) (own' : Foot) (W' : World) : Prop where
  os : W'.os = W.os
  tape : W'.tape = W.tape
  output : W'.output = W.output
  size : W.heap.size ≤ W'.heap.size
  from_ : ∀ k, own' k → own k ∨ W.heap.size ≤ k
  lt : ∀ k, own' k → k < W'.heap.size
  same : ∀ k, k < W.heap.size → ¬ own k → W'.heap[k]? = W.heap[k]?
theorem Grow.refl {own : Foot} {W : World} (h : ∀ k, own k → k < W.heap.size) : Grow own W own W := ⟨rfl, rfl, rfl, Nat.le_refl _, fun _ h => .inl h, h, fun _ _ _ => rfl⟩
theorem Grow.trans {o₁ o₂ o₃ : Foot} {A B C : World} (h : Grow o₁ A o₂ B) (k : Grow o₂ B o₃ C) : Grow o₁ A o₃ C := by
  refine ⟨k.os.trans h.os, k.tape.trans h.tape, k.output.trans h.output, Nat.le_trans h.size k.size, fun i hi => ?_, k.lt, fun i hi hn => ?_⟩
  · rcases k.from_ i hi with h1 | h1
    · exact h.from_ i h1
    · exact .inr (Nat.le_trans h.size h1)
  · refine (k.same i (Nat.lt_of_lt_of_le hi h.size) (fun h1 => ?_)).trans (h.same i hi hn)
    rcases h.from_ i h1 with h2 | h2
    · exact hn h2
    · omega
/-- What is said of the loop's blocks, and of those below s, stays while others turn. -/
def Stab {β : Type} (s : Nat) (J : β → Foot → World → Prop) : Prop := ∀ x own W W', J x own W → (∀ k, (k < s ∨ own k ∨ ∃ o : Obj, W.heap[k]? = some o ∧ o.isCells = true) → k < W.heap.size → W'.heap[k]? = W.heap[k]?) → W.heap.size ≤ W'.heap.size → W'.os = W.os → W'.tape = W.tape → W'.output = W.output → J x own W'
theorem room_none {F : Fence} (hd : F.depth = none) (k : Nat) : F.room k := fun d h => by rw [hd] at h; cases h
theorem RoundIn.any {F : Fence} (hd : F.depth = none) {m m' : Nat} {P : Program} {l : Nat} {f : FuncId} {tmps : Array Value} {assign body : Code} {w : World} {R : Ending → World → Prop}
    (h : RoundIn F m P l f tmps assign body w R) : RoundIn F m' P l f tmps assign body w R := ⟨h.1, fun c cs _ => h.2 c cs (room_none hd _)⟩
/-- What a loop promises for an element that has come, and what it asks. -/
def Takes {α : Type} (F : Fence) (P : Program) (l : Nat) (encs : α → Array Value) (Rd : α → World → Prop) (Nb : Nat) (J Jx : List α → Foot → World → Prop) : Prop :=
  ∀ m pre own x W, J pre own W → pre.length < Nb → (∀ k, own k → k < W.heap.size) → Rd x W → YieldAt F m P l (encs x) W fun e W' =>
    (e = .returned (.bool true) ∧ ∃ own', J (pre ++ [x]) own' W' ∧ Grow own W own' W') ∨ (e = .returned (.bool false) ∧ ∃ own', Jx (pre ++ [x]) own' W' ∧ Grow own W own' W')
/-- What an iterator promises whatever the loop: own₀ are the loop's blocks at the start. -/
def Gives {α : Type} (F : Fence) (P : Program) (gf : FuncId) (lb : Array Value) (encs : α → Array Value) (Rd : α → World → Prop) (Nb : Nat) (S Sp : List α → Prop) (own₀ : Foot) (W : World) : Prop :=
  ∀ (d l : Nat) (J Jx : List α → Foot → World → Prop), Stab W.heap.size J → Stab W.heap.size Jx → Takes F P l encs Rd Nb J Jx → (∀ k, own₀ k → k < W.heap.size) → J [] own₀ W →
    CallsIn F d P gf (#[.func (.yield l) #[] #[]] ++ lb) W fun e W' => (∃ v, e = .returned v) ∧
      ((∃ xs own', S xs ∧ J xs own' W' ∧ Grow own₀ W own' W') ∨ (∃ pre own', Sp pre ∧ Jx pre own' W' ∧ Grow own₀ W own' W'))
/-- How the body of such a round may be left. -/
def footPost {α : Type} (I : List α → Foot → World → Prop) (Ix : Code → List α → Foot → World → Prop) (xs : List α) (own : Foot) (W : World) : Exit → Act → World → Prop
  | .normal, _, W' => ∃ own', I xs own' W' ∧ Grow own W own' W'
  | .ret, _, W' => ∃ own', Ix .ret xs own' W' ∧ Grow own W own' W'
  | .exit id, _, W' => ∃ own', Ix (.exit id) xs own' W' ∧ Grow own W own' W'
  | _, _, _ => False
theorem wpIn_rangeFunc_foot {F : Fence} {n : Nat} {P : Program} {α : Type} {g : Operand} {ps : Array Tmp} {assign body : Code} {Q : Exit → Act → World → Prop} {a : Act} {w : World} (B : Nat) (hB : w.heap.size = B)
    (hd : F.depth = none) (hro : F.round = none) {gf : Nat} {lb : Array Value} (hg : a.eval g = .func (.func gf) #[] lb) (hFg : F.fn gf) (eg : ∀ args w, (callFunc gf args).run P w = .ok (.enter gf args) w)
    {encs : α → Array Value} {Rd : α → World → Prop} {Nb : Nat} {S Sp : List α → Prop} (own₀ : Foot) (hown : ∀ k, own₀ k → k < B)
    (hseq : ∀ W, Below B w W → Gives F P gf lb encs Rd Nb S Sp (fun k => own₀ k ∨ k = B ∨ k = B + 1) W)
    (hRd : ∀ x W W', Rd x W → (∀ (k : Nat) (o : Obj), W.heap[k]? = some o → o.isCells = true → W'.heap[k]? = some o) → W.heap.size ≤ W'.heap.size → Rd x W') (hps : ∀ x, (encs x).size = ps.size)
    (I : List α → Foot → World → Prop) (Ix : Code → List α → Foot → World → Prop) (hI : Stab B I) (hIx : ∀ c, Stab B (Ix c)) (h0 : I [] own₀ w)
    (Ax : α → Act → World → Prop)
    (hassign : ∀ (l : Nat) (x : α) (W : World) (K : Act → World → Prop), Rd x W → B + 2 ≤ W.heap.size → (∀ a' W', Below W.heap.size W W' → Ax x a' W' → K a' W') →
      assign.wpIn (F.inRound l) (n - 1 - 1) P (Exit.then K (fun _ _ _ => False)) { tmps := (ps.zip (encs x)).foldl (fun t (p, v) => t.setIfInBounds p v) a.tmps, defers := [] } W)
    (hAx : ∀ x a' W o, Ax x a' W → Ax x a' (W.putObj (B + 1) o))
    (hbody : ∀ (l : Nat) (pre : List α) (own : Foot) (x : α) (a' : Act) (W : World), I pre own W → pre.length < Nb → (∀ k, own k → k < W.heap.size) → (∀ k, own k → k ≠ B ∧ k ≠ B + 1) → Rd x W → Ax x a' W → B + 2 ≤ W.heap.size → body.wpIn (F.inRound l) (n - 1 - 1) P (footPost I Ix (pre ++ [x]) own W) a' W)
    (hdone : ∀ (D : Nat) (xs : List α) (own' : Foot) (W : World), B ≤ D → S xs → I xs own' W → Grow own₀ w own' W → (∀ k, own' k → k ≠ B ∧ k ≠ B + 1) → D = B → W.heap[D]? = some (.deferred (some [])) → Q .normal { a with defers := { target := .collected D, args := #[] } :: a.defers } W)
    (hstop : ∀ (D : Nat) (c : Code) (pre : List α) (own' : Foot) (W : World), B ≤ D → Sp pre → Ix c pre own' W → Grow own₀ w own' W → (∀ k, own' k → k ≠ B ∧ k ≠ B + 1) → D = B → W.heap[D]? = some (.deferred (some [])) → c.wpIn F n P Q { a with defers := { target := .collected D, args := #[] } :: a.defers } W) :
    (Code.rangeFunc g ps assign body).wpIn F n P Q a w := by
  refine wpIn_rangeFunc fun fn hfn => ?_
  rw [hro]
  let rec_ : LoopState → Option Code → Loop := fun st pe => { state := st, pending := pe, fn, tmps := a.tmps, params := ps, assign, body, defers := B }
  obtain ⟨W1, hW1⟩ : ∃ W1, (w.alloc (.deferred (some []))).alloc (.loop (rec_ .ready none)) = W1 := ⟨_, rfl⟩
  have hz1 : W1.heap.size = B + 2 := by rw [← hW1]; simp [hB]
  have hL1 : W1.heap[B + 1]? = some (.loop (rec_ .ready none)) := by
    rw [← hW1, ← hB]; have := World.alloc_heap_new (w.alloc (.deferred (some []))) (.loop (rec_ .ready none)); rwa [World.size_alloc] at this
  have hK1 : W1.heap[B]? = some (.deferred (some [])) := by
    rw [← hW1, ← hB]; exact (Below.heap_alloc _ _ _ (by simp)).trans (World.alloc_heap_new w _)
  have hb1 : Below B w W1 := by
    rw [← hW1, ← hB]; exact ((Below.refl _ w).alloc (Nat.le_refl _) _).alloc (by simp) _
  have hg1 : ∀ own, (∀ k, own k → k < B) → Grow own w own W1 := fun own h => ⟨hb1.os, hb1.tape, hb1.output, by omega, fun _ h => .inl h, fun k hk => by have := h k hk; omega, fun k hk _ => hb1.block k (by omega)⟩
  -- a put of the loop's own record
  have put : ∀ {β : Type} (J : β → Foot → World → Prop) (x : β) (own : Foot) (W : World) (o : Obj), Stab B J → J x own W → (∀ k, own k → k ≠ B ∧ k ≠ B + 1) → (∃ r, W.heap[B + 1]? = some (.loop r)) → J x own (W.putObj (B + 1) o) := fun J x own W o hJ h hne hr =>
    hJ x own W _ h (fun k hk _ => World.putObj_heap_other (by
      rcases hk with h | h | ⟨o', ho, hc⟩
      · omega
      · exact (hne k h).2
      · rintro rfl
        obtain ⟨r, hr⟩ := hr
        rw [hr] at ho; cases ho; cases hc)) (by simp [World.putObj]) rfl rfl rfl
  let J : List α → Foot → World → Prop := fun pre own W => ∃ oi : Foot, (∀ k, own k ↔ oi k ∨ k = B ∨ k = B + 1) ∧ (∀ k, oi k → k ≠ B ∧ k ≠ B + 1) ∧ I pre oi W ∧ W.heap[B + 1]? = some (.loop (rec_ .ready none)) ∧ W.heap[B]? = some (.deferred (some [])) ∧ Grow own₀ w oi W
  let Jx : List α → Foot → World → Prop := fun pre own W => ∃ oi : Foot, ∃ c, (∀ k, own k ↔ oi k ∨ k = B ∨ k = B + 1) ∧ (∀ k, oi k → k ≠ B ∧ k ≠ B + 1) ∧ Ix c pre oi W ∧ W.heap[B + 1]? = some (.loop (rec_ .done (some c))) ∧ W.heap[B]? = some (.deferred (some [])) ∧ Grow own₀ w oi W
  have growS : ∀ {own oi : Foot} {W W' : World}, Grow own₀ w oi W → (∀ k, k < W1.heap.size → W'.heap[k]? = W.heap[k]?) → W.heap.size ≤ W'.heap.size → W'.os = W.os → W'.tape = W.tape → W'.output = W.output → Grow own₀ w oi W' := fun h hk hz h1 h2 h3 =>
    ⟨h1.trans h.os, h2.trans h.tape, h3.trans h.output, Nat.le_trans h.size hz, h.from_, fun k hk' => Nat.lt_of_lt_of_le (h.lt k hk') hz, fun k hk' hn => (hk k (by omega)).trans (h.same k hk' hn)⟩
  have hJs : Stab W1.heap.size J := by
    rintro pre own W W' ⟨oi, h1, h2, h3, h4, h5, h6⟩ hk hz e1 e2 e3
    refine ⟨oi, h1, h2, hI pre oi W W' h3 (fun k hk' hlt => hk k (by rcases hk' with h | h | h; exact .inl (by omega); exact .inr (.inl ((h1 k).2 (.inl h))); exact .inr (.inr h)) hlt) hz e1 e2 e3, (hk _ (.inl (by omega)) (Array.getElem?_eq_some_iff.1 h4).1).trans h4, (hk _ (.inl (by omega)) (Array.getElem?_eq_some_iff.1 h5).1).trans h5, ?_⟩
    exact growS (own := own) h6 (fun k hk' => hk k (.inl hk') (by have := (Array.getElem?_eq_some_iff.1 h4).1; omega)) hz e1 e2 e3
  have hJxs : Stab W1.heap.size Jx := by
    rintro pre own W W' ⟨oi, c, h1, h2, h3, h4, h5, h6⟩ hk hz e1 e2 e3
    refine ⟨oi, c, h1, h2, hIx c pre oi W W' h3 (fun k hk' hlt => hk k (by rcases hk' with h | h | h; exact .inl (by omega); exact .inr (.inl ((h1 k).2 (.inl h))); exact .inr (.inr h)) hlt) hz e1 e2 e3, (hk _ (.inl (by omega)) (Array.getElem?_eq_some_iff.1 h4).1).trans h4, (hk _ (.inl (by omega)) (Array.getElem?_eq_some_iff.1 h5).1).trans h5, ?_⟩
    exact growS (own := own) h6 (fun k hk' => hk k (.inl hk') (by have := (Array.getElem?_eq_some_iff.1 h4).1; omega)) hz e1 e2 e3
  refine ⟨B + 1, [{ target := .collected B, args := #[] }], W1, { target := .fn (.func gf) lb, args := #[.func (.yield (B + 1)) #[] #[]] }, W1, gf, #[.func (.yield (B + 1)) #[] #[]] ++ lb, W1, ?_, ?_, ?_, ?_, ?_, ?_⟩
  · rw [← hW1]
    have := run_enterLoop_outer (P := P) (w := w) fn a.tmps ps assign body
    rw [hB] at this
    exact this
  · simp only [resolve, hg]; simp [go_sem]
  · intro f' hf'; simp [Target.leads] at hf'; subst hf'; exact hFg
  · simp [invoke, go_sem, eg]
  · intro h; rw [hd] at h; cases h
  refine (hseq W1 hb1 (n - 1) (B + 1) J Jx hJs hJxs ?_ (fun k hk => by rcases hk with h | h | h; have := hown k h; omega; omega; omega) ⟨own₀, fun k => Iff.rfl, fun k hk => by have := hown k hk; omega, ?_, hL1, hK1, hg1 _ hown⟩).mono ?_
  · -- one round
    rintro m pre own x W ⟨oi, h1, h2, h3, hl, hk, hgr⟩ hNb hlt hrd
    have hy := run_yield (P := P) (args := encs x) hl (hps x)
    have hBW : B + 2 ≤ W.heap.size := by have := (Array.getElem?_eq_some_iff.1 hl).1; omega
    refine ⟨fn, _, assign, body, hy, RoundIn.any hd (m := n - 1 - 1) (roundIn_of_wpIn hfn (hassign _ x W _ hrd hBW ?_))⟩
    intro a' Wa hba hax
    have hla := (hba.block _ (Array.getElem?_eq_some_iff.1 hl).1).trans hl
    have hka := (hba.block _ (Array.getElem?_eq_some_iff.1 hk).1).trans hk
    have hIa : I pre oi Wa := hI pre oi W Wa h3 (fun k _ hlt' => hba.block k hlt') hba.size hba.os hba.tape hba.output
    have hrda : Rd x Wa := hRd x W Wa hrd (fun k o ho _ => (hba.block k (Array.getElem?_eq_some_iff.1 ho).1).trans ho) hba.size
    have hga : Grow oi W oi Wa := ⟨hba.os, hba.tape, hba.output, hba.size, fun _ h => .inl h, fun k hk' => Nat.lt_of_lt_of_le (hlt k ((h1 k).2 (.inl hk'))) hba.size, fun k hk' _ => hba.block k hk'⟩
    refine ⟨_, run_beginRound hla rfl, ?_⟩
    obtain ⟨W2, hW2⟩ : ∃ W2, Wa.putObj (B + 1) (.loop { rec_ .ready none with state := .busy }) = W2 := ⟨_, rfl⟩
    have hl2 : W2.heap[B + 1]? = some (.loop { rec_ .ready none with state := .busy }) := by rw [← hW2]; exact World.putObj_heap_same (Array.getElem?_eq_some_iff.1 hla).1
    have hk2 : W2.heap[B]? = some (.deferred (some [])) := by rw [← hW2]; exact (World.putObj_heap_other (by omega)).trans hka
    have hz2 : W2.heap.size = Wa.heap.size := by rw [← hW2]; simp [World.putObj]
    have hI2 : I pre oi W2 := by rw [← hW2]; exact put I pre oi Wa _ hI hIa h2 ⟨_, hla⟩
    have hlt2 : ∀ k, oi k → k < W2.heap.size := fun k hk' => by have := hga.lt k hk'; omega
    have hrd2 : Rd x W2 := by
      refine hRd x Wa W2 hrda (fun k o ho hc => ?_) (by omega)
      rw [← hW2]
      refine (World.putObj_heap_other (fun e => ?_)).trans ho
      subst e; rw [hla] at ho; cases ho; cases hc
    have hg02 : ∀ k, k < W.heap.size → k ≠ B + 1 → W2.heap[k]? = W.heap[k]? := fun k hk' hne => by
      rw [← hW2]; exact (World.putObj_heap_other (fun e => hne (by omega))).trans (hba.block k hk')
    show Code.wpIn (F.inRound (B + 1)) (n - 1 - 1) P body _ a' (Wa.putObj (B + 1) (.loop { rec_ .ready none with state := .busy }))
    rw [hW2]
    have hax2 : Ax x a' W2 := by rw [← hW2]; exact hAx x a' Wa _ hax
    refine wpIn_mono (hbody _ pre oi x a' W2 hI2 hNb hlt2 h2 hrd2 hax2 (by have := hba.size; omega)) ?_
    -- behind the body
    have fin : ∀ (jump : Option Code) (own' : Foot) (W3 : World), Grow oi W2 own' W3 →
        (Instr.endRound (B + 1) jump).run P W3 = .ok (.bool jump.isNone) (W3.putObj (B + 1) (.loop (rec_ (if jump.isNone then .ready else .done) jump))) ∧
        (∀ k, own' k → k ≠ B ∧ k ≠ B + 1) ∧ (∃ r, W3.heap[B + 1]? = some (.loop r)) ∧ (W3.putObj (B + 1) (.loop (rec_ (if jump.isNone then .ready else .done) jump))).heap[B + 1]? = some (.loop (rec_ (if jump.isNone then .ready else .done) jump)) ∧
        (W3.putObj (B + 1) (.loop (rec_ (if jump.isNone then .ready else .done) jump))).heap[B]? = some (.deferred (some [])) ∧
        Grow own W (fun k => own' k ∨ k = B ∨ k = B + 1) (W3.putObj (B + 1) (.loop (rec_ (if jump.isNone then .ready else .done) jump))) ∧ Grow own₀ w own' (W3.putObj (B + 1) (.loop (rec_ (if jump.isNone then .ready else .done) jump))) := by
      intro jump own' W3 hg3
      have hl3 := (hg3.same _ (Array.getElem?_eq_some_iff.1 hl2).1 (fun h => (h2 _ h).2 rfl)).trans hl2
      have hk3 := (hg3.same _ (Array.getElem?_eq_some_iff.1 hk2).1 (fun h => (h2 _ h).1 rfl)).trans hk2
      have hne : ∀ k, own' k → k ≠ B ∧ k ≠ B + 1 := fun k hk' => by
        rcases hg3.from_ k hk' with h | h
        · exact h2 k h
        · have := hba.size; omega
      have hsz : (W3.putObj (B + 1) (.loop (rec_ (if jump.isNone then .ready else .done) jump))).heap.size = W3.heap.size := by simp [World.putObj]
      have e1 : W2.os = W.os := by rw [← hW2]; exact hba.os
      have e2 : W2.tape = W.tape := by rw [← hW2]; exact hba.tape
      have e3 : W2.output = W.output := by rw [← hW2]; exact hba.output
      have hzW : W.heap.size ≤ W3.heap.size := by have := hba.size; have := hg3.size; omega
      refine ⟨run_endRound jump hl3, hne, ⟨_, hl3⟩, World.putObj_heap_same (Array.getElem?_eq_some_iff.1 hl3).1, (World.putObj_heap_other (by omega)).trans hk3, ⟨hg3.os.trans e1, hg3.tape.trans e2, hg3.output.trans e3, by omega, fun k hk' => ?_, fun k hk' => ?_, fun k hk' hn => ?_⟩, ⟨hg3.os.trans (e1.trans hgr.os), hg3.tape.trans (e2.trans hgr.tape), hg3.output.trans (e3.trans hgr.output), by have := hgr.size; omega, fun k hk' => ?_, fun k hk' => by rw [hsz]; exact hg3.lt k hk', fun k hk' hn => ?_⟩⟩
      · rcases hk' with h | h
        · rcases hg3.from_ k h with h4 | h4
          · exact .inl ((h1 k).2 (.inl h4))
          · right; have := hba.size; omega
        · exact .inl ((h1 k).2 (.inr h))
      · rw [hsz]
        rcases hk' with h | h
        · exact hg3.lt k h
        · omega
      · have hn1 : k ≠ B + 1 := fun e => hn ((h1 k).2 (.inr (.inr e)))
        exact (World.putObj_heap_other (fun e => hn1 (by omega))).trans ((hg3.same k (by have := hba.size; omega) (fun h => hn ((h1 k).2 (.inl h)))).trans (hg02 k hk' hn1))
      · rcases hg3.from_ k hk' with h4 | h4
        · exact hgr.from_ k h4
        · right; have := hba.size; have := hgr.size; omega
      · have hkB : k ≠ B + 1 := by omega
        have hni : ¬ oi k := fun h => by
          rcases hgr.from_ k h with h4 | h4
          · exact hn h4
          · omega
        exact (World.putObj_heap_other (fun e => hkB (by omega))).trans ((hg3.same k (by have := hba.size; have := hgr.size; omega) hni).trans ((hg02 k (by have := hgr.size; omega) hkB).trans (hgr.same k hk' hn)))
    rintro e a3 W3 hp
    cases e with
    | normal =>
      obtain ⟨own', hi3, hg3⟩ := hp
      obtain ⟨q1, q2, qr, q3, q4, q5, q6⟩ := fin none own' W3 hg3
      exact ⟨_, _, q1, .inl ⟨rfl, _, ⟨own', fun k => Iff.rfl, q2, put I _ own' W3 _ hI hi3 q2 qr, q3, q4, q6⟩, q5⟩⟩
    | ret =>
      obtain ⟨own', hi3, hg3⟩ := hp
      obtain ⟨q1, q2, qr, q3, q4, q5, q6⟩ := fin (some .ret) own' W3 hg3
      exact ⟨_, _, q1, .inr ⟨rfl, _, ⟨own', _, fun k => Iff.rfl, q2, put (Ix .ret) _ own' W3 _ (hIx _) hi3 q2 qr, q3, q4, q6⟩, q5⟩⟩
    | exit id =>
      obtain ⟨own', hi3, hg3⟩ := hp
      obtain ⟨q1, q2, qr, q3, q4, q5, q6⟩ := fin (some (.exit id)) own' W3 hg3
      exact ⟨_, _, q1, .inr ⟨rfl, _, ⟨own', _, fun k => Iff.rfl, q2, put (Ix (.exit id)) _ own' W3 _ (hIx _) hi3 q2 qr, q3, q4, q6⟩, q5⟩⟩
    | goto t => exact hp.elim
    | panic ch => exact hp.elim
    | outgrown => exact hp.elim
  · -- at the start
    exact hI [] own₀ w W1 h0 (fun k _ hlt => hb1.block k (by omega)) (by omega) hb1.os hb1.tape hb1.output
  · -- behind the iterator
    have put' : ∀ (W : World) (o : Obj) (own : Foot), Grow own₀ w own W → Grow own₀ w own (W.putObj (B + 1) o) := fun W o own h => ⟨h.os, h.tape, h.output, by have := h.size; simpa [World.putObj] using this, h.from_, fun k hk => by have := h.lt k hk; simpa [World.putObj] using this, fun k hk hn => (World.putObj_heap_other (by omega)).trans (h.same k hk hn)⟩
    rintro e W2 ⟨⟨v, rfl⟩, (⟨xs, own', hS, ⟨oi, h1, h2, h3, hl, hk, hgr⟩, -⟩ | ⟨pre, own', hSp, ⟨oi, c, h1, h2, h3, hl, hk, hgr⟩, -⟩)⟩
    · exact ⟨none, _, run_endLoop (P := P) hl (by simp [rec_]), hdone _ xs oi _ (Nat.le_refl _) hS (put I _ oi W2 _ hI h3 h2 ⟨_, hl⟩) (put' _ _ _ hgr) h2 rfl ((World.putObj_heap_other (by omega)).trans hk)⟩
    · exact ⟨some c, _, run_endLoop (P := P) hl (by simp [rec_]), hstop _ c pre oi _ (Nat.le_refl _) hSp (put (Ix c) _ oi W2 _ (hIx c) h3 h2 ⟨_, hl⟩) (put' _ _ _ hgr) h2 rfl ((World.putObj_heap_other (by omega)).trans hk)⟩
/-! Marks beside a loop's own blocks. -/
def MarksO (own : Foot) (B M : Nat) (W : World) (ds : List Deferred) : Prop := ∃ Ds : List Nat, ds = Ds.map markOf ∧ Ds.Nodup ∧ ∀ D ∈ Ds, B ≤ D ∧ D < M ∧ ¬ own D ∧ W.heap[D]? = some (.deferred (some []))
theorem MarksO.nil (own : Foot) (B M : Nat) (W : World) : MarksO own B M W [] := ⟨[], rfl, List.nodup_nil, fun _ h => by cases h⟩
theorem MarksO.step {own own' : Foot} {B M M' : Nat} {W W' : World} {ds : List Deferred} (h : MarksO own B M W ds) (hM : M ≤ M') (ho : ∀ D, D < M → ¬ own D → ¬ own' D) (hk : ∀ D, D < M → ¬ own D → W'.heap[D]? = W.heap[D]?) : MarksO own' B M' W' ds := by
  obtain ⟨Ds, rfl, h1, h2⟩ := h
  refine ⟨Ds, rfl, h1, fun D hD => ?_⟩
  obtain ⟨q1, q2, q3, q4⟩ := h2 D hD
  exact ⟨q1, by omega, ho D q2 q3, (hk D q2 q3).trans q4⟩
theorem MarksO.push {own : Foot} {B M D : Nat} {W : World} {ds : List Deferred} (h : MarksO own B M W ds) (hB : B ≤ D) (hM : M ≤ D) (ho : ¬ own D) (hD : W.heap[D]? = some (.deferred (some []))) : MarksO own B (D + 1) W ({ target := .collected D, args := #[] } :: ds) := by
  obtain ⟨Ds, rfl, h1, h2⟩ := h
  refine ⟨D :: Ds, rfl, List.nodup_cons.2 ⟨fun hm => by have := (h2 D hm).2.1; omega, h1⟩, fun D' hD' => ?_⟩
  rcases List.mem_cons.1 hD' with rfl | hm
  · exact ⟨hB, by omega, ho, hD⟩
  · have := h2 D' hm
    exact ⟨this.1, by omega, this.2.2⟩
theorem MarksO.leaves {own : Foot} {B M : Nat} {P : Program} {n : Nat} {fn : Func} {tmps : Array Value} {R : Ending → World → Prop} {W : World} {ds : List Deferred} (h : MarksO own B M W ds)
    (hR : ∀ Ds w', (∀ D ∈ Ds, B ≤ D ∧ ¬ own D) → Off Ds W w' → ∃ v, (results fn tmps).run P w' = .ok v w' ∧ R (.returned v) w') : LeavesInM (Wd none) n P fn tmps R ds .returning W := by
  obtain ⟨Ds, rfl, h1, h2⟩ := h
  exact leavesM_marks Ds W h1 (fun D hD => (h2 D hD).2.2.2) (fun w' ho => hR Ds w' (fun D hD => ⟨(h2 D hD).1, (h2 D hD).2.2.1⟩) ho)
end Go.Proofs.Ytpgdfipikfbjeaa
/- Walks: slices.Grow of nil, slices.Concat of two lists; the iterator of lists is made. -/
namespace Go.Proofs.Ytpgdfipikfbjeaa
open Go.RowKit Go.Shelf
attribute [local go_sem] Oper.semAt_some
theorem under3 : Try.prog.underlying 3 = some (.int .i64) := by kernel_rfl
set_option maxRecDepth 10000 in
set_option maxHeartbeats 1600000 in
theorem grow_any (n : Nat) (w : World) (h1 : 1 ≤ n) (hn : n ≤ 1000) :
    Calls Try.prog 109 #[.slice none 0 0, .int .i64 n] w fun e w' => ∃ v, e = .returned v ∧ w'.ownsRow w.heap.size 3 1 v 0 [] ∧ Below w.heap.size w w' := by
  obtain ⟨i0, hi0, hi1, hi2, hi3⟩ := info_parts' info3
  have hrun := fun ty => Lib.run_append_nil_zeros (P := Try.prog) w 25 3 ty 3 i0 (.int .i64 0) .i64 .i64 under25 under3 hi0 hi1 n h1 (by rw [hi2]; decide) (by omega) (by rw [hi3]; omega)
  have Hr := hid hrun
  have hge := grownCap_ge w n 0 3
  obtain ⟨G, hG⟩ : ∃ G, grownCap w n 0 3 = G := ⟨_, rfl⟩
  have hGm := grownCap_le_maxLen w n 0 3 (by unfold maxLen; omega)
  rw [hG] at hge hGm
  simp only [hG] at hrun
  clear hG Hr hi0 hi1 hi2 hi3
  have h0 : ¬ (n : Int) < 0 := by omega
  have h2 : (0 : Int) < n := by omega
  have z0 : IntKind.i64.wrap (n : Int) = n := IntWalk.i64_in _ (by omega)
  have HR := hid hrun
  clear hrun
  go_enter Try.func109, Try.ntmps109
  go_wp2_with (at_builtin; refine Lib.wpList_append_run _ rfl _ _ _ _ rfl _ _ rfl rfl _ _ (HR.out _) ?_)
  refine bodyPost_ret (v := .slice (some ⟨w.heap.size, 0, none⟩) 0 G) (by first | (simp [results, Try.results109, go_sem]; done) | (simp [results, Try.results109, go_sem, *]; done) | (simp [results, Try.results109, go_sem, World.cell?_setCell_same', *]; done) | (simp [results, Try.results109, go_sem]; first | exact ⟨rfl, rfl⟩ | rfl)) rfl ⟨_, rfl, ⟨rfl, .inr ⟨w.heap.size, G, _, rfl, Nat.le_refl _, heap_alloc_new w _, Nat.zero_le _, hGm, ?_, by simp⟩⟩, (by repeat' (first | with_reducible assumption | with_reducible exact Below.refl _ _ | refine Below.alloc ?_ ?_ _ | refine Below.setCell ?_ ?_ _ | refine Below.drew ?_ | refine below_drewN ?_ _ | (simp; done) | (simp; omega) | omega))⟩
  simp [Builtin.zeroCells]
  omega
/-- Where the first list, and the second, end. -/
def cutN (n1 n2 k : Nat) : Nat := if k = 0 then 0 else if k = 1 then n1 else n1 + n2
def catL (l1 l2 : List Int) (k : Nat) : List Int := if k = 0 then [] else if k = 1 then l1 else l1 ++ l2
set_option maxRecDepth 10000 in
set_option maxHeartbeats 1600000 in
theorem concat_any (w : World) (g : Nat) (A1 A2 : Option Addr) (n1 c1 n2 c2 : Nat) (l1 l2 : List Int) (hb : Blk w g 25 #[.slice A1 n1 c1, .slice A2 n2 c2]) (h1 : InS w w.heap.size A1 n1 l1) (h2 : InS w w.heap.size A2 n2 l2) (hA1 : A1 = none → n1 = 0 ∧ c1 = 0) (hA2 : A2 = none → n2 = 0 ∧ c2 = 0) (hn0 : 1 ≤ n1 + n2) (hn : n1 + n2 ≤ 1000) :
    Calls Try.prog 107 #[.slice (some ⟨g, 0, none⟩) 2 2] w fun e w' => ∃ v, e = .returned v ∧ w'.ownsRow w.heap.size 3 1 v (l1 ++ l2).length ((l1 ++ l2).flatMap cI) ∧ Below w.heap.size w w' := by
  obtain ⟨i0, hi0, hi1, hi2, hi3⟩ := info_parts' info3
  have I0 := hid hi0; have I1 := hid hi1; have I2 := hid hi2; have I3 := hid hi3
  clear hi0 hi1 hi2 hi3
  have H1 := hid h1
  have H2 := hid h2
  have HA1 := hid hA1
  have HA2 := hid hA2
  have c0 := hb.cell 0
  have d0 := hb.cell 1
  have lg := hb.lt
  have HB := hid hb
  have hll : (l1 ++ l2).length = n1 + n2 := by rw [List.length_append, h1.len, h2.len]
  have Hll := hid hll
  clear h1 h2 hb hA1 hA2 hll
  go_enter Try.func107, Try.ntmps107
  go_wp2_with (fail)
  go_loopw [3, 11] (fun s i wr => ∃ k : Nat, k ≤ 2 ∧ i = .int .i64 k ∧ s = .int .i64 (cutN n1 n2 k : Nat) ∧ w = wr) (fun _ i _ => 2 - (intOf i).toNat)
  case atStart => exact ⟨0, by omega, rfl, rfl, rfl⟩
  case round =>
    obtain ⟨k, hk, rfl, rfl, rfl⟩ := hrel
    have hk3 : k = 0 ∨ k = 1 ∨ k = 2 := by omega
    rcases hk3 with rfl | rfl | rfl
    · have e0 : cutN n1 n2 0 = 0 := rfl
      rw [e0]
      have hp : ¬ (n1 : Int) < 0 := by omega
      go_wp2
      exact ⟨⟨1, by omega, rfl, by go_num, trivial⟩, by decide⟩
    · have e0 : cutN n1 n2 1 = n1 := rfl
      rw [e0]
      have hp : ¬ (n1 : Int) + n2 < 0 := by omega
      have zz : IntKind.i64.wrap ((n1 : Int) + n2) = (n1 : Int) + n2 := IntWalk.i64_in _ (by omega)
      go_wp2
      exact ⟨⟨2, by omega, rfl, by rw [show cutN n1 n2 2 = n1 + n2 from rfl]; simp, trivial⟩, by decide⟩
    · have e0 : cutN n1 n2 2 = n1 + n2 := rfl
      rw [e0]
      clear c0 d0
      go_wp2_with (fail)
      refine (grow_any (n1 + n2) _ hn0 hn).mono ?_
      rintro e W1 ⟨v1, rfl, ho1, hb1⟩
      have HO1 := hid ho1
      clear ho1
      have c0 := (HB.out.below hb1 lg).cell 0
      have d0 := (HB.out.below hb1 lg).cell 1
      have hs1 := hb1.size
      have lg1 : g < W1.heap.size := by omega
      go_wp2_with (fail)
      go_loopw [6, 27] (fun v i wr => ∃ k : Nat, k ≤ 2 ∧ i = .int .i64 k ∧ Below w.heap.size w wr ∧ Hid (wr.ownsRow w.heap.size 3 1 v (cutN n1 n2 k) ((catL l1 l2 k).flatMap cI))) (fun _ i _ => 2 - (intOf i).toNat)
      case atStart => exact ⟨0, by omega, rfl, hb1, HO1⟩
      case round =>
        clear c0 d0 lg1 HO1
        obtain ⟨k, hk, rfl, hbw, ho⟩ := hrel
        have hszw := hbw.size
        have hk3 : k = 0 ∨ k = 1 ∨ k = 2 := by omega
        have c0 := (HB.out.below hbw lg).cell 0
        have d0 := (HB.out.below hbw lg).cell 1
        have lg2 : g < wr.heap.size := by omega
        rcases hk3 with rfl | rfl | rfl
        · go_wp2_with (first | (at_builtin; refine wpList_append_srcG (by rfl) _ _ 25 rfl w.heap.size 3 i0 _ 1 8 under25 I0.out I1.out I2.out I3.out rfl (by decide) _ 0 [] rfl ho.out A1 n1 c1 (l1.flatMap cI) rfl wr.heap.size (Sl.below' H1.out hbw hszw) HA1.out (one_flatI _) (by unfold maxLen; omega) (by omega) hszw ?_; intro v4 w4 ho4 hg4 _ _; have hb4 : Below w.heap.size w w4 := hbw.grown hg4 hszw (fun r hr => (World.ownsRow.lt ho.out r hr).1); have HO4 : Hid (w4.ownsRow w.heap.size 3 1 v4 (cutN n1 n2 1) ((catL l1 l2 1).flatMap cI)) := hid (by have := ho4; rw [Nat.zero_add, List.nil_append] at this; exact this); clear ho4))
          (first | exact ⟨⟨1, by omega, rfl, hb4, HO4⟩, (by first | (simp [intOf]; omega) | (simp [intOf]; done))⟩ | (refine ⟨?_, ?_⟩; (focus ((repeat apply Exists.intro); refine ⟨?_, rfl⟩; exact ⟨1, by omega, rfl, hb4, HO4⟩)); (first | (simp [intOf]; omega) | (simp [intOf]; done))))
        · go_wp2_with (first | (at_builtin; refine wpList_append_srcG (by rfl) _ _ 25 rfl w.heap.size 3 i0 _ 1 8 under25 I0.out I1.out I2.out I3.out rfl (by decide) _ n1 (l1.flatMap cI) rfl ho.out A2 n2 c2 (l2.flatMap cI) rfl wr.heap.size (Sl.below' H2.out hbw hszw) HA2.out (one_flatI _) (by unfold maxLen; omega) (by omega) hszw ?_; intro v4 w4 ho4 hg4 _ _; have hb4 : Below w.heap.size w w4 := hbw.grown hg4 hszw (fun r hr => (World.ownsRow.lt ho.out r hr).1); have HO4 : Hid (w4.ownsRow w.heap.size 3 1 v4 (cutN n1 n2 2) ((catL l1 l2 2).flatMap cI)) := hid (by have := ho4; rw [← List.flatMap_append] at this; exact this); clear ho4))
          (first | exact ⟨⟨2, by omega, rfl, hb4, HO4⟩, (by first | (simp [intOf]; omega) | (simp [intOf]; done))⟩ | (refine ⟨?_, ?_⟩; (focus ((repeat apply Exists.intro); refine ⟨?_, rfl⟩; exact ⟨2, by omega, rfl, hb4, HO4⟩)); (first | (simp [intOf]; omega) | (simp [intOf]; done))))
        · have HO5 : Hid (wr.ownsRow w.heap.size 3 1 u6 (l1 ++ l2).length ((l1 ++ l2).flatMap cI)) := hid (by rw [Hll.out]; exact ho.out)
          clear ho
          go_wp2
          refine bodyPost_ret (v := u6) (by first | (simp [results, Try.results107, go_sem]; done) | (simp [results, Try.results107, go_sem, *]; done) | (simp [results, Try.results107, go_sem, World.cell?_setCell_same', *]; done) | (simp [results, Try.results107, go_sem]; first | exact ⟨rfl, rfl⟩ | rfl)) rfl ⟨_, rfl, HO5.out, hbw⟩
theorem listsIt_any (m f t : Int) (w : World) : Calls Try.prog 99 #[.int .i64 m, .int .i64 f, .int .i64 t] w fun e w' => e = .returned (.func (.func 106) #[] #[.pointer (some ⟨w.heap.size, 0, none⟩), .pointer (some ⟨w.heap.size + 1, 0, none⟩), .pointer (some ⟨w.heap.size + 2, 0, none⟩)]) ∧ ((w.alloc (.cells #[.int .i64 m] 3)).alloc (.cells #[.int .i64 f] 3)).alloc (.cells #[.int .i64 t] 3) = w' := by
  go_enter Try.func99, Try.ntmps99
  go_wp2
  refine bodyPost_ret (v := .func (.func 106) #[] #[.pointer (some ⟨w.heap.size, 0, none⟩), .pointer (some ⟨w.heap.size + 1, 0, none⟩), .pointer (some ⟨w.heap.size + 2, 0, none⟩)]) (by simp [results, Try.results99, go_sem]) (by rfl) ⟨rfl, rfl⟩
end Go.Proofs.Ytpgdfipikfbjeaa
/- Beside the law of range-func with footprints: small laws. -/
namespace Go.Proofs.Ytpgdfipikfbjeaa
open Go.RowKit Go.Shelf
theorem cells_of_cell {W : World} {p : Addr} {u : Value} (h : W.cell? p = some u) : ∃ o : Obj, W.heap[p.block]? = some o ∧ o.isCells = true := by
  unfold World.cell? at h
  cases ho : W.heap[p.block]? with
  | none => simp [ho] at h
  | some o => cases o <;> first | exact ⟨_, rfl, rfl⟩ | simp [ho] at h
theorem ins_at {w w' : World} {B B' n : Nat} {A : Option Addr} {l : List Int} (h : InS w B A n l) (hB : B ≤ B') (hk : ∀ b off, A = some ⟨b, off, none⟩ → b < B → w'.heap[b]? = w.heap[b]?) : InS w' B' A n l :=
  ⟨h.1, fun hn => by
    obtain ⟨b, off, e, hb, hc⟩ := h.2 hn
    exact ⟨b, off, e, by omega, fun j u hu => (World.cell?_of_block (hk b off e hb)).trans (hc j u hu)⟩⟩
theorem grow_below {own : Foot} {W W' : World} (h : ∀ k, own k → k < W.heap.size) (hb : Below W.heap.size W W') : Grow own W own W' := ⟨hb.os, hb.tape, hb.output, hb.size, fun _ h => .inl h, fun k hk => Nat.lt_of_lt_of_le (h k hk) hb.size, fun k hk _ => hb.block k hk⟩
theorem grow_off {own : Foot} {W W' : World} {Ds : List Nat} {o₀ : Foot} {W0 : World} (h : Grow o₀ W0 own W) (ho : Off Ds W W') (hD : ∀ D ∈ Ds, W0.heap.size ≤ D) : Grow o₀ W0 own W' :=
  ⟨ho.os.trans h.os, ho.tape.trans h.tape, ho.output.trans h.output, by rw [ho.size]; exact h.size, h.from_, fun k hk => by rw [ho.size]; exact h.lt k hk, fun k hk hn => (ho.block k (fun hm => by have := hD k hm; omega)).trans (h.same k hk hn)⟩
theorem stab_off {β : Type} {s : Nat} {J : β → Foot → World → Prop} (hJ : Stab s J) {x : β} {own : Foot} {W W' : World} {Ds : List Nat} (h : J x own W) (ho : Off Ds W W') (hD : ∀ D ∈ Ds, s ≤ D ∧ ¬ own D) : J x own W' :=
  hJ x own W W' h (fun k hk _ => ho.block k (fun hm => by
    have := hD k hm
    rcases hk with h1 | h1 | ⟨o, h1, h2⟩
    · omega
    · exact this.2 h1
    · rw [ho.was k hm] at h1; cases h1; cases h2)) (by rw [ho.size]; exact Nat.le_refl _) ho.os ho.tape ho.output
theorem YieldAt.one {F : Fence} {m : Nat} {P : Program} {l : Nat} {args : Array Value} {W : World} {R R' : World → Prop} (hd : F.depth = none) (m' : Nat)
    (h : YieldAt F m P l args W fun e W' => (e = .returned (.bool true) ∧ R W') ∨ (e = .returned (.bool false) ∧ R' W')) :
    ∃ fn tmps assign body, (Instr.yield l args).run P W = .ok (.round l fn tmps assign body) W ∧ RoundIn F m' P l fn tmps assign body W (fun e W' => ∃ bv : Bool, e = .returned (.bool bv) ∧ (bv = true → R W') ∧ (bv = false → R' W')) := by
  obtain ⟨fn, tmps, assign, body, hy, hR⟩ := h
  refine ⟨fn, tmps, assign, body, hy, RoundIn.any hd (m := m) (RoundIn.mono hR ?_)⟩
  rintro e W' (⟨rfl, hr⟩ | ⟨rfl, hr⟩)
  · exact ⟨true, rfl, fun _ => hr, fun h => absurd h (by decide)⟩
  · exact ⟨false, rfl, fun h => absurd h (by decide), fun _ => hr⟩
theorem stab_mono {β : Type} {s s' : Nat} {J : β → Foot → World → Prop} (h : Stab s J) (hs : s ≤ s') : Stab s' J := fun x own W W' h0 hk hz e1 e2 e3 => h x own W W' h0 (fun k hk' => hk k (by rcases hk' with h1 | h1; exact .inl (by omega); exact .inr h1)) hz e1 e2 e3
theorem roundIn_wd {r : Nat} {m : Nat} {P : Program} {l : Nat} {f : FuncId} {tmps : Array Value} {assign body : Code} {w : World} {R : Ending → World → Prop} (h : RoundIn (Wd none) m P l f tmps assign body w R) : RoundIn (Wd (some r)) m P l f tmps assign body w R := h
theorem owns_same {V V' : World} {base e s n : Nat} {v : Value} {xs : List Value} (h : V.ownsRow base e s v n xs) (hk : ∀ q, v.ownBlock = some q → V'.heap[q]? = V.heap[q]?) : V'.ownsRow base e s v n xs := by
  refine ⟨h.1, h.2.imp id ?_⟩
  rintro ⟨g', cap, cur, e1, h1, h2, h3⟩
  exact ⟨g', cap, cur, e1, h1, (hk g' (by rw [e1]; rfl)).trans h2, h3⟩
theorem own_ne_blk {V : World} {base e s n g t : Nat} {v : Value} {xs : List Value} {cs : Array Value} (h : V.ownsRow base e s v n xs) (hb : Blk V g t cs) (ht : t ≠ e) : v.ownBlock ≠ some g := by
  rcases h.2 with ⟨rfl, _⟩ | ⟨g', cap, cur, rfl, h1, h2, h3⟩
  · simp [Value.ownBlock]
  · intro e2
    have e3 : some g' = some g := e2
    cases e3
    unfold Blk at hb
    rw [h2] at hb
    cases hb
    exact ht rfl
theorem own_ne_own {V : World} {base e s n base' e' s' n' : Nat} {v v' : Value} {xs xs' : List Value} (h : V.ownsRow base e s v n xs) (h' : V.ownsRow base' e' s' v' n' xs') (ht : e ≠ e') : v.ownBlock = none ∨ v.ownBlock ≠ v'.ownBlock := by
  rcases h.2 with ⟨rfl, _⟩ | ⟨g, cap, cur, rfl, h1, h2, h3⟩
  · exact .inl rfl
  · right
    rcases h'.2 with ⟨rfl, _⟩ | ⟨g', cap', cur', rfl, h4, h5, h6⟩
    · simp [Value.ownBlock]
    · intro e2
      have e3 : some g = some g' := e2
      cases e3
      rw [h2] at h5
      cases h5
      exact ht rfl
theorem own_cellsAt {w : World} {base e size n g cap : Nat} {xs : List Value} (h : w.ownsRow base e size (.slice (some ⟨g, 0, none⟩) n cap) n xs) : ∃ cs fr, w.heap[g]? = some (.cells cs e fr) := by
  rcases h.2 with ⟨h1, -⟩ | ⟨g', cap', cur, h1, h2, h3, -⟩
  · cases h1
  · cases h1; exact ⟨_, _, h3⟩
end Go.Proofs.Ytpgdfipikfbjeaa
/- Plain law of lists: all lists of so many plates, in order. -/
namespace Go.Proofs.Ytpgdfipikfbjeaa
def comb : Nat → Nat → Nat → List (List Int)
  | 0, _, _ => [[]]
  | m + 1, f, t => (List.range (t - f)).flatMap fun k => (comb m (f + k + 1) t).map fun r => ((f + k : Nat) : Int) :: r
/-- Those whose first plate is less than i. -/
def combTo (m f t i : Nat) : List (List Int) := (List.range (i - f)).flatMap fun k => (comb m (f + k + 1) t).map fun r => ((f + k : Nat) : Int) :: r
theorem combTo_start (m f t : Nat) : combTo m f t f = [] := by simp [combTo]
theorem combTo_next {m f t i : Nat} (h : f ≤ i) : combTo m f t (i + 1) = combTo m f t i ++ (comb m (i + 1) t).map fun r => (i : Int) :: r := by
  unfold combTo
  rw [show i + 1 - f = (i - f) + 1 by omega, List.range_succ, List.flatMap_append]
  simp only [List.flatMap_cons, List.flatMap_nil, List.append_nil]
  rw [show f + (i - f) = i by omega]
theorem combTo_all {m f t i : Nat} (h : i = max f t) : combTo m f t i = comb (m + 1) f t := by
  subst h
  show combTo m f t (max f t) = (List.range (t - f)).flatMap _
  unfold combTo
  rw [show max f t - f = t - f by omega]
theorem combTo_le (m f t i : Nat) : ∀ j, i ≤ j → (combTo m f t i).length ≤ (combTo m f t j).length := by
  intro j hij
  obtain ⟨d, rfl⟩ : ∃ d, j = i + d := ⟨j - i, by omega⟩
  induction d with
  | zero => exact Nat.le_refl _
  | succ d ih =>
    refine Nat.le_trans (ih (by omega)) ?_
    rcases Nat.lt_or_ge (i + d) f with h | h
    · unfold combTo
      rw [show i + (d + 1) - f = 0 by omega, show i + d - f = 0 by omega]
      exact Nat.le_refl _
    · rw [← Nat.add_assoc, combTo_next h, List.length_append]; omega
theorem comb_len : ∀ (m f t : Nat), ∀ l ∈ comb m f t, l.length = m
  | 0, _, _, l, h => by
    have : l = [] := by simpa [comb] using h
    rw [this]; rfl
  | m + 1, f, t, l, h => by
    simp only [comb, List.mem_flatMap, List.mem_map] at h
    obtain ⟨k, -, r, hr, rfl⟩ := h
    rw [List.length_cons, comb_len m _ _ r hr]
end Go.Proofs.Ytpgdfipikfbjeaa
/- The iterator of lists keeps its promise, whatever the loop. -/
namespace Go.Proofs.Ytpgdfipikfbjeaa
open Go.RowKit Go.Shelf
attribute [local go_sem] Oper.semAt_some
/-- A list of plates: its slice, and what it reads as. -/
structure PE where
  v : Value
  l : List Int
def encP (x : PE) : Array Value := #[x.v]
def RdP (n : Nat) (x : PE) (W : World) : Prop := ∃ A c, x.v = .slice A n c ∧ InS W W.heap.size A n x.l ∧ (A = none → n = 0 ∧ c = 0) ∧ (∀ b off, A = some ⟨b, off, none⟩ → b < W.heap.size ∧ ∃ cs fr, W.heap[b]? = some (.cells cs 3 fr)) ∧ ∀ v ∈ x.l, 0 ≤ v ∧ v < 8
theorem rdP_keep {n : Nat} (x : PE) (W W' : World) (h : RdP n x W) (hk : ∀ (k : Nat) (o : Obj), W.heap[k]? = some o → o.isCells = true → W'.heap[k]? = some o) (hz : W.heap.size ≤ W'.heap.size) : RdP n x W' := by
  obtain ⟨A, c, h1, h2, h4, h5, h8⟩ := h
  refine ⟨A, c, h1, ⟨h2.1, fun hn => ?_⟩, h4, fun b off e => ⟨Nat.lt_of_lt_of_le (h5 b off e).1 hz, by obtain ⟨-, cs, fr, h6⟩ := h5 b off e; exact ⟨cs, fr, hk _ _ h6 rfl⟩⟩, h8⟩
  obtain ⟨b, off, e, hb, hc⟩ := h2.2 hn
  refine ⟨b, off, e, by omega, fun j u hu => ?_⟩
  have h4 := hc j u hu
  obtain ⟨o, ho, hoc⟩ := cells_of_cell h4
  exact (World.cell?_of_block ((hk _ o ho hoc).trans ho.symm)).trans h4
/-- What the iterator reads. -/
structure LstIn (W : World) (own : Foot) (Bm Bf Bt : Nat) (m f t : Nat) : Prop where
  hm : W.cell? ⟨Bm, 0, none⟩ = some (.int .i64 (m : Int))
  hf : W.cell? ⟨Bf, 0, none⟩ = some (.int .i64 (f : Int))
  ht : W.cell? ⟨Bt, 0, none⟩ = some (.int .i64 (t : Int))
  lm : Bm < W.heap.size
  lf : Bf < W.heap.size
  lt : Bt < W.heap.size
  om : ¬ own Bm
  of : ¬ own Bf
  ot : ¬ own Bt
theorem LstIn.grow {W W' : World} {own own' : Foot} {Bm Bf Bt m f t : Nat} (h : LstIn W own Bm Bf Bt m f t) (hg : Grow own W own' W') : LstIn W' own' Bm Bf Bt m f t := by
  have no : ∀ q, q < W.heap.size → ¬ own q → ¬ own' q := fun q hq hn h' => by
    rcases hg.from_ q h' with h1 | h1
    · exact hn h1
    · omega
  exact ⟨(World.cell?_of_block (hg.same _ h.lm h.om)).trans h.hm, (World.cell?_of_block (hg.same _ h.lf h.of)).trans h.hf, (World.cell?_of_block (hg.same _ h.lt h.ot)).trans h.ht, Nat.lt_of_lt_of_le h.lm hg.size, Nat.lt_of_lt_of_le h.lf hg.size, Nat.lt_of_lt_of_le h.lt hg.size, no _ h.lm h.om, no _ h.lf h.of, no _ h.lt h.ot⟩
set_option maxRecDepth 100000 in
set_option maxHeartbeats 2000000 in
theorem comb_zero (f t : Nat) (W : World) (own₀ : Foot) (Bm Bf Bt : Nat) (hin : LstIn W own₀ Bm Bf Bt 0 f t) :
    Gives (Wd none) Try.prog 106 #[.pointer (some ⟨Bm, 0, none⟩), .pointer (some ⟨Bf, 0, none⟩), .pointer (some ⟨Bt, 0, none⟩)] encP (RdP 0) (comb 0 f t).length (fun xs => xs.map PE.l = comb 0 f t) (fun _ => True) own₀ W := by
  intro D l J Jx hJs hJxs hT hown h0
  obtain ⟨W1, hW1⟩ : ∃ W1, W.alloc (.cells #[.func (.yield l) #[] #[]] 27) = W1 := ⟨_, rfl⟩
  have hb1 : Below W.heap.size W W1 := by rw [← hW1]; exact (by repeat' (first | with_reducible assumption | with_reducible exact Below.refl _ _ | refine Below.alloc ?_ ?_ _ | refine Below.setCell ?_ ?_ _ | refine Below.drew ?_ | refine below_drewN ?_ _ | (simp; done) | (simp; omega) | omega))
  have T4 : Blk W1 W.heap.size 27 #[.func (.yield l) #[] #[]] := by rw [← hW1]; exact Blk.new' rfl
  have hg1 : Grow own₀ W own₀ W1 := grow_below hown hb1
  have hin1 := hin.grow hg1
  have hJ1 : J [] own₀ W1 := hJs [] own₀ W W1 h0 (fun k _ hlt => hb1.block k hlt) hb1.size hb1.os hb1.tape hb1.output
  have c1 := hin1.hm
  have l1 := hin1.lm
  have c3 := T4.cell 0
  have l3 := T4.lt
  have HT := hid hT
  have hd0 : (Wd none).depth = none := rfl
  obtain ⟨fn, tmps, assign, body, hy, hR⟩ := YieldAt.one hd0 (D - 1) (HT.out D [] own₀ ⟨.slice none 0 0, []⟩ W1 hJ1 (by show 0 < 1; omega) (fun k hk => Nat.lt_of_lt_of_le (hown k hk) hb1.size) ⟨none, 0, rfl, Sl.none_, fun _ => ⟨rfl, rfl⟩, fun b off e => (by cases e), fun v hv => (by cases hv)⟩)
  simp only [encP] at hy
  clear hin hin1 hT hJ1 h0
  refine callsIn_of_wp_marks (F := Wd none) Try.func106 rfl trivial ?_ rfl
  simp only [Try.ntmps106, List.size_toArray, List.length_cons, List.length_nil, Nat.reduceAdd, Nat.reduceSub, Array.replicate_succ, Array.replicate_zero, List.push_toArray, List.append_toArray, List.nil_append, List.cons_append]
  gi_wp2_with (refine RoundIn.mono hR ?_; rintro e w3 ⟨bv, rfl, ht, hf⟩)
  refine leavesM_marks [] _ (by simp) (by simp) (fun w' ho => ⟨_, results_none rfl _ _ _, ⟨_, rfl⟩, ?_⟩)
  cases bv with
  | true =>
    obtain ⟨own', hj, hgr⟩ := ht rfl
    exact .inl ⟨[⟨.slice none 0 0, []⟩], own', rfl, stab_off hJs hj ho (by simp), grow_off (hg1.trans hgr) ho (by simp)⟩
  | false =>
    obtain ⟨own', hj, hgr⟩ := hf rfl
    exact .inr ⟨_, own', trivial, stab_off hJxs hj ho (by simp), grow_off (hg1.trans hgr) ho (by simp)⟩
end Go.Proofs.Ytpgdfipikfbjeaa
/- The iterator of lists keeps its promise, whatever the loop: the recursion. -/
namespace Go.Proofs.Ytpgdfipikfbjeaa
open Go.RowKit Go.Shelf
attribute [local go_sem] Oper.semAt_some
/-- How far a number in a box is from the end. -/
def boxM (t : Nat) (v : Value) (w : World) : Nat := match v with
  | .pointer (some p) => t - (intOf ((w.cell? p).getD undef)).toNat
  | _ => 0
set_option maxRecDepth 100000 in
set_option maxHeartbeats 4000000 in
theorem comb_gives : ∀ (m f t : Nat) (W : World) (own₀ : Foot) (Bm Bf Bt : Nat), m ≤ 8 → f ≤ 9 → t ≤ 8 → LstIn W own₀ Bm Bf Bt m f t →
    Gives (Wd none) Try.prog 106 #[.pointer (some ⟨Bm, 0, none⟩), .pointer (some ⟨Bf, 0, none⟩), .pointer (some ⟨Bt, 0, none⟩)] encP (RdP m) (comb m f t).length (fun xs => xs.map PE.l = comb m f t) (fun _ => True) own₀ W := by
  intro m
  induction m with
  | zero => intro f t W own₀ Bm Bf Bt _ _ _ hin; exact comb_zero f t W own₀ Bm Bf Bt hin
  | succ m ih =>
    intro f t W own₀ Bm Bf Bt hm8 hf9 ht8 hin
    intro D l J Jx hJs hJxs hT hown h0
    obtain ⟨W1, hW1⟩ : ∃ W1, (((W.alloc (.cells #[.func (.yield l) #[] #[]] 27)).alloc (.cells #[.int .i64 0] 3)).setCell ⟨W.heap.size + 1, 0, none⟩ (.int .i64 f)) = W1 := ⟨_, rfl⟩
    have hb1 : Below W.heap.size W W1 := by rw [← hW1]; exact (by repeat' (first | with_reducible assumption | with_reducible exact Below.refl _ _ | refine Below.alloc ?_ ?_ _ | refine Below.setCell ?_ ?_ _ | refine Below.drew ?_ | refine below_drewN ?_ _ | (simp; done) | (simp; omega) | omega))
    have hz1 : W1.heap.size = W.heap.size + 2 := by rw [← hW1]; simp
    have T4 : Blk W1 W.heap.size 27 #[.func (.yield l) #[] #[]] := by rw [← hW1]; exact ((Blk.new' rfl).alloc _).far (by simp) _
    have T5 : Blk W1 (W.heap.size + 1) 3 #[.int .i64 (f : Int)] := by rw [← hW1]; exact (Blk.new' (by simp)).set_ 0 _
    have hg1 : Grow own₀ W own₀ W1 := grow_below hown hb1
    have hin1 := hin.grow hg1
    have hJ1 : J [] own₀ W1 := hJs [] own₀ W W1 h0 (fun k _ hlt => hb1.block k hlt) hb1.size hb1.os hb1.tape hb1.output
    have c1 := hin.hm
    have c2 := hin.hf
    have c2' := hin.ht
    have l1 := hin.lm
    have l2 := hin.lf
    have l2' := hin.lt
    have HIN := hid hin1
    have HT := hid hT
    have HJ := hid hJ1
    have HJs := hid hJs
    have HJxs := hid hJxs
    have IH := hid ih
    have Hg1 := hid hg1
    have hd0 : (Wd none).depth = none := rfl
    have hn1i : ¬ ((m + 1 : Nat) : Int) = 0 := by omega
    have hn1j : ¬ (m : Int) + 1 = 0 := by omega
    have Hown := hid hown
    have HT4 := hid T4
    have HT5 := hid T5
    have Hz1 := hid hz1
    clear hin hin1 hT hJ1 h0 hJs hJxs ih hg1 hown T4 T5 hz1
    refine callsIn_of_wp_marks (F := Wd none) Try.func106 rfl trivial ?_ rfl
    simp only [Try.ntmps106, List.size_toArray, List.length_cons, List.length_nil, Nat.reduceAdd, Nat.reduceSub, Array.replicate_succ, Array.replicate_zero, List.push_toArray, List.append_toArray, List.nil_append, List.cons_append]
    gi_wp2
    refine wpIn_loop (fun a' wr => ∃ (ds : List Deferred) (u5 u6 u7 u8 u9 u10 u11 u12 u13 u14 u15 u16 u17 u18 u19 u20 u21 u22 u23 u24 u25 u26 u27 u28 u29 u30 u31 u32 : Value), (∃ (i q : Nat) (xs : List PE) (own : Foot), f ≤ i ∧ i ≤ max f t ∧ u5 = .pointer (some ⟨q, 0, none⟩) ∧ Hid (Blk wr q 3 #[.int .i64 (i : Int)]) ∧ ¬ own q ∧ W.heap.size < q ∧ Hid (xs.map PE.l = combTo m f t i) ∧ Hid (J xs own wr) ∧ Hid (Grow own₀ W1 own wr) ∧ Hid (MarksO own W1.heap.size wr.heap.size wr ds)) ∧ a' = { tmps := #[.func (.yield l) #[] #[], .pointer (some ⟨Bm, 0, none⟩), .pointer (some ⟨Bf, 0, none⟩), .pointer (some ⟨Bt, 0, none⟩), .pointer (some ⟨W.heap.size, 0, none⟩), u5, u6, u7, u8, u9, u10, u11, u12, u13, u14, u15, u16, u17, u18, u19, u20, u21, u22, u23, u24, u25, u26, u27, u28, u29, u30, u31, u32], defers := ds }) (fun a' wr => boxM (t + 1) (a'.tmps.getD 5 undef) wr) ?_ ?_
    · (repeat apply Exists.intro); refine ⟨?_, rfl⟩
      exact ⟨f, W.heap.size + 1, [], own₀, by omega, by omega, rfl, HT5, fun h => by have := Hown.out _ h; omega, by omega, hid (combTo_start m f t).symm, HJ, hid (Grow.refl Hg1.out.lt), hid (MarksO.nil _ _ _ _)⟩
    · intro _ wr hinv; obtain ⟨ds, hinv⟩ := hinv; obtain ⟨u5, hinv⟩ := hinv; obtain ⟨u6, hinv⟩ := hinv; obtain ⟨u7, hinv⟩ := hinv; obtain ⟨u8, hinv⟩ := hinv; obtain ⟨u9, hinv⟩ := hinv; obtain ⟨u10, hinv⟩ := hinv; obtain ⟨u11, hinv⟩ := hinv; obtain ⟨u12, hinv⟩ := hinv; obtain ⟨u13, hinv⟩ := hinv; obtain ⟨u14, hinv⟩ := hinv; obtain ⟨u15, hinv⟩ := hinv; obtain ⟨u16, hinv⟩ := hinv; obtain ⟨u17, hinv⟩ := hinv; obtain ⟨u18, hinv⟩ := hinv; obtain ⟨u19, hinv⟩ := hinv; obtain ⟨u20, hinv⟩ := hinv; obtain ⟨u21, hinv⟩ := hinv; obtain ⟨u22, hinv⟩ := hinv; obtain ⟨u23, hinv⟩ := hinv; obtain ⟨u24, hinv⟩ := hinv; obtain ⟨u25, hinv⟩ := hinv; obtain ⟨u26, hinv⟩ := hinv; obtain ⟨u27, hinv⟩ := hinv; obtain ⟨u28, hinv⟩ := hinv; obtain ⟨u29, hinv⟩ := hinv; obtain ⟨u30, hinv⟩ := hinv; obtain ⟨u31, hinv⟩ := hinv; obtain ⟨u32, hinv⟩ := hinv; obtain ⟨hrel, ha⟩ := hinv; subst ha; dsimp only
      obtain ⟨i, q, xs, own, hfi, hit, rfl, hT5, hoq, hWq, hxs, hJx, hgr, hmk⟩ := hrel
      have hinr := HIN.out.grow hgr.out
      have T4r : Blk wr W.heap.size 27 #[.func (.yield l) #[] #[]] := (hgr.out.same _ HT4.out.lt (fun h => by have := Hown.out _ h; omega)).trans HT4.out
      have r1 := hinr.hm
      have r3 := hinr.ht
      have k1 := hinr.lm
      have k3 := hinr.lt
      have r5 := hT5.out.cell 0
      have k5 := hT5.out.lt
      have HINr := hid hinr
      have HT4r := hid T4r
      have hzr := hgr.out.size
      clear hinr T4r c1 c2 c2' l1 l2 l2'
      by_cases hle : i < t
      · have hlei : (i : Int) < t := by omega
        have zm : IntKind.i64.wrap ((m : Int) + 1 - 1) = m := by rw [show (m : Int) + 1 - 1 = m by omega]; exact IntWalk.i64_in _ (by omega)
        have zi : IntKind.i64.wrap ((i : Int) + 1) = (i : Int) + 1 := IntWalk.i64_in _ (by omega)
        have hlenN : ∀ pre : List PE, pre.length < (comb m (i + 1) t).length → (xs ++ pre).length < (comb (m + 1) f t).length := fun pre hpre => by
          have e1 := congrArg List.length hxs.out
          rw [List.length_map] at e1
          have e2 := combTo_le m f t (i + 1) (max f t) (by omega)
          have e3 := congrArg List.length (combTo_next (m := m) (t := t) hfi)
          rw [List.length_append, List.length_map] at e3
          rw [List.length_append, ← combTo_all (m := m) (f := f) (t := t) rfl]
          omega
        gi_wp2_with (fail)
        obtain ⟨Z, hZ⟩ : ∃ Z, wr.heap.size = Z := ⟨_, rfl⟩
        have hc := listsIt_any (m : Int) ((i : Int) + 1) (t : Int) wr
        rw [hZ] at hc
        refine (calls_wd hc).mono ?_
        rintro e X6 ⟨rfl, hX6⟩
        have Hb06 : Hid (Below wr.heap.size wr X6) := hid (by rw [← hX6]; exact (by repeat' (first | with_reducible assumption | with_reducible exact Below.refl _ _ | refine Below.alloc ?_ ?_ _ | refine Below.setCell ?_ ?_ _ | refine Below.drew ?_ | refine below_drewN ?_ _ | (simp; done) | (simp; omega) | omega)))
        have HN1 : Hid (Blk X6 Z 3 #[.int .i64 (m : Int)]) := hid (by rw [← hX6]; exact ((Blk.new' hZ).alloc _).alloc _)
        have HN2 : Hid (Blk X6 (Z + 1) 3 #[.int .i64 ((i : Int) + 1)]) := hid (by rw [← hX6]; exact (Blk.new' (by simp [hZ])).alloc _)
        have HN3 : Hid (Blk X6 (Z + 2) 3 #[.int .i64 (t : Int)]) := hid (by rw [← hX6]; exact Blk.new' (by simp [hZ]))
        have Hz6 : Hid (X6.heap.size = Z + 3) := hid (by rw [← hX6]; simp [hZ])
        clear hX6 r1 r3 r5 k1 k3
        gi_wp2
        have hB : X6.heap.size = X6.heap.size := rfl
        have hzw6 := Hb06.out.size
        have hownlt : ∀ j, own j → j < wr.heap.size := hgr.out.lt
        have T46 : Blk X6 W.heap.size 27 #[.func (.yield l) #[] #[]] := HT4r.out.below Hb06.out HT4r.out.lt
        have T56 : Blk X6 q 3 #[.int .i64 (i : Int)] := hT5.out.below Hb06.out k5
        have hT4n : ¬ own W.heap.size := fun h => by
          rcases hgr.out.from_ _ h with h1 | h1
          · have := Hown.out _ h1; omega
          · have := Hz1.out; omega
        have hJ6 : J xs own X6 := HJs.out xs own wr X6 hJx.out (fun j _ hlt => Hb06.out.block j hlt) Hb06.out.size Hb06.out.os Hb06.out.tape Hb06.out.output
        have hWX : W.heap.size ≤ X6.heap.size := by have := Hz1.out; omega
        refine with_frame fun TT hTT => ?_
        refine wpIn_rangeFunc_foot (F := Wd none) (α := PE) X6.heap.size hB hd0 rfl (gf := 106) (lb := #[.pointer (some ⟨Z, 0, none⟩), .pointer (some ⟨Z + 1, 0, none⟩), .pointer (some ⟨Z + 2, 0, none⟩)]) (by rw [hTT]; rfl) trivial (enters_of Try.func106 (by kernel_rfl) rfl)
          (encs := encP) (Rd := RdP m) (Nb := (comb m (i + 1) t).length) (S := fun ys => ys.map PE.l = comb m (i + 1) t) (Sp := fun _ => True) own (fun j hj => by have := hownlt j hj; omega) ?hseq rdP_keep (fun _ => rfl)
          (fun ys ow V => (∃ zs : List PE, zs.map PE.l = ys.map (fun y => (i : Int) :: y.l) ∧ J (xs ++ zs) ow V) ∧ Blk V W.heap.size 27 #[.func (.yield l) #[] #[]] ∧ ¬ ow W.heap.size ∧ Blk V q 3 #[.int .i64 (i : Int)] ∧ ¬ ow q) (fun c _ ow V => c = .ret ∧ ∃ zs, Jx (xs ++ zs) ow V) ?hI ?hIx ⟨⟨[], rfl, by rw [List.append_nil]; exact hJ6⟩, T46, hT4n, T56, hoq⟩
          (fun x a' V => a' = { tmps := (TT.setIfInBounds 23 x.v).setIfInBounds 6 x.v, defers := [] }) ?assign (fun x a' V o h => h) ?body ?done ?stop
        case hseq =>
          intro W' hW'
          have hz6 := Hz6.out
          have hzw' := hW'.size
          refine IH.out (i + 1) t W' _ Z (Z + 1) (Z + 2) (by omega) (by omega) ht8 ⟨?_, ?_, ?_, by omega, by omega, by omega, ?_, ?_, ?_⟩
          · exact (HN1.out.below hW' HN1.out.lt).cell 0
          · exact (HN2.out.below hW' HN2.out.lt).cell 0
          · exact (HN3.out.below hW' HN3.out.lt).cell 0
          all_goals
            rintro (h | h | h)
            · have := hownlt _ h; omega
            · omega
            · omega
        case hI =>
          rintro ys ow V V' ⟨⟨zs, h0, h1⟩, h2, h3, h4, h5⟩ hk hz e1 e2 e3
          exact ⟨⟨zs, h0, stab_mono HJs.out hWX _ ow V V' h1 hk hz e1 e2 e3⟩, (hk _ (.inl (by have := T46.lt; omega)) h2.lt).trans h2, h3, (hk _ (.inl (by have := T56.lt; omega)) h4.lt).trans h4, h5⟩
        case hIx =>
          rintro c' ys ow V V' ⟨h1, zs, h2⟩ hk hz e1 e2 e3
          exact ⟨h1, zs, stab_mono HJxs.out hWX _ ow V V' h2 hk hz e1 e2 e3⟩
        case assign =>
          rintro l' x V K hrd hV hK
          simp only [encP, hTT]
          gi_wp2
          exact hK _ _ (Below.refl _ _) (by rw [hTT]; rfl)
        case body =>
          rintro l' pre ow x a' V ⟨⟨zs, h0, h1⟩, h2, h3, h4, h5⟩ hNb hlt hnB hrd rfl hV
          obtain ⟨xv, xl⟩ := x
          obtain ⟨A, c, hxv, hxin, hAn, hAb, hxb⟩ := hrd
          have hxv' : xv = .slice A m c := hxv
          subst hxv'
          have hxin' : InS V V.heap.size A m xl := hxin
          have q4 := h2.cell 0
          have p4 := h2.lt
          have q5 := h4.cell 0
          have p5 := h4.lt
          have hT4 := hid h2
          have hT5v := hid h4
          have hJJ := hid h1
          have HX := hid hxin'
          have hmx : Try.prog.follows .mixedOrders = true := by kernel_rfl
          have HAn := hid hAn
          have Hxb := hid (show ∀ v ∈ (i : Int) :: xl, 0 ≤ v ∧ v < 8 from fun v hv => (List.mem_cons.1 hv).elim (fun e => by rw [e]; omega) (hxb v))
          have HAb := hid hAb
          clear h1 h2 h4 hxin hxv hxin' hAn hAb hxb T46 T56
          simp only [hTT, List.setIfInBounds_toArray, List.set_cons_zero, List.set_cons_succ]
          gi_wp2
          have hzl : zs.length = pre.length := by have := congrArg List.length h0; simpa using this
          have hcat := concat_any ((V.alloc (.cells #[.int .i64 (i : Int)] 3)).alloc (.cells #[.slice (some ⟨V.heap.size, 0, none⟩) 1 1, .slice A m c] 25)).drew (V.heap.size + 1) (some ⟨V.heap.size, 0, none⟩) A 1 1 m c [(i : Int)] xl (Blk.new' (by simp)) ⟨rfl, fun _ => ⟨V.heap.size, 0, rfl, (by first | (simp; done) | (simp; omega) | omega), fun j u hj => (((Blk.new' rfl : Blk (V.alloc (.cells #[.int .i64 (i : Int)] 3)) V.heap.size 3 _).alloc _).cell (0 + j)).trans (by rw [Nat.zero_add]; simpa [cI] using hj)⟩⟩ (HX.out.below (by exact (by repeat' (first | with_reducible assumption | with_reducible exact Below.refl _ _ | refine Below.alloc ?_ ?_ _ | refine Below.setCell ?_ ?_ _ | refine Below.drew ?_ | refine below_drewN ?_ _ | (simp; done) | (simp; omega) | omega))) (by first | (simp; done) | (simp; omega) | omega)) (fun h => by cases h) HAn.out (by omega) (by omega)
          have Hcat := hid hcat
          clear hcat
          clear HIN HJ HJxs IH Hg1 Hown HT4 HT5 Hz1 hxs hJx hgr hmk HINr HT4r HN1 HN2 HN3 Hb06 Hz6 hB hzw6 hownlt hT4n hJ6 hWX hW1 hb1 zm zi hlei hn1i hn1j hzr hc hT5
          gi_region_with_o (first | (gi_at_call 107; refine (calls_wd Hcat.out).mono ?_; rintro e X7 ⟨v7, rfl, ho7, hb7⟩; rw [show ([(i : Int)] ++ xl).length = m + 1 by (have := HX.out.len; simp; omega)] at ho7; obtain ⟨g7, c7, hv7, hg7, hlt7⟩ := World.ownsRow.form ho7 (Nat.succ_pos _); subst hv7; have hcs7 := own_cellsAt ho7; have hin7 := Sl.of_own ho7; have hb17 : Below V.heap.size V X7 := Below.trans (by exact (by repeat' (first | with_reducible assumption | with_reducible exact Below.refl _ _ | refine Below.alloc ?_ ?_ _ | refine Below.setCell ?_ ?_ _ | refine Below.drew ?_ | refine below_drewN ?_ _ | (simp; done) | (simp; omega) | omega))) (hb7.mono (by first | (simp; done) | (simp; omega) | omega)); have q4' := (hT4.out.below hb17 p4).cell 0; have p4' := (hT4.out.below hb17 p4).lt; have hJ7 : J (xs ++ zs) ow X7 := HJs.out _ ow V X7 hJJ.out (fun k _ hlt' => hb17.block k hlt') hb17.size hb17.os hb17.tape hb17.output; obtain ⟨fn, tmps, asg, bdy, hy, hR⟩ := YieldAt.one hd0 (D - 1 - 1 - 1) (HT.out D (xs ++ zs) ow ⟨.slice (some ⟨g7, 0, none⟩) (m + 1) c7, (i : Int) :: xl⟩ X7 hJ7 (hlenN zs (by omega)) (fun k hk => Nat.lt_of_lt_of_le (hlt k hk) hb17.size) ⟨_, _, rfl, hin7, (fun h => (by cases h)), (fun b off e => (by cases e; exact ⟨hlt7, hcs7⟩)), Hxb.out⟩); simp only [encP] at hy) | (refine RoundIn.mono (roundIn_wd hR) ?_; rintro e V3 ⟨bv, rfl, ht3, hf3⟩))
          all_goals
            have hgB : Grow ow V ow X7 := grow_below hlt hb17
            cases bv with
            | true =>
              obtain ⟨ow', hj', hg'⟩ := ht3 rfl
              clear ht3 hf3
              gi_wp2
              have hgc := hgB.trans hg'
              refine ⟨ow', ⟨⟨zs ++ [⟨.slice (some ⟨g7, 0, none⟩) (m + 1) c7, (i : Int) :: xl⟩], by rw [List.map_append, List.map_append, h0]; rfl, by rw [← List.append_assoc]; exact hj'⟩, (hgc.same _ p4 h3).trans hT4.out, fun h => ?_, (hgc.same _ p5 h5).trans hT5v.out, fun h => ?_⟩, hgc⟩
              · rcases hgc.from_ _ h with h4 | h4
                · exact h3 h4
                · omega
              · rcases hgc.from_ _ h with h4 | h4
                · exact h5 h4
                · omega
            | false =>
              obtain ⟨ow', hj', hg'⟩ := hf3 rfl
              clear ht3 hf3
              gi_wp2
              exact ⟨ow', ⟨rfl, _, by rw [← List.append_assoc]; exact hj'⟩, hgB.trans hg'⟩
        case done =>
          rintro Dm ys ow V hDm hys ⟨⟨zs, h0, h1⟩, h2, h3, h4, h5⟩ hg hnB rfl hK
          have hgx : Grow own wr ow V := (grow_below hownlt Hb06.out).trans hg
          have hmx : MarksO ow W1.heap.size X6.heap.size V ds := hmk.out.step hzw6 (fun E hE hn h => by
            rcases hgx.from_ E h with h4 | h4
            · exact hn h4
            · omega) (fun E hE hn => hgx.same E hE hn)
          have hmx2 := hmx.push (by omega : W1.heap.size ≤ X6.heap.size) (Nat.le_refl _) (fun h => (hnB _ h).1 rfl) hK
          have hVlt : X6.heap.size < V.heap.size := (Array.getElem?_eq_some_iff.1 hK).1
          have hxs2 : Hid ((xs ++ zs).map PE.l = combTo m f t (i + 1)) := hid (by
            rw [List.map_append, hxs.out, h0, combTo_next hfi, ← hys, List.map_map]; rfl)
          have hgr2 := hid (hgr.out.trans hgx)
          have hT5V := hid h4
          have r5 := h4.cell 0
          have k5 := h4.lt
          have zi2 : IntKind.i64.wrap ((i : Int) + 1) = (i : Int) + 1 := IntWalk.i64_in _ (by omega)
          obtain ⟨V2, hV2⟩ : ∃ V2, V.alloc (.cells #[.int .i64 ((i : Int) + 1)] 3) = V2 := ⟨_, rfl⟩
          have hbV : Below V.heap.size V V2 := by rw [← hV2]; exact (by repeat' (first | with_reducible assumption | with_reducible exact Below.refl _ _ | refine Below.alloc ?_ ?_ _ | refine Below.setCell ?_ ?_ _ | refine Below.drew ?_ | refine below_drewN ?_ _ | (simp; done) | (simp; omega) | omega))
          have hzV : V2.heap.size = V.heap.size + 1 := by rw [← hV2]; simp
          have hN5 : Hid (Blk V2 V.heap.size 3 #[.int .i64 ((i + 1 : Nat) : Int)]) := hid (by rw [← hV2]; exact Blk.new' rfl)
          have hgB : Grow ow V ow V2 := grow_below hgx.lt hbV
          have hmx3 := hid (hmx2.step (M' := V2.heap.size) (W' := V2) (by omega) (fun _ _ h => h) (fun E hE _ => hbV.block E (by omega)))
          have hJ2 : Hid (J (xs ++ zs) ow V2) := hid (HJs.out _ ow V V2 h1 (fun k _ hlt => hbV.block k hlt) hbV.size hbV.os hbV.tape hbV.output)
          have hgr3 := hid (hgr2.out.trans hgB)
          have hnow : ¬ ow V.heap.size := fun h => by have := hgx.lt _ h; omega
          have hqV : W.heap.size < V.heap.size := by omega
          simp only [hTT]
          clear h0 h1 h2 h3 h4 h5 hmx hmx2 hgx hys hbV hgB
          gi_wp2
          refine ⟨⟨_, _, ⟨i + 1, by omega, by omega, V.heap.size, rfl, hN5, xs ++ zs, ow, hnow, hqV, hxs2, hJ2, hgr3, by rw [← hzV]; exact hmx3⟩, rfl, rfl⟩, ?_⟩
          have e1 := hN5.out.cell 0
          have e2 := hT5.out.cell 0
          simp only [boxM, e1, e2]
          simp [intOf]
          omega
        case stop =>
          rintro Dm c' ys ow V hDm - ⟨rfl, zs, h1⟩ hg hnB rfl hK
          have hgx : Grow own wr ow V := (grow_below hownlt Hb06.out).trans hg
          have hmx : MarksO ow W1.heap.size X6.heap.size V ds := hmk.out.step hzw6 (fun E hE hn h => by
            rcases hgx.from_ E h with h4 | h4
            · exact hn h4
            · omega) (fun E hE hn => hgx.same E hE hn)
          have hmx2 := hmx.push (by omega : W1.heap.size ≤ X6.heap.size) (Nat.le_refl _) (fun h => (hnB _ h).1 rfl) hK
          have hgr2 := Hg1.out.trans (hgr.out.trans hgx)
          simp only [hTT]
          gi_wp2
          refine hmx2.leaves (fun Ds w' hDs ho => ⟨_, results_none rfl _ _ _, ⟨_, rfl⟩, .inr ⟨_, ow, stab_off HJxs.out h1 ho (fun E hE => ⟨by have := (hDs E hE).1; have := Hz1.out; omega, (hDs E hE).2⟩), grow_off hgr2 ho (fun E hE => by have := (hDs E hE).1; have := Hz1.out; omega)⟩⟩)
      · have hlei : ¬ (i : Int) < t := by omega
        gi_wp2
        refine hmk.out.leaves (fun Ds w' hDs ho => ⟨_, results_none rfl _ _ _, ⟨_, rfl⟩, .inl ⟨xs, by rw [hxs.out]; exact combTo_all (by omega), own, stab_off HJs.out hJx.out ho (fun E hE => ⟨by have := (hDs E hE).1; have := Hz1.out; omega, (hDs E hE).2⟩), grow_off (Hg1.out.trans hgr.out) ho (fun E hE => by have := (hDs E hE).1; have := Hz1.out; omega)⟩⟩)
end Go.Proofs.Ytpgdfipikfbjeaa
/- The law of drawn regions under a condition on worlds, in a round. -/
namespace Go.Proofs.Ytpgdfipikfbjeaa
open Go.RowKit
theorem lupon_append_own_at {P : Program} (w : World) {o : Oper} {a : Act} {K : Act → World → Prop} (s x : Operand) (t : TypeId)
    (ho : o.op = .call { callee := .builtin .append, args := #[s, x], argTypes := #[t, t] })
    (base : Nat) (e : TypeId) (i : TypeInfo) (z : Value) (size bytes : Nat) (ht : P.underlying t = some (.slice e)) (hi : P.info? e = some i) (hz : i.zero = some z)
    (hsize : i.size = size) (hby : i.bytes = bytes) (hzs : z.cells.size = size) (hsz : 0 < size)
    (v : Value) (n : Nat) (xs : List Value) (hs : a.eval s = v) (hown : w.ownsRow base e size v n xs)
    (ad : Addr) (m c : Nat) (news : List Value) (hx : a.eval x = .slice (some ad) m c) (hl : news.length = m * size) (hnews : ∀ j u, news[j]? = some u → w.cell? (ad.add j) = some u) (h1 : ∀ u ∈ news, u.oneCell' = true)
    (h63 : n + m ≤ maxLen) (hbytes : (n + m) * bytes ≤ 140737488355328) (hbase : base ≤ w.heap.size)
    (h : ∀ v' w', w'.ownsRow base e size v' (n + m) (xs ++ news) → w.grownBy w' v.ownBlock → (v'.ownBlock = v.ownBlock ∨ v'.ownBlock = some w.heap.size) → K (a.put o.dst v') w') : LUpon P o a K ((execOp a.eval o).run P w) := by
  obtain ⟨v', w', hr, h2, h3, h4, h5⟩ := run_append_own_at (P := P) w base t o.type e i z size bytes ht hi hz hsize hby hzs hsz v n xs hown ad m c news hl hnews h1 h63 hbytes hbase
  unfold execOp
  simp only [ho, resolve, invoke, builtin, Sem.run_bind, Sem.run_pure, Result.andThen_ok, List.map_toArray, List.map_cons, List.map_nil, hs, hx, hr]
  exact h v' w' h2 h3 h5
end Go.Proofs.Ytpgdfipikfbjeaa
namespace Go.Proofs.Ytpgdfipikfbjeaa.Sx
open Go
section
variable {P : Program} {ops : Array Oper} {md : Region.Mode} {S : World → Prop} {ro : Option Nat} {n : Nat}
theorem wpAnyIn_of_M {Q : Act → World → Prop} {Q' : Exit → Act → World → Prop} (hd : noDefer ops = true) (hQ : ∀ a w, Q a w → Q' .normal a w) : ∀ (f : Nat) (listed : Array Bool) (a : Act) (w : World), S w → wpM P md ops S Q f listed a w → wpAnyIn (Wd ro) n P md ops Q' f listed a w
  | 0, _, _, _, hX, h => ⟨h.1, hQ _ _ (h.2 _ (RowKit.Below.refl _ _) hX)⟩
  | f + 1, _, _, w, hX, h =>
    have h' := h w (RowKit.Below.refl _ _) hX
    ⟨fun h0 => hQ _ _ (h'.1 h0), fun i hi => wpOpIn_of_lOp hd (fun _ _ hk => wpAnyIn_of_M hd hQ f _ _ _ hk.1 hk.2) (h'.2 i hi)⟩
theorem wpIn_region_el (S : World → Prop) (hS : ∀ W W', S W → Ext W W' → S W') {id : Nat} {Q : Exit → Act → World → Prop} {a : Act} {w : World} {l : List Oper} (E : List Nat) (g : Nat) (hm : P.follows .mixedOrders = true)
    (hB : (noDefer l.toArray && Region.noSelect l.toArray && decide (E.length + g = l.length) && earlyB .any l.toArray E (Array.replicate l.length false)) = true) (h0 : S w.drew)
    (h : wpE P l.toArray S (fun a' => wpM P .any l.toArray S (fun a w => wpListIn (Wd ro) n P l.toArray Q [] a w) g (setAll (Array.replicate l.length false) E) a' w.drew) (pick l.toArray E) a) : (Code.region id l.toArray true).wpIn (Wd ro) n P Q a w := by
  simp only [Bool.and_eq_true, decide_eq_true_eq] at hB
  obtain ⟨⟨⟨hd, hsel⟩, hn⟩, hE⟩ := hB
  refine wpIn_region_any hm ?_
  have := wpM_early (w := w.drew) hS hsel E g _ a hE h
  rw [hn] at this
  have := wpAnyIn_of_M (ro := ro) (n := n) (Q' := Q) hd (fun _ _ hk => hk) _ _ _ _ h0 this
  simpa using this
/-- The region law of late operations of which something is said, in a round. -/
theorem wpIn_region_rel (S : World → Prop) (hS : ∀ W W', S W → Ext W W' → S W') {id : Nat} {Q : Exit → Act → World → Prop} {a : Act} {w : World} {l : List Oper} (E : List Nat) (L : List (Nat × List Nat)) (hm : P.follows .mixedOrders = true)
    (hB : (noDefer l.toArray && Region.noSelect l.toArray && decide (E.length + L.length = l.length) && earlyB .any l.toArray E (Array.replicate l.length false)) = true) (hR : relB .any l.toArray (setAll (Array.replicate l.length false) E) L = true) (h0 : S w.drew)
    (h : wpE P l.toArray S (fun a' => Rel P l.toArray S (fun a W => wpListIn (Wd ro) n P l.toArray Q [] a W) a' [] (pickD l.toArray L)) (pick l.toArray E) a) : (Code.region id l.toArray true).wpIn (Wd ro) n P Q a w :=
  wpIn_region_el S hS E L.length hm hB h0 (wpE_mono (fun _ hk => wpM_rel L hR h0 hk) _ _ h)
end
end Go.Proofs.Ytpgdfipikfbjeaa.Sx
