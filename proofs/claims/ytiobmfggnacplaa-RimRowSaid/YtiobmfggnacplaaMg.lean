/- Texts of the proof, laid together by program. -/
import Derived.Test.YtiobmfggnacplaaMd
import Derived.Test.YtiobmfggnacplaaMf
import Derived.Test.YtiobmfggnacplaaMb
import Derived.Test.YtiobmfggnacplaaMa
import Derived.Maps.OwnIn
import Derived.Deep.RegionLaw
set_option linter.unusedSimpArgs false
set_option linter.unusedVariables false
/- (As RC, for an iterator that writes into rows of its own: what it hands on is not kept.) A range over a function, where the loop's blocks are told apart from the iterator's. Over any program. -/
namespace Go.Proofs.Ytiobmfggnacplaa
open Go.RowKit
/-- What is said of the loop's blocks, and of those below s, stays while others turn. -/
def StabW {β : Type} (s : Nat) (J : β → Foot → World → Prop) : Prop := ∀ x own W W', J x own W → (∀ k, (k < s ∨ own k) → k < W.heap.size → W'.heap[k]? = W.heap[k]?) → W.heap.size ≤ W'.heap.size → W'.os = W.os → W'.tape = W.tape → W'.output = W.output → J x own W'
/-- What a loop promises for an element that has come, and what it asks. -/
def TakesW {α : Type} (F : Fence) (P : Program) (l : Nat) (encs : α → Array Value) (Rd : α → World → Prop) (Nb : Nat) (J Jx : List α → Foot → World → Prop) : Prop :=
  ∀ m pre own x W, J pre own W → pre.length < Nb → (∀ k, own k → k < W.heap.size) → Rd x W → YieldAt F m P l (encs x) W fun e W' =>
    (e = .returned (.bool true) ∧ ∃ own', J (pre ++ [x]) own' W' ∧ Grow own W own' W') ∨ (e = .returned (.bool false) ∧ ∃ own', Jx (pre ++ [x]) own' W' ∧ Grow own W own' W')
/-- What an iterator promises whatever the loop: own₀ are the loop's blocks at the start. -/
def GivesW {α : Type} (F : Fence) (P : Program) (gf : FuncId) (lb : Array Value) (encs : α → Array Value) (Rd : α → World → Prop) (Nb : Nat) (S Sp : List α → Prop) (own₀ : Foot) (W : World) : Prop :=
  ∀ (d l : Nat) (J Jx : List α → Foot → World → Prop), StabW W.heap.size J → StabW W.heap.size Jx → TakesW F P l encs Rd Nb J Jx → (∀ k, own₀ k → k < W.heap.size) → J [] own₀ W →
    CallsIn F d P gf (#[.func (.yield l) #[] #[]] ++ lb) W fun e W' => (∃ v, e = .returned v) ∧
      ((∃ xs own', S xs ∧ J xs own' W' ∧ Grow own₀ W own' W') ∨ (∃ pre own', Sp pre ∧ Jx pre own' W' ∧ Grow own₀ W own' W'))
theorem wpIn_rangeFunc_footW {F : Fence} {n : Nat} {P : Program} {α : Type} {g : Operand} {ps : Array Tmp} {assign body : Code} {Q : Exit → Act → World → Prop} {a : Act} {w : World} (B : Nat) (hB : w.heap.size = B)
    (hd : F.depth = none) (hro : F.round = none) {gf : Nat} {lb : Array Value} (hg : a.eval g = .func (.func gf) #[] lb) (hFg : F.fn gf) (eg : ∀ args w, (callFunc gf args).run P w = .ok (.enter gf args) w)
    {encs : α → Array Value} {Rd : α → World → Prop} {Nb : Nat} {S Sp : List α → Prop} (own₀ : Foot) (hown : ∀ k, own₀ k → k < B)
    (hseq : ∀ W, Below B w W → GivesW F P gf lb encs Rd Nb S Sp (fun k => own₀ k ∨ k = B ∨ k = B + 1) W)
    (hRd : ∀ x W W', Rd x W → (∀ (k : Nat) (o : Obj), W.heap[k]? = some o → o.isCells = true → W'.heap[k]? = some o) → W.heap.size ≤ W'.heap.size → Rd x W') (hps : ∀ x, (encs x).size = ps.size)
    (I : List α → Foot → World → Prop) (Ix : Code → List α → Foot → World → Prop) (hI : StabW B I) (hIx : ∀ c, StabW B (Ix c)) (h0 : I [] own₀ w)
    (Ax : α → Act → World → Prop)
    (hassign : ∀ (l : Nat) (x : α) (W : World) (K : Act → World → Prop), Rd x W → B + 2 ≤ W.heap.size → (∀ a' W', Below W.heap.size W W' → Ax x a' W' → K a' W') →
      assign.wpIn (F.inRound l) (n - 1 - 1) P (Exit.then K (fun _ _ _ => False)) { tmps := (ps.zip (encs x)).foldl (fun t (p, v) => t.setIfInBounds p v) a.tmps, defers := [] } W)
    (hAx : ∀ x a' W o, Ax x a' W → Ax x a' (W.putObj (B + 1) o))
    (hbody : ∀ (l : Nat) (pre : List α) (own : Foot) (x : α) (a' : Act) (W : World), I pre own W → pre.length < Nb → (∀ k, own k → k < W.heap.size) → (∀ k, own k → k ≠ B ∧ k ≠ B + 1) → Rd x W → Ax x a' W → B + 2 ≤ W.heap.size → body.wpIn (F.inRound l) (n - 1 - 1) P (footPost I Ix (pre ++ [x]) own W) a' W)
    (hdone : ∀ (D : Nat) (xs : List α) (own' : Foot) (W : World), B ≤ D → S xs → I xs own' W → Grow own₀ w own' W → (∀ k, own' k → k ≠ B ∧ k ≠ B + 1) → D = B → W.heap[D]? = some (.deferred (some [])) → Q .normal { a with defers := { target := .collected D, args := #[] } :: a.defers } W)
    (hstop : ∀ (D : Nat) (c : Code) (pre : List α) (own' : Foot) (W : World), B ≤ D → Sp pre → Ix c pre own' W → Grow own₀ w own' W → (∀ k, own' k → k ≠ B ∧ k ≠ B + 1) → D = B → W.heap[D]? = some (.deferred (some [])) → c.wpIn F n P Q { a with defers := { target := .collected D, args := #[] } :: a.defers } W) :
    (Code.rangeFunc g ps assign body).wpIn F n P Q a w := by
  refine wpIn_rangeFunc fun fn hfn => ?_
  rw [hro]
  let rec_ : LoopState → Option Code → Loop := fun st pe => { state := st, pending := pe, fn, tmps := a.tmps, params := ps, assign, body, defers := B }
  obtain ⟨W1, hW1⟩ : ∃ W1, (w.alloc (.deferred (some []))).alloc (.loop (rec_ .ready none)) = W1 := ⟨_, rfl⟩
  have hz1 : W1.heap.size = B + 2 := by rw [← hW1]; simp [hB]
  have hL1 : W1.heap[B + 1]? = some (.loop (rec_ .ready none)) := by
    rw [← hW1, ← hB]; have := World.alloc_heap_new (w.alloc (.deferred (some []))) (.loop (rec_ .ready none)); rwa [World.size_alloc] at this
  have hK1 : W1.heap[B]? = some (.deferred (some [])) := by
    rw [← hW1, ← hB]; exact (Below.heap_alloc _ _ _ (by simp)).trans (World.alloc_heap_new w _)
  have hb1 : Below B w W1 := by
    rw [← hW1, ← hB]; exact ((Below.refl _ w).alloc (Nat.le_refl _) _).alloc (by simp) _
  have hg1 : ∀ own, (∀ k, own k → k < B) → Grow own w own W1 := fun own h => ⟨hb1.os, hb1.tape, hb1.output, by omega, fun _ h => .inl h, fun k hk => by have := h k hk; omega, fun k hk _ => hb1.block k (by omega)⟩
  -- a put of the loop's own record
  have put : ∀ {β : Type} (J : β → Foot → World → Prop) (x : β) (own : Foot) (W : World) (o : Obj), StabW B J → J x own W → (∀ k, own k → k ≠ B ∧ k ≠ B + 1) → J x own (W.putObj (B + 1) o) := fun J x own W o hJ h hne =>
    hJ x own W _ h (fun k hk _ => World.putObj_heap_other (by rcases hk with h | h; omega; exact (hne k h).2)) (by simp [World.putObj]) rfl rfl rfl
  let J : List α → Foot → World → Prop := fun pre own W => ∃ oi : Foot, (∀ k, own k ↔ oi k ∨ k = B ∨ k = B + 1) ∧ (∀ k, oi k → k ≠ B ∧ k ≠ B + 1) ∧ I pre oi W ∧ W.heap[B + 1]? = some (.loop (rec_ .ready none)) ∧ W.heap[B]? = some (.deferred (some [])) ∧ Grow own₀ w oi W
  let Jx : List α → Foot → World → Prop := fun pre own W => ∃ oi : Foot, ∃ c, (∀ k, own k ↔ oi k ∨ k = B ∨ k = B + 1) ∧ (∀ k, oi k → k ≠ B ∧ k ≠ B + 1) ∧ Ix c pre oi W ∧ W.heap[B + 1]? = some (.loop (rec_ .done (some c))) ∧ W.heap[B]? = some (.deferred (some [])) ∧ Grow own₀ w oi W
  have growS : ∀ {own oi : Foot} {W W' : World}, Grow own₀ w oi W → (∀ k, k < W1.heap.size → W'.heap[k]? = W.heap[k]?) → W.heap.size ≤ W'.heap.size → W'.os = W.os → W'.tape = W.tape → W'.output = W.output → Grow own₀ w oi W' := fun h hk hz h1 h2 h3 =>
    ⟨h1.trans h.os, h2.trans h.tape, h3.trans h.output, Nat.le_trans h.size hz, h.from_, fun k hk' => Nat.lt_of_lt_of_le (h.lt k hk') hz, fun k hk' hn => (hk k (by omega)).trans (h.same k hk' hn)⟩
  have hJs : StabW W1.heap.size J := by
    rintro pre own W W' ⟨oi, h1, h2, h3, h4, h5, h6⟩ hk hz e1 e2 e3
    refine ⟨oi, h1, h2, hI pre oi W W' h3 (fun k hk' hlt => hk k (by rcases hk' with h | h; exact .inl (by omega); exact .inr ((h1 k).2 (.inl h))) hlt) hz e1 e2 e3, (hk _ (.inl (by omega)) (Array.getElem?_eq_some_iff.1 h4).1).trans h4, (hk _ (.inl (by omega)) (Array.getElem?_eq_some_iff.1 h5).1).trans h5, ?_⟩
    exact growS (own := own) h6 (fun k hk' => hk k (.inl hk') (by have := (Array.getElem?_eq_some_iff.1 h4).1; omega)) hz e1 e2 e3
  have hJxs : StabW W1.heap.size Jx := by
    rintro pre own W W' ⟨oi, c, h1, h2, h3, h4, h5, h6⟩ hk hz e1 e2 e3
    refine ⟨oi, c, h1, h2, hIx c pre oi W W' h3 (fun k hk' hlt => hk k (by rcases hk' with h | h; exact .inl (by omega); exact .inr ((h1 k).2 (.inl h))) hlt) hz e1 e2 e3, (hk _ (.inl (by omega)) (Array.getElem?_eq_some_iff.1 h4).1).trans h4, (hk _ (.inl (by omega)) (Array.getElem?_eq_some_iff.1 h5).1).trans h5, ?_⟩
    exact growS (own := own) h6 (fun k hk' => hk k (.inl hk') (by have := (Array.getElem?_eq_some_iff.1 h4).1; omega)) hz e1 e2 e3
  refine ⟨B + 1, [{ target := .collected B, args := #[] }], W1, { target := .fn (.func gf) lb, args := #[.func (.yield (B + 1)) #[] #[]] }, W1, gf, #[.func (.yield (B + 1)) #[] #[]] ++ lb, W1, ?_, ?_, ?_, ?_, ?_, ?_⟩
  · rw [← hW1]
    have := run_enterLoop_outer (P := P) (w := w) fn a.tmps ps assign body
    rw [hB] at this
    exact this
  · simp only [resolve, hg]; simp [go_sem]
  · intro f' hf'; simp [Target.leads] at hf'; subst hf'; exact hFg
  · simp [invoke, go_sem, eg]
  · intro h; rw [hd] at h; cases h
  refine (hseq W1 hb1 (n - 1) (B + 1) J Jx hJs hJxs ?_ (fun k hk => by rcases hk with h | h | h; have := hown k h; omega; omega; omega) ⟨own₀, fun k => Iff.rfl, fun k hk => by have := hown k hk; omega, ?_, hL1, hK1, hg1 _ hown⟩).mono ?_
  · -- one round
    rintro m pre own x W ⟨oi, h1, h2, h3, hl, hk, hgr⟩ hNb hlt hrd
    have hy := run_yield (P := P) (args := encs x) hl (hps x)
    have hBW : B + 2 ≤ W.heap.size := by have := (Array.getElem?_eq_some_iff.1 hl).1; omega
    refine ⟨fn, _, assign, body, hy, RoundIn.any hd (m := n - 1 - 1) (roundIn_of_wpIn hfn (hassign _ x W _ hrd hBW ?_))⟩
    intro a' Wa hba hax
    have hla := (hba.block _ (Array.getElem?_eq_some_iff.1 hl).1).trans hl
    have hka := (hba.block _ (Array.getElem?_eq_some_iff.1 hk).1).trans hk
    have hIa : I pre oi Wa := hI pre oi W Wa h3 (fun k _ hlt' => hba.block k hlt') hba.size hba.os hba.tape hba.output
    have hrda : Rd x Wa := hRd x W Wa hrd (fun k o ho _ => (hba.block k (Array.getElem?_eq_some_iff.1 ho).1).trans ho) hba.size
    have hga : Grow oi W oi Wa := ⟨hba.os, hba.tape, hba.output, hba.size, fun _ h => .inl h, fun k hk' => Nat.lt_of_lt_of_le (hlt k ((h1 k).2 (.inl hk'))) hba.size, fun k hk' _ => hba.block k hk'⟩
    refine ⟨_, run_beginRound hla rfl, ?_⟩
    obtain ⟨W2, hW2⟩ : ∃ W2, Wa.putObj (B + 1) (.loop { rec_ .ready none with state := .busy }) = W2 := ⟨_, rfl⟩
    have hl2 : W2.heap[B + 1]? = some (.loop { rec_ .ready none with state := .busy }) := by rw [← hW2]; exact World.putObj_heap_same (Array.getElem?_eq_some_iff.1 hla).1
    have hk2 : W2.heap[B]? = some (.deferred (some [])) := by rw [← hW2]; exact (World.putObj_heap_other (by omega)).trans hka
    have hz2 : W2.heap.size = Wa.heap.size := by rw [← hW2]; simp [World.putObj]
    have hI2 : I pre oi W2 := by rw [← hW2]; exact put I pre oi Wa _ hI hIa h2
    have hlt2 : ∀ k, oi k → k < W2.heap.size := fun k hk' => by have := hga.lt k hk'; omega
    have hrd2 : Rd x W2 := by
      refine hRd x Wa W2 hrda (fun k o ho hc => ?_) (by omega)
      rw [← hW2]
      refine (World.putObj_heap_other (fun e => ?_)).trans ho
      subst e; rw [hla] at ho; cases ho; cases hc
    have hg02 : ∀ k, k < W.heap.size → k ≠ B + 1 → W2.heap[k]? = W.heap[k]? := fun k hk' hne => by
      rw [← hW2]; exact (World.putObj_heap_other (fun e => hne (by omega))).trans (hba.block k hk')
    show Code.wpIn (F.inRound (B + 1)) (n - 1 - 1) P body _ a' (Wa.putObj (B + 1) (.loop { rec_ .ready none with state := .busy }))
    rw [hW2]
    have hax2 : Ax x a' W2 := by rw [← hW2]; exact hAx x a' Wa _ hax
    refine wpIn_mono (hbody _ pre oi x a' W2 hI2 hNb hlt2 h2 hrd2 hax2 (by have := hba.size; omega)) ?_
    -- behind the body
    have fin : ∀ (jump : Option Code) (own' : Foot) (W3 : World), Grow oi W2 own' W3 →
        (Instr.endRound (B + 1) jump).run P W3 = .ok (.bool jump.isNone) (W3.putObj (B + 1) (.loop (rec_ (if jump.isNone then .ready else .done) jump))) ∧
        (∀ k, own' k → k ≠ B ∧ k ≠ B + 1) ∧ (W3.putObj (B + 1) (.loop (rec_ (if jump.isNone then .ready else .done) jump))).heap[B + 1]? = some (.loop (rec_ (if jump.isNone then .ready else .done) jump)) ∧
        (W3.putObj (B + 1) (.loop (rec_ (if jump.isNone then .ready else .done) jump))).heap[B]? = some (.deferred (some [])) ∧
        Grow own W (fun k => own' k ∨ k = B ∨ k = B + 1) (W3.putObj (B + 1) (.loop (rec_ (if jump.isNone then .ready else .done) jump))) ∧ Grow own₀ w own' (W3.putObj (B + 1) (.loop (rec_ (if jump.isNone then .ready else .done) jump))) := by
      intro jump own' W3 hg3
      have hl3 := (hg3.same _ (Array.getElem?_eq_some_iff.1 hl2).1 (fun h => (h2 _ h).2 rfl)).trans hl2
      have hk3 := (hg3.same _ (Array.getElem?_eq_some_iff.1 hk2).1 (fun h => (h2 _ h).1 rfl)).trans hk2
      have hne : ∀ k, own' k → k ≠ B ∧ k ≠ B + 1 := fun k hk' => by
        rcases hg3.from_ k hk' with h | h
        · exact h2 k h
        · have := hba.size; omega
      have hsz : (W3.putObj (B + 1) (.loop (rec_ (if jump.isNone then .ready else .done) jump))).heap.size = W3.heap.size := by simp [World.putObj]
      have e1 : W2.os = W.os := by rw [← hW2]; exact hba.os
      have e2 : W2.tape = W.tape := by rw [← hW2]; exact hba.tape
      have e3 : W2.output = W.output := by rw [← hW2]; exact hba.output
      have hzW : W.heap.size ≤ W3.heap.size := by have := hba.size; have := hg3.size; omega
      refine ⟨run_endRound jump hl3, hne, World.putObj_heap_same (Array.getElem?_eq_some_iff.1 hl3).1, (World.putObj_heap_other (by omega)).trans hk3, ⟨hg3.os.trans e1, hg3.tape.trans e2, hg3.output.trans e3, by omega, fun k hk' => ?_, fun k hk' => ?_, fun k hk' hn => ?_⟩, ⟨hg3.os.trans (e1.trans hgr.os), hg3.tape.trans (e2.trans hgr.tape), hg3.output.trans (e3.trans hgr.output), by have := hgr.size; omega, fun k hk' => ?_, fun k hk' => by rw [hsz]; exact hg3.lt k hk', fun k hk' hn => ?_⟩⟩
      · rcases hk' with h | h
        · rcases hg3.from_ k h with h4 | h4
          · exact .inl ((h1 k).2 (.inl h4))
          · right; have := hba.size; omega
        · exact .inl ((h1 k).2 (.inr h))
      · rw [hsz]
        rcases hk' with h | h
        · exact hg3.lt k h
        · omega
      · have hn1 : k ≠ B + 1 := fun e => hn ((h1 k).2 (.inr (.inr e)))
        exact (World.putObj_heap_other (fun e => hn1 (by omega))).trans ((hg3.same k (by have := hba.size; omega) (fun h => hn ((h1 k).2 (.inl h)))).trans (hg02 k hk' hn1))
      · rcases hg3.from_ k hk' with h4 | h4
        · exact hgr.from_ k h4
        · right; have := hba.size; have := hgr.size; omega
      · have hkB : k ≠ B + 1 := by omega
        have hni : ¬ oi k := fun h => by
          rcases hgr.from_ k h with h4 | h4
          · exact hn h4
          · omega
        exact (World.putObj_heap_other (fun e => hkB (by omega))).trans ((hg3.same k (by have := hba.size; have := hgr.size; omega) hni).trans ((hg02 k (by have := hgr.size; omega) hkB).trans (hgr.same k hk' hn)))
    rintro e a3 W3 hp
    cases e with
    | normal =>
      obtain ⟨own', hi3, hg3⟩ := hp
      obtain ⟨q1, q2, q3, q4, q5, q6⟩ := fin none own' W3 hg3
      exact ⟨_, _, q1, .inl ⟨rfl, _, ⟨own', fun k => Iff.rfl, q2, put I _ own' W3 _ hI hi3 q2, q3, q4, q6⟩, q5⟩⟩
    | ret =>
      obtain ⟨own', hi3, hg3⟩ := hp
      obtain ⟨q1, q2, q3, q4, q5, q6⟩ := fin (some .ret) own' W3 hg3
      exact ⟨_, _, q1, .inr ⟨rfl, _, ⟨own', _, fun k => Iff.rfl, q2, put (Ix .ret) _ own' W3 _ (hIx _) hi3 q2, q3, q4, q6⟩, q5⟩⟩
    | exit id =>
      obtain ⟨own', hi3, hg3⟩ := hp
      obtain ⟨q1, q2, q3, q4, q5, q6⟩ := fin (some (.exit id)) own' W3 hg3
      exact ⟨_, _, q1, .inr ⟨rfl, _, ⟨own', _, fun k => Iff.rfl, q2, put (Ix (.exit id)) _ own' W3 _ (hIx _) hi3 q2, q3, q4, q6⟩, q5⟩⟩
    | goto t => exact hp.elim
    | panic ch => exact hp.elim
    | outgrown => exact hp.elim
  · -- at the start
    exact hI [] own₀ w W1 h0 (fun k _ hlt => hb1.block k (by omega)) (by omega) hb1.os hb1.tape hb1.output
  · -- behind the iterator
    have put' : ∀ (W : World) (o : Obj) (own : Foot), Grow own₀ w own W → Grow own₀ w own (W.putObj (B + 1) o) := fun W o own h => ⟨h.os, h.tape, h.output, by have := h.size; simpa [World.putObj] using this, h.from_, fun k hk => by have := h.lt k hk; simpa [World.putObj] using this, fun k hk hn => (World.putObj_heap_other (by omega)).trans (h.same k hk hn)⟩
    rintro e W2 ⟨⟨v, rfl⟩, (⟨xs, own', hS, ⟨oi, h1, h2, h3, hl, hk, hgr⟩, -⟩ | ⟨pre, own', hSp, ⟨oi, c, h1, h2, h3, hl, hk, hgr⟩, -⟩)⟩
    · exact ⟨none, _, run_endLoop (P := P) hl (by simp [rec_]), hdone _ xs oi _ (Nat.le_refl _) hS (put I _ oi W2 _ hI h3 h2) (put' _ _ _ hgr) h2 rfl ((World.putObj_heap_other (by omega)).trans hk)⟩
    · exact ⟨some c, _, run_endLoop (P := P) hl (by simp [rec_]), hstop _ c pre oi _ (Nat.le_refl _) hSp (put (Ix c) _ oi W2 _ (hIx c) h3 h2) (put' _ _ _ hgr) h2 rfl ((World.putObj_heap_other (by omega)).trans hk)⟩
theorem stabW_off {β : Type} {s : Nat} {J : β → Foot → World → Prop} (hJ : StabW s J) {x : β} {own : Foot} {W W' : World} {Ds : List Nat} (h : J x own W) (ho : Off Ds W W') (hD : ∀ D ∈ Ds, s ≤ D ∧ ¬ own D) : J x own W' :=
  hJ x own W W' h (fun k hk _ => ho.block k (fun hm => by
    have := hD k hm
    rcases hk with h1 | h1
    · omega
    · exact this.2 h1)) (by rw [ho.size]; exact Nat.le_refl _) ho.os ho.tape ho.output
end Go.Proofs.Ytiobmfggnacplaa
/- Walks: a word is cloned; the iterator of words is made. -/
namespace Go.Proofs.Ytiobmfggnacplaa
open Go.RowKit
attribute [local go_sem] Oper.semAt_some
theorem eq_nil22 (a : Addr) (n c : Nat) (W : World) : (binOp .eql 22 (.slice (some a) n c) (.slice none 0 0)).run Try.prog W = .ok (.bool false) W := by
  have h : ∀ d : Nat, (Op.equalIn (d + 1) 22 (.slice (some a) n c) (.slice none 0 0)).run Try.prog W = .ok false W := fun d => by
    unfold Op.equalIn
    simp only [Sem.run_bind, run_underlying under22, Result.andThen_ok]
    rfl
  simp only [binOp]
  simp [Op.equal, Op.maxDepth, h 9999]
set_option maxRecDepth 10000 in
theorem clone_any (w : World) (a : Addr) (n c : Nat) (l : List Int) (hl : InS w w.heap.size (some a) n l) (h0 : 0 < n) (hn : n ≤ 400) :
    Calls Try.prog 97 #[.slice (some a) n c] w fun e w' => ∃ q cap, e = .returned (.slice (some ⟨q, 0, none⟩) n cap) ∧ w'.ownsRow w.heap.size 3 1 (.slice (some ⟨q, 0, none⟩) n cap) n (l.flatMap cI) ∧ Below w.heap.size w w' := by
  obtain ⟨i0, hi0, hi1, hi2, hi3⟩ := info_parts' info3
  have I0 := hid hi0; have I1 := hid hi1; have I2 := hid hi2; have I3 := hid hi3
  clear hi0 hi1 hi2 hi3
  have hlen := hl.len
  have Hl := hid hl
  obtain ⟨b, off, hA, hb, hc⟩ := hl.2 h0
  cases hA
  have heq := eq_nil22 ⟨b, off, none⟩ n c
  have hfl : (l.flatMap cI).length = n * 1 := hl.1
  go_enter Try.func97, Try.ntmps97
  go_wp2_with (at_builtin; refine wpList_append_cap rfl _ _ 22 rfl w.heap.size 3 i0 _ 1 8 under22 I0.out I1.out I2.out I3.out rfl _ 0 [] rfl rfl (Or.inr ⟨_, rfl, fun j u hj => by simp at hj⟩) ⟨b, off, none⟩ n c (l.flatMap cI) rfl hfl (fun j u hu => by rw [add_at]; exact (World.cell?_alloc_lt _ _ _ hb).trans (hc j u hu)) h0 (by unfold maxLen; omega) (by omega) (by simp) ?_; intro cap w2 ho2 hg2 hz2)
  obtain ⟨g, cap', hv, hg, hlt⟩ := World.ownsRow.form ho2 (by omega)
  cases hv
  have ho3 := hid ho2
  clear ho2
  go_wp2
  refine bodyPost_ret (v := .slice (some ⟨w.heap.size + 1, 0, none⟩) n cap) (by simp [results, Try.results97, go_sem]) rfl ⟨w.heap.size + 1, cap, rfl, ?_, below_grown0 ((Below.refl _ _).alloc (Nat.le_refl _) _) hg2 (Nat.le_refl _)⟩
  have h9 := ho3.out
  rw [Nat.zero_add, World.size_alloc] at h9
  exact h9
theorem wordsIt_any (K m : Int) (w : World) : Calls Try.prog 80 #[.int .i64 K, .int .i64 m] w fun e w' => e = .returned (.func (.func 96) #[] #[.pointer (some ⟨w.heap.size + 1, 0, none⟩), .pointer (some ⟨w.heap.size, 0, none⟩)]) ∧ (w.alloc (.cells #[.int .i64 K] 3)).alloc (.cells #[.int .i64 m] 3) = w' := by
  go_enter Try.func80, Try.ntmps80
  go_wp2
  refine bodyPost_ret (v := .func (.func 96) #[] #[.pointer (some ⟨w.heap.size + 1, 0, none⟩), .pointer (some ⟨w.heap.size, 0, none⟩)]) (by first | (simp [results, Try.results80, go_sem]; done) | (simp [results, Try.results80, go_sem, *]; done) | (simp [results, Try.results80, go_sem, World.cell?_setCell_same', *]; done) | (simp [results, Try.results80, go_sem]; first | exact ⟨rfl, rfl⟩ | rfl)) rfl ⟨rfl, rfl⟩
end Go.Proofs.Ytiobmfggnacplaa
/- The iterator of words keeps its promise, whatever the loop. -/
namespace Go.Proofs.Ytiobmfggnacplaa
open Go.RowKit Go.Shelf
attribute [local go_sem] Oper.semAt_some
/-- A word: its slice, and what it reads as. -/
structure WE where
  v : Value
  l : List Int
def encW (x : WE) : Array Value := #[x.v]
def RdWd (K m : Nat) (x : WE) (W : World) : Prop := ∃ q c, x.v = .slice (some ⟨q, 0, none⟩) x.l.length c ∧ InS W W.heap.size (some ⟨q, 0, none⟩) x.l.length x.l ∧ x.l.length ≤ c ∧ x.l ≠ [] ∧ WdOk K m x.l ∧ q < W.heap.size ∧ ∃ cs fr, W.heap[q]? = some (.cells cs 3 fr)
theorem rdWd_keep {K m : Nat} (x : WE) (W W' : World) (h : RdWd K m x W) (hk : ∀ (k : Nat) (o : Obj), W.heap[k]? = some o → o.isCells = true → W'.heap[k]? = some o) (hz : W.heap.size ≤ W'.heap.size) : RdWd K m x W' := by
  obtain ⟨q, c, h1, h2, h3, h4, h5, h6, cs, fr, h7⟩ := h
  refine ⟨q, c, h1, ⟨h2.1, fun hn => ?_⟩, h3, h4, h5, by omega, cs, fr, hk _ _ h7 rfl⟩
  obtain ⟨b, off, e, hb, hc⟩ := h2.2 hn
  refine ⟨b, off, e, by omega, fun j u hu => ?_⟩
  have h4 := hc j u hu
  obtain ⟨o, ho, hoc⟩ := cells_of_cell h4
  exact (World.cell?_of_block ((hk _ o ho hoc).trans ho.symm)).trans h4
/-- What the iterator reads. -/
structure WIn (W : World) (own : Foot) (Bm Bk : Nat) (K m : Nat) : Prop where
  hm : W.cell? ⟨Bm, 0, none⟩ = some (.int .i64 (m : Int))
  hk : W.cell? ⟨Bk, 0, none⟩ = some (.int .i64 (K : Int))
  lm : Bm < W.heap.size
  lk : Bk < W.heap.size
  om : ¬ own Bm
  ok : ¬ own Bk
theorem WIn.grow {W W' : World} {own own' : Foot} {Bm Bk K m : Nat} (h : WIn W own Bm Bk K m) (hg : Grow own W own' W') : WIn W' own' Bm Bk K m := by
  have no : ∀ q, q < W.heap.size → ¬ own q → ¬ own' q := fun q hq hn h' => by
    rcases hg.from_ q h' with h1 | h1
    · exact hn h1
    · omega
  exact ⟨(World.cell?_of_block (hg.same _ h.lm h.om)).trans h.hm, (World.cell?_of_block (hg.same _ h.lk h.ok)).trans h.hk, Nat.lt_of_lt_of_le h.lm hg.size, Nat.lt_of_lt_of_le h.lk hg.size, no _ h.lm h.om, no _ h.lk h.ok⟩
theorem grow_grown {o o' : Foot} {W W1 W2 : World} {row : Option Nat} (h : Grow o W o' W1) (hg : W1.grownBy W2 row) (hr : ∀ q, row = some q → W.heap.size ≤ q) : Grow o W o' W2 :=
  ⟨hg.os.trans h.os, hg.tape.trans h.tape, hg.output.trans h.output, Nat.le_trans h.size hg.size, h.from_, fun k hk => Nat.lt_of_lt_of_le (h.lt k hk) hg.size, fun k hk hn => (hg.block k (Nat.lt_of_lt_of_le hk h.size) (fun e => by have := hr k e.symm; omega)).trans (h.same k hk hn)⟩
theorem stabW_grown {β : Type} {s : Nat} {J : β → Foot → World → Prop} (hJ : StabW s J) {x : β} {own : Foot} {W1 W2 : World} {row : Option Nat} (h : J x own W1) (hg : W1.grownBy W2 row) (hr : ∀ q, row = some q → s ≤ q ∧ ¬ own q) : J x own W2 :=
  hJ x own W1 W2 h (fun k hk hlt => hg.block k hlt (fun e => by
    have := hr k e.symm
    rcases hk with h1 | h1
    · omega
    · exact this.2 h1)) hg.size hg.os hg.tape hg.output
theorem grown_setCell (W : World) (g i : Nat) (u : Value) : W.grownBy (W.setCell ⟨g, i, none⟩ u) (some g) :=
  ⟨rfl, rfl, rfl, by simp [World.setCell], fun k _ hne => Below.heap_setCell _ _ _ _ (fun e => hne (by rw [e]))⟩
theorem grown_alloc {w w2 : World} {o : Obj} {row : Option Nat} (hg : (w.alloc o).grownBy w2 row) : w.grownBy w2 row :=
  ⟨hg.os, hg.tape, hg.output, by have := hg.size; simp only [World.size_alloc] at this; omega, fun k hk hne => (hg.block k (by simp; omega) hne).trans (Below.heap_alloc _ _ _ (by omega))⟩
theorem own_blk {w : World} {base e size n g cap : Nat} {xs : List Value} (h : w.ownsRow base e size (.slice (some ⟨g, 0, none⟩) n cap) n xs) : ∃ cur, Blk w g e cur ∧ base ≤ g ∧ n ≤ cap ∧ cap ≤ maxLen ∧ cur.size = cap * size ∧ cur.toList.take (n * size) = xs := by
  rcases h.2 with ⟨h1, -⟩ | ⟨g', cap', cur, h1, h2, h3, h4, h5, h6, h7⟩
  · cases h1
  · cases h1; exact ⟨cur, h3, h2, h4, h5, h6, h7⟩
theorem own_take {w : World} {base e g q cap : Nat} {xs : List Value} (h : w.ownsRow base e 1 (.slice (some ⟨g, 0, none⟩) (q + 1) cap) (q + 1) xs) : w.ownsRow base e 1 (.slice (some ⟨g, 0, none⟩) q cap) q (xs.take q) := by
  obtain ⟨cur, h3, h2, h4, h5, h6, h7⟩ := own_blk h
  have hl := h.1
  refine ⟨by rw [List.length_take]; omega, .inr ⟨g, cap, cur, rfl, h2, h3, by omega, h5, h6, ?_⟩⟩
  rw [← h7, List.take_take]
  congr 1
  omega
theorem own_set_last {w : World} {base e g q cap : Nat} {xs : List Value} {x y : Value} (h : w.ownsRow base e 1 (.slice (some ⟨g, 0, none⟩) (q + 1) cap) (q + 1) (xs ++ [x])) : (w.setCell ⟨g, q, none⟩ y).ownsRow base e 1 (.slice (some ⟨g, 0, none⟩) (q + 1) cap) (q + 1) (xs ++ [y]) := by
  obtain ⟨cur, h3, h2, h4, h5, h6, h7⟩ := own_blk h
  have hl := h.1
  have hq : xs.length = q := by simp at hl; omega
  refine ⟨by simp; omega, .inr ⟨g, cap, cur.setIfInBounds q y, rfl, h2, h3.set_ q y, h4, h5, by simpa using h6, ?_⟩⟩
  rw [Array.toList_setIfInBounds, Nat.mul_one]
  rw [Nat.mul_one] at h7
  have hL : q < cur.toList.length := by rw [Array.length_toList]; omega
  refine List.ext_getElem? fun j => ?_
  rw [List.getElem?_take]
  split
  · rename_i hj
    rcases Nat.lt_or_ge j q with h8 | h8
    · have h9 := congrArg (fun l : List Value => l[j]?) h7
      simp only [List.getElem?_take, if_pos hj] at h9
      rw [List.getElem?_set_ne (by omega), h9, List.getElem?_append_left (by omega), List.getElem?_append_left (by omega)]
    · obtain rfl : j = q := by omega
      rw [List.getElem?_set_self hL, List.getElem?_append_right (by omega), hq]; simp
  · rename_i hj
    rw [List.getElem?_eq_none (by simp; omega)]
/-- How long a slice is. -/
def lenV : Value → Nat
  | .slice _ n _ => n
  | _ => 0
/-- What a slice reads as. -/
def rdL (v : Value) (W : World) : List Int := match v with
  | .slice (some a) n _ => (List.range n).map fun i => match W.cell? ⟨a.block, a.off + i, none⟩ with
    | some (.int _ x) => x
    | _ => 0
  | _ => []
theorem rdL_of {W : World} {B b off n c : Nat} {l : List Int} (h : InS W B (some ⟨b, off, none⟩) n l) : rdL (.slice (some ⟨b, off, none⟩) n c) W = l := by
  have hl := h.len
  refine List.ext_getElem? fun i => ?_
  show ((List.range n).map _)[i]? = _
  rw [List.getElem?_map]
  rcases Nat.lt_or_ge i n with h1 | h1
  · obtain ⟨b', off', x, e, -, hx, hc⟩ := h.at_ h1
    cases e
    rw [List.getElem?_range h1, hx]
    simp [hc]
  · rw [List.getElem?_eq_none (by simp; omega), List.getElem?_eq_none (by omega)]; rfl
theorem wdsN_more {K : Int} {m : Nat} : ∀ f {w : List Int}, (wdsN K m f w).length < f → wdsN K m (f + 1) w = wdsN K m f w
  | 0, w, h => by simp at h
  | f + 1, w, h => by
    by_cases h0 : w = []
    · subst h0; rw [wdsN_nil, wdsN_nil]
    · rw [wdsN_cons h0, wdsN_cons h0, wdsN_more f (by rw [wdsN_cons h0] at h; simpa using h)]
theorem wds_step {K : Int} {m : Nat} {w : List Int} {p : List (List Int)} {L : List (List Int)} (h : p ++ wdsN K m 800 w = L) (hL : L.length < 800) (h0 : w ≠ []) : (p ++ [w]) ++ wdsN K m 800 (nxtW K m w) = L ∧ (wdsN K m 800 (nxtW K m w)).length < (wdsN K m 800 w).length := by
  have e1 : wdsN K m 800 w = w :: wdsN K m 799 (nxtW K m w) := wdsN_cons h0
  have h2 : (wdsN K m 799 (nxtW K m w)).length < 799 := by
    rw [← h, List.length_append, e1] at hL
    simp at hL; omega
  have e2 : wdsN K m 800 (nxtW K m w) = wdsN K m 799 (nxtW K m w) := wdsN_more 799 h2
  rw [e2, e1]
  refine ⟨by rw [← h, e1]; simp, by simp⟩
end Go.Proofs.Ytiobmfggnacplaa
/- The iterator of words, walked. -/
namespace Go.Proofs.Ytiobmfggnacplaa
open Go.RowKit Go.Shelf
attribute [local go_sem] Oper.semAt_some
set_option maxRecDepth 100000 in
set_option maxHeartbeats 4000000 in
theorem words_give (W : World) (own₀ : Foot) (Bm Bk : Nat) (K m : Nat) (hK1 : 1 ≤ K) (hK4 : K ≤ 4) (hm1 : 1 ≤ m) (hm12 : m ≤ 12) (hfew : (wdsL K m).length < 800) (hin : WIn W own₀ Bm Bk K m) :
    GivesW (Wd none) Try.prog 96 #[.pointer (some ⟨Bm, 0, none⟩), .pointer (some ⟨Bk, 0, none⟩)] encW (RdWd K m) (wdsL K m).length (fun xs => xs.map WE.l = wdsL K m) (fun _ => True) own₀ W := by
  intro D lp J Jx hJs hJxs hT hown h0
  obtain ⟨i0, hi0, hi1, hi2, hi3⟩ := info_parts' info3
  have I0 := hid hi0; have I1 := hid hi1; have I2 := hid hi2; have I3 := hid hi3
  clear hi0 hi1 hi2 hi3
  have HT := hid hT
  have HJs := hid hJs
  have HJxs := hid hJxs
  have HIN := hid hin
  have Hown := hid hown
  have HJ0 := hid h0
  have Hfew := hid hfew
  have hd0 : (Wd none).depth = none := rfl
  clear hT hJs hJxs hin hown h0 hfew
  obtain ⟨W1, hW1⟩ : ∃ W1, W.alloc (.cells #[.int .i64 0] 3) = W1 := ⟨_, rfl⟩
  have hb1 : Below W.heap.size W W1 := by rw [← hW1]; exact (by repeat' (first | with_reducible assumption | with_reducible exact Below.refl _ _ | refine Below.alloc ?_ ?_ _ | refine Below.setCell ?_ ?_ _ | refine Below.drew ?_ | refine below_drewN ?_ _ | (simp; done) | (simp; omega) | omega))
  have hz1 : W1.heap.size = W.heap.size + 1 := by rw [← hW1]; simp
  have B0 : Blk W1 W.heap.size 3 #[.int .i64 0] := by rw [← hW1]; exact Blk.new' rfl
  have ho0 : W1.ownsRow W.heap.size 3 1 (.slice (some ⟨W.heap.size, 0, none⟩) 1 1) 1 (([0] : List Int).flatMap cI) := ⟨rfl, .inr ⟨W.heap.size, 1, _, rfl, Nat.le_refl _, B0, Nat.le_refl _, by decide, rfl, rfl⟩⟩
  have hJ1 : J [] own₀ W1 := HJs.out [] own₀ W W1 HJ0.out (fun k _ hlt => hb1.block k hlt) hb1.size hb1.os hb1.tape hb1.output
  have hg1 : Grow own₀ W own₀ W1 := grow_below Hown.out hb1
  have HJ1 := hid hJ1
  have Hg1 := hid hg1
  have Ho0 := hid ho0
  clear hJ1 hg1 ho0 B0
  refine callsIn_of_wp_marks (F := Wd none) Try.func96 rfl trivial ?_ rfl
  simp only [Try.ntmps96, List.size_toArray, List.length_cons, List.length_nil, Nat.reduceAdd, Nat.reduceSub, Array.replicate_succ, Array.replicate_zero, List.push_toArray, List.append_toArray, List.nil_append, List.cons_append]
  gi_wp2
  clear hW1
  refine wpIn_loop (fun a' wr => ∃ (ds : List Deferred) (u3 u4 u5 u6 u7 u8 u9 u10 u11 u12 u13 u14 u15 u16 u17 u18 u19 u20 u21 u22 u23 u24 u25 u26 u27 u28 u29 u30 u31 u32 u33 u34 u35 u36 u37 u38 u39 u40 u41 u42 u43 u44 u45 u46 u47 u48 u49 u50 u51 u52 u53 u54 u55 u56 u57 u58 u59 u60 : Value), (∃ (g cap : Nat) (wl : List Int) (xs : List WE) (own : Foot), ds = [] ∧ u4 = .slice (some ⟨g, 0, none⟩) wl.length cap ∧ Hid (xs.map WE.l ++ wdsN K m 800 wl = wdsL K m) ∧ Hid (WdOk K m wl) ∧ Hid (wr.ownsRow W.heap.size 3 1 (.slice (some ⟨g, 0, none⟩) wl.length cap) wl.length (wl.flatMap cI)) ∧ Hid (J xs own wr) ∧ Hid (Grow own₀ W own wr) ∧ ¬ own g) ∧ a' = { tmps := #[.func (.yield lp) #[] #[], .pointer (some ⟨Bm, 0, none⟩), .pointer (some ⟨Bk, 0, none⟩), u3, u4, u5, u6, u7, u8, u9, u10, u11, u12, u13, u14, u15, u16, u17, u18, u19, u20, u21, u22, u23, u24, u25, u26, u27, u28, u29, u30, u31, u32, u33, u34, u35, u36, u37, u38, u39, u40, u41, u42, u43, u44, u45, u46, u47, u48, u49, u50, u51, u52, u53, u54, u55, u56, u57, u58, u59, u60], defers := ds }) (fun a' wr => (wdsN K m 800 (rdL (a'.tmps.getD 4 undef) wr)).length) ?_ ?_
  · (repeat apply Exists.intro); refine ⟨?_, rfl⟩
    exact ⟨W.heap.size, 1, [0], [], own₀, rfl, rfl, hid rfl, hid ⟨by simpa using hm1, fun x hx => by simp at hx; subst hx; omega⟩, Ho0, HJ1, Hg1, fun h => by have := Hown.out _ h; omega⟩
  · intro _ wr hinv; obtain ⟨ds, hinv⟩ := hinv; obtain ⟨u3, hinv⟩ := hinv; obtain ⟨u4, hinv⟩ := hinv; obtain ⟨u5, hinv⟩ := hinv; obtain ⟨u6, hinv⟩ := hinv; obtain ⟨u7, hinv⟩ := hinv; obtain ⟨u8, hinv⟩ := hinv; obtain ⟨u9, hinv⟩ := hinv; obtain ⟨u10, hinv⟩ := hinv; obtain ⟨u11, hinv⟩ := hinv; obtain ⟨u12, hinv⟩ := hinv; obtain ⟨u13, hinv⟩ := hinv; obtain ⟨u14, hinv⟩ := hinv; obtain ⟨u15, hinv⟩ := hinv; obtain ⟨u16, hinv⟩ := hinv; obtain ⟨u17, hinv⟩ := hinv; obtain ⟨u18, hinv⟩ := hinv; obtain ⟨u19, hinv⟩ := hinv; obtain ⟨u20, hinv⟩ := hinv; obtain ⟨u21, hinv⟩ := hinv; obtain ⟨u22, hinv⟩ := hinv; obtain ⟨u23, hinv⟩ := hinv; obtain ⟨u24, hinv⟩ := hinv; obtain ⟨u25, hinv⟩ := hinv; obtain ⟨u26, hinv⟩ := hinv; obtain ⟨u27, hinv⟩ := hinv; obtain ⟨u28, hinv⟩ := hinv; obtain ⟨u29, hinv⟩ := hinv; obtain ⟨u30, hinv⟩ := hinv; obtain ⟨u31, hinv⟩ := hinv; obtain ⟨u32, hinv⟩ := hinv; obtain ⟨u33, hinv⟩ := hinv; obtain ⟨u34, hinv⟩ := hinv; obtain ⟨u35, hinv⟩ := hinv; obtain ⟨u36, hinv⟩ := hinv; obtain ⟨u37, hinv⟩ := hinv; obtain ⟨u38, hinv⟩ := hinv; obtain ⟨u39, hinv⟩ := hinv; obtain ⟨u40, hinv⟩ := hinv; obtain ⟨u41, hinv⟩ := hinv; obtain ⟨u42, hinv⟩ := hinv; obtain ⟨u43, hinv⟩ := hinv; obtain ⟨u44, hinv⟩ := hinv; obtain ⟨u45, hinv⟩ := hinv; obtain ⟨u46, hinv⟩ := hinv; obtain ⟨u47, hinv⟩ := hinv; obtain ⟨u48, hinv⟩ := hinv; obtain ⟨u49, hinv⟩ := hinv; obtain ⟨u50, hinv⟩ := hinv; obtain ⟨u51, hinv⟩ := hinv; obtain ⟨u52, hinv⟩ := hinv; obtain ⟨u53, hinv⟩ := hinv; obtain ⟨u54, hinv⟩ := hinv; obtain ⟨u55, hinv⟩ := hinv; obtain ⟨u56, hinv⟩ := hinv; obtain ⟨u57, hinv⟩ := hinv; obtain ⟨u58, hinv⟩ := hinv; obtain ⟨u59, hinv⟩ := hinv; obtain ⟨u60, hinv⟩ := hinv; obtain ⟨hrel, ha⟩ := hinv; subst ha; dsimp only
    obtain ⟨g, cap, wl, xs, own, rfl, rfl, hxs, hok, ho, hJx, hgr, hgo⟩ := hrel
    have hinr := HIN.out.grow hgr.out
    have r1 := hinr.hm
    have r2 := hinr.hk
    have k1 := hinr.lm
    have k2 := hinr.lk
    have HINr := hid hinr
    have hgW : W.heap.size ≤ g ∧ g < wr.heap.size := ho.out.lt g rfl
    clear hinr
    by_cases hnil : wl = []
    · subst hnil
      have hfin : Hid (xs.map WE.l = wdsL K m) := hid (by have := hxs.out; rwa [wdsN_nil, List.append_nil] at this)
      clear hxs
      gi_wp2
      refine leavesM_marks [] _ (by simp) (by simp) (fun w' ho' => ⟨_, results_none rfl _ _ _, ⟨_, rfl⟩, ?_⟩)
      exact .inl ⟨xs, own, hfin.out, stabW_off HJs.out hJx.out ho' (by simp), grow_off hgr.out ho' (by simp)⟩
    · obtain ⟨n, hn⟩ : ∃ n, wl.length = n := ⟨_, rfl⟩
      have hn1 : 1 ≤ n := by rw [← hn]; exact List.length_pos_iff.2 hnil
      have hnm : n ≤ m := by rw [← hn]; exact hok.out.1
      have hni : (0 : Int) < n := by omega
      have Hnil := hid hnil
      have Hn := hid hn
      rw [hn] at ho ⊢
      have hIS : InS wr wr.heap.size (some ⟨g, 0, none⟩) n wl := Sl.of_own ho.out
      have HIS := hid hIS
      clear hnil hn hIS
      gi_wp2_with (fail)
      refine (calls_wd (clone_any wr ⟨g, 0, none⟩ n cap wl HIS.out (by omega) (by omega))).mono ?_
      rintro e X7 ⟨q7, c7, rfl, ho7, hb7⟩
      have hcs7 := own_cellsAt ho7
      have hin7 : InS X7 X7.heap.size (some ⟨q7, 0, none⟩) n wl := Sl.of_own ho7
      have hcap7 : n ≤ c7 := own_capN ho7
      have hlt7 : q7 < X7.heap.size := (ho7.lt q7 rfl).2
      have hJ7 : J xs own X7 := HJs.out xs own wr X7 hJx.out (fun j _ hlt' => hb7.block j hlt') hb7.size hb7.os hb7.tape hb7.output
      have hgB : Grow own wr own X7 := grow_below hgr.out.lt hb7
      have hstep := wds_step hxs.out Hfew.out Hnil.out
      have hxl : xs.length < (wdsL K m).length := by
        have := congrArg List.length hstep.1
        rw [List.length_append, List.length_append, List.length_map] at this
        simp at this; omega
      obtain ⟨fn, tmps, asg, bdy, hy, hR⟩ := YieldAt.one hd0 (D - 1) (HT.out D xs own ⟨.slice (some ⟨q7, 0, none⟩) n c7, wl⟩ X7 hJ7 hxl (fun j hj => Nat.lt_of_lt_of_le (hgr.out.lt j hj) hb7.size) ⟨q7, c7, by rw [Hn.out], by rw [Hn.out]; exact hin7, by rw [Hn.out]; exact hcap7, Hnil.out, hok.out, hlt7, hcs7⟩)
      simp only [encW] at hy
      have Hg7 := hid (hgr.out.trans hgB)
      have HinX := hid (HINr.out.grow hgB)
      have Ho7 := hid (owns_below ho.out hb7)
      have Hst := hid hstep
      have hgX := hb7.size
      clear ho7 hcs7 hin7 hJ7 hgB r1 k1 r2 k2 hxl hstep hxs
      gi_wp2_with (refine RoundIn.mono hR ?_; rintro e w3 ⟨bv, rfl, ht, hf⟩; cases bv)
      · obtain ⟨own', hj, hg'⟩ := hf trivial
        have Hg8 := hid (Hg7.out.trans hg')
        clear ht hf
        refine leavesM_marks [] _ (by simp) (by simp) (fun w' ho' => ⟨_, results_none rfl _ _ _, ⟨_, rfl⟩, ?_⟩)
        exact .inr ⟨_, own', trivial, stabW_off HJxs.out hj ho' (by simp), grow_off Hg8.out ho' (by simp)⟩
      · obtain ⟨own', hj, hg'⟩ := ht trivial
        have Hg8 := hid (Hg7.out.trans hg')
        have Hj := hid hj
        have hin8 := HinX.out.grow hg'
        have HIN8 := hid hin8
        have ho8 : w3.ownsRow W.heap.size 3 1 (.slice (some ⟨g, 0, none⟩) n cap) n (wl.flatMap cI) := owns_same Ho7.out (fun q hq => by cases hq; exact hg'.same g (by omega) hgo)
        have Ho8 := hid ho8
        have hgo8 : ¬ own' g := fun h => by
          rcases hg'.from_ _ h with h1 | h1
          · exact hgo h1
          · omega
        have r1 := hin8.hm
        have k1 := hin8.lm
        clear ht hf hj hg' ho8 hin8
        obtain ⟨E, hE⟩ : ∃ E, repW m wl = E := ⟨_, rfl⟩
        have HE := hid hE
        have hElen : E.length = m := by rw [← hE, repW_len]
        have HEr : Hid (∀ x ∈ E, 0 ≤ x ∧ x < (K : Int)) := hid (by rw [← hE]; exact wdOk_rep hok.out Hnil.out)
        have HElen := hid hElen
        have ho9 : w3.ownsRow W.heap.size 3 1 (.slice (some ⟨g, 0, none⟩) n cap) n ((E.take n).flatMap cI) := by
          have h9 := repW_take (w := wl) (m := m) (by rw [Hn.out]; exact hnm)
          rw [Hn.out, hE] at h9
          rw [h9]; exact Ho8.out
        have Ho9 := hid ho9
        obtain ⟨xs2, hxs2⟩ : ∃ xs2, xs ++ [(⟨.slice (some ⟨q7, 0, none⟩) n c7, wl⟩ : WE)] = xs2 := ⟨_, rfl⟩
        rw [hxs2] at Hj
        have Hst2 : Hid (xs2.map WE.l ++ wdsN K m 800 (nxtW K m wl) = wdsL K m ∧ (wdsN K m 800 (nxtW K m wl)).length < (wdsN K m 800 wl).length) := hid (by rw [← hxs2, List.map_append]; exact Hst.out)
        have HrdL : Hid (rdL (.slice (some ⟨g, 0, none⟩) n cap) wr = wl) := hid (rdL_of (Sl.of_own ho.out))
        clear hE hElen ho9 Ho8 hxs2 Hst Hg7 HinX Ho7 hgX hy hR HIS ho hJx hgr hlt7 hcap7 hb7
        have hnmi : (n : Int) ≤ m := by omega
        gi_wp2
        gi_loopw [4] (fun v w4 => ∃ (g1 cap1 q : Nat), v = .slice (some ⟨g1, 0, none⟩) q cap1 ∧ n ≤ q ∧ q ≤ m ∧ Hid (w4.ownsRow W.heap.size 3 1 (.slice (some ⟨g1, 0, none⟩) q cap1) q ((E.take q).flatMap cI)) ∧ Hid (J xs2 own' w4) ∧ Hid (Grow own₀ W own' w4) ∧ ¬ own' g1 ∧ Hid (WIn w4 own' Bm Bk K m)) (fun v _ => m - lenV v)
        case atStart => exact ⟨g, cap, n, rfl, Nat.le_refl _, hnm, Ho9, Hj, Hg8, hgo8, HIN8⟩
        case round =>
          obtain ⟨g1, cap1, q, rfl, hnq, hqm, ho1, hJ1, hgr1, hgo1, hin1⟩ := hrel
          have r1 := hin1.out.hm
          have k1 := hin1.out.lm
          have hgW1 : W.heap.size ≤ g1 ∧ g1 < wr.heap.size := ho1.out.lt g1 rfl
          have hlen4 : ((E.take q).flatMap cI).length = q * 1 := ho1.out.1
          by_cases hlt : q < m
          · have hlti : (q : Int) < m := by omega
            have hqE : q < E.length := by rw [HElen.out]; exact hlt
            obtain ⟨x, hx⟩ : ∃ x, E[q]? = some x := ⟨_, List.getElem?_eq_getElem hqE⟩
            have hx2 : (E.take q)[q - n]? = some x := by
              rw [List.getElem?_take, if_pos (by omega), ← hx, ← HE.out, ← Hn.out]
              exact repW_next (by rw [Hn.out]; exact hnq) hlt
            have hI4 : InS wr wr.heap.size (some ⟨g1, 0, none⟩) q (E.take q) := Sl.of_own ho1.out
            have hc4 : wr.cell? ⟨g1, q - n, none⟩ = some (.int .i64 x) := by
              obtain ⟨b', off', x', e, -, hx', hc'⟩ := hI4.at_ (show q - n < q by omega)
              cases e
              rw [hx2] at hx'
              cases hx'
              rwa [Nat.zero_add] at hc'
            have htk : Hid ((E.take (q + 1)).flatMap cI = (E.take q).flatMap cI ++ [.int .i64 x]) := hid (takeI_succ hx)
            have zq : IntKind.i64.wrap ((q : Int) - (n : Int)) = ((q - n : Nat) : Int) := by rw [show (q : Int) - n = ((q - n : Nat) : Int) by omega]; exact IntWalk.i64_in _ (by omega)
            have hq1 : ((q - n : Nat) : Int) < q := by omega
            have hq0 : (0 : Int) ≤ ((q - n : Nat) : Int) := by omega
            have h63 : q + 1 ≤ maxLen := by unfold maxLen; omega
            clear hx hx2 hI4 hlen4
            gi_wp2_with (gi_at_builtin; refine wpListIn_append_own_at _ rfl _ _ 22 rfl W.heap.size 3 i0 _ 1 8 under22 I0.out I1.out I2.out I3.out rfl (by decide) _ q _ rfl (ho1.out.alloc (.cells #[.int .i64 x] 3)) ⟨wr.heap.size, 0, none⟩ 1 1 [.int .i64 x] rfl rfl (fun j u hj => World.news_of_block (Blk.new' rfl) j u hj) (one1 _) h63 (by omega) (by simp; omega) ?_; intro v9 w9 ho9 hg9 hn9 hat9)
            obtain ⟨g9, c9, hv9, -, -⟩ := World.ownsRow.form ho9 (Nat.succ_pos _)
            subst hv9
            have hgA := grown_alloc hg9
            have hrow : ∀ r, some g1 = some r → W.heap.size ≤ r ∧ ¬ own' r := fun r hr => by cases hr; exact ⟨hgW1.1, hgo1⟩
            have hJ9 := hid (stabW_grown HJs.out hJ1.out hgA hrow)
            have hg9' := hid (grow_grown hgr1.out hgA (fun r hr => (hrow r hr).1))
            have hgo9 : ¬ own' g9 := fun h => by
              rcases hat9 with h1 | h1
              · have h2 : some g9 = some g1 := h1
                cases h2; exact hgo1 h
              · have h2 : some g9 = some (wr.alloc (.cells #[.int .i64 x] 3)).heap.size := h1
                cases h2
                have := hgr1.out.lt _ h
                simp at this; omega
            have hin9 : Hid (WIn w9 own' Bm Bk K m) := hid (by
              have e1 : w9.heap[Bm]? = wr.heap[Bm]? := hgA.block _ hin1.out.lm (fun e => by have h8 := HIN.out.lm; have h7 := (hrow Bm e.symm).1; omega)
              have e2 : w9.heap[Bk]? = wr.heap[Bk]? := hgA.block _ hin1.out.lk (fun e => by have h8 := HIN.out.lk; have h7 := (hrow Bk e.symm).1; omega)
              exact ⟨(World.cell?_of_block e1).trans hin1.out.hm, (World.cell?_of_block e2).trans hin1.out.hk, Nat.lt_of_lt_of_le hin1.out.lm hgA.size, Nat.lt_of_lt_of_le hin1.out.lk hgA.size, hin1.out.om, hin1.out.ok⟩)
            exact ⟨⟨g9, c9, q + 1, rfl, by omega, by omega, hid (by rw [htk.out]; exact ho9), hJ9, hg9', hgo9, hin9⟩, by simp [lenV]; omega⟩
          · obtain rfl : q = m := by omega
            have htk : E.take q = E := List.take_of_length_le (by rw [HElen.out]; exact Nat.le_refl _)
            rw [htk] at ho1
            clear hlen4
            gi_wp2
            clear r1 k1
            gi_loopw [4] (fun v w5 => ∃ p : Nat, v = .slice (some ⟨g1, 0, none⟩) p cap1 ∧ p ≤ q ∧ Hid (Strip K E p) ∧ Hid (w5.ownsRow W.heap.size 3 1 (.slice (some ⟨g1, 0, none⟩) p cap1) p ((E.take p).flatMap cI)) ∧ Hid (J xs2 own' w5) ∧ Hid (Grow own₀ W own' w5) ∧ Hid (WIn w5 own' Bm Bk K q)) (fun v _ => lenV v)
            case atStart => exact ⟨q, rfl, Nat.le_refl _, hid (by have := strip_all K E; rwa [HElen.out] at this), hid (by rw [htk]; exact ho1.out), hJ1, hgr1, hin1⟩
            case round =>
              obtain ⟨p, rfl, hpq, hst, ho5, hJ5, hgr5, hin5⟩ := hrel
              have r2 := hin5.out.hk
              have k2 := hin5.out.lk
              have zK : IntKind.i64.wrap ((K : Int) - 1) = (K : Int) - 1 := IntWalk.i64_in _ (by omega)
              cases p with
              | zero =>
                have hN : Hid (nxtW K q wl = []) := hid (strip_zero (by rw [HE.out]; exact hst.out))
                gi_wp2
                refine wpIn_region_hd_all (fun W => Below wr.heap.size wr W) (by kernel_rfl) (by kernel_rfl) ((Below.refl _ _).drew) ?_
                iterate 4 (refine wpHd_val (v := ?_) (by rfl) (fun W hW => ?_) ?_; rotate_left; (· obtain ⟨hcW, hfW⟩ := bcell hW; go_simp; with_reducible rfl); simp only [Act.put, List.setIfInBounds_toArray, List.set_cons_zero, List.set_cons_succ])
                iterate 9 (refine wpHd_not (by rfl) ?_; simp only [Act.put, List.setIfInBounds_toArray, List.set_cons_zero, List.set_cons_succ])
                (refine wpHd_val (v := ?_) (by rfl) (fun W hW => ?_) ?_; rotate_left; (· obtain ⟨hcW, hfW⟩ := bcell hW; go_simp; with_reducible rfl); simp only [Act.put, List.setIfInBounds_toArray, List.set_cons_zero, List.set_cons_succ])
                refine wpHd_nil ?_
                intro w6 hw6
                have hz6 := hw6.size
                have HJ6 := hid (HJs.out _ _ wr w6 hJ5.out (fun k _ hlt => hw6.block k hlt) hw6.size hw6.os hw6.tape hw6.output)
                have hgB6 : Grow own' wr own' w6 := grow_below hgr5.out.lt hw6
                have HG6 := hid (hgr5.out.trans hgB6)
                have HO6 := hid (owns_below ho5.out hw6)
                have hst2 := Hst2.out
                rw [hN.out] at hst2
                have HS6 := hid hst2
                have HR6 : Hid (rdL (.slice (some ⟨g1, 0, none⟩) 0 cap1) w6 = []) := hid (rdL_of (Sl.of_own HO6.out))
                clear hst2 r2 k2 zK hgB6
                gi_wp2
                refine ⟨?_, ?_⟩
                · (repeat apply Exists.intro); refine ⟨?_, rfl⟩
                  exact ⟨g1, cap1, [], xs2, own', rfl, rfl, hid HS6.out.1, hid ⟨by simp, fun x hx => by cases hx⟩, HO6, HJ6, HG6, hgo1⟩
                · show (wdsN (K : Int) q 800 (rdL (.slice (some ⟨g1, 0, none⟩) 0 cap1) w6)).length < (wdsN (K : Int) q 800 (rdL (.slice (some ⟨g, 0, none⟩) n cap) _)).length
                  rw [HrdL.out, HR6.out]
                  exact HS6.out.2
              | succ p =>
                have hpE : p < E.length := by rw [HElen.out]; omega
                obtain ⟨x, hx⟩ : ∃ x, E[p]? = some x := ⟨_, List.getElem?_eq_getElem hpE⟩
                have hxr := HEr.out x (List.mem_of_getElem? hx)
                have hI5 : InS wr wr.heap.size (some ⟨g1, 0, none⟩) (p + 1) (E.take (p + 1)) := Sl.of_own ho5.out
                have hc5 : wr.cell? ⟨g1, p, none⟩ = some (.int .i64 x) := by
                  obtain ⟨b', off', x', e, -, hx', hc'⟩ := hI5.at_ (Nat.lt_succ_self p)
                  cases e
                  rw [List.getElem?_take, if_pos (Nat.lt_succ_self p), hx] at hx'
                  cases hx'
                  rwa [Nat.zero_add] at hc'
                have lg1 : g1 < wr.heap.size := (ho5.out.lt g1 rfl).2
                have zp : IntKind.i64.wrap (p : Int) = (p : Int) := IntWalk.i64_in _ (by omega)
                have hp2 : (0 : Int) ≤ p := by omega
                have hp3 : (p : Int) < (p : Int) + 1 := by omega
                have hp0 : (0 : Int) < ((p + 1 : Nat) : Int) := by omega
                have hp1 : (p : Int) < ((p + 1 : Nat) : Int) := by omega
                have hcap : p + 1 ≤ cap1 := own_capN ho5.out
                have hpc : (p : Int) ≤ cap1 := by omega
                have Hx := hid hx
                clear hx hI5
                by_cases hxK : x = (K : Int) - 1
                · have t1 : (x == (K : Int) - 1) = true := by simpa using hxK
                  gi_wp2
                  refine wpIn_region_hd_all (fun W => Below wr.heap.size wr W) (by kernel_rfl) (by kernel_rfl) ((Below.refl _ _).drew) ?_
                  iterate 14 (refine wpHd_val (v := ?_) (by rfl) (fun W hW => ?_) ?_; rotate_left; (· obtain ⟨hcW, hfW⟩ := bcell hW; go_simp; with_reducible rfl); simp only [Act.put, List.setIfInBounds_toArray, List.set_cons_zero, List.set_cons_succ])
                  refine wpHd_nil ?_
                  intro w6 hw6
                  have hz6 := hw6.size
                  have HJ6 := hid (HJs.out _ _ wr w6 hJ5.out (fun k _ hlt => hw6.block k hlt) hw6.size hw6.os hw6.tape hw6.output)
                  have hgB6 : Grow own' wr own' w6 := grow_below hgr5.out.lt hw6
                  have HG6 := hid (hgr5.out.trans hgB6)
                  have HI6 := hid (hin5.out.grow hgB6)
                  have ho6 := own_take (owns_below ho5.out hw6)
                  have HO6 : Hid (w6.ownsRow W.heap.size 3 1 (.slice (some ⟨g1, 0, none⟩) p cap1) p ((E.take p).flatMap cI)) := hid (by
                    have e1 := takeI_succ Hx.out
                    rw [e1] at ho6
                    have e2 : ((E.take p).flatMap cI).length = p := by
                      rw [flatI_len', List.length_take]; omega
                    rw [List.take_append_of_le_length (by omega), List.take_of_length_le (by omega)] at ho6
                    exact ho6)
                  have HS6 : Hid (Strip K E p) := hid (strip_next hst.out (by rw [Hx.out, hxK]))
                  clear ho6 r2 k2 zK hgB6 hc5
                  gi_wp2
                  exact ⟨⟨p, rfl, by omega, HS6, HO6, HJ6, HG6, HI6⟩, by simp [lenV]⟩
                · have t1 : (x == (K : Int) - 1) = false := by simpa using hxK
                  have hN : Hid (nxtW K q wl = E.take p ++ [x + 1]) := hid (by rw [← HE.out]; exact strip_end (by rw [HE.out]; exact hst.out) (by rw [HE.out]; exact Hx.out) hxK)
                  gi_wp2
                  refine wpIn_region_hd_all (fun W => Below wr.heap.size wr W) (by kernel_rfl) (by kernel_rfl) ((Below.refl _ _).drew) ?_
                  iterate 14 (refine wpHd_val (v := ?_) (by rfl) (fun W hW => ?_) ?_; rotate_left; (· obtain ⟨hcW, hfW⟩ := bcell hW; go_simp; with_reducible rfl); simp only [Act.put, List.setIfInBounds_toArray, List.set_cons_zero, List.set_cons_succ])
                  refine wpHd_nil ?_
                  intro w6 hw6
                  have hz6 := hw6.size
                  have hJ6 := HJs.out _ _ wr w6 hJ5.out (fun k _ hlt => hw6.block k hlt) hw6.size hw6.os hw6.tape hw6.output
                  have hgB6 : Grow own' wr own' w6 := grow_below hgr5.out.lt hw6
                  have hG6 := hgr5.out.trans hgB6
                  have ho6 := owns_below ho5.out hw6
                  rw [takeI_succ Hx.out] at ho6
                  have hc6 : w6.cell? ⟨g1, p, none⟩ = some (.int .i64 x) := (hw6.cell (p := ⟨g1, p, none⟩) lg1).trans hc5
                  obtain ⟨cur, hB6, -⟩ := own_blk ho6
                  have l6 := hB6.lt
                  have f6 := hB6.frozen p
                  have zx : IntKind.i64.wrap (x + 1) = x + 1 := IntWalk.i64_in _ (by omega)
                  have hrow : ∀ r, some g1 = some r → W.heap.size ≤ r ∧ ¬ own' r := fun r hr => by cases hr; exact ⟨hgW1.1, hgo1⟩
                  have hgS := grown_setCell w6 g1 p (.int .i64 (x + 1))
                  have HJ7 := hid (stabW_grown HJs.out hJ6 hgS hrow)
                  have HG7 := hid (grow_grown hG6 hgS (fun r hr => (hrow r hr).1))
                  have HO7 := hid (own_set_last (y := .int .i64 (x + 1)) ho6)
                  have hpl : (E.take p).length = p := by rw [List.length_take]; omega
                  have HO8 : Hid ((w6.setCell ⟨g1, p, none⟩ (.int .i64 (x + 1))).ownsRow W.heap.size 3 1 (.slice (some ⟨g1, 0, none⟩) (E.take p ++ [x + 1]).length cap1) (E.take p ++ [x + 1]).length ((E.take p ++ [x + 1]).flatMap cI)) := hid (by
                    rw [List.length_append, hpl, List.flatMap_append]; exact HO7.out)
                  have hlv : Hid ((E.take p ++ [x + 1]).length = p + 1) := hid (by rw [List.length_append, hpl]; rfl)
                  have hst2 := Hst2.out
                  rw [hN.out] at hst2
                  have HS6 := hid hst2
                  have HOK : Hid (WdOk K q (E.take p ++ [x + 1])) := hid (by rw [← hN.out]; exact nxtW_ok hok.out Hnil.out)
                  have HR6 : Hid (rdL (.slice (some ⟨g1, 0, none⟩) (p + 1) cap1) (w6.setCell ⟨g1, p, none⟩ (.int .i64 (x + 1))) = E.take p ++ [x + 1]) := hid (by
                    have e5 := Sl.of_own HO8.out
                    rw [hlv.out] at e5
                    exact rdL_of (l := E.take p ++ [x + 1]) e5)
                  clear hst2 r2 k2 zK hgB6 hc5 hG6 hJ6 ho6 hB6 hgS HO7 hpl
                  gi_wp2
                  refine ⟨?_, ?_⟩
                  · (repeat apply Exists.intro); refine ⟨?_, rfl⟩
                    exact ⟨g1, cap1, E.take p ++ [x + 1], xs2, own', rfl, by rw [hlv.out], hid HS6.out.1, HOK, HO8, HJ7, HG7, hgo1⟩
                  · show (wdsN (K : Int) q 800 (rdL (.slice (some ⟨g1, 0, none⟩) (p + 1) cap1) _)).length < (wdsN (K : Int) q 800 (rdL (.slice (some ⟨g, 0, none⟩) n cap) _)).length
                    rw [HrdL.out, HR6.out]
                    exact HS6.out.2
end Go.Proofs.Ytiobmfggnacplaa
/- Walks: a product of two words, in two words. -/
namespace Go.Proofs.Ytiobmfggnacplaa
open Go.RowKit
attribute [local go_sem] Oper.semAt_some
theorem mul_facts : ∀ x : Fin 13, bits .and .u64 (x.1 : Int) 4294967295 = (x.1 : Int) ∧ (x.1 : Int) / 4294967296 = 0 := by decide +kernel
set_option maxRecDepth 10000 in
theorem mul64_any (x y : Nat) (w : World) (hx : x ≤ 12) (hy : y ≤ 12) : Calls Try.prog 103 #[.int .u64 (x : Int), .int .u64 (y : Int)] w fun e w' => e = .returned (.tuple #[.int .u64 0, .int .u64 ((x * y : Nat) : Int)]) ∧ w = w' := by
  obtain ⟨b1, d1⟩ := mul_facts ⟨x, by omega⟩
  obtain ⟨b2, d2⟩ := mul_facts ⟨y, by omega⟩
  simp only at b1 b2 d1 d2
  have hxy : x * y ≤ 12 * 12 := Nat.mul_le_mul hx hy
  have zx : IntKind.u64.wrap ((x : Int) * (y : Int)) = ((x * y : Nat) : Int) := by
    rw [show (x : Int) * (y : Int) = ((x * y : Nat) : Int) by simp]
    exact IntWalk.u64_in _ (by omega)
  have dxy : ((x * y : Nat) : Int) / 4294967296 = 0 := by omega
  have z0 : IntKind.u64.wrap 0 = 0 := by decide
  have b0 : bits .and .u64 0 4294967295 = 0 := by decide +kernel
  obtain ⟨p, hp⟩ : ∃ p : Int, ((x * y : Nat) : Int) = p := ⟨_, rfl⟩
  rw [hp] at zx dxy ⊢
  clear hxy hp
  go_enter Try.func103, Try.ntmps103
  go_wp2
  refine bodyPost_ret (v := .tuple #[.int .u64 0, .int .u64 p]) (by first | (simp [results, Try.results103, go_sem]; done) | (simp [results, Try.results103, go_sem, *]; done) | (simp [results, Try.results103, go_sem, World.cell?_setCell_same', *]; done) | (simp [results, Try.results103, go_sem]; first | exact ⟨rfl, rfl⟩ | rfl)) rfl ⟨rfl, rfl⟩
set_option maxRecDepth 10000 in
theorem mul_any (x y : Nat) (w : World) (hx : x ≤ 12) (hy : y ≤ 12) : Calls Try.prog 98 #[.int .u64 (x : Int), .int .u64 (y : Int)] w fun e w' => e = .returned (.tuple #[.int .u64 0, .int .u64 ((x * y : Nat) : Int)]) ∧ w = w' := by
  go_enter Try.func98, Try.ntmps98
  go_wp2_with (go_at_call 103; refine (mul64_any x y _ hx hy).mono ?_; rintro e w1 ⟨rfl, rfl⟩)
  refine bodyPost_ret (v := .tuple #[.int .u64 0, .int .u64 ((x * y : Nat) : Int)]) (by first | (simp [results, Try.results98, go_sem]; done) | (simp [results, Try.results98, go_sem, *]; done) | (simp [results, Try.results98, go_sem, World.cell?_setCell_same', *]; done) | (simp [results, Try.results98, go_sem]; first | exact ⟨rfl, rfl⟩ | rfl)) rfl ⟨rfl, rfl⟩
end Go.Proofs.Ytiobmfggnacplaa
/- Walks: a word is repeated. -/
namespace Go.Proofs.Ytiobmfggnacplaa
open Go.RowKit
attribute [local go_sem] Oper.semAt_some
/-- The first cells of a block are those of the word, again and again. -/
def RepB (w : World) (g L n k : Nat) (l : List Int) : Prop := ∃ cur : List Value, Blk w g 3 cur.toArray ∧ cur.length = L ∧ ∀ j, j < k → cur[j]? = some (.int .i64 (l.getD (j % n) 0))
theorem splice_get {α : Type} {L cs : List α} {off : Nat} (h : off + cs.length ≤ L.length) (j : Nat) : (splice L off cs)[j]? = if j < off then L[j]? else if j < off + cs.length then cs[j - off]? else L[j]? := by
  unfold splice
  have hl : (L.take off).length = off := by rw [List.length_take]; omega
  split
  · rename_i h1
    rw [List.getElem?_append_left (by omega), List.getElem?_take, if_pos h1]
  · rename_i h1
    split
    · rename_i h2
      rw [List.getElem?_append_right (by omega), List.getElem?_append_left (by omega), hl]
    · rename_i h2
      rw [List.getElem?_append_right (by omega), hl, List.getElem?_append_right (by omega), List.getElem?_drop]
      congr 1
      omega
set_option maxRecDepth 10000 in
set_option maxHeartbeats 4000000 in
theorem repeat_any (A : Addr) (n d c : Nat) (l : List Int) (w : World) (hl : InS w w.heap.size (some A) n l) (hn1 : 1 ≤ n) (hc1 : 1 ≤ c) (hn : n ≤ 12) (hc : c ≤ 12) :
    Calls Try.prog 81 #[.slice (some A) n d, .int .i64 (c : Int)] w fun e w' => ∃ q, e = .returned (.slice (some ⟨q, 0, none⟩) (n * c) (n * c)) ∧ w'.ownsRow w.heap.size 3 1 (.slice (some ⟨q, 0, none⟩) (n * c) (n * c)) (n * c) ((repW (n * c) l).flatMap cI) ∧ Below w.heap.size w w' := by
  have HL := hid hl
  have hlen := hid hl.len
  have hI3 : (Try.prog.info? 3).map (·.size) = some 1 := by kernel_rfl
  have hL : n * c ≤ 12 * 12 := Nat.mul_le_mul hn hc
  have hLn : n ≤ n * c := Nat.le_mul_of_pos_right n hc1
  have Hd := hid (Nat.dvd_mul_right n c)
  clear hl
  have hMul := fun w => mul_any n c w hn hc
  obtain ⟨L, hLe⟩ : ∃ L, n * c = L := ⟨_, rfl⟩
  rw [hLe] at hL hLn Hd hMul ⊢
  clear hLe
  have zn : IntKind.u64.wrap (n : Int) = n := IntWalk.u64_in _ (by omega)
  have zc : IntKind.u64.wrap (c : Int) = c := IntWalk.u64_in _ (by omega)
  have zL : IntKind.i64.wrap (L : Int) = L := IntWalk.i64_in _ (by omega)
  have hc0 : ¬ (c : Int) < 0 := by omega
  have hLi : ¬ (9223372036854775807 : Int) < (L : Int) := by omega
  have hmk := @make_i64 L (by omega)
  have hms : (madeCells #[.int .i64 0] L).size = L := by simp [madeCells]
  have hfit : 0 + (l.flatMap cI).length ≤ (madeCells #[.int .i64 0] L).toList.length := by rw [flatI_len', hlen.out]; simp [madeCells]; omega
  have hfl : (l.flatMap cI).length = n := by rw [flatI_len', hlen.out]
  have hmin : (l.flatMap cI).length = Nat.min n L := by rw [hfl]; exact (Nat.min_eq_left hLn).symm
  go_enter Try.func81, Try.ntmps81
  go_wp2_with (first | (go_at_call 98; refine (hMul _).mono ?_; rintro e w1 ⟨rfl, rfl⟩) | (refine wpList_copy_splice rfl _ _ 22 22 rfl 3 under22 hI3 (some ⟨w.heap.size, 0, none⟩) (some A) L L n d rfl rfl w.heap.size 0 (madeCells #[.int .i64 0] L).toList 3 (by rw [Array.toArray_toList]; exact heap_alloc_new _ _) (l.flatMap cI) hmin (fun h => ⟨rfl, cop_src HL.out (by omega) (fun p hp => World.cell?_alloc_lt _ _ p hp)⟩) hfit (one_flatI _) w.heap.size w ((Below.refl _ _).alloc (Nat.le_refl _) _) (Nat.le_refl _) ?_; intro W9 HG9 hb9))
  have HR0 : Hid (RepB W9 w.heap.size L n n l) := hid ⟨_, HG9.out, by rw [length_splice _ _ _ hfit]; simp [madeCells], fun j hj => by
    rw [splice_get hfit, if_neg (by omega), if_pos (by omega), Nat.sub_zero, cI_map, List.getElem?_map, Nat.mod_eq_of_lt hj, List.getD_eq_getElem?_getD, List.getElem?_eq_getElem (by rw [hlen.out]; exact hj)]
    rfl⟩
  clear HG9 hfit hmk hms hMul hmin hfl
  go_loopw [8] (fun i wr => ∃ k : Nat, n ≤ k ∧ k ≤ L ∧ i = .int .i64 (k : Int) ∧ (n ∣ k ∨ k = L) ∧ Hid (RepB wr w.heap.size L n k l) ∧ Below w.heap.size w wr) (fun i _ => L - (intOf i).toNat)
  case atStart => exact ⟨n, Nat.le_refl _, hLn, rfl, .inl (Nat.dvd_refl _), HR0, hb9⟩
  case round =>
    obtain ⟨k, hnk, hkL, rfl, hdk, hR, hbw⟩ := hrel
    by_cases hlt : k < L
    · have hlti : (k : Int) < L := by omega
      have hdk' : n ∣ k := by
        rcases hdk with h | h
        · exact h
        · omega
      have hLk : ¬ L = k := by omega
      have hk0 : (0 : Int) ≤ k := by omega
      have hkl : (k : Int) ≤ L := by omega
      obtain ⟨cur, hB, hcl, hcr⟩ := hR.out
      obtain ⟨mn, hmn⟩ : ∃ mn, Nat.min k (L - k) = mn := ⟨_, rfl⟩
      have hmn1 : mn ≤ k := by rw [← hmn]; exact Nat.min_le_left _ _
      have hmn2 : mn ≤ L - k := by rw [← hmn]; exact Nat.min_le_right _ _
      have hmn3 : mn = k ∨ mn = L - k := by rw [← hmn]; rcases Nat.le_total k (L - k) with h | h; exact .inl (Nat.min_eq_left h); exact .inr (Nat.min_eq_right h)
      have hcsl : (cur.take mn).length = mn := by rw [List.length_take]; omega
      have hfit : k + (cur.take mn).length ≤ cur.length := by rw [hcsl]; omega
      have hone : ∀ v ∈ cur.take mn, v.oneCell' = true := fun v hv => by
        obtain ⟨j, hj⟩ := List.getElem?_of_mem hv
        have hjl := (List.getElem?_eq_some_iff.1 hj).1
        rw [List.getElem?_take, if_pos (by omega), hcr j (by omega)] at hj
        cases hj; rfl
      have hsrc : ∀ (W : World), Blk W w.heap.size 3 cur.toArray → ∀ j v, (cur.take mn)[j]? = some v → W.cell? ((⟨w.heap.size, 0, none⟩ : Addr).add j) = some v := fun W hW j v hv => by
        have hjl := (List.getElem?_eq_some_iff.1 hv).1
        rw [List.getElem?_take, if_pos (by omega)] at hv
        rw [add_at, Nat.zero_add, hW.cell j, List.getElem?_toArray]
        exact hv
      have Hcr := hid hcr
      have HB := hid hB
      have Hsrc := hid hsrc
      have Hone := hid hone
      have Hfit := hid hfit
      have Hmn := hid hmn
      have Hcs := hid hcsl
      clear hcr hB hsrc hone hfit hmn
      go_wp2
      go_region_law (refine step_copy_splice rfl (.tmp 41) (.tmp 44) 22 22 rfl 3 under22 hI3 (some ⟨w.heap.size, k, none⟩) (some ⟨w.heap.size, 0, none⟩) (L - k) (L - k) k L (by simp [Act.eval, Act.put]) (by simp [Act.eval, Act.put]) w.heap.size k cur 3 (HB.out.below (by repeat' (first | with_reducible assumption | with_reducible exact Below.refl _ _ | refine Below.alloc ?_ ?_ _ | refine Below.setCell ?_ ?_ _ | refine Below.drew ?_ | refine below_drewN ?_ _ | (simp; done) | (simp; omega) | omega)) HB.out.lt) (cur.take mn) (by rw [Hcs.out, Hmn.out]) (fun _ => ⟨rfl, _, rfl, Hsrc.out _ (HB.out.below (by repeat' (first | with_reducible assumption | with_reducible exact Below.refl _ _ | refine Below.alloc ?_ ?_ _ | refine Below.setCell ?_ ?_ _ | refine Below.drew ?_ | refine below_drewN ?_ _ | (simp; done) | (simp; omega) | omega)) HB.out.lt)⟩) Hfit.out Hone.out w.heap.size w (hbw.trans (by repeat' (first | with_reducible assumption | with_reducible exact Below.refl _ _ | refine Below.alloc ?_ ?_ _ | refine Below.setCell ?_ ?_ _ | refine Below.drew ?_ | refine below_drewN ?_ _ | (simp; done) | (simp; omega) | omega))) (Nat.le_refl _) ?_; intro W9 HG9 hb9)
      have hR9 : Hid (RepB W9 w.heap.size L n (k + mn) l) := hid ⟨_, HG9.out, by rw [length_splice _ _ _ Hfit.out]; exact hcl, fun j hj => by
        rw [splice_get Hfit.out, Hcs.out]
        split
        · exact Hcr.out j (by assumption)
        · rename_i h1
          rw [List.getElem?_take, if_pos (by omega), Hcr.out (j - k) (by omega)]
          obtain ⟨t, rfl⟩ := hdk'
          have e : (j - n * t) % n = j % n := by
            have h2 := Nat.add_mul_mod_self_left (j - n * t) n t
            rw [Nat.sub_add_cancel (by omega)] at h2
            exact h2.symm
          rw [e]⟩
      have hdk2 : n ∣ k + mn ∨ k + mn = L := by
        rcases hmn3 with h | h
        · exact .inl (by rw [h]; exact Nat.dvd_add hdk' hdk')
        · exact .inr (by omega)
      have hbw9 := hb9
      have zk : IntKind.i64.wrap ((k : Int) + (mn : Int)) = ((k + mn : Nat) : Int) := by rw [show (k : Int) + (mn : Int) = ((k + mn : Nat) : Int) by omega]; exact IntWalk.i64_in _ (by omega)
      have hmn0 : 1 ≤ mn := by omega
      clear HG9 hdk hdk' hmn3 HB Hcr Hsrc
      simp only [Act.put, List.getElem_toArray, List.getElem_cons_succ, List.getElem_cons_zero, List.setIfInBounds_toArray, List.set_cons_zero, List.set_cons_succ]
      rw [zk]
      go_wp2
      exact ⟨⟨k + mn, by omega, by omega, by go_num, hdk2, hR9, hbw9⟩, by simp [intOf]; omega⟩
    · obtain rfl : k = L := by omega
      have hlti : ¬ (k : Int) < k := by omega
      obtain ⟨cur, hB, hcl, hcr⟩ := hR.out
      have hce : cur = (repW k l).flatMap cI := by
        rw [cI_map]
        refine List.ext_getElem? fun j => ?_
        rcases Nat.lt_or_ge j k with h1 | h1
        · rw [hcr j h1, List.getElem?_map, repW_at l h1, hlen.out]; rfl
        · rw [List.getElem?_eq_none (by omega), List.getElem?_eq_none (by simp [repW_len]; omega)]
      have HO : Hid (wr.ownsRow w.heap.size 3 1 (.slice (some ⟨w.heap.size, 0, none⟩) k k) k ((repW k l).flatMap cI)) := hid ⟨by rw [flatI_len', repW_len, Nat.mul_one], .inr ⟨w.heap.size, k, _, rfl, Nat.le_refl _, hB, Nat.le_refl _, by unfold maxLen; omega, by simp [hcl], by rw [hce, Nat.mul_one, List.take_of_length_le (by rw [List.toList_toArray, flatI_len', repW_len]; exact Nat.le_refl _)]⟩⟩
      clear hce hcr hB hR
      go_wp2
      refine bodyPost_ret (v := .slice (some ⟨w.heap.size, 0, none⟩) k k) (by first | (simp [results, Try.results81, go_sem]; done) | (simp [results, Try.results81, go_sem, *]; done) | (simp [results, Try.results81, go_sem, World.cell?_setCell_same', *]; done) | (simp [results, Try.results81, go_sem]; first | exact ⟨rfl, rfl⟩ | rfl)) rfl ⟨_, rfl, HO.out, hbw⟩
end Go.Proofs.Ytiobmfggnacplaa
/- Lists of touches, by their numbers. -/
namespace Go.Proofs.Ytiobmfggnacplaa
theorem numL_snoc {K : Nat} (_ : 1 ≤ K) (t x : Nat) : numL K (t + 1) x = numL K t (x / K) ++ [((x % K : Nat) : Int)] := by
  unfold numL
  rw [List.range_succ, List.map_append]
  congr 1
  · refine List.map_congr_left fun j hj => ?_
    have hjt := List.mem_range.1 hj
    rw [show t + 1 - 1 - j = (t - 1 - j) + 1 by omega, Nat.pow_succ, Nat.mul_comm, ← Nat.div_div_eq_div_mul]
  · simp
theorem numL_cons {K : Nat} (t x : Nat) : numL K (t + 1) x = ((x / K ^ t % K : Nat) : Int) :: numL K t x := by
  unfold numL
  rw [List.range_succ_eq_map, List.map_cons, List.map_map]
  congr 1
  refine List.map_congr_left fun j hj => ?_
  have hjt := List.mem_range.1 hj
  simp only [Function.comp]
  rw [show t + 1 - 1 - (j + 1) = t - 1 - j by omega]
theorem numL_mod {K : Nat} (hK : 1 ≤ K) : ∀ t x, numL K t (x % K ^ t) = numL K t x
  | 0, x => rfl
  | t + 1, x => by
    rw [numL_snoc hK, numL_snoc hK]
    congr 1
    · rw [Nat.pow_succ, Nat.mul_comm, Nat.mod_mul_right_div_self, numL_mod hK t]
    · rw [Nat.pow_succ, Nat.mul_comm, Nat.mod_mul_right_mod]
theorem numL_lt {K : Nat} (hK : 1 ≤ K) : ∀ (t x y : Nat), x < y → y < K ^ t → bef (numL K t x) (numL K t y) = true
  | 0, x, y, h, hy => by simp at hy; omega
  | t + 1, x, y, h, hy => by
    rw [numL_snoc hK, numL_snoc hK]
    have hd : x / K ≤ y / K := Nat.div_le_div_right (by omega)
    have hy2 : y / K < K ^ t := by
      rw [Nat.div_lt_iff_lt_mul (by omega)]; rwa [Nat.pow_succ] at hy
    rcases Nat.lt_or_ge (x / K) (y / K) with h1 | h1
    · exact bef_same_len _ _ (by rw [numL_len, numL_len]) (numL_lt hK t _ _ h1 hy2)
    · have e : x / K = y / K := by omega
      rw [e, bef_app]
      have h2 : x % K < y % K := by
        have := Nat.div_add_mod x K; have := Nat.div_add_mod y K; rw [e] at *; omega
      show bef [((x % K : Nat) : Int)] [((y % K : Nat) : Int)] = true
      unfold bef
      rw [if_neg (by omega)]
      exact decide_eq_true (by omega)
theorem numL_bef {K t x y : Nat} (hK : 1 ≤ K) (hx : x < K ^ t) (hy : y < K ^ t) : bef (numL K t x) (numL K t y) = decide (x < y) := by
  rcases Nat.lt_trichotomy x y with h | h | h
  · rw [numL_lt hK t x y h hy, decide_eq_true h]
  · subst h; rw [bef_self]; simp
  · rw [bef_asymm (numL_lt hK t y x h hx)]; symm; simp; omega
theorem numL_inj {K t x y : Nat} (hK : 1 ≤ K) (hx : x < K ^ t) (hy : y < K ^ t) (h : numL K t x = numL K t y) : x = y := by
  rcases Nat.lt_trichotomy x y with h1 | h1 | h1
  · have := numL_lt hK t x y h1 hy; rw [h, bef_self] at this; cases this
  · exact h1
  · have := numL_lt hK t y x h1 hx; rw [h, bef_self] at this; cases this
/-- The number of a list. -/
def valN (K : Nat) (l : List Int) : Nat := l.foldl (fun a x => K * a + x.toNat) 0
theorem valN_snoc (K : Nat) (l : List Int) (x : Int) : valN K (l ++ [x]) = K * valN K l + x.toNat := by simp [valN]
theorem snoc_ind {α : Type} {p : List α → Prop} (h0 : p []) (h1 : ∀ l x, p l → p (l ++ [x])) : ∀ l, p l := fun l => by
  have : ∀ l : List α, p l.reverse := by
    intro l
    induction l with
    | nil => exact h0
    | cons a l ih => rw [List.reverse_cons]; exact h1 _ _ ih
  have := this l.reverse
  rwa [List.reverse_reverse] at this
theorem valN_lt {K : Nat} (l : List Int) : (∀ x : Int, x ∈ l → 0 ≤ x ∧ x < (K : Int)) → valN K l < K ^ l.length := by
  refine snoc_ind (p := fun l => (∀ x : Int, x ∈ l → 0 ≤ x ∧ x < (K : Int)) → valN K l < K ^ l.length) (fun _ => by simp [valN]) (fun l x ih h => ?_) l
  have h1 := ih (fun y hy => h y (List.mem_append_left _ hy))
  have h2 := h x (by simp)
  rw [valN_snoc, List.length_append, List.length_singleton, Nat.pow_succ]
  have h3 : K * (valN K l + 1) ≤ K * K ^ l.length := Nat.mul_le_mul_left K h1
  rw [Nat.mul_add, Nat.mul_one] at h3
  rw [Nat.mul_comm (K ^ l.length) K]
  omega
theorem numL_val {K : Nat} (l : List Int) : (∀ x : Int, x ∈ l → 0 ≤ x ∧ x < (K : Int)) → numL K l.length (valN K l) = l := by
  refine snoc_ind (p := fun l => (∀ x : Int, x ∈ l → 0 ≤ x ∧ x < (K : Int)) → numL K l.length (valN K l) = l) (fun _ => rfl) (fun l x ih h => ?_) l
  have h1 := ih (fun y hy => h y (List.mem_append_left _ hy))
  have h2 := h x (by simp)
  have hK : 1 ≤ K := by omega
  rw [valN_snoc, List.length_append, List.length_singleton, numL_snoc hK]
  have e1 : (K * valN K l + x.toNat) / K = valN K l := by
    rw [Nat.mul_add_div (by omega), Nat.div_eq_of_lt (by omega)]; rfl
  have e2 : (K * valN K l + x.toNat) % K = x.toNat := by
    rw [Nat.mul_add_mod, Nat.mod_eq_of_lt (by omega)]
  rw [e1, e2, h1, Int.toNat_of_nonneg h2.1]
theorem numL_mem {K : Nat} (hK : 1 ≤ K) {t x : Nat} {y : Int} (h : y ∈ numL K t x) : 0 ≤ y ∧ y < K := by
  obtain ⟨j, -, rfl⟩ := List.mem_map.1 h
  have := Nat.mod_lt (x / K ^ (t - 1 - j)) (show 0 < K by omega)
  constructor <;> omega
theorem val_num {K : Nat} (hK : 1 ≤ K) {t x : Nat} (hx : x < K ^ t) : valN K (numL K t x) = x := by
  have h := numL_val (K := K) (numL K t x) (fun y hy => numL_mem hK hy)
  rw [numL_len] at h
  exact numL_inj hK (by have := valN_lt (K := K) (numL K t x) (fun y hy => numL_mem hK hy); rwa [numL_len] at this) hx h
/-- A number turned by one. -/
def rotN (K t x : Nat) : Nat := x % K ^ (t - 1) * K + x / K ^ (t - 1)
theorem rotN_lt {K t x : Nat} (hK : 1 ≤ K) (ht : 1 ≤ t) (hx : x < K ^ t) : rotN K t x < K ^ t := by
  obtain ⟨s, rfl⟩ : ∃ s, t = s + 1 := ⟨t - 1, by omega⟩
  unfold rotN
  rw [Nat.add_sub_cancel]
  have hp : 0 < K ^ s := Nat.pow_pos (by omega)
  have h1 : x / K ^ s < K := by rw [Nat.div_lt_iff_lt_mul hp, Nat.mul_comm]; rwa [Nat.pow_succ] at hx
  have h2 := Nat.mod_lt x hp
  have h3 : (x % K ^ s + 1) * K ≤ K ^ s * K := Nat.mul_le_mul_right K h2
  rw [Nat.add_mul, Nat.one_mul] at h3
  rw [Nat.pow_succ]
  omega
theorem rotN_rot {K t x : Nat} (hK : 1 ≤ K) (ht : 1 ≤ t) (hx : x < K ^ t) : numL K t (rotN K t x) = rot (numL K t x) 1 := by
  obtain ⟨s, rfl⟩ : ∃ s, t = s + 1 := ⟨t - 1, by omega⟩
  have hp : 0 < K ^ s := Nat.pow_pos (by omega)
  have h1 : x / K ^ s < K := by rw [Nat.div_lt_iff_lt_mul hp, Nat.mul_comm]; rwa [Nat.pow_succ] at hx
  rw [numL_snoc hK, numL_cons s x]
  unfold rotN
  rw [Nat.add_sub_cancel]
  have e1 : (x % K ^ s * K + x / K ^ s) / K = x % K ^ s := by
    rw [Nat.mul_comm, Nat.mul_add_div (by omega), Nat.div_eq_of_lt h1]; rfl
  have e2 : (x % K ^ s * K + x / K ^ s) % K = x / K ^ s := by
    rw [Nat.mul_comm, Nat.mul_add_mod, Nat.mod_eq_of_lt h1]
  rw [e1, e2, numL_mod hK, Nat.mod_eq_of_lt h1]
  rfl
def rotK (K t x : Nat) : Nat → Nat
  | 0 => x
  | k + 1 => rotN K t (rotK K t x k)
theorem rotK_lt {K t x : Nat} (hK : 1 ≤ K) (ht : 1 ≤ t) (hx : x < K ^ t) : ∀ k, rotK K t x k < K ^ t
  | 0 => hx
  | k + 1 => rotN_lt hK ht (rotK_lt hK ht hx k)
theorem rotK_rot {K t x : Nat} (hK : 1 ≤ K) (ht : 1 ≤ t) (hx : x < K ^ t) : ∀ k, k < t → numL K t (rotK K t x k) = rot (numL K t x) k
  | 0, _ => by rw [rot_zero]; rfl
  | k + 1, h => by
    have hl := numL_len K t x
    rw [rotK, rotN_rot hK ht (rotK_lt hK ht hx k), rotK_rot hK ht hx k (by omega), rot_rot (by omega) (by omega) (by omega), hl, Nat.mod_eq_of_lt h]
/-- No turn is less: by numbers. -/
def lstGo (K P x : Nat) : Nat → Nat → Bool
  | 0, _ => true
  | f + 1, y => Nat.ble x (y % P * K + y / P) && lstGo K P x f (y % P * K + y / P)
def lstN (K t x : Nat) : Bool := lstGo K (K ^ (t - 1)) x (t - 1) x
theorem lstGo_t {K t x : Nat} : ∀ f k, lstGo K (K ^ (t - 1)) x f (rotK K t x k) = true ↔ ∀ j, k < j → j ≤ k + f → x ≤ rotK K t x j
  | 0, k => by simp [lstGo]; intro j h1 h2; omega
  | f + 1, k => by
    rw [lstGo, Bool.and_eq_true]
    have e : rotK K t x k % K ^ (t - 1) * K + rotK K t x k / K ^ (t - 1) = rotK K t x (k + 1) := rfl
    rw [e, lstGo_t f (k + 1), Nat.ble_eq]
    constructor
    · rintro ⟨h1, h2⟩ j h3 h4
      rcases Nat.eq_or_lt_of_le (show k + 1 ≤ j from h3) with h5 | h5
      · rw [← h5]; exact h1
      · exact h2 j h5 (by omega)
    · intro h
      exact ⟨h _ (by omega) (by omega), fun j h1 h2 => h j (by omega) (by omega)⟩
theorem lstN_eq {K t x : Nat} (hK : 1 ≤ K) (ht : 1 ≤ t) (hx : x < K ^ t) : leastB (numL K t x) = lstN K t x := by
  have hl := numL_len K t x
  have hb : ∀ k, k < t → bef (rot (numL K t x) k) (numL K t x) = decide (rotK K t x k < x) := fun k hk => by
    rw [← rotK_rot hK ht hx k hk, numL_bef hK (rotK_lt hK ht hx k) hx]
  cases h : lstN K t x
  · cases h2 : leastB (numL K t x)
    · rfl
    · exfalso
      have : lstN K t x = true := by
        refine (lstGo_t (t - 1) 0).2 fun j h3 h4 => ?_
        unfold leastB at h2
        rw [List.all_eq_true] at h2
        have h5 := h2 j (List.mem_range.2 (by omega))
        rw [hb j (by omega)] at h5
        simp at h5
        omega
      rw [h] at this; cases this
  · refine leastB_yes fun k h0 hk => ?_
    rw [hl] at hk
    rw [hb k hk]
    have := (lstGo_t (t - 1) 0).1 h k h0 (by omega)
    simp; omega
theorem allT_num {K t : Nat} (hK : 1 ≤ K) (ht : 1 ≤ t) : ∀ q, q ≤ K ^ t → allT K t q = ((List.range q).filter (lstN K t)).map (numL K t) := by
  intro q hq
  unfold allT
  rw [List.filter_map]
  congr 1
  refine List.filter_congr fun x hx => ?_
  exact lstN_eq hK ht (Nat.lt_of_lt_of_le (List.mem_range.1 hx) hq)
end Go.Proofs.Ytiobmfggnacplaa
/- All rims: the words repeated are the least readings; by the kernel. -/
namespace Go.Proofs.Ytiobmfggnacplaa
def perF (t : Nat) (L : List (List Int)) : List (List Int) := (L.filter fun w => t % w.length == 0).map (repW t)
theorem perF_snoc (t : Nat) (L : List (List Int)) (w : List Int) : perF t (L ++ [w]) = if t % w.length = 0 then perF t L ++ [repW t w] else perF t L := by
  unfold perF
  rw [List.filter_append, List.map_append]
  by_cases h : t % w.length = 0
  · rw [if_pos h]; simp [h]
  · rw [if_neg h]; simp [h]
theorem perF_len (t : Nat) (L : List (List Int)) : (perF t L).length ≤ L.length := by
  unfold perF
  rw [List.length_map]; exact List.length_filter_le _ _
set_option maxRecDepth 100000 in
theorem perF_num : ∀ K : Fin 5, ∀ t : Fin 13, fewB K.1 t.1 = true → 1 ≤ t.1 → perF t.1 (wdsL K.1 t.1) = ((List.range (K.1 ^ t.1)).filter (lstN K.1 t.1)).map (numL K.1 t.1) := by decide +kernel
theorem few_cnt : ∀ (K : Fin 5) (t : Fin 13), 1 ≤ t.1 → 1 ≤ K.1 → cntT K.1 t.1 (t.1 + 1) ≤ 400 → fewB K.1 t.1 = true := by decide +kernel
theorem few_row : ∀ (K : Fin 5) (t : Fin 13), 1 ≤ t.1 → 1 ≤ K.1 → K.1 ^ t.1 ≤ 64 → fewB K.1 t.1 = true := by decide +kernel
theorem perF_all {K t : Nat} (hK1 : 1 ≤ K) (hK4 : K ≤ 4) (ht1 : 1 ≤ t) (ht2 : t ≤ 12) (h : fewB K t = true) : perF t (wdsL K t) = allT K t (K ^ t) := by
  rw [allT_num hK1 ht1 _ (Nat.le_refl _)]
  exact perF_num ⟨K, by omega⟩ ⟨t, by omega⟩ h ht1
end Go.Proofs.Ytiobmfggnacplaa
/- A law of regions that draw: each late operation leaves a value of which something is said that stays, whatever comes behind it; what is said of those it looks at is all it may lean on. Then the region may be walked in the order of the text. -/
namespace Go.Proofs.Ytiobmfggnacplaa.Sx
open Go
/-- What is said of a value. -/
abbrev Sp := Value → World → Prop
section
variable {P : Program} {ops : Array Oper} {md : Region.Mode} {S : World → Prop}
def RUpon (P : Program) (R : Value → World → Prop) : Result Next → Prop
  | .ok (.value u) W' => R u W'
  | .ok .skip W' => R undef W'
  | .ok (.enter f args) W' => Calls P f args W' fun e W'' => ∃ v, e = .returned v ∧ R v W''
  | _ => False
def ROp (P : Program) (ops : Array Oper) (S : World → Prop) (V : Sp) (o : Oper) (a : Act) (W : World) : Prop :=
  if Region.wanted o (yielded ops a.tmps) = true then RUpon P (fun v W' => S W' ∧ Ext W W' ∧ V v W') ((execOp a.eval o).run P W) else V undef W
theorem lOp_of_ROp {i : Nat} {o : Oper} {V : Sp} {a : Act} {W : World} {K : Act → World → Prop} (hi : ops[i]? = some o) (hS : S W) (h : ROp P ops S V o a W) (hK : ∀ v W', S W' → Ext W W' → V v W' → K (a.put o.dst v) W') : lOp P ops i K a W := by
  unfold lOp
  simp only [hi]
  unfold ROp at h
  split
  · rename_i hw
    simp only [hw, if_true] at h
    generalize (execOp a.eval o).run P W = r at h
    cases r with
    | ok n w' =>
      cases n <;> simp only [RUpon] at h <;> simp only [LUpon]
      case value u => exact hK _ _ h.1 h.2.1 h.2.2
      case skip => exact hK _ _ h.1 h.2.1 h.2.2
      case enter f args => exact h.mono fun e W'' ⟨v, he, h1, h2, h3⟩ => ⟨v, he, hK _ _ h1 h2 h3⟩
    | halt x w' => simp only [RUpon] at h
  · rename_i hw
    simp only [hw] at h
    exact hK _ _ hS (RowKit.Below.refl _ _) h
/-- Values put one after the other. -/
def puts (o : Nat → Oper) (vals : Nat → Value) : List Nat → Act → Act
  | [], a => a
  | k :: l, a => puts o vals l (a.put (o k).dst (vals k))
theorem puts_append (o : Nat → Oper) (vals : Nat → Value) : ∀ (l l' : List Nat) (a : Act), puts o vals (l ++ l') a = puts o vals l' (puts o vals l a)
  | [], _, _ => rfl
  | _ :: l, l', _ => puts_append o vals l l' _
theorem puts_perm {o : Nat → Oper} {vals : Nat → Value} {l l' : List Nat} (hp : l.Perm l') (hd : ∀ k ∈ l, ∀ k' ∈ l, k ≠ k' → ∀ d, (o k).dst = some d → (o k').dst ≠ some d) (a : Act) : puts o vals l a = puts o vals l' a := by
  induction hp generalizing a with
  | nil => rfl
  | cons x _ ih => exact ih (fun k hk k' hk' => hd k (List.mem_cons_of_mem _ hk) k' (List.mem_cons_of_mem _ hk')) _
  | swap x y l =>
    simp only [puts]
    by_cases hxy : x = y
    · subst hxy; rfl
    · rw [Act.put_comm a (vals y) (vals x) (hd y (by simp) x (by simp) (fun e => hxy e.symm))]
  | trans h1 _ ih1 ih2 =>
    rw [ih1 hd, ih2 (fun k hk k' hk' => hd k (h1.mem_iff.2 hk) k' (h1.mem_iff.2 hk'))]
theorem puts_congr {o : Nat → Oper} {vals vals' : Nat → Value} : ∀ {l : List Nat} (a : Act), (∀ k ∈ l, vals k = vals' k) → puts o vals l a = puts o vals' l a
  | [], _, _ => rfl
  | k :: l, a, h => by
    simp only [puts]
    rw [h k (by simp)]
    exact puts_congr _ (fun k hk => h k (List.mem_cons_of_mem _ hk))
theorem ROp_puts {o : Nat → Oper} {vals : Nat → Value} {V : Sp} {ok : Oper} (hs : ∀ cs b, ok.op ≠ .select cs b) {W : World} : ∀ (l : List Nat) (a : Act), (∀ k' ∈ l, ∀ d, (o k').dst = some d → d ∉ ok.looksAt ops) → (ROp P ops S V ok (puts o vals l a) W ↔ ROp P ops S V ok a W)
  | [], _, _ => Iff.rfl
  | k :: l, a, h => by
    simp only [puts]
    rw [ROp_puts hs l _ (fun k' hk' => h k' (List.mem_cons_of_mem _ hk'))]
    unfold ROp
    rw [execOp_put ok hs a _ _ (h k (by simp)), wanted_put ok a _ _ (h k (by simp))]
theorem count_nodup {x : Nat} : ∀ {l : List Nat}, l.Nodup → x ∈ l → l.count x = 1
  | y :: l, hn, hx => by
    rw [List.nodup_cons] at hn
    rw [List.count_cons]
    by_cases h : y = x
    · subst h
      rw [List.count_eq_zero.2 hn.1]; simp
    · rw [count_nodup hn.2 ((List.mem_cons.1 hx).resolve_left (fun e => h e.symm))]; simp [h]
theorem perm_parts {h D : List Nat} (hn : h.Nodup) (hD : D.Nodup) (hs : ∀ k ∈ D, k ∈ h) : h.Perm (D ++ h.filter (fun k => !D.contains k)) := by
  rw [List.perm_iff_count]
  intro x
  rw [List.count_append]
  by_cases hx : x ∈ D
  · have h1 : h.count x = 1 := count_nodup hn (hs x hx)
    have h2 : D.count x = 1 := count_nodup hD hx
    have h3 : (h.filter (fun k => !D.contains k)).count x = 0 := List.count_eq_zero.2 (by simp [hx])
    omega
  · have h2 : D.count x = 0 := List.count_eq_zero.2 hx
    have h3 : (h.filter (fun k => !D.contains k)).count x = h.count x := List.count_filter (by simp [hx])
    omega
/-- The numbers of what is late, as they come in the text. -/
structure Flat (P : Program) (ops : Array Oper) (md : Region.Mode) (S : World → Prop) (l0 : Array Bool) (a0 : Act) (Q : Act → World → Prop) (n : Nat) (ix : Nat → Nat) (o : Nat → Oper) (V : Nat → Sp) (dp : Nat → List Nat) : Prop where
  op : ∀ k, k < n → ops[ix k]? = some (o k)
  inj : ∀ k, k < n → ∀ k', k' < n → ix k = ix k' → k = k'
  yet : ∀ k, k < n → l0.getD (ix k) true = false
  cov : ∀ j oj, ops[j]? = some oj → l0.getD j true = false → ∃ k, k < n ∧ ix k = j
  sel : ∀ k, k < n → ∀ cs b, (o k).op ≠ .select cs b
  dst : ∀ k, k < n → ∀ k', k' < n → k ≠ k' → ∀ d, (o k).dst = some d → (o k').dst ≠ some d
  look : ∀ k, k < n → ∀ k', k' < n → k' ≠ k → k' ∉ dp k → ∀ d, (o k').dst = some d → d ∉ (o k).looksAt ops
  dep : ∀ k, k < n → ∀ k' ∈ dp k, k' < n ∧ ∃ e ∈ (o k).after, Region.binds md e = true ∧ e.on = ix k'
  fst : ∀ k, k < n → ∀ e ∈ (o k).after, Region.binds md e = true → l0.getD e.on false = true ∨ ∃ k', k' < k ∧ ix k' = e.on
  nd : ∀ k, k < n → (dp k).Nodup
  stb : ∀ k, k < n → ∀ v W W', S W → S W' → Ext W W' → V k v W → V k v W'
  ob : ∀ k, k < n → ∀ vals W, S W → (∀ k' ∈ dp k, V k' (vals k') W) → ROp P ops S (V k) (o k) (puts o vals (dp k) a0) W
  fin : ∀ vals W, S W → (∀ k, k < n → V k (vals k) W) → Q (puts o vals (List.range n) a0) W
theorem getD_setAll {d : Bool} : ∀ (l : List Nat) (listed : Array Bool) (j : Nat), j ∉ l → (setAll listed l).getD j d = listed.getD j d
  | [], _, _, _ => rfl
  | i :: l, listed, j, h => by
    rw [setAll, getD_setAll l _ j (fun hh => h (List.mem_cons_of_mem _ hh)), getD_set_ne d (fun e => h (by rw [e]; simp))]
theorem size_setAll : ∀ (l : List Nat) (listed : Array Bool), (setAll listed l).size = listed.size
  | [], _ => rfl
  | i :: l, listed => by rw [setAll, size_setAll l]; simp
theorem getD_setAll_mem {d : Bool} : ∀ (l : List Nat) (listed : Array Bool) (j : Nat), j ∈ l → j < listed.size → (setAll listed l).getD j d = true
  | i :: l, listed, j, h, hj => by
    rw [setAll]
    by_cases hl : j ∈ l
    · exact getD_setAll_mem l _ j hl (by simpa using hj)
    · obtain rfl : j = i := (List.mem_cons.1 h).resolve_right hl
      rw [getD_setAll l _ j hl]
      simp [Array.getD, hj]
theorem setAll_append : ∀ (l l' : List Nat) (listed : Array Bool), setAll listed (l ++ l') = setAll (setAll listed l) l'
  | [], _, _ => rfl
  | _ :: l, l', _ => setAll_append l l' _
theorem exists_first {p : Nat → Prop} {n : Nat} (h : ∃ k, k < n ∧ p k) : ∃ k, k < n ∧ p k ∧ ∀ j, j < k → ¬ p j := by
  induction n with
  | zero => obtain ⟨k, hk, _⟩ := h; omega
  | succ n ih =>
    by_cases hh : ∃ k, k < n ∧ p k
    · obtain ⟨k, h1, h2, h3⟩ := ih hh
      exact ⟨k, by omega, h2, h3⟩
    · obtain ⟨k, hk, hp⟩ := h
      obtain rfl : k = n := by
        rcases Nat.lt_or_ge k n with h | h
        · exact absurd ⟨k, h, hp⟩ hh
        · omega
      exact ⟨k, by omega, hp, fun j hj hpj => hh ⟨j, hj, hpj⟩⟩
theorem nodup_len {n : Nat} {h : List Nat} (hn : h.Nodup) (hl : ∀ k ∈ h, k < n) : h.length ≤ n ∧ (h.length = n → ∀ k, k < n → k ∈ h) := by
  have hp := perm_parts (h := List.range n) (D := h) List.nodup_range hn (fun k hk => List.mem_range.2 (hl k hk))
  have e := hp.length_eq
  rw [List.length_range, List.length_append] at e
  refine ⟨by omega, fun he k hk => ?_⟩
  have h0 : (List.range n).filter (fun k => !h.contains k) = [] := List.eq_nil_of_length_eq_zero (by omega)
  have h1 : k ∈ h ++ (List.range n).filter (fun k => !h.contains k) := hp.mem_iff.1 (List.mem_range.2 hk)
  rw [h0, List.append_nil] at h1
  exact h1
theorem wpM_flat {l0 : Array Bool} {a0 : Act} {Q : Act → World → Prop} {n : Nat} {ix : Nat → Nat} {o : Nat → Oper} {V : Nat → Sp} {dp : Nat → List Nat} (F : Flat P ops md S l0 a0 Q n ix o V dp) (hsz : l0.size = ops.size) :
    ∀ (f : Nat) (h : List Nat) (vals : Nat → Value) (W : World), h.Nodup → (∀ k ∈ h, k < n) → f + h.length = n → S W → (∀ k ∈ h, V k (vals k) W) → wpM P md ops S Q f (setAll l0 (h.map ix)) (puts o vals h a0) W := by
  have unl : ∀ (h : List Nat), (∀ k ∈ h, k < n) → ∀ k, k < n → k ∉ h → (setAll l0 (h.map ix)).getD (ix k) true = false := fun h hl k hk hkh => by
    rw [getD_setAll _ _ _ (fun hm => ?_), F.yet k hk]
    obtain ⟨k', hk', e⟩ := List.mem_map.1 hm
    exact hkh (F.inj _ (hl _ hk') _ hk e ▸ hk')
  have lst : ∀ (h : List Nat), (∀ k ∈ h, k < n) → ∀ k, k < n → (setAll l0 (h.map ix)).getD (ix k) false = true → k ∈ h := fun h hl k hk hg => by
    by_cases hm : k ∈ h
    · exact hm
    · have := unl h hl k hk hm
      rw [getD_both this] at hg; cases hg
  have ends : ∀ (h : List Nat) (vals : Nat → Value) (W : World), h.Nodup → (∀ k ∈ h, k < n) → h.length = n → S W → (∀ k ∈ h, V k (vals k) W) → Q (puts o vals h a0) W := fun h vals W hn hl he hS hV => by
    have hall := (nodup_len hn hl).2 he
    have hp : h.Perm (List.range n) := by
      have := perm_parts (h := List.range n) (D := h) List.nodup_range hn (fun k hk => List.mem_range.2 (hl k hk))
      have e := this.length_eq
      rw [List.length_range, List.length_append] at e
      rw [List.eq_nil_of_length_eq_zero (l := (List.range n).filter (fun k => !h.contains k)) (by omega), List.append_nil] at this
      exact this.symm
    rw [puts_perm hp (fun k hk k' hk' => F.dst k (hl k hk) k' (hl k' hk'))]
    exact F.fin vals W hS (fun k hk => hV k (hall k hk))
  have noneR : ∀ (h : List Nat), (∀ k ∈ h, k < n) → (∀ k, k < n → k ∈ h) → Region.ready md ops (setAll l0 (h.map ix)) = [] := fun h hl hall => by
    refine List.eq_nil_iff_forall_not_mem.2 fun j hj => ?_
    obtain ⟨hun, oj, hoj, _⟩ := mem_ready.1 hj
    by_cases hm : j ∈ h.map ix
    · rw [getD_setAll_mem _ _ _ hm (by rw [hsz]; exact (Array.getElem?_eq_some_iff.1 hoj).1)] at hun; cases hun
    · rw [getD_setAll _ _ _ hm] at hun
      obtain ⟨k, hk, rfl⟩ := F.cov j oj hoj hun
      exact hm (List.mem_map.2 ⟨k, hall k hk, rfl⟩)
  intro f
  induction f with
  | zero =>
    intro h vals W hn hl he hS hV
    have he' : h.length = n := by omega
    exact ⟨noneR h hl ((nodup_len hn hl).2 he'), fun W' h1 h2 => ends h vals W' hn hl he' h2 (fun k hk => F.stb k (hl k hk) _ _ _ hS h2 h1 (hV k hk))⟩
  | succ f ih =>
    intro h vals W hn hl he hS hV W' h1 h2
    have hV' : ∀ k ∈ h, V k (vals k) W' := fun k hk => F.stb k (hl k hk) _ _ _ hS h2 h1 (hV k hk)
    refine ⟨fun h0 => ?_, fun i hi => ?_⟩
    · have hex : ∃ k, k < n ∧ k ∉ h := by
        refine Classical.byContradiction fun hno => ?_
        have hall : ∀ k, k < n → k ∈ h := fun k hk => Classical.byContradiction fun hh => hno ⟨k, hk, hh⟩
        have hp := perm_parts (h := h) (D := List.range n) hn List.nodup_range (fun k hk => hall k (List.mem_range.1 hk))
        have e := hp.length_eq
        rw [List.length_append, List.length_range] at e
        omega
      obtain ⟨k, hk, hkh, hfst⟩ := exists_first hex
      have : ix k ∈ Region.ready md ops (setAll l0 (h.map ix)) := by
        refine mem_ready.2 ⟨unl h hl k hk hkh, o k, F.op k hk, fun e he' hb => ?_⟩
        by_cases hm : e.on ∈ h.map ix
        · obtain ⟨k', hk', e'⟩ := List.mem_map.1 hm
          rw [getD_setAll_mem _ _ _ hm (by rw [hsz, ← e']; exact (Array.getElem?_eq_some_iff.1 (F.op k' (hl k' hk'))).1)]
        · rw [getD_setAll _ _ _ hm]
          rcases F.fst k hk e he' hb with h | ⟨k', hk', e'⟩
          · exact h
          · have := Classical.byContradiction (hfst k' hk')
            exact absurd (List.mem_map.2 ⟨k', this, e'⟩) hm
      rw [h0] at this
      cases this
    · obtain ⟨hun, oi, hoi, hall⟩ := mem_ready.1 hi
      have him : i ∉ h.map ix := fun hm => by rw [getD_setAll_mem _ _ _ hm (by rw [hsz]; exact (Array.getElem?_eq_some_iff.1 hoi).1)] at hun; cases hun
      obtain ⟨k, hk, rfl⟩ := F.cov i oi hoi (by rw [getD_setAll _ _ _ him] at hun; exact hun)
      have hkh : k ∉ h := fun hm => him (List.mem_map.2 ⟨k, hm, rfl⟩)
      have hoe : oi = o k := by have := F.op k hk; rw [hoi] at this; exact Option.some.inj this
      subst hoe
      have hD : ∀ k' ∈ dp k, k' ∈ h := fun k' hk' => by
        obtain ⟨h3, e, h4, h5, h6⟩ := F.dep k hk k' hk'
        have := hall e h4 h5
        rw [h6] at this
        exact lst h hl k' h3 this
      have hp := perm_parts hn (F.nd k hk) hD
      have hob := F.ob k hk vals W' h2 (fun k' hk' => hV' k' (hD k' hk'))
      have hob' : ROp P ops S (V k) (o k) (puts o vals h a0) W' := by
        rw [puts_perm hp (fun k hk k' hk' => F.dst k (hl k hk) k' (hl k' hk')), puts_append]
        refine (ROp_puts (F.sel k hk) _ _ fun k' hk' => ?_).2 hob
        rw [List.mem_filter] at hk'
        exact F.look k hk k' (hl k' hk'.1) (fun e => hkh (e ▸ hk'.1)) (by simpa using hk'.2)
      refine lOp_of_ROp hoi h2 hob' fun v W'' h3 h4 h5 => ⟨h3, ?_⟩
      have hpe : (puts o vals h a0).put (o k).dst v = puts o (fun j => if j = k then v else vals j) (h ++ [k]) a0 := by
        rw [puts_append]
        simp only [puts, if_true]
        rw [puts_congr (vals := fun j => if j = k then v else vals j) (vals' := vals) a0 (fun k' hk' => if_neg (fun e => by subst e; exact hkh hk'))]
      have hse : (setAll l0 (h.map ix)).setIfInBounds (ix k) true = setAll l0 ((h ++ [k]).map ix) := by
        rw [List.map_append, setAll_append]; rfl
      rw [hpe, hse]
      refine ih (h ++ [k]) _ W'' ?_ ?_ ?_ h3 ?_
      · rw [List.nodup_append]
        exact ⟨hn, by simp, fun a ha b hb e => hkh (by rw [List.mem_singleton] at hb; rw [← hb, ← e]; exact ha)⟩
      · intro k' hk'
        rcases List.mem_append.1 hk' with h | h
        · exact hl _ h
        · rw [List.mem_singleton] at h; rw [h]; exact hk
      · rw [List.length_append]; simp; omega
      · intro k' hk'
        rcases List.mem_append.1 hk' with hh | hh
        · rw [if_neg (fun e => by subst e; exact hkh hh)]
          exact F.stb k' (hl _ hh) _ _ _ h2 h3 h4 (hV' k' hh)
        · rw [List.mem_singleton] at hh; subst hh; rw [if_pos rfl]; exact h5
/-- For all values of some, of which what is said holds. -/
def Wi (K : Act → (World → Prop) → Prop) : List (Oper × Sp) → Act → (World → Prop) → Prop
  | [], a, C => K a C
  | (o, V) :: l, a, C => ∀ v, Wi K l (a.put o.dst v) (fun W => C W ∧ V v W)
/-- The late operations, in the order of the text: what is said of each one's value, by what is said of those it looks at. -/
def Rel (P : Program) (ops : Array Oper) (S : World → Prop) (Q : Act → World → Prop) (a0 : Act) : List (Oper × Sp) → List (Oper × List Nat) → Prop
  | past, [] => Wi (fun a C => ∀ W, C W → Q a W) past a0 S
  | past, (o, ds) :: rest => ∃ V : Sp, (∀ v W W', S W → S W' → Ext W W' → V v W → V v W') ∧ Wi (fun a C => ∀ W, C W → ROp P ops S V o a W) (ds.filterMap fun k => past[k]?) a0 S ∧ Rel P ops S Q a0 (past ++ [(o, V)]) rest
def pickD (ops : Array Oper) : List (Nat × List Nat) → List (Oper × List Nat)
  | [] => []
  | (i, ds) :: l => match ops[i]? with
    | some o => (o, ds) :: pickD ops l
    | none => pickD ops l
def lIx (L : List (Nat × List Nat)) (k : Nat) : Nat := ((L[k]?).map (·.1)).getD 0
def lDp (L : List (Nat × List Nat)) (k : Nat) : List Nat := ((L[k]?).map (·.2)).getD []
def dstOff (o o' : Oper) : Bool := match o.dst with
  | none => true
  | some d => o'.dst != some d
def lookOff (ops : Array Oper) (o o' : Oper) : Bool := match o'.dst with
  | none => true
  | some d => !(o.looksAt ops).contains d
def relB (md : Region.Mode) (ops : Array Oper) (listed : Array Bool) (L : List (Nat × List Nat)) : Bool :=
  Region.noSelect ops && listed.size == ops.size && (List.range ops.size).all (fun j => listed.getD j true || (List.range L.length).any fun k => lIx L k == j) &&
  (List.range L.length).all fun k => match ops[lIx L k]? with
    | none => false
    | some o => !listed.getD (lIx L k) true && decide (lDp L k).Nodup &&
      (lDp L k).all (fun k' => decide (k' < k) && o.after.toList.any fun e => Region.binds md e && e.on == lIx L k') &&
      o.after.toList.all (fun e => !Region.binds md e || listed.getD e.on false || (List.range k).any fun k' => lIx L k' == e.on) &&
      (List.range L.length).all (fun k' => k' == k || (lIx L k' != lIx L k && match ops[lIx L k']? with
        | none => false
        | some o' => dstOff o o' && ((lDp L k).contains k' || lookOff ops o o')))
theorem Rel_full {Q : Act → World → Prop} {a0 : Act} : ∀ (rest : List (Oper × List Nat)) (past : List (Oper × Sp)), Rel P ops S Q a0 past rest → ∃ full : List (Oper × Sp), full.length = past.length + rest.length ∧ (∀ k, k < past.length → full[k]? = past[k]?) ∧
      (∀ j o ds, rest[j]? = some (o, ds) → ∃ V, full[past.length + j]? = some (o, V) ∧ (∀ v W W', S W → S W' → Ext W W' → V v W → V v W') ∧ ((∀ k ∈ ds, k < past.length + j) → Wi (fun a C => ∀ W, C W → ROp P ops S V o a W) (ds.filterMap fun k => full[k]?) a0 S)) ∧ Wi (fun a C => ∀ W, C W → Q a W) full a0 S
  | [], past, h => ⟨past, rfl, fun _ _ => rfl, fun j o ds hj => by simp at hj, h⟩
  | (o, ds) :: rest, past, ⟨V, h1, h2, h3⟩ => by
    obtain ⟨full, k1, k2, k3, k4⟩ := Rel_full rest _ h3
    simp only [List.length_append, List.length_cons, List.length_nil] at k1 k2 k3
    have k5 : ∀ k, k < past.length → full[k]? = past[k]? := fun k hk => by rw [k2 k (by omega), List.getElem?_append_left hk]
    refine ⟨full, by simp only [List.length_cons]; omega, k5, fun j o' ds' hj => ?_, k4⟩
    cases j with
    | zero =>
      simp only [List.getElem?_cons_zero, Option.some.injEq, Prod.mk.injEq] at hj
      obtain ⟨rfl, rfl⟩ := hj
      refine ⟨V, by rw [Nat.add_zero, k2 _ (by omega)]; simp, h1, fun hd => ?_⟩
      have : (ds.filterMap fun k => full[k]?) = ds.filterMap fun k => past[k]? := by
        clear h2 
        induction ds with
        | nil => rfl
        | cons d ds ih =>
          have e := ih (fun k hk => hd k (List.mem_cons_of_mem _ hk))
          simp only [List.filterMap_cons, k5 d (by have := hd d (by simp); omega), e]
      rw [this]; exact h2
    | succ j =>
      simp only [List.getElem?_cons_succ] at hj
      obtain ⟨V', h4, h5, h6⟩ := k3 j o' ds' hj
      exact ⟨V', by rw [← h4]; congr 1; omega, h5, fun hd => h6 (fun k hk => by have := hd k hk; omega)⟩
theorem Wi_use {X : Act → World → Prop} {full : List (Oper × Sp)} {o : Nat → Oper} {V : Nat → Sp} (hf : ∀ k p, full[k]? = some p → p = (o k, V k)) {vals : Nat → Value} {W : World} : ∀ (ds : List Nat) (a : Act) (C : World → Prop), (∀ k ∈ ds, k < full.length) →
    Wi (fun a C => ∀ W, C W → X a W) (ds.filterMap fun k => full[k]?) a C → C W → (∀ k ∈ ds, V k (vals k) W) → X (puts o vals ds a) W
  | [], a, C, _, h, hC, _ => h W hC
  | k :: ds, a, C, hl, h, hC, hV => by
    obtain ⟨p, hp⟩ : ∃ p, full[k]? = some p := ⟨_, List.getElem?_eq_getElem (hl k (by simp))⟩
    obtain rfl := hf k p hp
    simp only [List.filterMap_cons, hp, Wi] at h
    exact Wi_use hf ds _ _ (fun k hk => hl k (List.mem_cons_of_mem _ hk)) (h (vals k)) ⟨hC, hV k (by simp)⟩ (fun k hk => hV k (List.mem_cons_of_mem _ hk))
theorem filterMap_range {α : Type} (l : List α) : ∀ n, n ≤ l.length → (List.range n).filterMap (fun k => l[k]?) = l.take n
  | 0, _ => by simp
  | n + 1, h => by
    rw [List.range_succ, List.filterMap_append, filterMap_range l n (by omega), List.take_add_one]
    congr 1
theorem pickD_get : ∀ (L : List (Nat × List Nat)), (∀ k, k < L.length → ∃ o, ops[lIx L k]? = some o) → (pickD ops L).length = L.length ∧ ∀ k o, k < L.length → ops[lIx L k]? = some o → (pickD ops L)[k]? = some (o, lDp L k)
  | [], _ => ⟨rfl, fun k _ hk => by simp at hk⟩
  | (i, ds) :: L, h => by
    obtain ⟨o, ho⟩ := h 0 (by simp)
    have ho' : ops[i]? = some o := ho
    obtain ⟨h1, h2⟩ := pickD_get L (fun k hk => h (k + 1) (by simp; omega))
    simp only [pickD, ho', List.length_cons]
    refine ⟨by omega, fun k o1 hk ho1 => ?_⟩
    cases k with
    | zero =>
      have : ops[i]? = some o1 := ho1
      rw [ho'] at this
      obtain rfl := Option.some.inj this
      rfl
    | succ k => exact h2 k o1 (by omega) ho1
theorem wpM_rel {Q : Act → World → Prop} (L : List (Nat × List Nat)) {listed : Array Bool} {a : Act} {w : World} (hB : relB md ops listed L = true) (hS : S w) (h : Rel P ops S Q a [] (pickD ops L)) : wpM P md ops S Q L.length listed a w := by
  unfold relB at hB
  simp only [Bool.and_eq_true, List.all_eq_true, List.mem_range, beq_iff_eq] at hB
  obtain ⟨⟨⟨hsel, hsz⟩, hcov⟩, hall⟩ := hB
  have hops : ∀ k, k < L.length → ∃ o, ops[lIx L k]? = some o := fun k hk => by
    have := hall k hk
    cases ho : ops[lIx L k]? with
    | none => rw [ho] at this; cases this
    | some o => exact ⟨o, rfl⟩
  obtain ⟨hlen, hpk⟩ := pickD_get L hops
  obtain ⟨full, f1, _, f3, f4⟩ := Rel_full _ _ h
  simp only [List.length_nil, Nat.zero_add, hlen] at f1 f3
  cases hL : L with
  | nil =>
    subst hL
    have : full = [] := List.eq_nil_of_length_eq_zero f1
    subst this
    refine ⟨List.eq_nil_iff_forall_not_mem.2 fun j hj => ?_, fun W _ h2 => f4 W h2⟩
    obtain ⟨hun, oj, hoj, _⟩ := mem_ready.1 hj
    have := hcov j (Array.getElem?_eq_some_iff.1 hoj).1
    rw [hun] at this
    simp at this
  | cons x L' =>
    rw [← hL]
    obtain ⟨o0, ho0⟩ := hops 0 (by rw [hL]; simp)
    let o : Nat → Oper := fun k => ((full[k]?).map (·.1)).getD o0
    let V : Nat → Sp := fun k => ((full[k]?).map (·.2)).getD fun _ _ => True
    have hf : ∀ k p, full[k]? = some p → p = (o k, V k) := fun k p hp => by
      show p = (((full[k]?).map (·.1)).getD o0, ((full[k]?).map (·.2)).getD fun _ _ => True)
      rw [hp]; rfl
    have hev : ∀ k, k < L.length → ops[lIx L k]? = some (o k) ∧ (∀ v W W', S W → S W' → Ext W W' → V k v W → V k v W') ∧ ((∀ k' ∈ lDp L k, k' < k) → Wi (fun a C => ∀ W, C W → ROp P ops S (V k) (o k) a W) ((lDp L k).filterMap fun k => full[k]?) a S) := fun k hk => by
      obtain ⟨ok, hok⟩ := hops k hk
      obtain ⟨Vk, h1, h2, h3⟩ := f3 k ok _ (hpk k ok hk hok)
      have := hf _ _ h1
      simp only [Prod.mk.injEq] at this
      rw [← this.1, ← this.2]
      exact ⟨hok, h2, h3⟩
    have hall' : ∀ k, k < L.length → (listed.getD (lIx L k) true = false ∧ (lDp L k).Nodup ∧ (∀ k' ∈ lDp L k, k' < k ∧ ∃ e ∈ (o k).after, Region.binds md e = true ∧ e.on = lIx L k') ∧
        (∀ e ∈ (o k).after, Region.binds md e = true → listed.getD e.on false = true ∨ ∃ k', k' < k ∧ lIx L k' = e.on) ∧ ∀ k', k' < L.length → k' ≠ k → lIx L k' ≠ lIx L k ∧ (∀ d, (o k).dst = some d → (o k').dst ≠ some d) ∧ (k' ∉ lDp L k → ∀ d, (o k').dst = some d → d ∉ (o k).looksAt ops)) := fun k hk => by
      have := hall k hk
      rw [(hev k hk).1] at this
      simp only [Bool.and_eq_true, Bool.not_eq_true', decide_eq_true_eq, List.all_eq_true, List.any_eq_true, Bool.or_eq_true, List.mem_range, beq_iff_eq, Array.mem_toList_iff, bne_iff_ne, ne_eq] at this
      obtain ⟨⟨⟨⟨g1, g2⟩, g3⟩, g4⟩, g5⟩ := this
      refine ⟨g1, g2, fun k' hk' => ⟨(g3 k' hk').1, ?_⟩, fun e he hb => ?_, fun k' hk' hne => ?_⟩
      · obtain ⟨e, he1, he2, he3⟩ := (g3 k' hk').2
        exact ⟨e, he1, he2, he3⟩
      · rcases g4 e he with (h | h) | h
        · rw [hb] at h; cases h
        · exact .inl h
        · exact .inr h
      · rcases g5 k' hk' with h | h
        · exact absurd h hne
        · obtain ⟨h1, h2⟩ := h
          rw [(hev k' hk').1] at h2
          simp only [Bool.and_eq_true, Bool.or_eq_true, List.contains_iff_mem] at h2
          refine ⟨h1, fun d hd => ?_, fun hn d hd => ?_⟩
          · have := h2.1
            unfold dstOff at this
            rw [hd] at this
            simpa using this
          · have := h2.2.resolve_left hn
            unfold lookOff at this
            rw [hd] at this
            simpa using this
    have F : Flat P ops md S listed a Q L.length (lIx L) o V (lDp L) := {
      op := fun k hk => (hev k hk).1
      inj := fun k hk k' hk' e => Classical.byContradiction fun hne => ((hall' k hk).2.2.2.2 k' hk' (fun e => hne e.symm)).1 e.symm
      yet := fun k hk => (hall' k hk).1
      cov := fun j oj hj hun => by
        have := hcov j (Array.getElem?_eq_some_iff.1 hj).1
        rw [hun] at this
        simp only [Bool.false_or, List.any_eq_true, List.mem_range, beq_iff_eq] at this
        exact this
      sel := fun k hk cs b => Region.noSelect_spec hsel _ _ cs b (hev k hk).1
      dst := fun k hk k' hk' hne => ((hall' k hk).2.2.2.2 k' hk' (fun e => hne e.symm)).2.1
      look := fun k hk k' hk' hne => ((hall' k hk).2.2.2.2 k' hk' hne).2.2
      dep := fun k hk k' hk' => ⟨by have := ((hall' k hk).2.2.1 k' hk').1; omega, ((hall' k hk).2.2.1 k' hk').2⟩
      fst := fun k hk => (hall' k hk).2.2.2.1
      nd := fun k hk => (hall' k hk).2.1
      stb := fun k hk => (hev k hk).2.1
      ob := fun k hk vals W h1 h2 => Wi_use (X := fun a W => ROp P ops S (V k) (o k) a W) hf (lDp L k) a S (fun k' hk' => by have := ((hall' k hk).2.2.1 k' hk').1; omega) ((hev k hk).2.2 fun k' hk' => ((hall' k hk).2.2.1 k' hk').1) h1 h2
      fin := fun vals W h1 h2 => by
        have := filterMap_range full full.length (Nat.le_refl _)
        rw [List.take_length] at this
        rw [← this] at f4
        rw [f1] at f4
        exact Wi_use (X := Q) hf (List.range L.length) a S (fun k' hk' => by have := List.mem_range.1 hk'; omega) f4 h1 (fun k hk => h2 k (List.mem_range.1 hk)) }
    exact wpM_flat F hsz L.length [] (fun _ => undef) w List.nodup_nil (by simp) (by simp) hS (by simp)
/-- The law of a region with early and late operations. -/
theorem wp_region_rel (S : World → Prop) (hS : ∀ W W', S W → Ext W W' → S W') {id : Nat} {Q : Exit → Act → World → Prop} {a : Act} {w : World} {l : List Oper} (E : List Nat) (L : List (Nat × List Nat)) (hm : P.follows .mixedOrders = true)
    (hB : (Region.noSelect l.toArray && decide (E.length + L.length = l.length) && earlyB .any l.toArray E (Array.replicate l.length false)) = true) (hR : relB .any l.toArray (setAll (Array.replicate l.length false) E) L = true) (h0 : S w.drew)
    (h : wpE P l.toArray S (fun a' => Rel P l.toArray S (fun a W => wpList P l.toArray Q [] a W) a' [] (pickD l.toArray L)) (pick l.toArray E) a) : (Code.region id l.toArray true).wp P Q a w :=
  wp_region_el S hS E L.length hm hB h0 (wpE_mono (fun _ hk => wpM_rel L hR h0 hk) _ _ h)
/-- A late operation that leaves the same value everywhere. -/
theorem Rel_val {Q : Act → World → Prop} {a0 : Act} {past : List (Oper × Sp)} {o : Oper} {ds : List Nat} {rest : List (Oper × List Nat)} (v : Value) (h : Wi (fun a C => ∀ W, C W → ROp P ops S (fun u _ => u = v) o a W) (ds.filterMap fun k => past[k]?) a0 S) (hr : Rel P ops S Q a0 (past ++ [(o, fun u _ => u = v)]) rest) : Rel P ops S Q a0 past ((o, ds) :: rest) :=
  ⟨fun u _ => u = v, fun _ _ _ _ _ _ h => h, h, hr⟩
/-- It may be read off. -/
theorem ROp_val {V : Sp} {o : Oper} {a : Act} {W : World} (v : Value) (hw : Region.wanted o (yielded ops a.tmps) = true) (hr : (execOp a.eval o).run P W = .ok (.value v) W) (hS : S W) (hV : V v W) : ROp P ops S V o a W := by
  unfold ROp
  rw [hw, hr, if_pos rfl]
  exact ⟨hS, RowKit.Below.refl _ _, hV⟩
/-- A call that only makes memory. -/
theorem ROp_call {V : Sp} {o : Oper} {a : Act} {W : World} {f : FuncId} {args : Array Value} (hw : Region.wanted o (yielded ops a.tmps) = true) (hr : (execOp a.eval o).run P W = .ok (.enter f args) W) (hc : Calls P f args W fun e W' => ∃ v, e = .returned v ∧ S W' ∧ Ext W W' ∧ V v W') : ROp P ops S V o a W := by
  unfold ROp
  rw [hw, hr, if_pos rfl]
  exact hc
end
end Go.Proofs.Ytiobmfggnacplaa.Sx
