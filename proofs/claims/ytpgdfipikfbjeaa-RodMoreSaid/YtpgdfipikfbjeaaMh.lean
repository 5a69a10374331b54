/- Texts of the proof, laid together by program. -/
import Derived.Test.YtpgdfipikfbjeaaMg
import Derived.Test.YtpgdfipikfbjeaaMa
import Derived.Test.YtpgdfipikfbjeaaMd
import Derived.Test.YtpgdfipikfbjeaaMf
import Derived.Lib.BitFns
set_option linter.unusedSimpArgs false
set_option linter.unusedVariables false
/- Walks: newBench. -/
namespace Go.Proofs.Ytpgdfipikfbjeaa
open Go.RowKit Go.Shelf
attribute [local go_sem] Oper.semAt_some
/-- The lists that have been gathered: the row's values, and what they read as. -/
def LiC (V : World) (ow : Foot) (vs : List Value) (ls : List (List Int)) : Prop :=
  vs.length = ls.length ∧ ∀ (k : Nat) (l : List Int), ls[k]? = some l → ∃ (A : Option Addr) (m c : Nat), vs[k]? = some (.slice A m c) ∧ InS V V.heap.size A m l ∧ ∀ b off, A = some ⟨b, off, none⟩ → b < V.heap.size ∧ ¬ ow b
theorem LiC.stab {V V' : World} {ow : Foot} {vs : List Value} {ls : List (List Int)} (h : LiC V ow vs ls) (hk : ∀ (k : Nat) (o : Obj), V.heap[k]? = some o → o.isCells = true → ¬ ow k → V'.heap[k]? = some o) (hz : V.heap.size ≤ V'.heap.size) : LiC V' ow vs ls := by
  refine ⟨h.1, fun k l hl => ?_⟩
  obtain ⟨A, m, c, h1, h2, h3⟩ := h.2 k l hl
  refine ⟨A, m, c, h1, ⟨h2.1, fun hn => ?_⟩, fun b off e => ⟨Nat.lt_of_lt_of_le (h3 b off e).1 hz, (h3 b off e).2⟩⟩
  obtain ⟨b, off, e, hb, hc⟩ := h2.2 hn
  refine ⟨b, off, e, by omega, fun j u hu => ?_⟩
  have h4 := hc j u hu
  obtain ⟨o, ho, hoc⟩ := cells_of_cell h4
  exact (World.cell?_of_block ((hk _ o ho hoc (h3 b off e).2).trans ho.symm)).trans h4
theorem LiC.foot {V : World} {ow ow' : Foot} {vs : List Value} {ls : List (List Int)} (h : LiC V ow vs ls) (ho : ∀ b, b < V.heap.size → ow' b → ow b) : LiC V ow' vs ls := by
  refine ⟨h.1, fun k l hl => ?_⟩
  obtain ⟨A, m, c, h1, h2, h3⟩ := h.2 k l hl
  exact ⟨A, m, c, h1, h2, fun b off e => ⟨(h3 b off e).1, fun hh => (h3 b off e).2 (ho b (h3 b off e).1 hh)⟩⟩
theorem LiC.snoc {V : World} {ow : Foot} {vs : List Value} {ls : List (List Int)} (h : LiC V ow vs ls) {A : Option Addr} {m c : Nat} {l : List Int} (hl : InS V V.heap.size A m l) (hA : ∀ b off, A = some ⟨b, off, none⟩ → b < V.heap.size ∧ ¬ ow b) : LiC V ow (vs ++ [.slice A m c]) (ls ++ [l]) := by
  refine ⟨by rw [List.length_append, List.length_append, h.1]; rfl, fun k x hk => ?_⟩
  rcases Nat.lt_or_ge k ls.length with h1 | h1
  · rw [List.getElem?_append_left h1] at hk
    obtain ⟨A', m', c', h2, h3⟩ := h.2 k x hk
    exact ⟨A', m', c', by rw [List.getElem?_append_left (by rw [h.1]; exact h1)]; exact h2, h3⟩
  · rw [List.getElem?_append_right h1] at hk
    have hk0 : k - ls.length = 0 := by
      have := (List.getElem?_eq_some_iff.1 hk).1
      simp at this; omega
    rw [hk0] at hk
    obtain rfl : l = x := by simpa using hk
    exact ⟨A, m, c, by rw [List.getElem?_append_right (by rw [h.1]; exact h1), h.1, hk0]; rfl, hl, hA⟩
theorem own_block {w : World} {base e size n q : Nat} {v : Value} {xs : List Value} (h : w.ownsRow base e size v n xs) (hq : v.ownBlock = some q) : ∃ cs fr, w.heap[q]? = some (.cells cs e fr) := by
  rcases h.2 with ⟨h1, -⟩ | ⟨g', cap', cur, h1, h2, h3, -⟩
  · subst h1; cases hq
  · subst h1
    have : some g' = some q := hq
    cases this
    exact ⟨_, _, h3⟩
/-- What newBench holds while it gathers cases. -/
def CInv (P M : Int) (g mp Bo : Nat) (ls : List (List Int)) (ow : Foot) (V : World) : Prop :=
  ∃ (vs : List Value) (A : Option Addr) (c : Nat), Blk V g 75 #[.int .i64 P, .int .i64 M, .slice A vs.length c, .slice none 0 0, .map (some mp)] ∧ ow g ∧ V.ownsRow Bo 25 1 (.slice A vs.length c) vs.length vs ∧ (∀ q, (Value.slice A vs.length c).ownBlock = some q → ow q) ∧ LiC V ow vs ls ∧ ∀ q, ow q → q = g ∨ (Value.slice A vs.length c).ownBlock = some q
theorem CInv.keep {P M : Int} {g mp Bo : Nat} {ls : List (List Int)} {ow : Foot} {V V' : World} (h : CInv P M g mp Bo ls ow V) (hk : ∀ k, (ow k ∨ ∃ o : Obj, V.heap[k]? = some o ∧ o.isCells = true) → k < V.heap.size → V'.heap[k]? = V.heap[k]?) (hz : V.heap.size ≤ V'.heap.size) : CInv P M g mp Bo ls ow V' := by
  obtain ⟨vs, A, c, h1, h2, h3, h4, h5, h6⟩ := h
  refine ⟨vs, A, c, (hk _ (.inl h2) h1.lt).trans h1, h2, owns_same h3 (fun q hq => hk q (.inl (h4 q hq)) (h3.lt q hq).2), h4, h5.stab (fun k o ho hc _ => ?_) hz, h6⟩
  exact (hk k (.inr ⟨o, ho, hc⟩) (Array.getElem?_eq_some_iff.1 ho).1).trans ho
/-- The cells of a rod's marks. -/
def rodC (l : List Int) : List Value := (mkA l).toList
theorem rodC_len (l : List Int) : (rodC l).length = 8 := rfl
theorem under72 : Try.prog.underlying 72 = some (.slice 82) := by kernel_rfl
theorem info82 : (Try.prog.info? 82).map (fun i => (i.zero, i.size, i.bytes)) = some (some (.agg #[.int .i64 0, .int .i64 0, .int .i64 0, .int .i64 0, .int .i64 0, .int .i64 0, .int .i64 0, .int .i64 0]), 8, 64) := by kernel_rfl
/-- The cases of at most so many plates, first those of fewer than k. -/
def casTo (P k : Nat) : List (List Int) := (List.range k).flatMap fun m => comb m 0 P
theorem casTo_succ (P k : Nat) : casTo P (k + 1) = casTo P k ++ comb k 0 P := by unfold casTo; rw [List.range_succ, List.flatMap_append]; simp
theorem casTo_all {P M : Nat} (hP : P ≤ 8) (hM : M ≤ 2) : casTo P (M + 1) = casesL P M := by
  have : ∀ P : Fin 9, ∀ M : Fin 3, casTo P.val (M.val + 1) = casesL P.val M.val := by decide +kernel
  exact this ⟨P, by omega⟩ ⟨M, by omega⟩
theorem casTo_len {P k : Nat} (hP : P ≤ 8) (hk : k ≤ 3) : (casTo P k).length ≤ 37 := by
  have : ∀ P : Fin 9, ∀ k : Fin 4, (casTo P.val k.val).length ≤ 37 := by decide +kernel
  exact this ⟨P, by omega⟩ ⟨k, by omega⟩
/-- A bench in memory: a book, its cases, the rods of a plan, what has been found. -/
def Bench (W : World) (g P M : Nat) (CL pl : List (List Int)) (mp : Nat) : Prop :=
  ∃ A1 c1 A2 c2, Blk W g 75 #[.int .i64 (P : Int), .int .i64 (M : Int), .slice A1 CL.length c1, .slice A2 pl.length c2, .map (some mp)] ∧ LiT W W.heap.size A1 CL.length CL ∧ Sl W W.heap.size 8 A2 pl.length (pl.flatMap rodC) ∧ CL.length ≤ c1
theorem LiC.lit {V : World} {ow : Foot} {vs : List Value} {ls : List (List Int)} (h : LiC V ow vs ls) {A : Option Addr} {c base : Nat} (ho : V.ownsRow base 25 1 (.slice A vs.length c) vs.length vs) : LiT V V.heap.size A vs.length ls := by
  have hs := Sl.of_own ho
  refine ⟨⟨h.1.symm, vs, hs, fun k l hl => by obtain ⟨A', m, c', h1, h2, -⟩ := h.2 k l hl; exact ⟨A', m, c', h1, h2⟩⟩, fun k hk b off A' m c' hA hc b' off' hA' => ?_⟩
  obtain ⟨b1, off1, e, hb1, hcl⟩ := hs.2 (by omega)
  rw [hA] at e; cases e
  obtain ⟨A2, m2, c2, h1, h2, h3⟩ := h.2 k (ls[k]'(by rw [← h.1]; exact hk)) (List.getElem?_eq_getElem _)
  have := hcl k _ h1
  rw [hc] at this
  cases this
  exact (h3 b' off' hA').1
theorem LiT.cells {w w' : World} {B n : Nat} {A : Option Addr} {ls : List (List Int)} (h : LiT w B A n ls) (hk : ∀ p : Addr, w'.cell? p = w.cell? p) : LiT w' B A n ls := by
  obtain ⟨⟨h1, vs, h2, h3⟩, h4⟩ := h
  refine ⟨⟨h1, vs, h2.keep (fun p _ => hk p), fun k l hl => by obtain ⟨A', m, c', e, h5⟩ := h3 k l hl; exact ⟨A', m, c', e, Sl.keep h5 (fun p _ => hk p)⟩⟩, fun k hk' b off A' m c hA hc => ?_⟩
  rw [hk] at hc
  exact h4 k hk' b off A' m c hA hc
theorem one_rodC (l : List Int) : ∀ u ∈ rodC l, u.oneCell' = true := by
  intro u hu
  simp only [rodC, mkA, List.mem_cons, List.not_mem_nil, or_false] at hu
  rcases hu with rfl | rfl | rfl | rfl | rfl | rfl | rfl | rfl <;> rfl
theorem below_set {B : Nat} {a w : World} (h : Below B a w) {p : Addr} (hp : B ≤ p.block) (u : Value) : Below B a (w.setCell p u) := h.setCell hp u
set_option maxRecDepth 100000 in
set_option maxHeartbeats 4000000 in
theorem newBench_any (P M : Nat) (A : Option Addr) (n c : Nat) (pl : List (List Int)) (w : World) (hP : P ≤ 8) (hM : M ≤ 2) (hp : LiS w w.heap.size A n pl) (hn : n ≤ 8) (hw : ∀ l ∈ pl, l.length ≤ 12) (hb : ∀ l ∈ pl, ∀ x ∈ l, 0 ≤ x ∧ x < 8) :
    Calls Try.prog 88 #[.agg #[.int .i64 (P : Int), .int .i64 (M : Int)], .slice A n c] w fun e w' => ∃ g mp, e = .returned (.pointer (some ⟨g, 0, none⟩)) ∧ w.heap.size ≤ g ∧ w.heap.size ≤ mp ∧ Bench w' g P M (casesL P M) pl mp ∧ w'.heap[mp]? = some (.map #[] 0) ∧ Below w.heap.size w w' := by
  have HP := hid hp
  have HB := hid hb
  clear hp hb
  have zM : IntKind.i64.wrap ((M : Int) + 1) = (M : Int) + 1 := IntWalk.i64_in _ (by omega)
  have hmm := @run_makeMap Try.prog
  (refine (callsIn_wide (n := 9)).1 ?_; refine callsIn_of_wp_marks (F := Wd none) Try.func88 rfl trivial ?_ rfl; simp only [Try.ntmps88, List.size_toArray, List.length_cons, List.length_nil, Nat.reduceAdd, Nat.reduceSub, Array.replicate_succ, Array.replicate_zero, List.push_toArray, List.append_toArray, List.nil_append, List.cons_append])
  gi_wp2
  obtain ⟨W1, hW1⟩ : ∃ W1, ((((w.alloc (.cells #[.int .i64 (P : Int), .int .i64 (M : Int)] 23)).alloc (.map #[] 0)).alloc (.cells #[.int .i64 (P : Int), .int .i64 (M : Int), .slice none 0 0, .slice none 0 0, .map (some (w.heap.size + 1))] 75)).alloc (.cells #[.pointer (some ⟨w.heap.size + 1 + 1, 0, none⟩)] 69)) = W1 := ⟨_, rfl⟩
  rw [hW1]
  obtain ⟨mp, hmp⟩ : ∃ mp, w.heap.size + 1 = mp := ⟨_, rfl⟩
  obtain ⟨g, hg⟩ : ∃ g, mp + 1 = g := ⟨_, rfl⟩
  obtain ⟨T5, hT5⟩ : ∃ T5, g + 1 = T5 := ⟨_, rfl⟩
  have hz1 : W1.heap.size = T5 + 1 := by rw [← hW1]; simp; omega
  rw [hmp, hg] at hW1 ⊢
  rw [hT5]
  have hb1 : Below w.heap.size w W1 := by rw [← hW1]; exact (by repeat' (first | with_reducible assumption | with_reducible exact Below.refl _ _ | refine Below.alloc ?_ ?_ _ | refine Below.setCell ?_ ?_ _ | refine Below.drew ?_ | refine below_drewN ?_ _ | (simp; done) | (simp; omega) | omega))
  have BG : Blk W1 g 75 #[.int .i64 (P : Int), .int .i64 (M : Int), .slice none 0 0, .slice none 0 0, .map (some mp)] := by rw [← hW1]; exact (Blk.new' (by simp; omega)).alloc _
  have BT : Blk W1 T5 69 #[.pointer (some ⟨g, 0, none⟩)] := by rw [← hW1]; exact Blk.new' (by simp; omega)
  have hM0 : W1.heap[mp]? = some (.map #[] 0) := by
    rw [← hW1]
    refine (Below.heap_alloc _ _ _ (by simp; omega)).trans ((Below.heap_alloc _ _ _ (by simp; omega)).trans ?_)
    have := World.alloc_heap_new (w.alloc (.cells #[.int .i64 (P : Int), .int .i64 (M : Int)] 23)) (.map #[] 0)
    rw [World.size_alloc, hmp] at this
    exact this
  have HBT := hid BT
  have HM0 := hid hM0
  have Hz1 := hid hz1
  have hgw : w.heap.size < g := by omega
  have hC0 : CInv P M g mp w.heap.size (casTo P 0) (fun j => j = g) W1 := ⟨[], none, 0, BG, rfl, World.ownsRow_nil _ _ _ _, (fun q hq => by cases hq), ⟨rfl, fun k l hl => by simp [casTo] at hl⟩, fun q hq => .inl hq⟩
  clear hW1 BG BT hM0 hz1 hmm
  refine wpIn_loop (fun a' wr => ∃ (ds : List Deferred) (u3 u4 u6 u7 u8 u9 u10 u11 u12 u13 u14 u15 u16 u17 u18 u20 u21 u22 u23 u24 u25 u26 u27 u28 u29 u30 u31 u32 u33 u34 u35 u36 u37 u38 u39 u40 u41 u42 u43 u44 u45 u46 u47 u48 u49 u50 u51 u52 u53 u54 u55 u56 u57 u58 u59 u60 : Value), (∃ (k : Nat) (own : Foot), k ≤ M + 1 ∧ u20 = .int .i64 (k : Int) ∧ Hid (CInv P M g mp w.heap.size (casTo P k) own wr) ∧ Hid (Grow (fun j => j = g) W1 own wr) ∧ Hid (MarksO own W1.heap.size wr.heap.size wr ds)) ∧ a' = { tmps := #[.agg #[.int .i64 (P : Int), .int .i64 (M : Int)], .slice A n c, .pointer (some ⟨w.heap.size, 0, none⟩), u3, u4, .pointer (some ⟨T5, 0, none⟩), u6, u7, u8, u9, u10, u11, u12, u13, u14, u15, u16, u17, u18, .int .i64 ((M : Int) + 1), u20, u21, u22, u23, u24, u25, u26, u27, u28, u29, u30, u31, u32, u33, u34, u35, u36, u37, u38, u39, u40, u41, u42, u43, u44, u45, u46, u47, u48, u49, u50, u51, u52, u53, u54, u55, u56, u57, u58, u59, u60], defers := ds }) (fun a' wr => M + 1 - (intOf (a'.tmps.getD 20 undef)).toNat) ?_ ?_
  · (repeat apply Exists.intro); refine ⟨?_, rfl⟩
    exact ⟨0, _, by omega, rfl, hid hC0, hid (Grow.refl (fun j hj => by have := Hz1.out; omega)), hid (MarksO.nil _ _ _ _)⟩
  · intro _ wr hinv; obtain ⟨ds, hinv⟩ := hinv; obtain ⟨u3, hinv⟩ := hinv; obtain ⟨u4, hinv⟩ := hinv; obtain ⟨u6, hinv⟩ := hinv; obtain ⟨u7, hinv⟩ := hinv; obtain ⟨u8, hinv⟩ := hinv; obtain ⟨u9, hinv⟩ := hinv; obtain ⟨u10, hinv⟩ := hinv; obtain ⟨u11, hinv⟩ := hinv; obtain ⟨u12, hinv⟩ := hinv; obtain ⟨u13, hinv⟩ := hinv; obtain ⟨u14, hinv⟩ := hinv; obtain ⟨u15, hinv⟩ := hinv; obtain ⟨u16, hinv⟩ := hinv; obtain ⟨u17, hinv⟩ := hinv; obtain ⟨u18, hinv⟩ := hinv; obtain ⟨u20, hinv⟩ := hinv; obtain ⟨u21, hinv⟩ := hinv; obtain ⟨u22, hinv⟩ := hinv; obtain ⟨u23, hinv⟩ := hinv; obtain ⟨u24, hinv⟩ := hinv; obtain ⟨u25, hinv⟩ := hinv; obtain ⟨u26, hinv⟩ := hinv; obtain ⟨u27, hinv⟩ := hinv; obtain ⟨u28, hinv⟩ := hinv; obtain ⟨u29, hinv⟩ := hinv; obtain ⟨u30, hinv⟩ := hinv; obtain ⟨u31, hinv⟩ := hinv; obtain ⟨u32, hinv⟩ := hinv; obtain ⟨u33, hinv⟩ := hinv; obtain ⟨u34, hinv⟩ := hinv; obtain ⟨u35, hinv⟩ := hinv; obtain ⟨u36, hinv⟩ := hinv; obtain ⟨u37, hinv⟩ := hinv; obtain ⟨u38, hinv⟩ := hinv; obtain ⟨u39, hinv⟩ := hinv; obtain ⟨u40, hinv⟩ := hinv; obtain ⟨u41, hinv⟩ := hinv; obtain ⟨u42, hinv⟩ := hinv; obtain ⟨u43, hinv⟩ := hinv; obtain ⟨u44, hinv⟩ := hinv; obtain ⟨u45, hinv⟩ := hinv; obtain ⟨u46, hinv⟩ := hinv; obtain ⟨u47, hinv⟩ := hinv; obtain ⟨u48, hinv⟩ := hinv; obtain ⟨u49, hinv⟩ := hinv; obtain ⟨u50, hinv⟩ := hinv; obtain ⟨u51, hinv⟩ := hinv; obtain ⟨u52, hinv⟩ := hinv; obtain ⟨u53, hinv⟩ := hinv; obtain ⟨u54, hinv⟩ := hinv; obtain ⟨u55, hinv⟩ := hinv; obtain ⟨u56, hinv⟩ := hinv; obtain ⟨u57, hinv⟩ := hinv; obtain ⟨u58, hinv⟩ := hinv; obtain ⟨u59, hinv⟩ := hinv; obtain ⟨u60, hinv⟩ := hinv; obtain ⟨hrel, ha⟩ := hinv; subst ha; dsimp only
    obtain ⟨k, own, hk, rfl, hC, hgr, hmk⟩ := hrel
    have BTr : Blk wr T5 69 #[.pointer (some ⟨g, 0, none⟩)] := (hgr.out.same _ HBT.out.lt (fun h => by omega)).trans HBT.out
    have r5 := BTr.cell 0
    have k5 := BTr.lt
    have HBTr := hid BTr
    have hzr := hgr.out.size
    clear BTr hC0
    by_cases hlt : k < M + 1
    · have hlti : (k : Int) < M + 1 := by omega
      have hlti2 : (k : Int) < (M : Int) + 1 := by omega
      obtain ⟨vs, A0, c0, h1, h2⟩ := hC.out
      have r0 := h1.cell 0
      have k0 := h1.lt
      have HC := hid (show CInv P M g mp w.heap.size (casTo P k) own wr from ⟨vs, A0, c0, h1, h2⟩)
      clear h1 h2 hC
      gi_wp2_with (fail)
      obtain ⟨Z, hZ⟩ : ∃ Z, wr.heap.size = Z := ⟨_, rfl⟩
      have hc := listsIt_any (k : Int) 0 (P : Int) wr
      rw [hZ] at hc
      refine (calls_wd hc).mono ?_
      rintro e X6 ⟨rfl, hX6⟩
      have Hb06 : Hid (Below wr.heap.size wr X6) := hid (by rw [← hX6]; exact (by repeat' (first | with_reducible assumption | with_reducible exact Below.refl _ _ | refine Below.alloc ?_ ?_ _ | refine Below.setCell ?_ ?_ _ | refine Below.drew ?_ | refine below_drewN ?_ _ | (simp; done) | (simp; omega) | omega)))
      have HN1 : Hid (Blk X6 Z 3 #[.int .i64 (k : Int)]) := hid (by rw [← hX6]; exact ((Blk.new' hZ).alloc _).alloc _)
      have HN2 : Hid (Blk X6 (Z + 1) 3 #[.int .i64 0]) := hid (by rw [← hX6]; exact (Blk.new' (by simp [hZ])).alloc _)
      have HN3 : Hid (Blk X6 (Z + 2) 3 #[.int .i64 (P : Int)]) := hid (by rw [← hX6]; exact Blk.new' (by simp [hZ]))
      have Hz6 : Hid (X6.heap.size = Z + 3) := hid (by rw [← hX6]; simp [hZ])
      clear hX6 r0 r5 k0 hc
      gi_wp2
      have hB : X6.heap.size = X6.heap.size := rfl
      have hzw6 := Hb06.out.size
      have hownlt : ∀ j, own j → j < wr.heap.size := hgr.out.lt
      have BT6 : Blk X6 T5 69 #[.pointer (some ⟨g, 0, none⟩)] := HBTr.out.below Hb06.out k5
      have hT5n : ¬ own T5 := fun h => by
        rcases hgr.out.from_ _ h with h1 | h1
        · omega
        · have := Hz1.out; omega
      have hC6 : CInv P M g mp w.heap.size (casTo P k) own X6 := HC.out.keep (fun j _ hlt => Hb06.out.block j hlt) hzw6
      refine with_frame fun TT hTT => ?_
      refine wpIn_rangeFunc_foot (F := Wd none) (α := PE) X6.heap.size hB rfl rfl (gf := 106) (lb := #[.pointer (some ⟨Z, 0, none⟩), .pointer (some ⟨Z + 1, 0, none⟩), .pointer (some ⟨Z + 2, 0, none⟩)]) (by rw [hTT]; rfl) trivial (enters_of Try.func106 (by kernel_rfl) rfl)
        (encs := encP) (Rd := RdP k) (Nb := (comb k 0 P).length) (S := fun ys => ys.map PE.l = comb k 0 P) (Sp := fun _ => True) own (fun j hj => by have := hownlt j hj; omega) ?hseq rdP_keep (fun _ => rfl)
        (fun ys ow V => CInv P M g mp w.heap.size (casTo P k ++ ys.map PE.l) ow V ∧ Blk V T5 69 #[.pointer (some ⟨g, 0, none⟩)] ∧ ¬ ow T5) (fun c ys ow V => False) ?hI (fun c x ow V V' h => h.elim) ⟨by rw [List.map_nil, List.append_nil]; exact hC6, BT6, hT5n⟩
        (fun x a' V => a' = { tmps := (TT.setIfInBounds 30 x.v).setIfInBounds 7 x.v, defers := [] }) ?assign (fun x a' V o h => h) ?body ?done ?stop
      case hseq =>
        intro W' hW'
        have hz6 := Hz6.out
        have hzw' := hW'.size
        refine comb_gives k 0 P W' _ Z (Z + 1) (Z + 2) (by omega) (by omega) hP ⟨?_, ?_, ?_, by omega, by omega, by omega, ?_, ?_, ?_⟩
        · exact (HN1.out.below hW' HN1.out.lt).cell 0
        · exact (HN2.out.below hW' HN2.out.lt).cell 0
        · exact (HN3.out.below hW' HN3.out.lt).cell 0
        all_goals
          rintro (h | h | h)
          · have := hownlt _ h; omega
          · omega
          · omega
      case hI =>
        rintro ys ow V V' ⟨h1, h2, h3⟩ hk hz e1 e2 e3
        exact ⟨h1.keep (fun j hj => hk j (.inr hj)) hz, (hk _ (.inl (by have := BT6.lt; omega)) h2.lt).trans h2, h3⟩
      case assign =>
        rintro l x V K hrd hV hK
        simp only [encP, hTT]
        gi_wp2
        exact hK _ _ (Below.refl _ _) (by rw [hTT]; rfl)
      case stop =>
        rintro Dm c pre own' V _ _ h
        exact h.elim
      case body =>
        rintro l pre ow x a' V ⟨⟨vs, A0, c0, h1, h2, h3, h4, h5, h5t⟩, h6, h7⟩ hNb hlt hnB hrd rfl hV
        obtain ⟨xv, xl⟩ := x
        obtain ⟨Ax, cx, hxv, hxin, -, hAb, -⟩ := hrd
        have hxv' : xv = .slice Ax k cx := hxv
        subst hxv'
        have hxin' : InS V V.heap.size Ax k xl := hxin
        have hAn : ∀ b off, Ax = some ⟨b, off, none⟩ → ¬ ow b := fun b off e ho => by
          obtain ⟨-, cs, fr, h⟩ := hAb b off e
          rcases h5t b ho with h8 | h8
          · subst h8
            have h9 : V.heap[b]? = _ := h1
            rw [h] at h9; cases h9
          · obtain ⟨cs', fr', h9⟩ := own_block h3 h8
            rw [h] at h9; cases h9
        have hT5v := hid h6
        have hGv := hid h1
        have HX := hid hxin'
        have hAll : Hid (∀ b off, Ax = some ⟨b, off, none⟩ → b < V.heap.size ∧ ¬ ow b) := hid (fun b off e => ⟨(hAb b off e).1, hAn b off e⟩)
        have H3 := hid h3
        have H4 := hid h4
        have H5 := hid h5
        have H5t := hid h5t
        have q5 := h6.cell 0
        have p5 := h6.lt
        have pg := h1.lt
        have hvsl : vs.length ≤ 1000 := by
          have e1 := casTo_len (P := P) (k := k + 1) hP (by omega)
          rw [casTo_succ, List.length_append] at e1
          have e2 := h5.1
          rw [List.length_append, List.length_map] at e2
          omega
        obtain ⟨j0, hj0, hj1, hj2, hj3⟩ := info_parts' info25
        have J0 := hid hj0; have J1 := hid hj1; have J2 := hid hj2; have J3 := hid hj3
        have hgT : g ≠ T5 := by omega
        clear h1 h3 h4 h5 h5t h6 hxin hxv hxin' hAb hAn hj0 hj1 hj2 hj3 hNb
        simp only [hTT, List.setIfInBounds_toArray, List.set_cons_zero, List.set_cons_succ]
        gi_wp2_with (fail)
        refine Sx.wpIn_region_el (fun X => Blk X T5 69 #[.pointer (some ⟨g, 0, none⟩)] ∧ V.heap.size ≤ X.heap.size) (fun W W' h he => ⟨h.1.below he h.1.lt, Nat.le_trans h.2 he.size⟩) [0, 1, 2, 3, 5] 6 (by kernel_rfl) (by kernel_rfl) ⟨hT5v.out, Nat.le_refl _⟩ ?_
        simp only [pick, List.getElem?_toArray, List.getElem?_cons_zero, List.getElem?_cons_succ]
        iterate 5 (refine Sx.wpE_val (v := ?_) (by rfl) (fun W hW => ?_) ?_; rotate_left; (· have e5 := hW.1.cell 0; have f5 := hW.1.lt; have hzW := hW.2; go_simp; with_reducible rfl); simp only [Act.put, List.setIfInBounds_toArray, List.set_cons_zero, List.set_cons_succ])
        simp only [Sx.wpE]
        (refine Sx.wpM_two 4 6 _ _ (by simp only [List.getElem?_toArray, List.getElem?_cons_zero, List.getElem?_cons_succ]; rfl) (by simp only [List.getElem?_toArray, List.getElem?_cons_zero, List.getElem?_cons_succ]; rfl) (by kernel_rfl) (by rfl) (by rfl) ?_ ?_)
        · intro X hX hS
          have hbX : Below V.heap.size V X := (Below.refl _ V).drew.trans hX
          have d2 := (hGv.out.below hbX pg).cell 2
          have lX := Nat.lt_of_lt_of_le pg hbX.size
          (go_simp; simp only [LUpon, Act.put]; try simp only [List.setIfInBounds_toArray, List.set_cons_zero, List.set_cons_succ])
          refine ⟨hS, ?_⟩
          (refine Sx.wpM_one 6 _ (by simp only [List.getElem?_toArray, List.getElem?_cons_zero, List.getElem?_cons_succ]; rfl) (by kernel_rfl) (by rfl) ?_)
          intro Y hY hSY
          have hbY0 : Below V.heap.size V Y := hbX.trans (hY.mono hbX.size)
          (go_simp; simp only [LUpon, Act.put]; try simp only [List.setIfInBounds_toArray, List.set_cons_zero, List.set_cons_succ])
          obtain ⟨LB, hLB⟩ : ∃ LB, Y.heap.size = LB := ⟨_, rfl⟩
          rw [hLB]
          obtain ⟨Y1, hY1⟩ : ∃ Y1, Y.alloc (.cells #[.slice Ax k cx] 25) = Y1 := ⟨_, rfl⟩
          have BL : Blk Y1 LB 25 #[.slice Ax k cx] := by rw [← hY1]; exact Blk.new' hLB
          have hbY : Below V.heap.size V Y1 := by rw [← hY1]; exact hbY0.alloc hbY0.size _
          have hSY1 : Blk Y1 T5 69 #[.pointer (some ⟨g, 0, none⟩)] ∧ V.heap.size ≤ Y1.heap.size := ⟨by rw [← hY1]; exact hSY.1.alloc _, hbY.size⟩
          have hzY := hbY.size
          rw [hY1]
          clear hY1 d2
          refine ⟨hSY1, ?_⟩
          have hdone : True := trivial
          (refine Sx.wpM_one 7 _ (by simp only [List.getElem?_toArray, List.getElem?_cons_zero, List.getElem?_cons_succ]; rfl) (by kernel_rfl) (by rfl) ?_)
          intro X2 hX2 hS2
          have hb2 : Below V.heap.size V X2 := hbY.trans (hX2.mono hzY)
          have BL2 := BL.below hX2 BL.lt
          refine lupon_append_own_at _ _ _ 24 rfl w.heap.size 25 j0 _ 1 24 under24 J0.out J1.out J2.out J3.out rfl (by decide) _ vs.length vs (by rfl) (owns_below H3.out hb2) ⟨LB, 0, none⟩ 1 1 [.slice Ax k cx] (by rfl) rfl (fun j u hj => World.news_of_block BL2 j u hj) (fun u hu => by rw [List.mem_singleton.1 hu]; rfl) (by unfold maxLen; omega) (by omega) (by have := hb2.size; omega) ?_
          intro v3 X3 ho3 hg3 hat3
          obtain ⟨g3, c3, hv3, -, hlt3⟩ := World.ownsRow.form ho3 (Nat.succ_pos _)
          subst hv3
          have BT3 := hS2.1.grown hg3 (own_ne_blk (owns_below H3.out hb2) hS2.1 (by decide)).symm
          have BG2 := hGv.out.below hb2 pg
          have BG3 := BG2.grown hg3 (own_ne_blk (owns_below H3.out hb2) BG2 (by decide)).symm
          refine ⟨⟨BT3, Nat.le_trans hS2.2 hg3.size⟩, ?_⟩
          simp only [Act.put, List.setIfInBounds_toArray, List.set_cons_zero, List.set_cons_succ]
          (refine Sx.wpM_one 8 _ (by simp only [List.getElem?_toArray, List.getElem?_cons_zero, List.getElem?_cons_succ]; rfl) (by kernel_rfl) (by rfl) ?_)
          intro X4 hX4 hS4
          (go_simp; simp only [LUpon, Act.put]; try simp only [List.setIfInBounds_toArray, List.set_cons_zero, List.set_cons_succ])
          refine ⟨hS4, ?_⟩
          (refine Sx.wpM_one 9 _ (by simp only [List.getElem?_toArray, List.getElem?_cons_zero, List.getElem?_cons_succ]; rfl) (by kernel_rfl) (by rfl) ?_)
          intro X5 hX5 hS5
          (go_simp; simp only [LUpon, Act.put]; try simp only [List.setIfInBounds_toArray, List.set_cons_zero, List.set_cons_succ])
          refine ⟨hS5, ?_⟩
          (refine Sx.wpM_one 10 _ (by simp only [List.getElem?_toArray, List.getElem?_cons_zero, List.getElem?_cons_succ]; rfl) (by kernel_rfl) (by rfl) ?_)
          intro X6 hX6 hS6
          have hb36 : Below X3.heap.size X3 X6 := hX4.trans' (hX5.trans' hX6)
          have BG6 := BG3.below hb36 BG3.lt
          have d6 := BG6.cell 2
          have f6 := BG6.frozen 2
          have l6 := BG6.lt
          have ho6 := owns_below ho3 hb36
          clear BG3 BT3 hX4 hX5 hX6 hS4 hS5
          (go_simp; simp only [LUpon, Act.put]; try simp only [List.setIfInBounds_toArray, List.set_cons_zero, List.set_cons_succ])
          refine ⟨⟨hS6.1.far (by simp; omega) _, by simp; exact hS6.2⟩, Sx.wpM_end (by kernel_rfl) ?_⟩
          intro X7 hX7 hS7
          obtain ⟨Xs, hXs⟩ : ∃ Xs, X6.setCell ⟨g, 2, none⟩ (.slice (some ⟨g3, 0, none⟩) (vs.length + 1) c3) = Xs := ⟨_, rfl⟩
          rw [hXs] at hX7
          have BG7 : Blk X7 g 75 #[.int .i64 (P : Int), .int .i64 (M : Int), .slice (some ⟨g3, 0, none⟩) (vs.length + 1) c3, .slice none 0 0, .map (some mp)] := by
            have : Blk Xs g 75 #[.int .i64 (P : Int), .int .i64 (M : Int), .slice (some ⟨g3, 0, none⟩) (vs.length + 1) c3, .slice none 0 0, .map (some mp)] := by rw [← hXs]; exact BG6.set_ 2 _
            exact this.below hX7 this.lt
          have hg3g : g3 ≠ g := fun e => own_ne_blk ho6 BG6 (by decide) (by rw [← e]; rfl)
          have ho7 : X7.ownsRow w.heap.size 25 1 (.slice (some ⟨g3, 0, none⟩) (vs.length + 1) c3) (vs.length + 1) (vs ++ [.slice Ax k cx]) := by
            refine owns_below (owns_same ho6 (fun q hq => ?_)) hX7
            have e3 : some g3 = some q := hq
            cases e3
            rw [← hXs]
            exact Below.heap_setCell _ _ _ _ (by simp only; omega)
          have hzs : Xs.heap.size = X6.heap.size := by rw [← hXs]; simp
          have hkeep : ∀ q, q < V.heap.size → ¬ ow q → X7.heap[q]? = V.heap[q]? := fun q hq hn => by
            have z2 := hb2.size
            have z3 := hg3.size
            have z6 := hb36.size
            refine (hX7.block q (by omega)).trans ?_
            rw [← hXs]
            refine (Below.heap_setCell _ _ _ _ (fun e => hn (by simp only at e; subst e; exact h2))).trans ?_
            exact (hb36.block q (by omega)).trans ((hg3.block q (by omega) (fun e => hn (H4.out q e.symm))).trans (hb2.block q hq))
          have hos : X7.os = V.os ∧ X7.tape = V.tape ∧ X7.output = V.output := by
            refine ⟨hX7.os.trans ?_, hX7.tape.trans ?_, hX7.output.trans ?_⟩ <;> rw [← hXs]
            · exact hb36.os.trans (hg3.os.trans hb2.os)
            · exact hb36.tape.trans (hg3.tape.trans hb2.tape)
            · exact hb36.output.trans (hg3.output.trans hb2.output)
          have hVz : V.heap.size ≤ X7.heap.size := hS7.2
          have hg37 : g3 < X7.heap.size := by obtain ⟨cs, fr, h⟩ := own_cellsAt ho7; exact (Array.getElem?_eq_some_iff.1 h).1
          have hg3V : g3 < V.heap.size → ow g3 := fun hh => by
            rcases hat3 with h | h
            · exact H4.out g3 h.symm
            · have e3 : some g3 = some X2.heap.size := h
              have := Option.some.inj e3
              have := hb2.size
              omega
          have hLC : LiC V (fun q => ow q ∨ q = g3) (vs ++ [.slice Ax k cx]) ((casTo P k ++ pre.map PE.l) ++ [xl]) := by
            refine LiC.snoc (H5.out.foot (fun b hb hh => ?_)) HX.out (fun b off e => ⟨(hAll.out b off e).1, fun hh => (hAll.out b off e).2 ?_⟩)
            · rcases hh with h | rfl
              · exact h
              · exact hg3V hb
            · have hb := (hAll.out b off e).1
              rcases hh with h | rfl
              · exact h
              · exact hg3V hb
          have hLC7 := hid ((hLC.stab (V' := X7) (fun q o ho hc hn => (hkeep q (Array.getElem?_eq_some_iff.1 ho).1 (fun h => hn (.inl h))).trans ho) hVz).foot (ow' := fun q => q = g ∨ q = g3) (fun b _ hh => by
            rcases hh with rfl | h
            · exact .inl h2
            · exact .inr h))
          have hvl : (vs ++ [Value.slice Ax k cx]).length = vs.length + 1 := by simp
          clear hXs hX7 hb2 hb36 hg3 hat3 ho3 ho6 d6 f6 l6 BG6 BG2 BL2 hLC
          gi_wp2
          refine ⟨fun q => q = g ∨ q = g3, ⟨⟨vs ++ [.slice Ax k cx], some ⟨g3, 0, none⟩, c3, ?_, .inl rfl, ?_, ?_, ?_, ?_⟩, hS7.1, ?_⟩, ⟨hos.1, hos.2.1, hos.2.2, hVz, ?_, ?_, hkeep⟩⟩
          · rw [hvl]; exact BG7
          · rw [hvl]; exact ho7
          · intro q hq
            have e3 : some g3 = some q := hq
            cases e3
            exact .inr rfl
          · rw [List.map_append, ← List.append_assoc]; exact hLC7.out
          · intro q hq
            rcases hq with h | h
            · exact .inl h
            · exact .inr (by rw [h]; rfl)
          · rintro (h | h)
            · omega
            · subst h
              obtain ⟨cs, fr, h9⟩ := own_cellsAt ho7
              have h10 := hS7.1
              unfold Blk at h10
              rw [h9] at h10; cases h10
          · rintro q (rfl | rfl)
            · exact .inl h2
            · rcases Nat.lt_or_ge q V.heap.size with h | h
              · exact .inl (hg3V h)
              · exact .inr h
          · rintro q (rfl | rfl)
            · exact BG7.lt
            · exact hg37
        · intro X hX hS
          have hbX : Below V.heap.size V X := (Below.refl _ V).drew.trans hX
          (go_simp; simp only [LUpon, Act.put]; try simp only [List.setIfInBounds_toArray, List.set_cons_zero, List.set_cons_succ])
          obtain ⟨LB, hLB⟩ : ∃ LB, X.heap.size = LB := ⟨_, rfl⟩
          rw [hLB]
          obtain ⟨X1, hX1⟩ : ∃ X1, X.alloc (.cells #[.slice Ax k cx] 25) = X1 := ⟨_, rfl⟩
          have BL0 : Blk X1 LB 25 #[.slice Ax k cx] := by rw [← hX1]; exact Blk.new' hLB
          have hbX1 : Below V.heap.size V X1 := by rw [← hX1]; exact hbX.alloc hbX.size _
          have hSX1 : Blk X1 T5 69 #[.pointer (some ⟨g, 0, none⟩)] ∧ V.heap.size ≤ X1.heap.size := ⟨by rw [← hX1]; exact hS.1.alloc _, hbX1.size⟩
          rw [hX1]
          clear hX1
          refine ⟨hSX1, ?_⟩
          (refine Sx.wpM_one 4 _ (by simp only [List.getElem?_toArray, List.getElem?_cons_zero, List.getElem?_cons_succ]; rfl) (by kernel_rfl) (by rfl) ?_)
          intro Y1 hY hSY
          have hbY : Below V.heap.size V Y1 := hbX1.trans (hY.mono hbX1.size)
          have BL := BL0.below hY BL0.lt
          have hzY := hbY.size
          have d2 := (hGv.out.below hbY pg).cell 2
          have lX := Nat.lt_of_lt_of_le pg hbY.size
          (go_simp; simp only [LUpon, Act.put]; try simp only [List.setIfInBounds_toArray, List.set_cons_zero, List.set_cons_succ])
          refine ⟨hSY, ?_⟩
          clear d2
          (refine Sx.wpM_one 7 _ (by simp only [List.getElem?_toArray, List.getElem?_cons_zero, List.getElem?_cons_succ]; rfl) (by kernel_rfl) (by rfl) ?_)
          intro X2 hX2 hS2
          have hb2 : Below V.heap.size V X2 := hbY.trans (hX2.mono hzY)
          have BL2 := BL.below hX2 BL.lt
          refine lupon_append_own_at _ _ _ 24 rfl w.heap.size 25 j0 _ 1 24 under24 J0.out J1.out J2.out J3.out rfl (by decide) _ vs.length vs (by rfl) (owns_below H3.out hb2) ⟨LB, 0, none⟩ 1 1 [.slice Ax k cx] (by rfl) rfl (fun j u hj => World.news_of_block BL2 j u hj) (fun u hu => by rw [List.mem_singleton.1 hu]; rfl) (by unfold maxLen; omega) (by omega) (by have := hb2.size; omega) ?_
          intro v3 X3 ho3 hg3 hat3
          obtain ⟨g3, c3, hv3, -, hlt3⟩ := World.ownsRow.form ho3 (Nat.succ_pos _)
          subst hv3
          have BT3 := hS2.1.grown hg3 (own_ne_blk (owns_below H3.out hb2) hS2.1 (by decide)).symm
          have BG2 := hGv.out.below hb2 pg
          have BG3 := BG2.grown hg3 (own_ne_blk (owns_below H3.out hb2) BG2 (by decide)).symm
          refine ⟨⟨BT3, Nat.le_trans hS2.2 hg3.size⟩, ?_⟩
          simp only [Act.put, List.setIfInBounds_toArray, List.set_cons_zero, List.set_cons_succ]
          (refine Sx.wpM_one 8 _ (by simp only [List.getElem?_toArray, List.getElem?_cons_zero, List.getElem?_cons_succ]; rfl) (by kernel_rfl) (by rfl) ?_)
          intro X4 hX4 hS4
          (go_simp; simp only [LUpon, Act.put]; try simp only [List.setIfInBounds_toArray, List.set_cons_zero, List.set_cons_succ])
          refine ⟨hS4, ?_⟩
          (refine Sx.wpM_one 9 _ (by simp only [List.getElem?_toArray, List.getElem?_cons_zero, List.getElem?_cons_succ]; rfl) (by kernel_rfl) (by rfl) ?_)
          intro X5 hX5 hS5
          (go_simp; simp only [LUpon, Act.put]; try simp only [List.setIfInBounds_toArray, List.set_cons_zero, List.set_cons_succ])
          refine ⟨hS5, ?_⟩
          (refine Sx.wpM_one 10 _ (by simp only [List.getElem?_toArray, List.getElem?_cons_zero, List.getElem?_cons_succ]; rfl) (by kernel_rfl) (by rfl) ?_)
          intro X6 hX6 hS6
          have hb36 : Below X3.heap.size X3 X6 := hX4.trans' (hX5.trans' hX6)
          have BG6 := BG3.below hb36 BG3.lt
          have d6 := BG6.cell 2
          have f6 := BG6.frozen 2
          have l6 := BG6.lt
          have ho6 := owns_below ho3 hb36
          clear BG3 BT3 hX4 hX5 hX6 hS4 hS5
          (go_simp; simp only [LUpon, Act.put]; try simp only [List.setIfInBounds_toArray, List.set_cons_zero, List.set_cons_succ])
          refine ⟨⟨hS6.1.far (by simp; omega) _, by simp; exact hS6.2⟩, Sx.wpM_end (by kernel_rfl) ?_⟩
          intro X7 hX7 hS7
          obtain ⟨Xs, hXs⟩ : ∃ Xs, X6.setCell ⟨g, 2, none⟩ (.slice (some ⟨g3, 0, none⟩) (vs.length + 1) c3) = Xs := ⟨_, rfl⟩
          rw [hXs] at hX7
          have BG7 : Blk X7 g 75 #[.int .i64 (P : Int), .int .i64 (M : Int), .slice (some ⟨g3, 0, none⟩) (vs.length + 1) c3, .slice none 0 0, .map (some mp)] := by
            have : Blk Xs g 75 #[.int .i64 (P : Int), .int .i64 (M : Int), .slice (some ⟨g3, 0, none⟩) (vs.length + 1) c3, .slice none 0 0, .map (some mp)] := by rw [← hXs]; exact BG6.set_ 2 _
            exact this.below hX7 this.lt
          have hg3g : g3 ≠ g := fun e => own_ne_blk ho6 BG6 (by decide) (by rw [← e]; rfl)
          have ho7 : X7.ownsRow w.heap.size 25 1 (.slice (some ⟨g3, 0, none⟩) (vs.length + 1) c3) (vs.length + 1) (vs ++ [.slice Ax k cx]) := by
            refine owns_below (owns_same ho6 (fun q hq => ?_)) hX7
            have e3 : some g3 = some q := hq
            cases e3
            rw [← hXs]
            exact Below.heap_setCell _ _ _ _ (by simp only; omega)
          have hzs : Xs.heap.size = X6.heap.size := by rw [← hXs]; simp
          have hkeep : ∀ q, q < V.heap.size → ¬ ow q → X7.heap[q]? = V.heap[q]? := fun q hq hn => by
            have z2 := hb2.size
            have z3 := hg3.size
            have z6 := hb36.size
            refine (hX7.block q (by omega)).trans ?_
            rw [← hXs]
            refine (Below.heap_setCell _ _ _ _ (fun e => hn (by simp only at e; subst e; exact h2))).trans ?_
            exact (hb36.block q (by omega)).trans ((hg3.block q (by omega) (fun e => hn (H4.out q e.symm))).trans (hb2.block q hq))
          have hos : X7.os = V.os ∧ X7.tape = V.tape ∧ X7.output = V.output := by
            refine ⟨hX7.os.trans ?_, hX7.tape.trans ?_, hX7.output.trans ?_⟩ <;> rw [← hXs]
            · exact hb36.os.trans (hg3.os.trans hb2.os)
            · exact hb36.tape.trans (hg3.tape.trans hb2.tape)
            · exact hb36.output.trans (hg3.output.trans hb2.output)
          have hVz : V.heap.size ≤ X7.heap.size := hS7.2
          have hg37 : g3 < X7.heap.size := by obtain ⟨cs, fr, h⟩ := own_cellsAt ho7; exact (Array.getElem?_eq_some_iff.1 h).1
          have hg3V : g3 < V.heap.size → ow g3 := fun hh => by
            rcases hat3 with h | h
            · exact H4.out g3 h.symm
            · have e3 : some g3 = some X2.heap.size := h
              have := Option.some.inj e3
              have := hb2.size
              omega
          have hLC : LiC V (fun q => ow q ∨ q = g3) (vs ++ [.slice Ax k cx]) ((casTo P k ++ pre.map PE.l) ++ [xl]) := by
            refine LiC.snoc (H5.out.foot (fun b hb hh => ?_)) HX.out (fun b off e => ⟨(hAll.out b off e).1, fun hh => (hAll.out b off e).2 ?_⟩)
            · rcases hh with h | rfl
              · exact h
              · exact hg3V hb
            · have hb := (hAll.out b off e).1
              rcases hh with h | rfl
              · exact h
              · exact hg3V hb
          have hLC7 := hid ((hLC.stab (V' := X7) (fun q o ho hc hn => (hkeep q (Array.getElem?_eq_some_iff.1 ho).1 (fun h => hn (.inl h))).trans ho) hVz).foot (ow' := fun q => q = g ∨ q = g3) (fun b _ hh => by
            rcases hh with rfl | h
            · exact .inl h2
            · exact .inr h))
          have hvl : (vs ++ [Value.slice Ax k cx]).length = vs.length + 1 := by simp
          clear hXs hX7 hb2 hb36 hg3 hat3 ho3 ho6 d6 f6 l6 BG6 BG2 BL2 hLC
          gi_wp2
          refine ⟨fun q => q = g ∨ q = g3, ⟨⟨vs ++ [.slice Ax k cx], some ⟨g3, 0, none⟩, c3, ?_, .inl rfl, ?_, ?_, ?_, ?_⟩, hS7.1, ?_⟩, ⟨hos.1, hos.2.1, hos.2.2, hVz, ?_, ?_, hkeep⟩⟩
          · rw [hvl]; exact BG7
          · rw [hvl]; exact ho7
          · intro q hq
            have e3 : some g3 = some q := hq
            cases e3
            exact .inr rfl
          · rw [List.map_append, ← List.append_assoc]; exact hLC7.out
          · intro q hq
            rcases hq with h | h
            · exact .inl h
            · exact .inr (by rw [h]; rfl)
          · rintro (h | h)
            · omega
            · subst h
              obtain ⟨cs, fr, h9⟩ := own_cellsAt ho7
              have h10 := hS7.1
              unfold Blk at h10
              rw [h9] at h10; cases h10
          · rintro q (rfl | rfl)
            · exact .inl h2
            · rcases Nat.lt_or_ge q V.heap.size with h | h
              · exact .inl (hg3V h)
              · exact .inr h
          · rintro q (rfl | rfl)
            · exact BG7.lt
            · exact hg37
      case done =>
        rintro Dm ys ow V hDm hys ⟨h1, h2, h3⟩ hg6 hnB rfl hK
        have hgx : Grow own wr ow V := (grow_below hownlt Hb06.out).trans hg6
        have hmx : MarksO ow W1.heap.size X6.heap.size V ds := hmk.out.step hzw6 (fun E hE hn h => by
          rcases hgx.from_ E h with h4 | h4
          · exact hn h4
          · omega) (fun E hE hn => hgx.same E hE hn)
        have hmx2 := hmx.push (by omega : W1.heap.size ≤ X6.heap.size) (Nat.le_refl _) (fun h => (hnB _ h).1 rfl) hK
        have hVlt : X6.heap.size < V.heap.size := (Array.getElem?_eq_some_iff.1 hK).1
        have hmx3 := hid (hmx2.step (M' := V.heap.size) (W' := V) (by omega) (fun _ _ h => h) (fun _ _ _ => rfl))
        have hC2 : Hid (CInv P M g mp w.heap.size (casTo P (k + 1)) ow V) := hid (by rw [casTo_succ, ← hys]; exact h1)
        have hgr2 := hid (hgr.out.trans hgx)
        simp only [hTT]
        clear h1 h2 h3 hmx hmx2 hgx hys
        gi_wp2
        refine ⟨?_, by simp [intOf]; omega⟩
        repeat apply Exists.intro
        refine ⟨⟨k + 1, by omega, (by go_num : Value.int .i64 ((k : Int) + 1) = _), ow, hC2, hgr2, hmx3⟩, ?_, rfl⟩
        repeat' (first | rfl | constructor)
    · obtain rfl : k = M + 1 := by omega
      have hlti : ¬ ((M + 1 : Nat) : Int) < M + 1 := by omega
      have hlti2 : ¬ (M : Int) + 1 < (M : Int) + 1 := by omega
      have hbwr : Below w.heap.size w wr := ⟨hgr.out.os.trans hb1.os, hgr.out.tape.trans hb1.tape, hgr.out.output.trans hb1.output, Nat.le_trans hb1.size hzr, fun q hq => (hgr.out.same q (Nat.lt_of_lt_of_le hq hb1.size) (by omega)).trans (hb1.block q hq)⟩
      have hC2 := hC.out
      rw [casTo_all hP hM] at hC2
      obtain ⟨vs, A1, c1, h1, h2, h3, h4, h5, h6⟩ := hC2
      have hM1 : wr.heap[mp]? = some (.map #[] 0) := (hgr.out.same mp (Array.getElem?_eq_some_iff.1 HM0.out).1 (by omega)).trans HM0.out
      have HBG := hid h1
      have H3 := hid h3
      have H5 := hid h5
      have HM1 := hid hM1
      have hog := h2
      have hgl : g < wr.heap.size := h1.lt
      have H4 := hid h4
      clear h1 h2 h3 h4 h5 h6 hM1 hC
      obtain ⟨i0, hi0, hi1, hi2, hi3⟩ := info_parts' info82
      have I0 := hid hi0; have I1 := hid hi1; have I2 := hid hi2; have I3 := hid hi3
      clear hi0 hi1 hi2 hi3
      have hlen := hid HP.out.1
      obtain ⟨W9, hW9⟩ : ∃ W9, W9 = wr := ⟨_, rfl⟩
      subst hW9
      gi_wp2_with (fail)
      gi_loopw [44] (fun i V => ∃ (j : Nat) (A2 : Option Addr) (c2 : Nat), j ≤ n ∧ i = .int .i64 (j : Int) ∧ Hid (Blk V g 75 #[.int .i64 (P : Int), .int .i64 (M : Int), .slice A1 vs.length c1, .slice A2 j c2, .map (some mp)]) ∧ Hid (V.ownsRow W9.heap.size 82 8 (.slice A2 j c2) j ((pl.take j).flatMap rodC)) ∧ W9.grownBy V (some g)) (fun i _ => n - (intOf i).toNat)
      case atStart => exact ⟨0, none, 0, by omega, rfl, HBG, hid (World.ownsRow_nil _ _ _ _), grownM_below (Below.refl _ _)⟩
      case round =>
        obtain ⟨j, A2, c2, hj, rfl, HBGV, HO, hgV⟩ := hrel
        obtain ⟨V, hV⟩ : ∃ V, V = wr := ⟨_, rfl⟩
        subst hV
        have hgT : g ≠ T5 := by omega
        have BTV : Blk V T5 69 #[.pointer (some ⟨g, 0, none⟩)] := HBTr.out.grown hgV (fun e => hgT (Option.some.inj e).symm)
        have q5 := BTV.cell 0
        have p5 := BTV.lt
        have pg := HBGV.out.lt
        have hzV := hgV.size
        have hbV : Below w.heap.size w V := hbwr.grown hgV hbwr.size (fun r hr => by cases hr; omega)
        by_cases hjn : j < n
        · obtain ⟨b0, off0, l, A', m, c', rfl, hb0, hl, hcl, hin⟩ := HP.out.at_ hjn
          have hjni : (j : Int) < n := by omega
          have hml : m ≤ 1000000 := by have := hw l (List.mem_of_getElem? hl); have := hin.len; omega
          have hlb := HB.out l (List.mem_of_getElem? hl)
          have HIN := hid hin
          have cl := (hbV.cell (p := ⟨b0, off0 + j, none⟩) hb0).trans hcl
          have lb0 : b0 < V.heap.size := by have := hbV.size; omega
          have Hlb := hid hlb
          have HBTV := hid BTV
          have HhbV := hid hbV
          clear hcl hin hlb BTV r5
          gi_wp2_with (fail)
          clear cl lb0 q5
          refine Sx.wpIn_region_el (fun X => Blk X T5 69 #[.pointer (some ⟨g, 0, none⟩)] ∧ V.heap.size ≤ X.heap.size ∧ Below w.heap.size w X) (fun W W' h he => ⟨h.1.below he h.1.lt, Nat.le_trans h.2.1 he.size, h.2.2.trans (he.mono h.2.2.size)⟩) [0, 1, 2, 3, 5, 6] 6 (by kernel_rfl) (by kernel_rfl) ⟨HBTV.out, Nat.le_refl _, HhbV.out.drew⟩ ?_
          simp only [pick, List.getElem?_toArray, List.getElem?_cons_zero, List.getElem?_cons_succ]
          iterate 5 (refine Sx.wpE_val (v := ?_) (by rfl) (fun W hW => ?_) ?_; rotate_left; (· have e5 := hW.1.cell 0; have f5 := hW.1.lt; have hzW := hW.2.1; go_simp; with_reducible rfl); simp only [Act.put, List.setIfInBounds_toArray, List.set_cons_zero, List.set_cons_succ])
          refine Sx.wpE_call (f := 74) (args := #[.slice A' m c']) (v := .agg #[mk1 l 0, mk1 l 1, mk1 l 2, mk1 l 3, mk1 l 4, mk1 l 5, mk1 l 6, mk1 l 7]) (by rfl) (fun W hW => marked_any A' m c' l W (HIN.out.below hW.2.2 hW.2.2.size) hml Hlb.out) (fun W hW => by go_simp) ?_
          simp only [Act.put, List.setIfInBounds_toArray, List.set_cons_zero, List.set_cons_succ]
          simp only [Sx.wpE]
          (refine Sx.wpM_two 4 7 _ _ (by simp only [List.getElem?_toArray, List.getElem?_cons_zero, List.getElem?_cons_succ]; rfl) (by simp only [List.getElem?_toArray, List.getElem?_cons_zero, List.getElem?_cons_succ]; rfl) (by kernel_rfl) (by rfl) (by rfl) ?_ ?_)
          · intro X hX hS
            have hbX : Below V.heap.size V X := (Below.refl _ V).drew.trans hX
            have d2 := (HBGV.out.below hbX pg).cell 3
            have lX := Nat.lt_of_lt_of_le pg hbX.size
            (go_simp; simp only [LUpon, Act.put]; try simp only [List.setIfInBounds_toArray, List.set_cons_zero, List.set_cons_succ])
            refine ⟨hS, ?_⟩
            (refine Sx.wpM_one 7 _ (by simp only [List.getElem?_toArray, List.getElem?_cons_zero, List.getElem?_cons_succ]; rfl) (by kernel_rfl) (by rfl) ?_)
            intro Y hY hSY
            have hbY0 : Below V.heap.size V Y := hbX.trans (hY.mono hbX.size)
            (go_simp; simp only [LUpon, Act.put]; try simp only [List.setIfInBounds_toArray, List.set_cons_zero, List.set_cons_succ])
            obtain ⟨LB, hLB⟩ : ∃ LB, Y.heap.size = LB := ⟨_, rfl⟩
            rw [hLB]
            obtain ⟨Y1, hY1⟩ : ∃ Y1, Y.alloc (.cells #[mk1 l 0, mk1 l 1, mk1 l 2, mk1 l 3, mk1 l 4, mk1 l 5, mk1 l 6, mk1 l 7] 82) = Y1 := ⟨_, rfl⟩
            have BL : Blk Y1 LB 82 (mkA l) := by rw [← hY1]; exact Blk.new' hLB
            have hbY : Below V.heap.size V Y1 := by rw [← hY1]; exact hbY0.alloc hbY0.size _
            have hSY1 : Blk Y1 T5 69 #[.pointer (some ⟨g, 0, none⟩)] ∧ V.heap.size ≤ Y1.heap.size ∧ Below w.heap.size w Y1 := ⟨by rw [← hY1]; exact hSY.1.alloc _, hbY.size, by rw [← hY1]; exact hSY.2.2.alloc hSY.2.2.size _⟩
            have hzY := hbY.size
            rw [hY1]
            clear hY1 d2
            refine ⟨hSY1, ?_⟩
            (refine Sx.wpM_one 8 _ (by simp only [List.getElem?_toArray, List.getElem?_cons_zero, List.getElem?_cons_succ]; rfl) (by kernel_rfl) (by rfl) ?_)
            intro X2 hX2 hS2
            have hb2 : Below V.heap.size V X2 := hbY.trans (hX2.mono hzY)
            have BL2 := BL.below hX2 BL.lt
            refine lupon_append_own_at _ _ _ 72 rfl W9.heap.size 82 i0 _ 8 64 under72 I0.out I1.out I2.out I3.out rfl (by decide) _ j ((pl.take j).flatMap rodC) (by rfl) (owns_below HO.out hb2) ⟨LB, 0, none⟩ 1 1 (rodC l) (by rfl) rfl (fun j u hj => World.news_of_block BL2 j u hj) (one_rodC l) (by unfold maxLen; omega) (by omega) (by have := hb2.size; omega) ?_
            intro v3 X3 ho3 hg3 hat3
            obtain ⟨g3, c3, hv3, hg39, hlt3⟩ := World.ownsRow.form ho3 (Nat.succ_pos _)
            subst hv3
            have BT3 := hS2.1.grown hg3 (own_ne_blk (owns_below HO.out hb2) hS2.1 (by decide)).symm
            have BG2 := HBGV.out.below hb2 pg
            have BG3 := BG2.grown hg3 (own_ne_blk (owns_below HO.out hb2) BG2 (by decide)).symm
            have hbw3 : Below w.heap.size w X3 := hS2.2.2.grown hg3 hS2.2.2.size (fun r hr => by have := (World.ownsRow.lt HO.out r hr).1; have := hbwr.size; omega)
            refine ⟨⟨BT3, Nat.le_trans hS2.2.1 hg3.size, hbw3⟩, ?_⟩
            simp only [Act.put, List.setIfInBounds_toArray, List.set_cons_zero, List.set_cons_succ]
            (refine Sx.wpM_one 9 _ (by simp only [List.getElem?_toArray, List.getElem?_cons_zero, List.getElem?_cons_succ]; rfl) (by kernel_rfl) (by rfl) ?_)
            intro X4 hX4 hS4
            (go_simp; simp only [LUpon, Act.put]; try simp only [List.setIfInBounds_toArray, List.set_cons_zero, List.set_cons_succ])
            refine ⟨hS4, ?_⟩
            (refine Sx.wpM_one 10 _ (by simp only [List.getElem?_toArray, List.getElem?_cons_zero, List.getElem?_cons_succ]; rfl) (by kernel_rfl) (by rfl) ?_)
            intro X5 hX5 hS5
            (go_simp; simp only [LUpon, Act.put]; try simp only [List.setIfInBounds_toArray, List.set_cons_zero, List.set_cons_succ])
            refine ⟨hS5, ?_⟩
            (refine Sx.wpM_one 11 _ (by simp only [List.getElem?_toArray, List.getElem?_cons_zero, List.getElem?_cons_succ]; rfl) (by kernel_rfl) (by rfl) ?_)
            intro X6 hX6 hS6
            have hb36 : Below X3.heap.size X3 X6 := hX4.trans' (hX5.trans' hX6)
            have BG6 := BG3.below hb36 BG3.lt
            have d6 := BG6.cell 3
            have f6 := BG6.frozen 3
            have l6 := BG6.lt
            have ho6 := owns_below ho3 hb36
            clear BG3 BT3 hX4 hX5 hX6 hS4 hS5
            (go_simp; simp only [LUpon, Act.put]; try simp only [List.setIfInBounds_toArray, List.set_cons_zero, List.set_cons_succ])
            refine ⟨⟨hS6.1.far (by simp; omega) _, by simp; exact hS6.2.1, below_set hS6.2.2 (by simp only; omega) _⟩, Sx.wpM_end (by kernel_rfl) ?_⟩
            intro X7 hX7 hS7
            obtain ⟨Xs, hXs⟩ : ∃ Xs, X6.setCell ⟨g, 3, none⟩ (.slice (some ⟨g3, 0, none⟩) (j + 1) c3) = Xs := ⟨_, rfl⟩
            rw [hXs] at hX7
            have BG7 : Blk X7 g 75 #[.int .i64 (P : Int), .int .i64 (M : Int), .slice A1 vs.length c1, .slice (some ⟨g3, 0, none⟩) (j + 1) c3, .map (some mp)] := by
              have : Blk Xs g 75 #[.int .i64 (P : Int), .int .i64 (M : Int), .slice A1 vs.length c1, .slice (some ⟨g3, 0, none⟩) (j + 1) c3, .map (some mp)] := by rw [← hXs]; exact BG6.set_ 3 _
              exact this.below hX7 this.lt
            have hg3g : g3 ≠ g := fun e => own_ne_blk ho6 BG6 (by decide) (by rw [← e]; rfl)
            have ho7 : X7.ownsRow W9.heap.size 82 8 (.slice (some ⟨g3, 0, none⟩) (j + 1) c3) (j + 1) ((pl.take (j + 1)).flatMap rodC) := by
              rw [List.take_add_one, hl, List.flatMap_append]
              refine owns_below (owns_same ho6 (fun q hq => ?_)) hX7
              have e3 : some g3 = some q := hq
              cases e3
              rw [← hXs]
              exact Below.heap_setCell _ _ _ _ (by simp only; omega)
            have hgV7 : W9.grownBy X7 (some g) := by
              refine grownM_then ?_ hX7
              rw [← hXs]
              refine grownM_setCell (grownM_then (grownM_trans (grownM_then hgV hb2) hg3 (fun r hr => .inl ?_)) hb36) (.inr rfl) _
              exact (World.ownsRow.lt (owns_below HO.out hb2) r hr).1
            have HO7 := hid ho7
            have HB7 := hid BG7
            clear hXs hX7 hb2 hb36 hg3 hat3 ho3 ho6 d6 f6 l6 BG6 BG2 BL2 ho7 BG7
            gi_wp2
            (first | exact ⟨⟨j + 1, some ⟨g3, 0, none⟩, c3, by omega, (by go_num : Value.int .i64 ((j : Int) + 1) = _), HB7, HO7, hgV7⟩, (by first | (simp [intOf]; omega) | (simp [intOf]; done))⟩ | (refine ⟨?_, ?_⟩; (focus ((repeat apply Exists.intro); refine ⟨?_, rfl⟩; exact ⟨j + 1, some ⟨g3, 0, none⟩, c3, by omega, (by go_num : Value.int .i64 ((j : Int) + 1) = _), HB7, HO7, hgV7⟩)); (first | (simp [intOf]; omega) | (simp [intOf]; done))))
          · intro X hX hS
            have hbX : Below V.heap.size V X := (Below.refl _ V).drew.trans hX
            (go_simp; simp only [LUpon, Act.put]; try simp only [List.setIfInBounds_toArray, List.set_cons_zero, List.set_cons_succ])
            obtain ⟨LB, hLB⟩ : ∃ LB, X.heap.size = LB := ⟨_, rfl⟩
            rw [hLB]
            obtain ⟨X1, hX1⟩ : ∃ X1, X.alloc (.cells #[mk1 l 0, mk1 l 1, mk1 l 2, mk1 l 3, mk1 l 4, mk1 l 5, mk1 l 6, mk1 l 7] 82) = X1 := ⟨_, rfl⟩
            have BL0 : Blk X1 LB 82 (mkA l) := by rw [← hX1]; exact Blk.new' hLB
            have hbX1 : Below V.heap.size V X1 := by rw [← hX1]; exact hbX.alloc hbX.size _
            have hSX1 : Blk X1 T5 69 #[.pointer (some ⟨g, 0, none⟩)] ∧ V.heap.size ≤ X1.heap.size ∧ Below w.heap.size w X1 := ⟨by rw [← hX1]; exact hS.1.alloc _, hbX1.size, by rw [← hX1]; exact hS.2.2.alloc hS.2.2.size _⟩
            rw [hX1]
            clear hX1
            refine ⟨hSX1, ?_⟩
            (refine Sx.wpM_one 4 _ (by simp only [List.getElem?_toArray, List.getElem?_cons_zero, List.getElem?_cons_succ]; rfl) (by kernel_rfl) (by rfl) ?_)
            intro Y1 hY hSY
            have hbY : Below V.heap.size V Y1 := hbX1.trans (hY.mono hbX1.size)
            have BL := BL0.below hY BL0.lt
            have hzY := hbY.size
            have d2 := (HBGV.out.below hbY pg).cell 3
            have lX := Nat.lt_of_lt_of_le pg hbY.size
            (go_simp; simp only [LUpon, Act.put]; try simp only [List.setIfInBounds_toArray, List.set_cons_zero, List.set_cons_succ])
            refine ⟨hSY, ?_⟩
            clear d2
            (refine Sx.wpM_one 8 _ (by simp only [List.getElem?_toArray, List.getElem?_cons_zero, List.getElem?_cons_succ]; rfl) (by kernel_rfl) (by rfl) ?_)
            intro X2 hX2 hS2
            have hb2 : Below V.heap.size V X2 := hbY.trans (hX2.mono hzY)
            have BL2 := BL.below hX2 BL.lt
            refine lupon_append_own_at _ _ _ 72 rfl W9.heap.size 82 i0 _ 8 64 under72 I0.out I1.out I2.out I3.out rfl (by decide) _ j ((pl.take j).flatMap rodC) (by rfl) (owns_below HO.out hb2) ⟨LB, 0, none⟩ 1 1 (rodC l) (by rfl) rfl (fun j u hj => World.news_of_block BL2 j u hj) (one_rodC l) (by unfold maxLen; omega) (by omega) (by have := hb2.size; omega) ?_
            intro v3 X3 ho3 hg3 hat3
            obtain ⟨g3, c3, hv3, hg39, hlt3⟩ := World.ownsRow.form ho3 (Nat.succ_pos _)
            subst hv3
            have BT3 := hS2.1.grown hg3 (own_ne_blk (owns_below HO.out hb2) hS2.1 (by decide)).symm
            have BG2 := HBGV.out.below hb2 pg
            have BG3 := BG2.grown hg3 (own_ne_blk (owns_below HO.out hb2) BG2 (by decide)).symm
            have hbw3 : Below w.heap.size w X3 := hS2.2.2.grown hg3 hS2.2.2.size (fun r hr => by have := (World.ownsRow.lt HO.out r hr).1; have := hbwr.size; omega)
            refine ⟨⟨BT3, Nat.le_trans hS2.2.1 hg3.size, hbw3⟩, ?_⟩
            simp only [Act.put, List.setIfInBounds_toArray, List.set_cons_zero, List.set_cons_succ]
            (refine Sx.wpM_one 9 _ (by simp only [List.getElem?_toArray, List.getElem?_cons_zero, List.getElem?_cons_succ]; rfl) (by kernel_rfl) (by rfl) ?_)
            intro X4 hX4 hS4
            (go_simp; simp only [LUpon, Act.put]; try simp only [List.setIfInBounds_toArray, List.set_cons_zero, List.set_cons_succ])
            refine ⟨hS4, ?_⟩
            (refine Sx.wpM_one 10 _ (by simp only [List.getElem?_toArray, List.getElem?_cons_zero, List.getElem?_cons_succ]; rfl) (by kernel_rfl) (by rfl) ?_)
            intro X5 hX5 hS5
            (go_simp; simp only [LUpon, Act.put]; try simp only [List.setIfInBounds_toArray, List.set_cons_zero, List.set_cons_succ])
            refine ⟨hS5, ?_⟩
            (refine Sx.wpM_one 11 _ (by simp only [List.getElem?_toArray, List.getElem?_cons_zero, List.getElem?_cons_succ]; rfl) (by kernel_rfl) (by rfl) ?_)
            intro X6 hX6 hS6
            have hb36 : Below X3.heap.size X3 X6 := hX4.trans' (hX5.trans' hX6)
            have BG6 := BG3.below hb36 BG3.lt
            have d6 := BG6.cell 3
            have f6 := BG6.frozen 3
            have l6 := BG6.lt
            have ho6 := owns_below ho3 hb36
            clear BG3 BT3 hX4 hX5 hX6 hS4 hS5
            (go_simp; simp only [LUpon, Act.put]; try simp only [List.setIfInBounds_toArray, List.set_cons_zero, List.set_cons_succ])
            refine ⟨⟨hS6.1.far (by simp; omega) _, by simp; exact hS6.2.1, below_set hS6.2.2 (by simp only; omega) _⟩, Sx.wpM_end (by kernel_rfl) ?_⟩
            intro X7 hX7 hS7
            obtain ⟨Xs, hXs⟩ : ∃ Xs, X6.setCell ⟨g, 3, none⟩ (.slice (some ⟨g3, 0, none⟩) (j + 1) c3) = Xs := ⟨_, rfl⟩
            rw [hXs] at hX7
            have BG7 : Blk X7 g 75 #[.int .i64 (P : Int), .int .i64 (M : Int), .slice A1 vs.length c1, .slice (some ⟨g3, 0, none⟩) (j + 1) c3, .map (some mp)] := by
              have : Blk Xs g 75 #[.int .i64 (P : Int), .int .i64 (M : Int), .slice A1 vs.length c1, .slice (some ⟨g3, 0, none⟩) (j + 1) c3, .map (some mp)] := by rw [← hXs]; exact BG6.set_ 3 _
              exact this.below hX7 this.lt
            have hg3g : g3 ≠ g := fun e => own_ne_blk ho6 BG6 (by decide) (by rw [← e]; rfl)
            have ho7 : X7.ownsRow W9.heap.size 82 8 (.slice (some ⟨g3, 0, none⟩) (j + 1) c3) (j + 1) ((pl.take (j + 1)).flatMap rodC) := by
              rw [List.take_add_one, hl, List.flatMap_append]
              refine owns_below (owns_same ho6 (fun q hq => ?_)) hX7
              have e3 : some g3 = some q := hq
              cases e3
              rw [← hXs]
              exact Below.heap_setCell _ _ _ _ (by simp only; omega)
            have hgV7 : W9.grownBy X7 (some g) := by
              refine grownM_then ?_ hX7
              rw [← hXs]
              refine grownM_setCell (grownM_then (grownM_trans (grownM_then hgV hb2) hg3 (fun r hr => .inl ?_)) hb36) (.inr rfl) _
              exact (World.ownsRow.lt (owns_below HO.out hb2) r hr).1
            have HO7 := hid ho7
            have HB7 := hid BG7
            clear hXs hX7 hb2 hb36 hg3 hat3 ho3 ho6 d6 f6 l6 BG6 BG2 BL2 ho7 BG7
            gi_wp2
            (first | exact ⟨⟨j + 1, some ⟨g3, 0, none⟩, c3, by omega, (by go_num : Value.int .i64 ((j : Int) + 1) = _), HB7, HO7, hgV7⟩, (by first | (simp [intOf]; omega) | (simp [intOf]; done))⟩ | (refine ⟨?_, ?_⟩; (focus ((repeat apply Exists.intro); refine ⟨?_, rfl⟩; exact ⟨j + 1, some ⟨g3, 0, none⟩, c3, by omega, (by go_num : Value.int .i64 ((j : Int) + 1) = _), HB7, HO7, hgV7⟩)); (first | (simp [intOf]; omega) | (simp [intOf]; done))))
        · obtain rfl : j = n := by omega
          have hjni : ¬ (j : Int) < j := by omega
          have hC9 := LiC.stab H5.out (V' := V) (fun q o ho hc hno => (hgV.block q (Array.getElem?_eq_some_iff.1 ho).1 (fun e => hno (by cases e; exact hog))).trans ho) hgV.size
          have ho9 : V.ownsRow w.heap.size 25 1 (.slice A1 vs.length c1) vs.length vs := owns_same H3.out (fun q hq => hgV.block q (H3.out.lt q hq).2 (fun e => own_ne_blk H3.out HBG.out (by decide) (by rw [hq, e])))
          have hlT := LiC.lit hC9 ho9
          have hcap := own_cap ho9
          have hRw := Sl.of_own HO.out
          rw [show (pl.take j) = pl by rw [List.take_of_length_le (by have := hlen.out; omega)]] at hRw
          have hmk9 := hmk.out.step (M' := V.heap.size) (W' := V) hgV.size (fun _ _ h => h) (fun D hD hn => hgV.block D hD (fun e => hn (by cases e; exact hog)))
          have hM9 : V.heap[mp]? = some (.map #[] 0) := (hgV.block mp (Array.getElem?_eq_some_iff.1 HM1.out).1 (fun e => by have := Option.some.inj e; omega)).trans HM1.out
          have hvsl := H5.out.1
          have hpln := hlen.out
          have HBG9 := hid HBGV.out
          have Hmk9 := hid hmk9
          have HlT := hid hlT
          have HRw := hid hRw
          have HM9 := hid hM9
          have HbV := hid hbV
          clear hC9 ho9 hlT hRw hmk9 hM9 hbV H3 H5 HO
          gi_wp2
          refine Hmk9.out.leaves (fun Ds w' hDs ho => ⟨.pointer (some ⟨g, 0, none⟩), (by first | (simp [results, Try.results88, go_sem]; done) | (simp [results, Try.results88, go_sem, *]; done) | (simp [results, Try.results88, go_sem, World.cell?_setCell_same', *]; done) | (simp [results, Try.results88, go_sem]; first | exact ⟨rfl, rfl⟩ | rfl)), g, rfl, by omega, mp, by omega, ⟨A1, c1, A2, c2, ?_, ?_, ?_, by rw [← hvsl]; exact hcap⟩, ?_, ho.below HbV.out (fun D hD => by have := (hDs D hD).1; have := Hz1.out; omega)⟩)
          · rw [← hvsl, hpln]
            exact ho.blk HBG9.out
          · rw [← hvsl, ho.size]
            exact LiT.cells HlT.out (fun p => ho.cell p)
          · rw [ho.size]
            rw [hpln]
            exact HRw.out.keep (fun p _ => ho.cell p)
          · exact (ho.block mp (fun hm => by have := ho.was mp hm; rw [HM9.out] at this; cases this)).trans HM9.out
end Go.Proofs.Ytpgdfipikfbjeaa
/- A block that has just been made, and is written. -/
namespace Go.Proofs.Ytpgdfipikfbjeaa
open Go.RowKit
theorem alloc_set (w : World) (cs : Array Value) (t : TypeId) (i : Nat) (u : Value) : (w.alloc (.cells cs t)).setCell ⟨w.heap.size, i, none⟩ u = w.alloc (.cells (cs.setIfInBounds i u) t) := by
  unfold World.setCell World.alloc
  congr 1
  refine Array.ext (by simp) fun k h1 h2 => ?_
  rw [Array.getElem_modify]
  simp only [Array.getElem_push]
  have hk : k < w.heap.size + 1 := by simpa using h2
  by_cases e : w.heap.size = k
  · subst e; simp
  · have hlt : k < w.heap.size := by omega
    simp [e, hlt]
end Go.Proofs.Ytpgdfipikfbjeaa
/- Plain law of what is needed: bounds from both sides, and what more cases need. -/
namespace Go.Proofs.Ytpgdfipikfbjeaa
theorem or_add_of_and : ∀ (a b : Nat), a &&& b = 0 → a ||| b = a + b := by
  intro a
  induction a using Nat.strongRecOn with
  | _ a ih =>
    intro b h
    by_cases ha : a = 0
    · subst ha; simp
    · have h2 := congrArg (· / 2) h
      simp only [Nat.and_div_two, Nat.zero_div] at h2
      have h3 := ih (a / 2) (by omega) (b / 2) h2
      have hm : ¬ (a % 2 = 1 ∧ b % 2 = 1) := fun hh => by
        have := Nat.and_mod_two_eq_one.2 hh
        rw [h] at this; cases this
      have e1 : (a ||| b) / 2 = a / 2 + b / 2 := by rw [Nat.or_div_two, h3]
      have e2 : (a ||| b) % 2 = 1 ↔ a % 2 = 1 ∨ b % 2 = 1 := Nat.or_mod_two_eq_one
      omega
theorem and_bit {a b : Nat} (h : a &&& b = a) (i : Nat) : a.testBit i = true → b.testBit i = true := fun hi => by
  have := congrArg (·.testBit i) h
  simp only [Nat.testBit_and, hi, Bool.true_and] at this
  exact this
/-- What is left of some bits without others. -/
theorem sub_bit {a b : Nat} (h : a &&& b = a) (i : Nat) : (b - a).testBit i = (b.testBit i && !a.testBit i) := by
  have hx : a &&& (b ^^^ a) = 0 := by
    refine Nat.eq_of_testBit_eq fun j => ?_
    have := and_bit h j
    simp only [Nat.testBit_and, Nat.testBit_xor, Nat.zero_testBit]
    revert this
    cases a.testBit j <;> cases b.testBit j <;> simp
  have ho : a ||| (b ^^^ a) = b := by
    refine Nat.eq_of_testBit_eq fun j => ?_
    have := and_bit h j
    simp only [Nat.testBit_or, Nat.testBit_xor]
    revert this
    cases a.testBit j <;> cases b.testBit j <;> simp
  have e := or_add_of_and _ _ hx
  rw [ho] at e
  rw [show b - a = b ^^^ a by omega]
  have := and_bit h i
  simp only [Nat.testBit_xor]
  revert this
  cases a.testBit i <;> cases b.testBit i <;> simp
/-- How many of the first n bits are set. -/
def cnt (x : Nat) : Nat → Nat
  | 0 => 0
  | k + 1 => cnt x k + if x.testBit k then 1 else 0
theorem cnt_le (x n : Nat) : cnt x n ≤ n := by
  induction n with
  | zero => exact Nat.le_refl _
  | succ n ih => unfold cnt; split <;> omega
theorem cnt_congr {x y : Nat} {n : Nat} (h : ∀ i, i < n → x.testBit i = y.testBit i) : cnt x n = cnt y n := by
  induction n with
  | zero => rfl
  | succ n ih => unfold cnt; rw [ih (fun i hi => h i (by omega)), h n (by omega)]
theorem cnt_part {a b : Nat} (h : a &&& b = a) (n : Nat) : cnt a n + cnt (b - a) n = cnt b n := by
  induction n with
  | zero => rfl
  | succ n ih =>
    unfold cnt
    have h1 := sub_bit h n
    have h2 := congrArg (·.testBit n) h
    simp only [Nat.testBit_and] at h2
    rw [h1]
    cases ha : a.testBit n <;> cases hb : b.testBit n <;> simp_all <;> omega
theorem cnt_zero {x n : Nat} (hx : x < 2 ^ n) (h : cnt x n = 0) : x = 0 := by
  refine Nat.eq_of_testBit_eq fun i => ?_
  rw [Nat.zero_testBit]
  rcases Nat.lt_or_ge i n with hi | hi
  · have : ∀ n, cnt x n = 0 → ∀ i, i < n → x.testBit i = false := by
      intro n
      induction n with
      | zero => intro _ i hi; omega
      | succ n ih =>
        intro h i hi
        unfold cnt at h
        by_cases e : i = n
        · subst e
          cases hb : x.testBit i
          · rfl
          · rw [hb] at h; simp at h
        · exact ih (by omega) i (by omega)
    exact this n h i hi
  · exact Nat.testBit_lt_two_pow (Nat.lt_of_lt_of_le hx (Nat.pow_le_pow_right (by omega) hi))
theorem cnt_pos {x n i : Nat} (hi : i < n) (h : x.testBit i = true) : 1 ≤ cnt x n := by
  induction n with
  | zero => omega
  | succ n ih =>
    unfold cnt
    by_cases e : i = n
    · subst e; rw [h]; simp
    · have := ih (by omega); omega
theorem cnt_two {x n i j : Nat} (hi : i < j) (hj : j < n) (h : x.testBit i = true) (h' : x.testBit j = true) : 2 ≤ cnt x n := by
  induction n with
  | zero => omega
  | succ n ih =>
    unfold cnt
    by_cases e : j = n
    · subst e; rw [h']; have := cnt_pos hi h; simp; omega
    · have := ih (by omega); omega
theorem cnt_two_of {x n : Nat} (h : 2 ≤ cnt x n) : ∃ i j, i < j ∧ j < n ∧ x.testBit i = true ∧ x.testBit j = true := by
  have one : ∀ n, 1 ≤ cnt x n → ∃ i, i < n ∧ x.testBit i = true := by
    intro n
    induction n with
    | zero => intro h; simp [cnt] at h
    | succ n ih =>
      intro h
      unfold cnt at h
      cases hb : x.testBit n with
      | true => exact ⟨n, by omega, hb⟩
      | false =>
        rw [hb] at h
        obtain ⟨i, hi, he⟩ := ih (by simpa using h)
        exact ⟨i, by omega, he⟩
  induction n with
  | zero => simp [cnt] at h
  | succ n ih =>
    unfold cnt at h
    cases hb : x.testBit n with
    | true =>
      rw [hb] at h
      obtain ⟨i, hi, he⟩ := one n (by simp at h; omega)
      exact ⟨i, n, hi, by omega, he, hb⟩
    | false =>
      rw [hb] at h
      obtain ⟨i, j, h1, h2, h3⟩ := ih (by simpa using h)
      exact ⟨i, j, h1, by omega, h3⟩
/-- Just one bit, or none. -/
theorem low_off {x n : Nat} (hx : x < 2 ^ n) : x &&& (x - 1) = 0 ↔ cnt x n ≤ 1 := by
  constructor
  · intro h
    rcases Nat.lt_or_ge 1 (cnt x n) with h1 | h1
    · exfalso
      obtain ⟨i, j, hij, hj, hi1, hj1⟩ := cnt_two_of h1
      have hx0 : x ≠ 0 := fun e => by rw [e, Nat.zero_testBit] at hi1; cases hi1
      obtain ⟨k, hk⟩ := (Nat.and_sub_one_eq_zero_iff_isPowerOfTwo hx0).1 h
      rw [hk, Nat.testBit_two_pow] at hi1 hj1
      simp at hi1 hj1
      omega
    · exact h1
  · intro h
    by_cases hx0 : x = 0
    · subst hx0; rfl
    · refine (Nat.and_sub_one_eq_zero_iff_isPowerOfTwo hx0).2 ?_
      obtain ⟨i, hi⟩ := Nat.exists_testBit_of_ne_zero hx0
      refine ⟨i, Nat.eq_of_testBit_eq fun j => ?_⟩
      rw [Nat.testBit_two_pow]
      have lt : ∀ k, x.testBit k = true → k < n := fun k hk => by
        rcases Nat.lt_or_ge k n with h1 | h1
        · exact h1
        · rw [Nat.testBit_lt_two_pow (Nat.lt_of_lt_of_le hx (Nat.pow_le_pow_right (by omega) h1))] at hk; cases hk
      by_cases e : i = j
      · subst e; simpa using hi
      · cases hj : x.testBit j
        · simp [e]
        · exfalso
          rcases Nat.lt_or_ge i j with h1 | h1
          · have := cnt_two h1 (lt j hj) hi hj; omega
          · have := cnt_two (show j < i by omega) (lt i hi) hj hi; omega
/-- A rod with both results: what it leaves. -/
theorem need_up (l : List (List Int)) (P left b : Nat) (h1 : 1 ≤ b) (hb : b < 2 ^ P) (h0 : withN l left (listed b P) l.length ≠ 0) (h2 : withN l left (listed b P) l.length ≠ left) :
    need l P left ≤ max (need l P (withN l left (listed b P) l.length)) (need l P (left - withN l left (listed b P) l.length)) + 1 := by
  rw [need_eq]
  split
  · omega
  · have : ∀ j, b ≤ j → foldN l P (need l P) left j ≤ max (need l P (withN l left (listed b P) l.length)) (need l P (left - withN l left (listed b P) l.length)) + 1 := by
      intro j
      induction j with
      | zero => intro h; omega
      | succ j ih =>
        intro h
        unfold foldN
        by_cases e : b = j + 1
        · subst e
          unfold stepN
          rw [if_neg (by simp [h0, h2])]
          omega
        · have := ih (by omega)
          unfold stepN
          split <;> omega
    exact this _ (by omega)
theorem need_at (l : List (List Int)) (P left : Nat) : need l P left = 0 ∨ need l P left = l.length ∨ ∃ b, 1 ≤ b ∧ b < 2 ^ P ∧ withN l left (listed b P) l.length ≠ 0 ∧ withN l left (listed b P) l.length ≠ left ∧
    need l P left = max (need l P (withN l left (listed b P) l.length)) (need l P (left - withN l left (listed b P) l.length)) + 1 := by
  have : ∀ j, foldN l P (need l P) left j = l.length ∨ ∃ b, 1 ≤ b ∧ b ≤ j ∧ withN l left (listed b P) l.length ≠ 0 ∧ withN l left (listed b P) l.length ≠ left ∧
      foldN l P (need l P) left j = max (need l P (withN l left (listed b P) l.length)) (need l P (left - withN l left (listed b P) l.length)) + 1 := by
    intro j
    induction j with
    | zero => exact .inl rfl
    | succ j ih =>
      unfold foldN
      generalize hX : foldN l P (need l P) left j = X at ih ⊢
      unfold stepN
      split
      · rcases ih with h | ⟨b, h1, h2, h3⟩
        · exact .inl h
        · exact .inr ⟨b, h1, by omega, h3⟩
      · rename_i hn
        rcases Nat.le_total X (max (need l P (withN l left (listed (j + 1) P) l.length) + 1) (need l P (left - withN l left (listed (j + 1) P) l.length) + 1)) with hle | hle
        · rw [Nat.min_eq_left hle]
          rcases ih with h | ⟨b, h1, h2, h3⟩
          · exact .inl h
          · exact .inr ⟨b, h1, by omega, h3⟩
        · rw [Nat.min_eq_right hle]
          exact .inr ⟨j + 1, by omega, by omega, fun e => hn (.inl e), fun e => hn (.inr e), by omega⟩
  by_cases h0 : left &&& (left - 1) = 0
  · exact .inl (by rw [need_eq, if_pos h0])
  · rw [show need l P left = foldN l P (need l P) left (2 ^ P - 1) by rw [need_eq, if_neg h0]]
    rcases this (2 ^ P - 1) with h | ⟨b, h1, h2, h3⟩
    · exact .inr (.inl h)
    · exact .inr (.inr ⟨b, h1, by have := Nat.two_pow_pos P; omega, h3⟩)
theorem sub_and {a b : Nat} (h : a &&& b = a) : (b - a) &&& b = b - a := by
  refine Nat.eq_of_testBit_eq fun i => ?_
  rw [Nat.testBit_and, sub_bit h]
  cases a.testBit i <;> cases b.testBit i <;> rfl
theorem and_le {a b : Nat} (h : a &&& b = a) : a ≤ b := by rw [← h]; exact Nat.and_le_right
theorem and_lt {a b : Nat} (h : a &&& b = a) (hn : a ≠ b) : a < b := by have := and_le h; omega
/-- Some of the cases need no more than all. -/
theorem need_mono (l : List (List Int)) (P : Nat) : ∀ (b a : Nat), a &&& b = a → need l P a ≤ need l P b := by
  intro b
  induction b using Nat.strongRecOn with
  | _ b ih =>
    intro a hab
    by_cases hab' : a = b
    · subst hab'; exact Nat.le_refl _
    rcases need_at l P b with h | h | ⟨r, h1, h2, h3, h4, h5⟩
    · -- then b has one bit at most: a has none, or is b
      by_cases h0 : b &&& (b - 1) = 0
      · have hb0 : b ≠ 0 := fun e => hab' (by subst e; simpa using hab.symm)
        obtain ⟨k, hk⟩ := (Nat.and_sub_one_eq_zero_iff_isPowerOfTwo hb0).1 h0
        have ha0 : a = 0 := by
          refine Nat.eq_of_testBit_eq fun i => ?_
          rw [Nat.zero_testBit]
          cases hi : a.testBit i
          · rfl
          · exfalso
            have hbi : ∀ j, a.testBit j = true → j = k := fun j hj => by
              have := congrArg (·.testBit j) hab
              simp only [Nat.testBit_and, hj, Bool.true_and] at this
              rw [hk, Nat.testBit_two_pow] at this
              simpa [eq_comm] using this
            apply hab'
            refine Nat.eq_of_testBit_eq fun j => ?_
            rw [hk, Nat.testBit_two_pow]
            have e0 := hbi i hi
            clear hk
            subst e0
            by_cases e : i = j
            · subst e; simpa using hi
            · cases hj : a.testBit j
              · simp [e]
              · exact absurd (hbi j hj).symm e
        subst ha0
        rw [need_eq, if_pos (by rfl)]
        exact Nat.zero_le _
      · -- all that is needed is 0 of a set with two bits: only if there are no cases
        have hz := h
        rw [need_eq, if_neg h0] at hz
        have hl : ∀ j, foldN l P (need l P) b j = 0 → l.length = 0 := by
          intro j
          induction j with
          | zero => intro h; exact h
          | succ j ihj =>
            intro h
            unfold foldN stepN at h
            split at h
            · exact ihj h
            · exact ihj (by omega)
        have := hl _ hz
        have := need_le l P a
        omega
    · rw [h]; exact need_le _ _ _
    · have hw := withN_and l b (listed r P) l.length
      have hlt : withN l b (listed r P) l.length < b := and_lt hw h4
      have hsl : b - withN l b (listed r P) l.length < b := by omega
      have hWa : ∀ i, (withN l a (listed r P) l.length).testBit i = ((withN l b (listed r P) l.length).testBit i && a.testBit i) := fun i => by
        rw [withN_bit, withN_bit]
        have := and_bit hab i
        revert this
        cases a.testBit i <;> cases b.testBit i <;> simp
      have hwa := withN_and l a (listed r P) l.length
      have hsa := sub_bit hwa
      have hsb := sub_bit hw
      by_cases e1 : withN l a (listed r P) l.length = 0
      · have : a &&& (b - withN l b (listed r P) l.length) = a := by
          refine Nat.eq_of_testBit_eq fun i => ?_
          rw [Nat.testBit_and, hsb]
          have h6 := hWa i
          rw [e1, Nat.zero_testBit] at h6
          have := and_bit hab i
          revert this h6
          cases a.testBit i <;> cases b.testBit i <;> cases (withN l b (listed r P) l.length).testBit i <;> simp
        have := ih _ hsl a this
        omega
      · by_cases e2 : withN l a (listed r P) l.length = a
        · have : a &&& withN l b (listed r P) l.length = a := by
            refine Nat.eq_of_testBit_eq fun i => ?_
            rw [Nat.testBit_and]
            have h6 := hWa i
            rw [e2] at h6
            revert h6
            cases a.testBit i <;> cases (withN l b (listed r P) l.length).testBit i <;> simp
          have := ih _ hlt a this
          omega
        · have q1 : withN l a (listed r P) l.length &&& withN l b (listed r P) l.length = withN l a (listed r P) l.length := by
            refine Nat.eq_of_testBit_eq fun i => ?_
            rw [Nat.testBit_and, hWa]
            cases (withN l b (listed r P) l.length).testBit i <;> simp
          have q2 : (a - withN l a (listed r P) l.length) &&& (b - withN l b (listed r P) l.length) = a - withN l a (listed r P) l.length := by
            refine Nat.eq_of_testBit_eq fun i => ?_
            rw [Nat.testBit_and, hsa, hsb, hWa]
            have := and_bit hab i
            revert this
            cases a.testBit i <;> cases b.testBit i <;> cases (withN l b (listed r P) l.length).testBit i <;> simp
          have := ih _ hlt _ q1
          have := ih _ hsl _ q2
          have := need_up l P a r h1 h2 e1 e2
          omega
/-- So many rods tell no more cases than 2 to that power. -/
theorem need_low (l : List (List Int)) (P : Nat) : ∀ left, left < 2 ^ l.length → cnt left l.length ≤ 2 ^ need l P left := by
  intro left
  induction left using Nat.strongRecOn with
  | _ left ih =>
    intro hlt
    rcases need_at l P left with h | h | ⟨r, h1, h2, h3, h4, h5⟩
    · by_cases h0 : left &&& (left - 1) = 0
      · rw [h]; exact (low_off hlt).1 h0
      · have hz := h
        rw [need_eq, if_neg h0] at hz
        have hl : ∀ j, foldN l P (need l P) left j = 0 → l.length = 0 := by
          intro j
          induction j with
          | zero => intro h; exact h
          | succ j ihj =>
            intro h
            unfold foldN stepN at h
            split at h
            · exact ihj h
            · exact ihj (by omega)
        have := hl _ hz
        have := cnt_le left l.length
        have := Nat.two_pow_pos (need l P left)
        omega
    · rw [h]
      have := cnt_le left l.length
      have := @Nat.lt_two_pow_self l.length
      omega
    · have hw := withN_and l left (listed r P) l.length
      have a1 := and_lt hw h4
      have c1 := ih _ a1 (by omega)
      have c2 := ih (left - withN l left (listed r P) l.length) (by omega) (by omega)
      have c3 := cnt_part hw l.length
      have d1 : 2 ^ need l P (withN l left (listed r P) l.length) ≤ 2 ^ max (need l P (withN l left (listed r P) l.length)) (need l P (left - withN l left (listed r P) l.length)) := Nat.pow_le_pow_right (by omega) (by omega)
      have d2 : 2 ^ need l P (left - withN l left (listed r P) l.length) ≤ 2 ^ max (need l P (withN l left (listed r P) l.length)) (need l P (left - withN l left (listed r P) l.length)) := Nat.pow_le_pow_right (by omega) (by omega)
      rw [h5, Nat.pow_succ]
      omega
end Go.Proofs.Ytpgdfipikfbjeaa
/- Plain law of what is needed: a plan that tells all is long enough; all rods that split; the best one. -/
namespace Go.Proofs.Ytpgdfipikfbjeaa
theorem meet_comm (a b : List Int) : meet a b = meet b a := by
  have h : ∀ a b : List Int, meet a b = true → meet b a = true := fun a b h => by
    obtain ⟨x, hx, hb⟩ := List.any_eq_true.1 h
    exact List.any_eq_true.2 ⟨x, has_iff.1 hb, has_iff.2 hx⟩
  cases h1 : meet a b <;> cases h2 : meet b a
  · rfl
  · rw [h b a h2] at h1; cases h1
  · rw [h a b h1] at h2; cases h2
  · rfl
/-- A rod by bits. -/
def maskR (r : List Int) : Nat → Nat
  | 0 => 0
  | k + 1 => maskR r k ||| (if has r (k : Int) then 2 ^ k else 0)
theorem maskR_lt (r : List Int) : ∀ k, maskR r k < 2 ^ k
  | 0 => by simp [maskR]
  | k + 1 => by
    have h := maskR_lt r k
    unfold maskR
    refine Nat.or_lt_two_pow (by rw [Nat.pow_succ]; omega) ?_
    split
    · exact Nat.pow_lt_pow_right (by omega) (by omega)
    · exact Nat.two_pow_pos _
theorem maskR_bit (r : List Int) (i : Nat) : ∀ k, (maskR r k).testBit i = (decide (i < k) && has r (i : Int))
  | 0 => by simp [maskR]
  | k + 1 => by
    unfold maskR
    rw [Nat.testBit_or, maskR_bit r i k]
    by_cases e : k = i
    · subst e
      split <;> rename_i h
      · simp [h]
      · simp [h]
    · have e1 : decide (i < k + 1) = decide (i < k) := by by_cases h2 : i < k <;> simp [h2] <;> omega
      rw [e1]
      split
      · rw [Nat.testBit_two_pow]; simp [e]
      · simp
theorem has_listed (b n : Nat) (x : Int) : has (listed b n) x = true ↔ 0 ≤ x ∧ x < n ∧ b.testBit x.toNat = true := by
  rw [has_iff]
  unfold listed
  simp only [List.mem_map, List.mem_filter, List.mem_range]
  constructor
  · rintro ⟨a, ⟨h1, h2⟩, rfl⟩
    exact ⟨by omega, by omega, by simpa using h2⟩
  · rintro ⟨h1, h2, h3⟩
    exact ⟨x.toNat, ⟨by omega, h3⟩, by omega⟩
theorem meet_congr {c r r' : List Int} (h : ∀ x ∈ c, has r x = has r' x) : meet c r = meet c r' := by
  unfold meet
  rw [Bool.eq_iff_iff, List.any_eq_true, List.any_eq_true]
  exact ⟨fun ⟨x, hx, hh⟩ => ⟨x, hx, by rw [← h x hx]; exact hh⟩, fun ⟨x, hx, hh⟩ => ⟨x, hx, by rw [h x hx]; exact hh⟩⟩
/-- The list of a rod's bits meets what the rod meets. -/
theorem meet_mask {P : Nat} {c r : List Int} (hr : ∀ x ∈ r, 0 ≤ x ∧ x < P) : meet c (listed (maskR r P) P) = meet c r := by
  refine meet_congr fun x _ => ?_
  rw [Bool.eq_iff_iff, has_listed, maskR_bit]
  constructor
  · rintro ⟨h1, h2, h3⟩
    rw [Bool.and_eq_true] at h3
    rw [show ((x.toNat : Nat) : Int) = x by omega] at h3
    exact h3.2
  · intro h
    have := hr x (has_iff.1 h)
    refine ⟨this.1, this.2, ?_⟩
    rw [Bool.and_eq_true, show ((x.toNat : Nat) : Int) = x by omega]
    exact ⟨by simp; omega, h⟩
theorem withN_congr {l : List (List Int)} {left : Nat} {r r' : List Int} (h : ∀ c : List Int, meet c r = meet c r') (k : Nat) : withN l left r k = withN l left r' k := by
  refine Nat.eq_of_testBit_eq fun i => ?_
  rw [withN_bit, withN_bit, h]
theorem withN_mask {P : Nat} {l : List (List Int)} {left : Nat} {r : List Int} (hr : ∀ x ∈ r, 0 ≤ x ∧ x < P) (k : Nat) : withN l left (listed (maskR r P) P) k = withN l left r k := withN_congr (fun _ => meet_mask hr) k
theorem withN_nil (l : List (List Int)) (left k : Nat) : withN l left [] k = 0 := by
  refine Nat.eq_of_testBit_eq fun i => ?_
  rw [withN_bit, Nat.zero_testBit]
  have : meet (l.getD i []) [] = false := by unfold meet; rw [List.any_eq_false]; intro x _; simp [has]
  rw [this]; simp
theorem listed_zero (n : Nat) : listed 0 n = [] := by unfold listed; simp
/-- A plan tells apart the cases that are left. -/
def ApartN (l : List (List Int)) (left : Nat) (pl : List (List Int)) : Prop := ∀ i j, i < l.length → j < l.length → left.testBit i = true → left.testBit j = true → resL pl (l.getD i []) = resL pl (l.getD j []) → i = j
theorem lt_pow_bit {x n i : Nat} (hx : x < 2 ^ n) (h : x.testBit i = true) : i < n := by
  rcases Nat.lt_or_ge i n with h1 | h1
  · exact h1
  · rw [Nat.testBit_lt_two_pow (Nat.lt_of_lt_of_le hx (Nat.pow_le_pow_right (by omega) h1))] at h; cases h
theorem need_one {l : List (List Int)} {P left : Nat} (hl : left < 2 ^ l.length) (h : cnt left l.length ≤ 1) : need l P left = 0 := by rw [need_eq, if_pos ((low_off hl).2 h)]
/-- A plan that tells them apart has as many rods as are needed, or more. -/
theorem need_plan (l : List (List Int)) (P : Nat) : ∀ (pl : List (List Int)) (left : Nat), left < 2 ^ l.length → (∀ r ∈ pl, ∀ x ∈ r, 0 ≤ x ∧ x < P) → ApartN l left pl → need l P left ≤ pl.length := by
  intro pl
  induction pl with
  | nil =>
    intro left hl _ ha
    rw [need_one hl]
    · exact Nat.le_refl _
    · rcases Nat.lt_or_ge 1 (cnt left l.length) with h1 | h1
      · obtain ⟨i, j, h2, h3, h4, h5⟩ := cnt_two_of h1
        have := ha i j (by omega) h3 h4 h5 rfl
        omega
      · exact h1
  | cons r pl ih =>
    intro left hl hr ha
    have hr0 := hr r (by simp)
    have hr1 : ∀ r ∈ pl, ∀ x ∈ r, 0 ≤ x ∧ x < P := fun r' h => hr r' (by simp [h])
    have hres : ∀ c, resL (r :: pl) c = (if meet r c then 1 else 0) :: resL pl c := fun c => rfl
    have hw := withN_and l left (listed (maskR r P) P) l.length
    have hbit : ∀ i, (withN l left (listed (maskR r P) P) l.length).testBit i = (decide (i < l.length) && left.testBit i && meet r (l.getD i [])) := fun i => by
      rw [withN_bit, meet_mask hr0, meet_comm]
    -- those that answer alike
    have sub : ∀ s, s &&& left = s → (∀ i j, i < l.length → j < l.length → s.testBit i = true → s.testBit j = true → meet r (l.getD i []) = meet r (l.getD j [])) → need l P s ≤ pl.length := fun s hs hm => by
      refine ih s (Nat.lt_of_le_of_lt (and_le hs) hl) hr1 fun i j hi hj h1 h2 h3 => ha i j hi hj (and_bit hs i h1) (and_bit hs j h2) ?_
      rw [hres, hres, h3, hm i j hi hj h1 h2]
    by_cases e0 : withN l left (listed (maskR r P) P) l.length = 0
    · have := sub left (Nat.and_self _) (fun i j hi hj h1 h2 => by
        have q1 := hbit i
        have q2 := hbit j
        rw [e0, Nat.zero_testBit, h1] at q1
        rw [e0, Nat.zero_testBit, h2] at q2
        simp only [hi, hj, decide_true, Bool.true_and] at q1 q2
        rw [← q1, ← q2])
      rw [List.length_cons]; omega
    · by_cases e1 : withN l left (listed (maskR r P) P) l.length = left
      · have := sub left (Nat.and_self _) (fun i j hi hj h1 h2 => by
          have q1 := hbit i
          have q2 := hbit j
          rw [e1, h1] at q1
          rw [e1, h2] at q2
          simp only [hi, hj, decide_true, Bool.true_and] at q1 q2
          rw [← q1, ← q2])
        rw [List.length_cons]; omega
      · have hb1 : 1 ≤ maskR r P := by
          rcases Nat.eq_zero_or_pos (maskR r P) with h | h
          · exact absurd (by rw [h, listed_zero, withN_nil]) e0
          · exact h
        have up := need_up l P left (maskR r P) hb1 (maskR_lt r P) e0 e1
        have n1 := sub _ hw (fun i j hi hj h1 h2 => by
          rw [hbit] at h1 h2
          simp only [Bool.and_eq_true] at h1 h2
          rw [h1.2, h2.2])
        have n2 := sub _ (sub_and hw) (fun i j hi hj h1 h2 => by
          rw [sub_bit hw, hbit] at h1 h2
          simp only [hi, hj, decide_true, Bool.true_and, Bool.and_eq_true, Bool.not_eq_true'] at h1 h2
          rw [h1.1] at h1
          rw [h2.1] at h2
          simp only [Bool.true_and] at h1 h2
          rw [h1.2, h2.2])
        rw [List.length_cons]; omega
/-! The cases of a book. -/
theorem cases_nodup {P M : Nat} (hP : P ≤ 8) (hM : M ≤ 2) : (casesL P M).Nodup := by
  have : ∀ P : Fin 9, ∀ M : Fin 3, (casesL P.val M.val).Nodup := by decide +kernel
  exact this ⟨P, by omega⟩ ⟨M, by omega⟩
theorem cases_isL {P M : Nat} (hP : P ≤ 8) (hM : M ≤ 2) : ∀ c ∈ casesL P M, isL P 0 c = true ∧ c.length ≤ M := by
  have : ∀ P : Fin 9, ∀ M : Fin 3, (casesL P.val M.val).all (fun c => isL P.val 0 c && decide (c.length ≤ M.val)) = true := by decide +kernel
  intro c hc
  have := List.all_eq_true.1 (this ⟨P, by omega⟩ ⟨M, by omega⟩) c hc
  rw [Bool.and_eq_true, decide_eq_true_eq] at this
  exact this
theorem cases_bd {P M : Nat} (hP : P ≤ 8) (hM : M ≤ 2) : ∀ c ∈ casesL P M, ∀ x ∈ c, 0 ≤ x ∧ x < P := fun c hc => isL_bd (cases_isL hP hM c hc).1
/-- Increasing lists are what they have. -/
theorem isL_ext {below : Int} : ∀ {a b : List Int} {nx : Int}, isL below nx a = true → isL below nx b = true → (∀ x, has a x = has b x) → a = b
  | [], [], _, _, _, _ => rfl
  | [], y :: b, _, _, _, h => by have := h y; simp [has] at this
  | x :: a, [], _, _, _, h => by have := h x; simp [has] at this
  | x :: a, y :: b, nx, ha, hb, h => by
    have h1 : (decide (nx ≤ x ∧ x < below) && isL below (x + 1) a) = true := ha
    have h2 : (decide (nx ≤ y ∧ y < below) && isL below (y + 1) b) = true := hb
    rw [Bool.and_eq_true, decide_eq_true_eq] at h1 h2
    have ba := isL_bd h1.2
    have bb := isL_bd h2.2
    have ex : x = y := by
      have q1 : has (y :: b) x = true := by rw [← h x]; simp [has]
      have q2 : has (x :: a) y = true := by rw [h y]; simp [has]
      rcases List.mem_cons.1 (has_iff.1 q1) with e | e
      · exact e
      · rcases List.mem_cons.1 (has_iff.1 q2) with e' | e'
        · exact e'.symm
        · have := ba y e'; have := bb x e; omega
    subst ex
    rw [isL_ext h1.2 h2.2 (fun z => ?_)]
    have hz := h z
    by_cases e : z = x
    · subst e
      have n1 : has a z = false := by cases hh : has a z with | false => rfl | true => have := ba z (has_iff.1 hh); omega
      have n2 : has b z = false := by cases hh : has b z with | false => rfl | true => have := bb z (has_iff.1 hh); omega
      rw [n1, n2]
    · have e' : ¬ x = z := fun h => e h.symm
      have hb : (x == z) = false := by simpa using e'
      have hz' : ((x == z) || has a z) = ((x == z) || has b z) := hz
      rw [hb] at hz'; simpa using hz'
theorem getD_mem {l : List (List Int)} {i : Nat} (hi : i < l.length) : l.getD i [] ∈ l := by
  rw [List.getD_eq_getElem?_getD, List.getElem?_eq_getElem hi]; exact List.getElem_mem hi
theorem nodup_getD {l : List (List Int)} (hn : l.Nodup) {i j : Nat} (hi : i < l.length) (hj : j < l.length) (h : l.getD i [] = l.getD j []) : i = j := by
  rw [List.getD_eq_getElem?_getD, List.getD_eq_getElem?_getD, List.getElem?_eq_getElem hi, List.getElem?_eq_getElem hj] at h
  exact (List.getElem_inj hn).1 h
theorem resL_eq {pl : List (List Int)} {c d : List Int} : resL pl c = resL pl d ↔ ∀ r ∈ pl, meet r c = meet r d := by
  unfold resL
  induction pl with
  | nil => simp
  | cons r pl ih =>
    simp only [List.map_cons, List.cons.injEq, List.forall_mem_cons, ih]
    constructor
    · rintro ⟨h1, h2⟩
      refine ⟨?_, h2⟩
      cases ha : meet r c <;> cases hb : meet r d <;> simp_all
    · rintro ⟨h1, h2⟩
      exact ⟨by rw [h1], h2⟩
/-- Each plate alone in a rod. -/
theorem alone_apart {P M : Nat} (hP : P ≤ 8) (hM : M ≤ 2) (left : Nat) : ApartN (casesL P M) left (single P) := by
  intro i j hi hj _ _ h
  refine nodup_getD (cases_nodup hP hM) hi hj ?_
  have m1 := getD_mem hi
  have m2 := getD_mem hj
  refine isL_ext (cases_isL hP hM _ m1).1 (cases_isL hP hM _ m2).1 fun x => ?_
  rw [resL_eq] at h
  by_cases hx : 0 ≤ x ∧ x < P
  · have := h [x] (by unfold single; rw [List.mem_map]; exact ⟨x.toNat, by rw [List.mem_range]; omega, by rw [show ((x.toNat : Nat) : Int) = x by omega]⟩)
    simpa [meet] using this
  · have n1 : has ((casesL P M).getD i []) x = false := by cases hh : has ((casesL P M).getD i []) x with | false => rfl | true => exact absurd (cases_bd hP hM _ m1 x (has_iff.1 hh)) hx
    have n2 : has ((casesL P M).getD j []) x = false := by cases hh : has ((casesL P M).getD j []) x with | false => rfl | true => exact absurd (cases_bd hP hM _ m2 x (has_iff.1 hh)) hx
    rw [n1, n2]
theorem single_bd (P : Nat) : ∀ r ∈ single P, ∀ x ∈ r, 0 ≤ x ∧ x < (P : Int) := by
  intro r hr x hx
  unfold single at hr
  obtain ⟨k, hk, rfl⟩ := List.mem_map.1 hr
  rw [List.mem_range] at hk
  rw [List.mem_singleton] at hx
  subst hx; omega
theorem need_plates {P M : Nat} (hP : P ≤ 8) (hM : M ≤ 2) {left : Nat} (hl : left < 2 ^ (casesL P M).length) : need (casesL P M) P left ≤ P := by
  have := need_plan (casesL P M) P (single P) left hl (single_bd P) (alone_apart hP hM left)
  simpa [single] using this
theorem cnt_three {left a b c : Nat} (hab : a < b) (hbc : b < c) (ha : left.testBit a = true) (hb : left.testBit b = true) (hc : left.testBit c = true) : ∀ (n : Nat), c < n → 3 ≤ cnt left n := by
  intro n
  induction n with
  | zero => intro h; omega
  | succ n ih =>
    intro hn
    unfold cnt
    by_cases e : c = n
    · subst e
      have := cnt_two hab hbc ha hb
      rw [hc]; simp; omega
    · have := ih (by omega)
      omega
/-- Of two cases one rod tells. -/
theorem need_two {P M : Nat} (hP : P ≤ 8) (hM : M ≤ 2) {left : Nat} (hl : left < 2 ^ (casesL P M).length) (h2 : cnt left (casesL P M).length = 2) : need (casesL P M) P left = 1 := by
  have lo := need_low (casesL P M) P left hl
  obtain ⟨i, j, hij, hj, bi, bj⟩ := cnt_two_of (show 2 ≤ cnt left (casesL P M).length by omega)
  have hi : i < (casesL P M).length := by omega
  have m1 := getD_mem hi
  have m2 := getD_mem hj
  have ne : ∃ x : Int, has ((casesL P M).getD i []) x ≠ has ((casesL P M).getD j []) x := Classical.byContradiction fun hn => by
    have := isL_ext (cases_isL hP hM _ m1).1 (cases_isL hP hM _ m2).1 (fun x => Classical.byContradiction fun hx => hn ⟨x, hx⟩)
    have := nodup_getD (cases_nodup hP hM) hi hj this
    omega
  obtain ⟨x, hx⟩ := ne
  have hxb : 0 ≤ x ∧ x < (P : Int) := by
    cases h1 : has ((casesL P M).getD i []) x with
    | true => exact cases_bd hP hM _ m1 x (has_iff.1 h1)
    | false =>
      cases h2 : has ((casesL P M).getD j []) x with
      | true => exact cases_bd hP hM _ m2 x (has_iff.1 h2)
      | false => rw [h1, h2] at hx; exact absurd rfl hx
  have only : ∀ k, k < (casesL P M).length → left.testBit k = true → k = i ∨ k = j := fun k hk bk => by
    have e : cnt left (casesL P M).length = 2 := h2
    rcases Nat.lt_trichotomy k i with h | h | h
    · exfalso
      have := cnt_three h hij bk bi bj _ hj
      omega
    · exact .inl h
    · rcases Nat.lt_trichotomy k j with h' | h' | h'
      · exfalso
        have := cnt_three h h' bi bk bj _ hj
        omega
      · exact .inr h'
      · exfalso
        have := cnt_three hij h' bi bj bk _ hk
        omega
  have := need_plan (casesL P M) P [[x]] left hl (by
    intro r hr y hy
    rw [List.mem_singleton] at hr; subst hr
    rw [List.mem_singleton] at hy; subst hy
    exact hxb) (fun a b ha hb ba bb hab => by
      rw [resL_eq] at hab
      have e := hab [x] (by simp)
      have e1 : has ((casesL P M).getD a []) x = has ((casesL P M).getD b []) x := by simpa [meet] using e
      rcases only a ha ba with rfl | rfl <;> rcases only b hb bb with rfl | rfl
      · rfl
      · exact absurd e1 hx
      · exact absurd e1.symm hx
      · rfl)
  have h1 : need (casesL P M) P left ≤ 1 := this
  have h0 : need (casesL P M) P left ≠ 0 := fun e => by rw [e, h2] at lo; omega
  omega
end Go.Proofs.Ytpgdfipikfbjeaa
