/- Texts of the proof, laid together by program. -/
import Derived.ProofKit
import Derived.OpenShut
import Derived.Carry
import Derived.Deep.Slices
import Derived.Test.YtnpilfpackdimaaMh
import Derived.Test.YtnpilfpackdimaaRows
import Derived.Test.YtnpilfpackdimaaMg
import Derived.Test.YtnpilfpackdimaaMd
import Derived.Test.YtnpilfpackdimaaMc
set_option linter.unusedSimpArgs false
set_option linter.unusedVariables false
/- Five and six parameters of a law; bounds of small kinds. -/
namespace Go.Proofs.Ytnpilfpackdimaa
open Go.ChangeShapes Go.WideShapes Go.ChangeAt Go.RowKit Go.Deep
section
variable {H : Type} {enc : TypeId × Value → H} {P : Program} {w : World} {base : Nat} {spare : Nat → Bool} {held : Bool}
theorem trodAll_five {t0 t1 t2 t3 t4 : TypeId} {args : Array Value} {ds : List (DataW H)} {ps : List MemPlace} (h : DataW.TrodAll enc P w base spare held [t0, t1, t2, t3, t4] args.toList ds ps) :
    ∃ v0 v1 v2 v3 v4 d0 d1 d2 d3 d4 p0 p1 p2 p3 p4, args = #[v0, v1, v2, v3, v4] ∧ ds = [d0, d1, d2, d3, d4] ∧ ps = p0 ++ p1 ++ p2 ++ p3 ++ p4 ∧ DataW.Trod enc P w base spare held t0 v0 d0 p0 ∧ DataW.Trod enc P w base spare held t1 v1 d1 p1 ∧ DataW.Trod enc P w base spare held t2 v2 d2 p2 ∧ DataW.Trod enc P w base spare held t3 v3 d3 p3 ∧ DataW.Trod enc P w base spare held t4 v4 d4 p4 := by
  obtain ⟨v0, vs0, d0, ds0, p0, q0, hargs, rfl, rfl, h0, r0⟩ := trodAll_cons h
  obtain ⟨v1, vs1, d1, ds1, p1, q1, rfl, rfl, rfl, h1, r1⟩ := trodAll_cons r0
  obtain ⟨v2, vs2, d2, ds2, p2, q2, rfl, rfl, rfl, h2, r2⟩ := trodAll_cons r1
  obtain ⟨v3, vs3, d3, ds3, p3, q3, rfl, rfl, rfl, h3, r3⟩ := trodAll_cons r2
  obtain ⟨v4, vs4, d4, ds4, p4, q4, rfl, rfl, rfl, h4, r4⟩ := trodAll_cons r3
  obtain ⟨rfl, rfl, rfl⟩ := trodAll_nil r4
  exact ⟨v0, v1, v2, v3, v4, d0, d1, d2, d3, d4, p0, p1, p2, p3, p4, by cases args; simp_all, rfl, by simp, h0, h1, h2, h3, h4⟩
theorem trodAll_six {t0 t1 t2 t3 t4 t5 : TypeId} {args : Array Value} {ds : List (DataW H)} {ps : List MemPlace} (h : DataW.TrodAll enc P w base spare held [t0, t1, t2, t3, t4, t5] args.toList ds ps) :
    ∃ v0 v1 v2 v3 v4 v5 d0 d1 d2 d3 d4 d5 p0 p1 p2 p3 p4 p5, args = #[v0, v1, v2, v3, v4, v5] ∧ ds = [d0, d1, d2, d3, d4, d5] ∧ ps = p0 ++ p1 ++ p2 ++ p3 ++ p4 ++ p5 ∧ DataW.Trod enc P w base spare held t0 v0 d0 p0 ∧ DataW.Trod enc P w base spare held t1 v1 d1 p1 ∧ DataW.Trod enc P w base spare held t2 v2 d2 p2 ∧ DataW.Trod enc P w base spare held t3 v3 d3 p3 ∧ DataW.Trod enc P w base spare held t4 v4 d4 p4 ∧ DataW.Trod enc P w base spare held t5 v5 d5 p5 := by
  obtain ⟨v0, vs0, d0, ds0, p0, q0, hargs, rfl, rfl, h0, r0⟩ := trodAll_cons h
  obtain ⟨v1, vs1, d1, ds1, p1, q1, rfl, rfl, rfl, h1, r1⟩ := trodAll_cons r0
  obtain ⟨v2, vs2, d2, ds2, p2, q2, rfl, rfl, rfl, h2, r2⟩ := trodAll_cons r1
  obtain ⟨v3, vs3, d3, ds3, p3, q3, rfl, rfl, rfl, h3, r3⟩ := trodAll_cons r2
  obtain ⟨v4, vs4, d4, ds4, p4, q4, rfl, rfl, rfl, h4, r4⟩ := trodAll_cons r3
  obtain ⟨v5, vs5, d5, ds5, p5, q5, rfl, rfl, rfl, h5, r5⟩ := trodAll_cons r4
  obtain ⟨rfl, rfl, rfl⟩ := trodAll_nil r5
  exact ⟨v0, v1, v2, v3, v4, v5, d0, d1, d2, d3, d4, d5, p0, p1, p2, p3, p4, p5, by cases args; simp_all, rfl, by simp, h0, h1, h2, h3, h4, h5⟩
end
theorem u8_bd {x : Int} (h : (Lit.int .u8 x).wf = true) : 0 ≤ x ∧ x ≤ 255 := by
  simp [Lit.wf, IntKind.min, IntKind.max, IntKind.signed, IntKind.bits] at h
  omega
theorem u16_bd {x : Int} (h : (Lit.int .u16 x).wf = true) : 0 ≤ x ∧ x ≤ 65535 := by
  simp [Lit.wf, IntKind.min, IntKind.max, IntKind.signed, IntKind.bits] at h
  omega
theorem u32_bd {x : Int} (h : (Lit.int .u32 x).wf = true) : 0 ≤ x ∧ x ≤ 4294967295 := by
  simp [Lit.wf, IntKind.min, IntKind.max, IntKind.signed, IntKind.bits] at h
  omega
end Go.Proofs.Ytnpilfpackdimaa
/- How the arguments of a law read: books, lists of lists, lists. -/
namespace Go.Proofs.Ytnpilfpackdimaa
open Go.ChangeShapes Go.WideShapes Go.ChangeAt Go.RowKit Go.Deep

section
variable {H : Type} {enc : TypeId × Value → H} {W : World}
theorem trod_int_cell {k : IntKind} {t : TypeId} (ht : Try.prog.underlying t = some (.int k)) {n : Nat} {cs : List Value} {x : DataW H × List MemPlace} (h : DataW.trod enc Try.prog W 0 (fun _ => true) true n t cs = some x) : ∃ z : Int, cs = [.int k z] ∧ (Lit.int k z).wf = true := by
  obtain ⟨z, h1, _, h2⟩ := DataW.trod_int ht h
  exact ⟨z, h1, h2⟩
theorem collect_elems {α : Type} {f : α → List Value} {s : Nat} {a : Addr} : ∀ k : Nat, (∀ i, i < k → ∃ y : α, ∀ j, j < s → W.cell? ((a.add (i * s)).add j) = (f y)[j]?) → ∃ l : List α, l.length = k ∧ ∀ i y, l[i]? = some y → ∀ j, j < s → W.cell? ((a.add (i * s)).add j) = (f y)[j]?
  | 0, _ => ⟨[], rfl, fun i y h => by simp at h⟩
  | k + 1, h => by
    obtain ⟨l, hl, hc⟩ := collect_elems k (fun i hi => h i (by omega))
    obtain ⟨y, hy⟩ := h k (by omega)
    refine ⟨l ++ [y], by simp [hl], fun i z hz => ?_⟩
    rcases Nat.lt_or_ge i l.length with hlt | hge
    · rw [List.getElem?_append_left hlt] at hz
      exact hc i z hz
    · rw [List.getElem?_append_right hge] at hz
      obtain rfl : i = k := by
        rcases Nat.lt_or_ge (i - l.length) 1 with h1 | h1
        · omega
        · rw [List.getElem?_eq_none (by simpa using h1)] at hz; cases hz
      rw [hl, Nat.sub_self] at hz
      obtain rfl : y = z := by simpa using hz
      exact hy
theorem open_raw {α : Type} {f : α → List Value} {s : Nat} (hs : 0 < s) (hf : ∀ y, (f y).length = s) {t e : TypeId} (ht : Try.prog.underlying t = some (.slice e)) (hC : Try.prog.cellsOf e = s)
    (rd : ∀ (n : Nat) cs (x : DataW H × List MemPlace), DataW.trod enc Try.prog W 0 (fun _ => true) true n e cs = some x → ∃ y, cs = f y) {fuel : Nat} {cs : List Value} {x : DataW H × List MemPlace}
    (hfu : DataW.trod enc Try.prog W 0 (fun _ => true) true fuel t cs = some x) : ∃ A n c, cs = [.slice A n c] ∧ n ≤ c ∧ (A = none → n = 0 ∧ c = 0) ∧ ∃ l : List α, l.length = n ∧ Sl W W.heap.size s A n (l.flatMap f) := by
  rcases open_slice ht hfu with ⟨e, _⟩ | ⟨a, len, cap, m, n', D, Pl, e, hb, hl, hm, hmm, hx, hi⟩
  · exact ⟨none, 0, 0, e, Nat.le_refl _, fun _ => ⟨rfl, rfl⟩, [], rfl, Sl.none_⟩
  · simp only [if_true] at hmm
    refine ⟨some a, len, cap, e, hl, (fun h => by cases h), ?_⟩
    clear e
    obtain ⟨n, rfl⟩ : ∃ n, n = len := ⟨_, rfl⟩
    obtain ⟨l, hll, hc⟩ := collect_elems (W := W) (f := f) (s := s) (a := a) n (fun i hi' => by
      obtain ⟨cs', hcs, htr⟩ := hi i (by omega)
      rw [hC] at hcs
      obtain ⟨y, rfl⟩ := rd _ _ _ htr
      obtain ⟨_, _, hat⟩ := World.cells?_some hcs
      exact ⟨y, hat⟩)
    refine ⟨l, hll, by rw [flat_len hf, hll], fun hn => ?_⟩
    obtain ⟨b, off, spot⟩ := a
    have h0 : l[0]? = some l[0] := List.getElem?_eq_getElem (by omega)
    have hc0 := hc 0 _ h0 0 hs
    have hv : (f l[0])[0]? = some ((f l[0])[0]'(by rw [hf]; exact hs)) := List.getElem?_eq_getElem _
    rw [hv] at hc0
    have hspot : spot = none := by simpa [Addr.add] using World.cell?_spot hc0
    subst hspot
    have hb' : b < W.heap.size := by
      have := World.block_lt_of_cell? W _ hc0
      simpa [Addr.add] using this
    refine ⟨b, off, rfl, hb', fun j u hu => ?_⟩
    have hj : j < l.length * s := by
      have := (List.getElem?_eq_some_iff.1 hu).1
      rwa [flat_len hf] at this
    have hq : j / s < l.length := (Nat.div_lt_iff_lt_mul hs).2 hj
    have hr : j % s < s := Nat.mod_lt _ hs
    have hlq : l[j / s]? = some l[j / s] := List.getElem?_eq_getElem hq
    have h1 := hc _ _ hlq _ hr
    have h2 := flat_at hf l (j / s) (j % s) _ hlq hr
    have e : j / s * s + j % s = j := by rw [Nat.mul_comm]; exact Nat.div_add_mod j s
    rw [e] at h2
    rw [← h2, hu] at h1
    rw [← h1, add_at, add_at, Nat.add_assoc, e]
theorem open_gen {α : Type} {f : α → List Value} {s : Nat} (hs : 0 < s) (hf : ∀ y, (f y).length = s) {t e : TypeId} (ht : Try.prog.underlying t = some (.slice e)) (hC : Try.prog.cellsOf e = s)
    (rd : ∀ (n : Nat) cs (x : DataW H × List MemPlace), DataW.trod enc Try.prog W 0 (fun _ => true) true n e cs = some x → ∃ y, cs = f y) {A : Option Addr} {n c : Nat} {d : DataW H} {p : List MemPlace}
    (h : DataW.Trod enc Try.prog W 0 (fun _ => true) true t (.slice A n c) d p) : n ≤ c ∧ ∃ l : List α, l.length = n ∧ Sl W W.heap.size s A n (l.flatMap f) := by
  obtain ⟨fuel, hfu⟩ := h
  obtain ⟨A', n', c', e, h1, -, h2⟩ := open_raw hs hf ht hC rd hfu
  simp [Value.cells] at e
  obtain ⟨rfl, rfl, rfl⟩ := e
  exact ⟨h1, h2⟩
theorem open_is {k : IntKind} {t e : TypeId} (ht : Try.prog.underlying t = some (.slice e)) (he : Try.prog.underlying e = some (.int k)) (hC : Try.prog.cellsOf e = 1) {A : Option Addr} {n c : Nat} {d : DataW H} {p : List MemPlace}
    (h : DataW.Trod enc Try.prog W 0 (fun _ => true) true t (.slice A n c) d p) : n ≤ c ∧ ∃ l : List { z : Int // (Lit.int k z).wf = true }, l.length = n ∧ Sl W W.heap.size 1 A n (l.flatMap fun x => [.int k x.1]) :=
  open_gen (α := { z : Int // (Lit.int k z).wf = true }) (f := fun x => [.int k x.1]) (s := 1) (by omega) (fun _ => rfl) ht hC (fun _ _ _ h => by obtain ⟨z, h1, h2⟩ := trod_int_cell he h; exact ⟨⟨z, h2⟩, h1⟩) h
theorem open_ins {t e : TypeId} (ht : Try.prog.underlying t = some (.slice e)) (he : Try.prog.underlying e = some (.int .i64)) (hC : Try.prog.cellsOf e = 1) {A : Option Addr} {n c : Nat} {d : DataW H} {p : List MemPlace}
    (h : DataW.Trod enc Try.prog W 0 (fun _ => true) true t (.slice A n c) d p) : n ≤ c ∧ ∃ l : List Int, l.length = n ∧ InS W W.heap.size A n l := by
  obtain ⟨h1, l, h2, h3⟩ := open_is ht he hC h
  refine ⟨h1, l.map (·.1), by simp [h2], ?_⟩
  unfold InS
  rw [List.flatMap_map]
  exact h3
theorem trod_ins {n : Nat} {cs : List Value} {x : DataW H × List MemPlace} (h : DataW.trod enc Try.prog W 0 (fun _ => true) true n 25 cs = some x) : ∃ A m c, cs = [.slice A m c] ∧ ∃ l : List Int, InS W W.heap.size A m l := by
  obtain ⟨A, m, c, e, _, _, l, h2, h3⟩ := open_raw (α := Int) (f := fun z => [.int .i64 z]) (s := 1) (by omega) (fun _ => rfl) Try.underlying25 (by kernel_rfl) (fun _ _ _ h => by obtain ⟨z, h1, _⟩ := trod_int_cell Try.underlying3 h; exact ⟨z, h1⟩) h
  exact ⟨A, m, c, e, l, h3⟩
/-- An inner list: its slice and what it reads as. -/
structure Inn (W : World) where
  A : Option Addr
  m : Nat
  c : Nat
  l : List Int
  h : InS W W.heap.size A m l
theorem inns_lis {l : List (Inn W)} {A : Option Addr} {n : Nat} (h2 : l.length = n) (h3 : Sl W W.heap.size 1 A n (l.flatMap fun x => [.slice x.A x.m x.c])) : LiS W W.heap.size A n (l.map (·.l)) := by
  refine ⟨by simp [h2], l.map fun x => .slice x.A x.m x.c, ?_, fun k y hy => ?_⟩
  · rw [show l.map (fun x => Value.slice x.A x.m x.c) = l.flatMap fun x => [.slice x.A x.m x.c] from (by clear h2 h3; induction l with | nil => rfl | cons a l ih => simp [ih])]
    exact h3
  · rw [List.getElem?_map] at hy
    cases hk : l[k]? with
    | none => rw [hk] at hy; cases hy
    | some x =>
      rw [hk] at hy
      obtain rfl : x.l = y := by simpa using hy
      exact ⟨x.A, x.m, x.c, by rw [List.getElem?_map, hk]; rfl, x.h⟩
theorem open_lis {A : Option Addr} {n c : Nat} {d : DataW H} {p : List MemPlace} (h : DataW.Trod enc Try.prog W 0 (fun _ => true) true 22 (.slice A n c) d p) : n ≤ c ∧ ∃ ls : List (List Int), ls.length = n ∧ LiS W W.heap.size A n ls := by
  obtain ⟨h1, l, h2, h3⟩ := open_gen (α := Inn W) (f := fun x => [.slice x.A x.m x.c]) (s := 1) (by omega) (fun _ => rfl) Try.underlying22 (by kernel_rfl) (fun _ _ _ h => by obtain ⟨A, m, c, e, l, hl⟩ := trod_ins h; exact ⟨⟨A, m, c, l, hl⟩, e⟩) h
  exact ⟨h1, l.map (·.l), by simp [h2], inns_lis h2 h3⟩
theorem trod_lis {n : Nat} {cs : List Value} {x : DataW H × List MemPlace} (h : DataW.trod enc Try.prog W 0 (fun _ => true) true n 22 cs = some x) : ∃ A m c, cs = [.slice A m c] ∧ m ≤ c ∧ (A = none → m = 0 ∧ c = 0) ∧ ∃ ls : List (List Int), ls.length = m ∧ LiS W W.heap.size A m ls := by
  obtain ⟨A, m, c, e, h1, hN, l, h2, h3⟩ := open_raw (α := Inn W) (f := fun x => [.slice x.A x.m x.c]) (s := 1) (by omega) (fun _ => rfl) Try.underlying22 (by kernel_rfl) (fun _ _ _ h => by obtain ⟨A, m, c, e, l, hl⟩ := trod_ins h; exact ⟨⟨A, m, c, l, hl⟩, e⟩) h
  exact ⟨A, m, c, e, h1, hN, l.map (·.l), by simp [h2], inns_lis h2 h3⟩
theorem trod_bk {n : Nat} {cs : List Value} {x : DataW H × List MemPlace} (h : DataW.trod enc Try.prog W 0 (fun _ => true) true n 24 cs = some x) : ∃ (I : Int) (A : Option Addr) (m c : Nat), cs = [.int .i64 I, .slice A m c] ∧ (Lit.int .i64 I).wf = true ∧ m ≤ c ∧ (A = none → m = 0 ∧ c = 0) ∧ ∃ ls : List (List Int), ls.length = m ∧ LiS W W.heap.size A m ls := by
  obtain ⟨xs, m, _, _, hl, hx, hf⟩ := DataW.trod_struct Try.underlying24 h
  have hc : Try.prog.cellsOf 24 = 2 := by kernel_rfl
  have hc2 : Try.prog.cellsOf 3 = 1 := by kernel_rfl
  have hc3 : Try.prog.cellsOf 22 = 1 := by kernel_rfl
  rw [hc] at hl
  have h0 : DataW.trod enc Try.prog W 0 (fun _ => true) true m 3 ((cs.drop 0).take (Try.prog.cellsOf 3)) = xs[0]? := hf 0 _ rfl
  have h1 : DataW.trod enc Try.prog W 0 (fun _ => true) true m 22 ((cs.drop 1).take (Try.prog.cellsOf 22)) = xs[1]? := hf 1 _ rfl
  rw [hc2] at h0
  rw [hc3] at h1
  rcases cs with _ | ⟨a, _ | ⟨b, _ | ⟨c, l⟩⟩⟩ <;> simp at hl
  have hx0 : xs[0]? = some (xs[0]'(by rw [hx]; decide)) := List.getElem?_eq_getElem _
  have hx1 : xs[1]? = some (xs[1]'(by rw [hx]; decide)) := List.getElem?_eq_getElem _
  obtain ⟨z0, e0, hw⟩ := trod_int_cell (k := .i64) Try.underlying3 (h0.trans hx0)
  obtain ⟨A, q, c, e1, hq, hN, ls, hls, hli⟩ := trod_lis (h1.trans hx1)
  simp at e0 e1
  exact ⟨z0, A, q, c, by rw [e0, e1], hw, hq, hN, ls, hls, hli⟩
set_option maxRecDepth 100000 in
theorem open_book {v : Value} {r : Reach} {b0 : Nat} {d : DataW H} {p : List MemPlace} (hv : Value.okWide Try.prog W r b0 24 v) (h : DataW.Trod enc Try.prog W 0 (fun _ => true) true 24 v d p) : ∃ (I : Int) (A : Option Addr) (m c : Nat), v = .agg #[.int .i64 I, .slice A m c] ∧ (Lit.int .i64 I).wf = true ∧ m ≤ c ∧ (A = none → m = 0 ∧ c = 0) ∧ ∃ ls : List (List Int), ls.length = m ∧ LiS W W.heap.size A m ls := by
  have hw := okWide_struct Try.underlying24 hv
  refine hw.elim fun cs e => ?_
  have e1 := e.1
  clear e hw
  subst e1
  refine Exists.elim h fun fuel hf => ?_
  obtain ⟨I, A, m, c, hq, hr⟩ := trod_bk hf
  refine ⟨I, A, m, c, ?_, hr⟩
  have e2 : cs.toList = [.int .i64 I, .slice A m c] := hq
  rw [← Array.toArray_toList (xs := cs), e2]
/-- The arguments read behind the call as they did. -/
theorem all_below {P : Program} (hl : laidOutB P = true) {W' : World} (hb : Below W.heap.size W W') : ∀ {ts : List TypeId} {vs : List Value} {ds : List (DataW H)} {ps : List MemPlace}, (∀ t ∈ ts, P.readableRec t = true ∧ t < P.types.size) → (∀ x ∈ ps, x.block < W.heap.size) →
    DataW.TrodAll enc P W 0 (fun _ => true) true ts vs ds ps → DataW.TrodAll enc P W' 0 (fun b => decide (b < W.heap.size)) true ts vs ds ps
  | [], vs, ds, ps, _, _, h => by
    obtain ⟨rfl, rfl, rfl⟩ := trodAll_nil h
    exact trodAll_mk0
  | t :: ts, vs, ds, ps, hr, hlt, h => by
    obtain ⟨v, vs', d, ds', p, p', rfl, rfl, rfl, h1, h2⟩ := trodAll_cons h
    obtain ⟨r1, r2⟩ := hr t (by simp)
    exact trodAll_cons_mk (Below.trod hl r1 r2 h1 hb (fun x hx => hlt x (by simp [hx]))) (all_below hl hb (fun t ht => hr t (by simp [ht])) (fun x hx => hlt x (by simp [hx])) h2)
theorem readable_of {P : Program} {ts : List TypeId} (h : (ts.all fun t => P.readableRec t && decide (t < P.types.size)) = true) : ∀ t ∈ ts, P.readableRec t = true ∧ t < P.types.size := fun t ht => by
  have := List.all_eq_true.1 h t ht
  simpa using this
theorem ownKx : ownKnob Try.prog.godebug = none := by kernel_rfl
end
end Go.Proofs.Ytnpilfpackdimaa
/- Words for the laws of this chapter: blocks of slices, own slices. -/
namespace Go.Proofs.Ytnpilfpackdimaa
open Go.RowKit
theorem u64_bd {x : Int} (h : (Lit.int .u64 x).wf = true) : 0 ≤ x ∧ x < 2 ^ 64 := by
  simp [Lit.wf, IntKind.min, IntKind.max, IntKind.signed, IntKind.bits] at h
  omega
theorem toB {P : Program} {f : FuncId} {args : Array Value} {w : World} {v : Ending} (h : Calls P f args w fun e w' => e = v ∧ w = w') : Calls P f args w fun e w' => e = v ∧ Below w.heap.size w w' := h.mono fun _ _ h => ⟨h.1, h.2 ▸ Below.refl _ _⟩
/-- A slice's block is there. -/
def LtA (w : World) (B : Nat) (A : Option Addr) : Prop := ∀ b off, A = some ⟨b, off, none⟩ → b < B
theorem LtA.below {w w' : World} {A : Option Addr} (h : LtA w w.heap.size A) (_ : Below w.heap.size w w') (hs : w.heap.size ≤ w'.heap.size) : LtA w' w'.heap.size A := fun b off e => Nat.lt_of_lt_of_le (h b off e) hs
theorem own_slb {w : World} {base : Nat} {e : TypeId} {size : Nat} {v : Value} {n : Nat} {xs : List Value} (h : w.ownsRow base e size v n xs) : ∃ A c, v = .slice A n c ∧ Sl w w.heap.size size A n xs ∧ n ≤ c ∧ LtA w w.heap.size A := by
  obtain ⟨A, c, rfl, hs⟩ := sl_of_owns h
  refine ⟨A, c, rfl, hs, ?_, fun b off e => ?_⟩
  · obtain ⟨-, ⟨h1, rfl⟩ | ⟨g, cap, cur, h1, -, -, h2, -⟩⟩ := h
    · omega
    · cases h1; exact h2
  · obtain ⟨-, ⟨h1, rfl⟩ | ⟨g, cap, cur, h1, -, hg, h2, -⟩⟩ := h
    · cases h1; cases e
    · cases h1; cases e; exact (Array.getElem?_eq_some_iff.1 hg).1
set_option maxRecDepth 1000000 in
theorem ok_lt {W : World} {r : Reach} {b0 : Nat} {t e : TypeId} {A : Option Addr} {n c : Nat} (ht : Try.prog.underlying t = some (.slice e)) (hv : Value.okWide Try.prog W r b0 t (.slice A n c)) : LtA W W.heap.size A := fun b off hA => by
  subst hA
  simp only [Value.okWide, ht, Cell.okWide, Cell.ok] at hv
  obtain ⟨-, -, -, -, row, cells, hs, -⟩ := hv
  unfold World.shape? at hs
  rcases Nat.lt_or_ge b W.heap.size with h | h
  · exact h
  · simp [Array.getElem?_eq_none h] at hs
end Go.Proofs.Ytnpilfpackdimaa
/- Plain law: tight blames are the minimal sets that hit all hires; the program's spare inn is the reference's. -/
namespace Go.Proofs.Ytnpilfpackdimaa
/-- A set has an inn of each hire. -/
def hitB (ls : List (List Int)) (x : Nat) : Bool := ls.all fun l => l.any (inB x)
theorem idxA_neg {α : Type} {q : α → Bool} {ls : List α} : idxA q ls < 0 ↔ ls.any q = false := by
  unfold idxA
  cases h : ls.findIdx? q with
  | none =>
    rw [List.findIdx?_eq_none_iff] at h
    constructor
    · intro _; rw [List.any_eq_false]; intro x hx; rw [h x hx]; decide
    · intro _; decide
  | some k =>
    rw [List.findIdx?_eq_some_iff_getElem] at h
    obtain ⟨h1, h2, -⟩ := h
    constructor
    · intro h; simp at h; omega
    · intro h
      have := List.any_eq_false.1 h _ (List.getElem_mem h1)
      exact absurd h2 this
theorem miss_neg {ls : List (List Int)} {x : Nat} : missI ls x < 0 ↔ hitB ls x = true := by
  unfold missI hitB
  rw [idxA_neg, any_not_all]
  simp
theorem miss_dec (ls : List (List Int)) (x : Nat) : decide (missI ls x < 0) = hitB ls x := by
  rw [Bool.eq_iff_iff, decide_eq_true_eq, miss_neg]
theorem clr_bit (x i j : Nat) : (clr x i).testBit j = (x.testBit j && !decide (j = i)) := by
  unfold clr
  rw [Nat.testBit_xor, Nat.testBit_or, Nat.testBit_two_pow]
  by_cases h : i = j
  · subst h; simp
  · have h' : ¬ j = i := fun e => h e.symm
    simp [h, h']
theorem hit_mono {ls : List (List Int)} {x y : Nat} (h : ∀ i, y.testBit i = true → x.testBit i = true) (hy : hitB ls y = true) : hitB ls x = true := by
  unfold hitB at *
  rw [List.all_eq_true] at *
  intro l hl
  obtain ⟨e, he, hb⟩ := List.any_eq_true.1 (hy l hl)
  exact List.any_eq_true.2 ⟨e, he, h _ hb⟩
theorem clr_sub (x i : Nat) : ∀ j, (clr x i).testBit j = true → x.testBit j = true := fun j h => by
  rw [clr_bit, Bool.and_eq_true] at h; exact h.1
theorem clr_lt {x i : Nat} (hx : x < 256) (hi : i < 8) : clr x i < 256 := by
  unfold clr
  exact Nat.xor_lt_two_pow (n := 8) (Nat.or_lt_two_pow hx (Nat.pow_lt_pow_right (by decide) hi)) (Nat.pow_lt_pow_right (by decide) hi)
/-- A set that cannot be made smaller by one inn is minimal. -/
theorem min_iff {ls : List (List Int)} {x I : Nat} (hI : I ≤ 8) (hx : x < 2 ^ I) : minB (hitB ls) x = true ↔ hitB ls x = true ∧ ∀ i, i < I → x.testBit i = true → hitB ls (clr x i) = false := by
  have hx8 : x < 256 := Nat.lt_of_lt_of_le hx (Nat.le_trans (Nat.pow_le_pow_right (by decide) hI) (by decide))
  rw [minB_iff]
  constructor
  · rintro ⟨h1, h2⟩
    refine ⟨h1, fun i hi hb => ?_⟩
    rw [Bool.eq_false_iff]
    intro hh
    have hne : clr x i ≠ x := fun e => by
      have := clr_bit x i i
      rw [e, hb] at this; simp at this
    have := h2 _ (clr_lt hx8 (by omega)) hh hne
    rw [(subB_iff (clr_lt hx8 (by omega))).2 (clr_sub x i)] at this; cases this
  · rintro ⟨h1, h2⟩
    refine ⟨h1, fun y hy hh hne => ?_⟩
    rw [Bool.eq_false_iff]
    intro hs
    have hs' := (subB_iff hy).1 hs
    obtain ⟨i, hi, hyi⟩ : ∃ i, x.testBit i = true ∧ y.testBit i = false := by
      refine Classical.byContradiction fun hn => hne ?_
      refine Nat.eq_of_testBit_eq fun i => ?_
      cases hxi : x.testBit i
      · cases hyi : y.testBit i
        · rfl
        · rw [hs' i hyi] at hxi; cases hxi
      · cases hyi : y.testBit i
        · exact absurd ⟨i, hxi, hyi⟩ hn
        · rfl
    have hiI : i < I := by
      rcases Nat.lt_or_ge i I with h | h
      · exact h
      · rw [Nat.testBit_lt_two_pow (Nat.lt_of_lt_of_le hx (Nat.pow_le_pow_right (by decide) h))] at hi; cases hi
    have hh2 : hitB ls (clr x i) = true := hit_mono (fun j hj => by
      rw [clr_bit, hs' j hj]
      have : j ≠ i := fun e => by rw [e, hyi] at hj; cases hj
      simp [this]) hh
    rw [h2 i hiI hi] at hh2; cases hh2
theorem spR_neg {I : Nat} {ls : List (List Int)} {x : Nat} : spR I ls x < 0 ↔ ∀ i, i < I → x.testBit i = true → hitB ls (clr x i) = false := by
  unfold spR
  rw [idxA_neg, List.any_eq_false]
  constructor
  · intro h i hi hb
    have := h i (List.mem_range.2 hi)
    rw [hb, miss_dec] at this
    simpa using this
  · intro h i hi
    rw [miss_dec]
    cases hb : x.testBit i
    · simp
    · rw [h i (List.mem_range.1 hi) hb]; decide
theorem find_range (q : Nat → Bool) : ∀ n, (List.range n).findIdx? q = (List.range n).find? q
  | 0 => rfl
  | n + 1 => by
    rw [List.range_succ, List.findIdx?_append, List.find?_append, find_range q n]
    cases h : (List.range n).find? q with
    | some k => simp
    | none =>
      simp only [Option.none_or, List.length_range]
      cases hq : q n <;> simp [List.findIdx?_cons, List.find?_cons, hq]
theorem find_range_more {q : Nat → Bool} {m n : Nat} (hmn : m ≤ n) (h : ∀ i, m ≤ i → q i = false) : (List.range n).find? q = (List.range m).find? q := by
  induction n with
  | zero => rw [Nat.le_zero.1 hmn]
  | succ n ih =>
    rcases Nat.eq_or_lt_of_le hmn with h1 | h1
    · rw [h1]
    · rw [List.range_succ, List.find?_append, ih (by omega)]
      simp [List.find?_cons, h n (by omega)]
theorem spO_eq {I : Nat} {ls : List (List Int)} {x : Nat} (hI : I ≤ 8) (hx : x < 2 ^ I) : spO ls x = if 0 ≤ spR I ls x then some (spR I ls x) else none := by
  have e1 : spO ls x = ((List.range I).find? fun i => x.testBit i && decide (missI ls (clr x i) < 0)).map fun i : Nat => (i : Int) := by
    unfold spO listed
    rw [List.find?_map, List.find?_filter]
    rw [← find_range_more (n := 8) hI (fun i hi => by rw [Nat.testBit_lt_two_pow (Nat.lt_of_lt_of_le hx (Nat.pow_le_pow_right (by decide) hi))]; rfl)]
    congr 2
    funext i
    rw [Bool.eq_iff_iff]
    simp
  rw [e1]
  unfold spR idxA
  rw [find_range]
  cases h : (List.range I).find? fun i => x.testBit i && decide (missI ls (clr x i) < 0) with
  | none => rfl
  | some k => simp
end Go.Proofs.Ytnpilfpackdimaa
/- Plain law: whether a blame is tight, the program and the reference alike. -/
namespace Go.Proofs.Ytnpilfpackdimaa
theorem book_nat {I : Int} {ls : List (List Int)} (h : chkBook I ls = 0) : ∃ J : Nat, I = J ∧ I.toNat = J ∧ 1 ≤ J ∧ J ≤ 8 ∧ ls.length ≤ 10 ∧ (∀ l ∈ ls, isL (J : Int) 0 l = true) ∧ ∀ l ∈ ls, isL 8 0 l = true := by
  obtain ⟨h1, h2, h3, h4⟩ := book_good h
  obtain ⟨J, rfl⟩ : ∃ J : Nat, I = J := ⟨I.toNat, by omega⟩
  exact ⟨J, rfl, by simp, by omega, by omega, h3, h4, book8 h⟩
theorem tgt_sp {I : Int} {ls : List (List Int)} {s : List Int} (h : blmE I ls s = 0) : spO ls (bitsL s) = if 0 ≤ spR I.toNat ls (bitsL s) then some (spR I.toNat ls (bitsL s)) else none := by
  obtain ⟨ho, -⟩ := blmE_good h
  obtain ⟨hc, hall⟩ := openE_good ho
  obtain ⟨J, rfl, hJ, -, hJ8, -, hv, hv8⟩ := book_nat hc
  rw [hJ]
  exact spO_eq hJ8 (bitsL_lt (hall s (List.mem_singleton.2 rfl)))
theorem tgtE_eq (I : Int) (ls : List (List Int)) (s : List Int) : tgtE I ls s = rtgE I ls s := by
  unfold tgtE rtgE
  by_cases h : blmE I ls s = 0
  · have hn : ¬ (blmE I ls s ≠ 0) := fun e => e h
    rw [if_neg hn, if_neg hn, tgt_sp h]
    by_cases h0 : 0 ≤ spR I.toNat ls (bitsL s)
    · rw [if_pos h0, if_pos h0]; rfl
    · rw [if_neg h0, if_neg h0]; rfl
  · rw [if_pos h, if_pos h]
theorem tgtV_eq (I : Int) (ls : List (List Int)) (s : List Int) : tgtV I ls s = rtgV I ls s := by
  unfold tgtV rtgV
  by_cases h : blmE I ls s = 0
  · have hn : ¬ (blmE I ls s ≠ 0) := fun e => e h
    rw [if_neg hn, if_neg hn, tgt_sp h]
    by_cases h0 : 0 ≤ spR I.toNat ls (bitsL s)
    · rw [if_pos h0, if_pos h0]; rfl
    · rw [if_neg h0, if_neg h0]; rfl
  · rw [if_pos h, if_pos h]
end Go.Proofs.Ytnpilfpackdimaa
/- Walks (reference): Tight. -/
namespace Go.Proofs.Ytnpilfpackdimaa
open Go.RowKit Go.Shelf
attribute [local go_sem] Oper.semAt_some
theorem toB0 {P : Program} {f : FuncId} {args : Array Value} {w : World} {v : Ending} (h : Calls P f args w fun e w' => e = v ∧ w = w') : Calls P f args w fun e w' => e = v ∧ Below w.heap.size w w' := h.mono fun _ _ h => ⟨h.1, h.2 ▸ Below.refl _ _⟩
def rtS (ls : List (List Int)) (b i : Nat) : Nat := if b.testBit i && decide (missI ls (clr b i) < 0) then clr b i else b
def rtD (ls : List (List Int)) (I b : Nat) : Nat → Nat
  | 0 => b
  | d + 1 => rtS ls (rtD ls I b d) (I - 1 - d)
theorem rtS_lt {ls : List (List Int)} {b i I : Nat} (h : b < 2 ^ I) : rtS ls b i < 2 ^ I := by
  unfold rtS
  split
  · unfold clr
    apply Nat.lt_pow_two_of_testBit
    intro j hj
    have h1 : b.testBit j = false := Nat.testBit_lt_two_pow (Nat.lt_of_lt_of_le h (Nat.pow_le_pow_right (by decide) hj))
    rw [Nat.testBit_xor, Nat.testBit_or, h1, Bool.false_or]
    cases (2 ^ i).testBit j <;> rfl
  · exact h
theorem rtD_lt {ls : List (List Int)} {I b : Nat} (h : b < 2 ^ I) : ∀ d, rtD ls I b d < 2 ^ I
  | 0 => h
  | d + 1 => rtS_lt (rtD_lt h d)
def rtigV (I : Int) (ls : List (List Int)) (s : List Int) : List Int := if blmE I ls s ≠ 0 then [] else listed (rtD ls I.toNat (bitsL s) I.toNat) I.toNat
set_option maxRecDepth 100000 in
set_option maxHeartbeats 4000000 in
theorem rtight_any (A B : Option Addr) (n c m d : Nat) (ls : List (List Int)) (s : List Int) (I : Int) (w : World) (hl : LiS w w.heap.size A n ls) (hs : InS w w.heap.size B m s) (hn : n ≤ 1000000) (hw : ∀ l ∈ ls, l.length ≤ 1000000) (hm : m ≤ 1000000) :
    Calls Try.prog 12 #[.agg #[.int .i64 I, .slice A n c], .slice B m d] w fun e w' => ∃ A' n' c', e = .returned (.tuple #[.slice A' n' c', .int .i64 (blmE I ls s)]) ∧ InS w' w'.heap.size A' n' (rtigV I ls s) ∧ Below w.heap.size w w' := by
  have HL := hid hl
  have HS := hid hs
  have HC := hid (fun W h h2 => rcheckBlame_any A B n c m d ls s I W h h2 hn hw hm)
  have hb0 : Below w.heap.size w (w.alloc (.cells #[.int .i64 I, .slice A n c] 24)) := (Below.refl _ _).alloc (Nat.le_refl _) _
  have hrt : Hid (rtigV I ls s = if blmE I ls s ≠ 0 then [] else listed (rtD ls I.toNat (bitsL s) I.toNat) I.toNat) := hid rfl
  obtain ⟨mv, hmv⟩ : ∃ v, blmV I ls s = v := ⟨_, rfl⟩
  rw [hmv] at HC
  by_cases he : blmE I ls s = 0
  · obtain ⟨ho, -⟩ := blmE_good he
    obtain ⟨hc, hall⟩ := openE_good ho
    obtain ⟨h1, h2, h3, h4⟩ := book_good hc
    obtain ⟨J, rfl⟩ : ∃ J : Nat, I = J := ⟨I.toNat, by omega⟩
    have hJ1 : 1 ≤ J := by omega
    have hJ8 : J ≤ 8 := by omega
    have hsl : isL (J : Int) 0 s = true := hall s (List.mem_singleton.2 rfl)
    have hv8 := hid (book8 hc)
    have HM := hid (fun (x : Nat) (W : World) (hx : x < 2 ^ 62) h => rmissed_any A n c ls (J : Int) x W h hn (book8 hc) hx)
    have HB := hid (fun W h => rbits_any B m d s W h hm (fun y hy => by have := isL_bd hsl y hy; omega))
    have hbl := bitsL_lt hsl
    have hrt2 : rtigV J ls s = listed (rtD ls J (bitsL s) J) J := by rw [hrt.out, if_neg (by simp [he]), Int.toNat_natCast]
    rw [he] at HC ⊢
    obtain ⟨b, hb⟩ : ∃ b, bitsL s = b := ⟨_, rfl⟩
    rw [hb] at HB hbl hrt2
    have Hrt2 := hid hrt2
    have hD := fun d => rtD_lt (ls := ls) hbl d
    have hp256 : 2 ^ J ≤ 256 := Nat.le_trans (Nat.pow_le_pow_right (by decide) hJ8) (by decide)
    have HD : Hid (∀ d, rtD ls J b d < 256) := hid (fun d => Nat.lt_of_lt_of_le (hD d) hp256)
    clear hl hs hw hrt hmv he ho hc hall h1 h2 h3 h4 hsl hbl hb hrt2 hD hp256
    go_enter Try.func12, Try.ntmps12
    go_wp2_with (fail)
    refine (HC.out _ (HL.out.below hb0 hb0.size) (HS.out.below hb0 hb0.size)).mono ?_
    rintro e w1 ⟨rfl, hb1⟩
    have hbel : Below w.heap.size w w1 := Below.trans (by repeat' (first | with_reducible assumption | with_reducible exact Below.refl _ _ | refine Below.alloc ?_ ?_ _ | refine Below.setCell ?_ ?_ _ | refine Below.drew ?_ | refine below_drewN ?_ _ | (simp; done) | (simp; omega) | omega)) (hb1.mono (by first | (simp; done) | (simp; omega) | omega))
    have c0 : w1.cell? ⟨w.heap.size, 0, none⟩ = some (.int .i64 (J : Int)) := (hb1.cell (p := ⟨w.heap.size, 0, none⟩) (by first | (simp; done) | (simp; omega) | omega)).trans (by go_simp)
    have c1 : w1.cell? ⟨w.heap.size, 1, none⟩ = some (.slice A n c) := (hb1.cell (p := ⟨w.heap.size, 1, none⟩) (by first | (simp; done) | (simp; omega) | omega)).trans (by go_simp)
    have hq0 : w.heap.size < w1.heap.size := (by have := hb1.size; simp at this; omega)
    clear hb1 hb0
    go_wp2_with (fail)
    refine (toB0 (HB.out _ (HS.out.below hbel hbel.size))).mono ?_
    rintro e w2 ⟨rfl, hb2⟩
    have hbe2 := hbel.trans (hb2.mono hbel.size)
    have d0 := (hb2.cell (p := ⟨w.heap.size, 0, none⟩) hq0).trans c0
    have d1 := (hb2.cell (p := ⟨w.heap.size, 1, none⟩) hq0).trans c1
    have hq2 := Nat.lt_of_lt_of_le hq0 hb2.size
    clear c0 c1 hb2 hbel hq0
    have zJ : IntKind.i64.wrap ((J : Int) - 1) = (J : Int) - 1 := IntWalk.i64_in _ (by omega)
    go_wp2_with (fail)
    go_loopw [8, 9] (fun v i wr => ∃ q : Nat, q ≤ J ∧ (∃ u : Int, i = .int .i64 u ∧ Hid (u = (J : Int) - 1 - q)) ∧ (∃ N : Nat, v = .int .i64 (N : Int) ∧ Hid (rtD ls J b q = N)) ∧ Below w2.heap.size w2 wr) (fun _ i _ => (intOf i + 1).toNat)
    case atStart => exact ⟨0, by omega, ⟨_, rfl, hid (by omega)⟩, ⟨b, rfl, hid rfl⟩, Below.refl _ _⟩
    case round =>
      obtain ⟨q, hq, ⟨u, rfl, hu⟩, ⟨N, rfl, hN⟩, hbw⟩ := hrel
      have hszw := hbw.size
      have hbww := hbe2.trans (hbw.mono hbe2.size)
      have e0 := (hbw.cell (p := ⟨w.heap.size, 0, none⟩) hq2).trans d0
      have e1 := (hbw.cell (p := ⟨w.heap.size, 1, none⟩) hq2).trans d1
      have l0 := Nat.lt_of_lt_of_le hq2 hszw
      have hN8 : N < 256 := by rw [← hN.out]; exact HD.out q
      by_cases hlt : q < J
      · obtain ⟨k, hk⟩ : ∃ k, J - 1 - q = k := ⟨_, rfl⟩
        have hk8 : k < 8 := by omega
        obtain rfl : u = (k : Int) := by have := hu.out; omega
        have hst : rtD ls J b (q + 1) = rtS ls N k := by show rtS ls (rtD ls J b q) (J - 1 - q) = _; rw [hN.out, hk]
        have hnx : Hid ((k : Int) - 1 = (J : Int) - 1 - ((q + 1 : Nat) : Int)) := hid (by omega)
        have zk : IntKind.i64.wrap ((k : Int) - 1) = (k : Int) - 1 := IntWalk.i64_in _ (by omega)
        have hk0 : (0 : Int) ≤ k := by omega
        have hk64 : (k : Int) < 64 := by omega
        have hand := low_bit' N k (by omega)
        clear hu hk
        cases ht : N.testBit k
        · rw [ht] at hand
          simp only [Bool.false_eq_true, if_false] at hand
          have Hs : Hid (rtD ls J b (q + 1) = N) := hid (by rw [hst]; unfold rtS; rw [ht]; rfl)
          clear ht hst
          go_wp2
          refine wp_region_hd_all (fun W => Below wr.heap.size wr W) (by kernel_rfl) (by kernel_rfl) ((Below.refl _ _).drew) ?_
          iterate 6 (refine wpHd_val (v := ?_) (by rfl) (fun W hW => ?_) ?_; rotate_left; (· obtain ⟨hcW, hfW⟩ := bcell hW; go_simp; with_reducible rfl); simp only [Act.put, List.setIfInBounds_toArray, List.set_cons_zero, List.set_cons_succ])
          iterate 7 (refine wpHd_not (by rfl) ?_; simp only [Act.put, List.setIfInBounds_toArray, List.set_cons_zero, List.set_cons_succ])
          (refine wpHd_val (v := ?_) (by rfl) (fun W hW => ?_) ?_; rotate_left; (· obtain ⟨hcW, hfW⟩ := bcell hW; go_simp; with_reducible rfl); simp only [Act.put, List.setIfInBounds_toArray, List.set_cons_zero, List.set_cons_succ])
          refine wpHd_nil ?_
          intro W9 hW9
          have hbw9 := hbw.trans (hW9.mono hszw)
          go_wp2
          exact ⟨⟨q + 1, by omega, ⟨_, rfl, hnx⟩, ⟨N, rfl, Hs⟩, hbw9⟩, by simp only [intOf]; omega⟩
        · rw [ht] at hand
          simp only [if_true] at hand
          have hca := clr_add hN8 hk8 ht
          have hsub : (N : Int) - (2 : Int) ^ k = ((clr N k : Nat) : Int) := by
            have e : (2 : Int) ^ k = ((2 ^ k : Nat) : Int) := by push_cast; rfl
            rw [e]; omega
          have hpw := pow_wrap k (by omega)
          have hst2 : rtS ls N k = if decide (missI ls (clr N k) < 0) then clr N k else N := by unfold rtS; rw [ht, Bool.true_and]
          obtain ⟨C, hC⟩ : ∃ C, clr N k = C := ⟨_, rfl⟩
          obtain ⟨mv2, hmv⟩ : ∃ mv, missI ls C = mv := ⟨_, rfl⟩
          have hm2 := HM.out C
          rw [hmv] at hm2
          rw [hC] at hsub hca hst2
          rw [hmv] at hst2
          have hC8 : C < 256 := by have := Nat.two_pow_pos k; omega
          have Hm2 := hid hm2
          have zc : IntKind.i64.wrap ((N : Int) - (2 : Int) ^ k) = (C : Int) := by rw [hsub, IntKind.wrap_i64]; omega
          have zc2 : IntKind.i64.wrap ((N : Int) - ((2 ^ k : Nat) : Int)) = (C : Int) := by rw [show ((2 ^ k : Nat) : Int) = (2 : Int) ^ k by push_cast; rfl]; exact zc
          cases hx : decide (mv2 < 0)
          · have hxn : ¬ mv2 < 0 := of_decide_eq_false hx
            have Hs : Hid (rtD ls J b (q + 1) = N) := hid (by rw [hst, hst2, hx]; rfl)
            clear ht hm2 hmv hx hC hca hsub hst hst2
            go_wp2
            refine wp_region_hd_all (fun W => Below wr.heap.size wr W) (by kernel_rfl) (by kernel_rfl) ((Below.refl _ _).drew) ?_
            iterate 11 (refine wpHd_val (v := ?_) (by rfl) (fun W hW => ?_) ?_; rotate_left; (· obtain ⟨hcW, hfW⟩ := bcell hW; go_simp; with_reducible rfl); simp only [Act.put, List.setIfInBounds_toArray, List.set_cons_zero, List.set_cons_succ])
            (refine wpHd_callB (by rfl) (fun W hW => (Hm2.out W (by omega) (HL.out.below (hbww.trans (hW.mono hbww.size)) (Nat.le_trans hbww.size hW.size)))) (fun W hW => ?_) ?_; (· obtain ⟨hcW, hfW⟩ := bcell hW; go_simp); simp only [Act.put, List.setIfInBounds_toArray, List.set_cons_zero, List.set_cons_succ])
            iterate 2 (refine wpHd_val (v := ?_) (by rfl) (fun W hW => ?_) ?_; rotate_left; (· obtain ⟨hcW, hfW⟩ := bcell hW; go_simp; with_reducible rfl); simp only [Act.put, List.setIfInBounds_toArray, List.set_cons_zero, List.set_cons_succ])
            refine wpHd_nil ?_
            intro W9 hW9
            have hbw9 := hbw.trans (hW9.mono hszw)
            clear zc zc2 hpw
            go_wp2
            exact ⟨⟨q + 1, by omega, ⟨_, rfl, hnx⟩, ⟨N, rfl, Hs⟩, hbw9⟩, by simp only [intOf]; omega⟩
          · have hxn : mv2 < 0 := of_decide_eq_true hx
            have Hs : Hid (rtD ls J b (q + 1) = C) := hid (by rw [hst, hst2, hx]; rfl)
            clear ht hm2 hmv hx hC hca hsub hst hst2
            go_wp2
            refine wp_region_hd_all (fun W => Below wr.heap.size wr W) (by kernel_rfl) (by kernel_rfl) ((Below.refl _ _).drew) ?_
            iterate 11 (refine wpHd_val (v := ?_) (by rfl) (fun W hW => ?_) ?_; rotate_left; (· obtain ⟨hcW, hfW⟩ := bcell hW; go_simp; with_reducible rfl); simp only [Act.put, List.setIfInBounds_toArray, List.set_cons_zero, List.set_cons_succ])
            (refine wpHd_callB (by rfl) (fun W hW => (Hm2.out W (by omega) (HL.out.below (hbww.trans (hW.mono hbww.size)) (Nat.le_trans hbww.size hW.size)))) (fun W hW => ?_) ?_; (· obtain ⟨hcW, hfW⟩ := bcell hW; go_simp); simp only [Act.put, List.setIfInBounds_toArray, List.set_cons_zero, List.set_cons_succ])
            iterate 2 (refine wpHd_val (v := ?_) (by rfl) (fun W hW => ?_) ?_; rotate_left; (· obtain ⟨hcW, hfW⟩ := bcell hW; go_simp; with_reducible rfl); simp only [Act.put, List.setIfInBounds_toArray, List.set_cons_zero, List.set_cons_succ])
            refine wpHd_nil ?_
            intro W9 hW9
            have hbw9 := hbw.trans (hW9.mono hszw)
            go_wp2
            exact ⟨⟨q + 1, by omega, ⟨_, rfl, hnx⟩, ⟨C, rfl, Hs⟩, hbw9⟩, by simp only [intOf]; omega⟩
      · have hui : ¬ (0 : Int) ≤ u := by have := hu.out; omega
        have hfin : Hid (rtigV J ls s = listed N J) := hid (by rw [Hrt2.out, ← hN.out, show J = q by omega])
        clear hu hN hlt
        go_wp2_with (fail)
        refine (rlisted_any N J _ (by omega) (by omega)).mono ?_
        rintro e w5 ⟨v, rfl, ho, hb5⟩
        obtain ⟨A9, c9, rfl, h9⟩ := sl_of_owns ho
        have hb9 : Below w.heap.size w w5 := hbww.trans (hb5.mono hbww.size)
        go_wp2
        refine bodyPost_ret (v := .tuple #[.slice A9 (listed N J).length c9, .int .i64 0]) (by first | (simp [results, Try.results12, go_sem]; done) | (simp [results, Try.results12, go_sem, *]; done) | (simp [results, Try.results12, go_sem, World.cell?_setCell_same', *]; done) | (simp [results, Try.results12, go_sem]; first | exact ⟨rfl, rfl⟩ | rfl)) rfl ⟨A9, _, c9, rfl, ?_, hb9⟩
        rw [hfin.out]; exact h9
  · have hrv : Hid (rtigV I ls s = []) := hid (by rw [hrt.out, if_pos he])
    obtain ⟨ev, hev⟩ : ∃ ev, blmE I ls s = ev := ⟨_, rfl⟩
    rw [hev] at HC he ⊢
    have hbi : (ev != 0) = true := by simpa using he
    clear hl hs hw hrt hmv hev he
    go_enter Try.func12, Try.ntmps12
    go_wp2_with (fail)
    refine (HC.out _ (HL.out.below hb0 hb0.size) (HS.out.below hb0 hb0.size)).mono ?_
    rintro e w1 ⟨rfl, hb1⟩
    have hbel : Below w.heap.size w w1 := Below.trans (by repeat' (first | with_reducible assumption | with_reducible exact Below.refl _ _ | refine Below.alloc ?_ ?_ _ | refine Below.setCell ?_ ?_ _ | refine Below.drew ?_ | refine below_drewN ?_ _ | (simp; done) | (simp; omega) | omega)) (hb1.mono (by first | (simp; done) | (simp; omega) | omega))
    go_wp2
    refine bodyPost_ret (v := .tuple #[.slice none 0 0, .int .i64 ev]) (by first | (simp [results, Try.results12, go_sem]; done) | (simp [results, Try.results12, go_sem, *]; done) | (simp [results, Try.results12, go_sem, World.cell?_setCell_same', *]; done) | (simp [results, Try.results12, go_sem]; first | exact ⟨rfl, rfl⟩ | rfl)) rfl ⟨none, 0, 0, rfl, ?_, hbel⟩
    rw [hrv.out]; exact Sl.none_
end Go.Proofs.Ytnpilfpackdimaa
/- Plain law: the tight blame that is left: the reference alike. -/
namespace Go.Proofs.Ytnpilfpackdimaa
theorem bk_revT (l : List Int) : (bkL l l.length).map (·.2) = l.reverse := by
  unfold bkL
  rw [List.map_map]
  apply List.ext_getElem (by simp)
  intro k h1 h2
  simp only [List.length_map, List.length_range] at h1
  simp only [List.getElem_map, List.getElem_range, Function.comp_apply, List.getElem_reverse]
  rw [List.getD_eq_getElem?_getD, List.getElem?_eq_getElem (by omega)]
  rfl
theorem tgS_rt {ls : List (List Int)} {b i : Nat} (h : b.testBit i = true) : tgS ls b (i : Int) = rtS ls b i := by
  unfold tgS rtS
  rw [Int.toNat_natCast, h, Bool.true_and]
  by_cases hm : missI ls (clr b i) < 0
  · rw [if_neg (by omega), decide_eq_true hm, if_pos rfl]
  · rw [if_pos (by omega), decide_eq_false hm, if_neg (by simp)]
    apply Nat.eq_of_testBit_eq
    intro j
    rw [Nat.testBit_or, clr_bit, Nat.testBit_two_pow]
    by_cases hj : j = i
    · subst hj; simp [h]
    · have : ¬ i = j := fun e => hj e.symm
      simp [hj, this]
theorem rtS_other {ls : List (List Int)} {b i j : Nat} (h : j ≠ i) : (rtS ls b i).testBit j = b.testBit j := by
  unfold rtS
  split
  · rw [clr_bit]; simp [h]
  · rfl
theorem rt_fold {ls : List (List Int)} (b0 : Nat) : ∀ (l : List Nat) (b : Nat), l.Nodup → (∀ i ∈ l, b.testBit i = b0.testBit i) → l.foldl (rtS ls) b = ((l.filter fun i => b0.testBit i).map fun i : Nat => (i : Int)).foldl (tgS ls) b
  | [], _, _, _ => rfl
  | i :: l, b, hn, hb => by
    obtain ⟨h1, h2⟩ := List.nodup_cons.1 hn
    have hi := hb i (by simp)
    have ih := rt_fold (ls := ls) b0 l (rtS ls b i) h2 (fun j hj => by rw [rtS_other (fun e : j = i => h1 (e ▸ hj))]; exact hb j (by simp [hj]))
    rw [List.foldl_cons, ih, List.filter_cons]
    cases h0 : b0.testBit i
    · rw [h0] at hi
      have : rtS ls b i = b := by unfold rtS; rw [hi]; rfl
      rw [this]; rfl
    · rw [h0] at hi
      rw [if_pos rfl, List.map_cons, List.foldl_cons, tgS_rt hi]
theorem rtD_fold (ls : List (List Int)) (I b : Nat) : ∀ d, d ≤ I → rtD ls I b d = ((List.range I).reverse.take d).foldl (rtS ls) b
  | 0, _ => rfl
  | d + 1, h => by
    have hg : (List.range I).reverse[d]? = some (I - 1 - d) := by
      rw [List.getElem?_reverse (by simp; omega)]
      simp only [List.length_range]
      rw [List.getElem?_range (by omega)]
    rw [List.take_add_one, hg, List.foldl_append, ← rtD_fold ls I b d (by omega)]; rfl
theorem listed_moreT {I x : Nat} (hx : x < 2 ^ I) : ∀ k, listed x (I + k) = listed x I
  | 0 => rfl
  | k + 1 => by
    rw [← Nat.add_assoc, listed_succ, listed_moreT hx k, Nat.testBit_lt_two_pow (Nat.lt_of_lt_of_le hx (Nat.pow_le_pow_right (by decide) (by omega)))]
    simp
theorem rtig_eq (I : Int) (ls : List (List Int)) (s : List Int) : rtigV I ls s = tigV I ls s := by
  unfold rtigV tigV
  by_cases h : blmE I ls s = 0
  · have hn : ¬ (blmE I ls s ≠ 0) := fun e => e h
    rw [if_neg hn, if_neg hn]
    obtain ⟨ho, -⟩ := blmE_good h
    obtain ⟨hc, hall⟩ := openE_good ho
    obtain ⟨J, rfl, hJ, -, hJ8, -, hv, hv8⟩ := book_nat hc
    have hs := hall s (List.mem_singleton.2 rfl)
    rw [hJ]
    have hrev : ((List.range J).reverse.filter fun i => (bitsL s).testBit i).map (fun i : Nat => (i : Int)) = s.reverse := by
      have := listed_bits hs
      unfold listed at this
      rw [List.filter_reverse, List.map_reverse, this]
    have e1 : rtD ls J (bitsL s) J = tgF ls s s.length := by
      unfold tgF
      rw [rtD_fold ls J _ J (Nat.le_refl _), List.take_of_length_le (by simp), rt_fold (bitsL s) _ _ ((List.reverse_perm _).nodup_iff.2 List.nodup_range) (fun _ _ => rfl), hrev, bk_revT]
    rw [e1]
    have hlt : tgF ls s s.length < 2 ^ J := by rw [← e1]; exact rtD_lt (bitsL_lt hs) J
    have := listed_moreT hlt (8 - J)
    rw [show J + (8 - J) = 8 by omega] at this
    exact this.symm
  · rw [if_pos h, if_pos h]
end Go.Proofs.Ytnpilfpackdimaa
