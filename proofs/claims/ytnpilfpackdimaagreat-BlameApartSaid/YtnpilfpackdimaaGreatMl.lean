/- Texts of the proof, laid together by program. -/
import Derived.ProofKit
import Derived.OpenShut
import Derived.Carry
import Derived.Deep.Slices
import Derived.Test.YtnpilfpackdimaaGreatMk
import Derived.Test.YtnpilfpackdimaaGreatRows
import Derived.Test.YtnpilfpackdimaaGreatMi
set_option linter.unusedSimpArgs false
set_option linter.unusedVariables false
/- Five and six parameters of a law; bounds of small kinds. -/
namespace Go.Proofs.YtnpilfpackdimaaGreat
open Go.ChangeShapes Go.WideShapes Go.ChangeAt Go.RowKit Go.Deep
section
variable {H : Type} {enc : TypeId × Value → H} {P : Program} {w : World} {base : Nat} {spare : Nat → Bool} {held : Bool}
theorem trodAll_five {t0 t1 t2 t3 t4 : TypeId} {args : Array Value} {ds : List (DataW H)} {ps : List MemPlace} (h : DataW.TrodAll enc P w base spare held [t0, t1, t2, t3, t4] args.toList ds ps) :
    ∃ v0 v1 v2 v3 v4 d0 d1 d2 d3 d4 p0 p1 p2 p3 p4, args = #[v0, v1, v2, v3, v4] ∧ ds = [d0, d1, d2, d3, d4] ∧ ps = p0 ++ p1 ++ p2 ++ p3 ++ p4 ∧ DataW.Trod enc P w base spare held t0 v0 d0 p0 ∧ DataW.Trod enc P w base spare held t1 v1 d1 p1 ∧ DataW.Trod enc P w base spare held t2 v2 d2 p2 ∧ DataW.Trod enc P w base spare held t3 v3 d3 p3 ∧ DataW.Trod enc P w base spare held t4 v4 d4 p4 := by
  obtain ⟨v0, vs0, d0, ds0, p0, q0, hargs, rfl, rfl, h0, r0⟩ := trodAll_cons h
  obtain ⟨v1, vs1, d1, ds1, p1, q1, rfl, rfl, rfl, h1, r1⟩ := trodAll_cons r0
  obtain ⟨v2, vs2, d2, ds2, p2, q2, rfl, rfl, rfl, h2, r2⟩ := trodAll_cons r1
  obtain ⟨v3, vs3, d3, ds3, p3, q3, rfl, rfl, rfl, h3, r3⟩ := trodAll_cons r2
  obtain ⟨v4, vs4, d4, ds4, p4, q4, rfl, rfl, rfl, h4, r4⟩ := trodAll_cons r3
  obtain ⟨rfl, rfl, rfl⟩ := trodAll_nil r4
  exact ⟨v0, v1, v2, v3, v4, d0, d1, d2, d3, d4, p0, p1, p2, p3, p4, by cases args; simp_all, rfl, by simp, h0, h1, h2, h3, h4⟩
theorem trodAll_six {t0 t1 t2 t3 t4 t5 : TypeId} {args : Array Value} {ds : List (DataW H)} {ps : List MemPlace} (h : DataW.TrodAll enc P w base spare held [t0, t1, t2, t3, t4, t5] args.toList ds ps) :
    ∃ v0 v1 v2 v3 v4 v5 d0 d1 d2 d3 d4 d5 p0 p1 p2 p3 p4 p5, args = #[v0, v1, v2, v3, v4, v5] ∧ ds = [d0, d1, d2, d3, d4, d5] ∧ ps = p0 ++ p1 ++ p2 ++ p3 ++ p4 ++ p5 ∧ DataW.Trod enc P w base spare held t0 v0 d0 p0 ∧ DataW.Trod enc P w base spare held t1 v1 d1 p1 ∧ DataW.Trod enc P w base spare held t2 v2 d2 p2 ∧ DataW.Trod enc P w base spare held t3 v3 d3 p3 ∧ DataW.Trod enc P w base spare held t4 v4 d4 p4 ∧ DataW.Trod enc P w base spare held t5 v5 d5 p5 := by
  obtain ⟨v0, vs0, d0, ds0, p0, q0, hargs, rfl, rfl, h0, r0⟩ := trodAll_cons h
  obtain ⟨v1, vs1, d1, ds1, p1, q1, rfl, rfl, rfl, h1, r1⟩ := trodAll_cons r0
  obtain ⟨v2, vs2, d2, ds2, p2, q2, rfl, rfl, rfl, h2, r2⟩ := trodAll_cons r1
  obtain ⟨v3, vs3, d3, ds3, p3, q3, rfl, rfl, rfl, h3, r3⟩ := trodAll_cons r2
  obtain ⟨v4, vs4, d4, ds4, p4, q4, rfl, rfl, rfl, h4, r4⟩ := trodAll_cons r3
  obtain ⟨v5, vs5, d5, ds5, p5, q5, rfl, rfl, rfl, h5, r5⟩ := trodAll_cons r4
  obtain ⟨rfl, rfl, rfl⟩ := trodAll_nil r5
  exact ⟨v0, v1, v2, v3, v4, v5, d0, d1, d2, d3, d4, d5, p0, p1, p2, p3, p4, p5, by cases args; simp_all, rfl, by simp, h0, h1, h2, h3, h4, h5⟩
end
theorem u8_bd {x : Int} (h : (Lit.int .u8 x).wf = true) : 0 ≤ x ∧ x ≤ 255 := by
  simp [Lit.wf, IntKind.min, IntKind.max, IntKind.signed, IntKind.bits] at h
  omega
theorem u16_bd {x : Int} (h : (Lit.int .u16 x).wf = true) : 0 ≤ x ∧ x ≤ 65535 := by
  simp [Lit.wf, IntKind.min, IntKind.max, IntKind.signed, IntKind.bits] at h
  omega
theorem u32_bd {x : Int} (h : (Lit.int .u32 x).wf = true) : 0 ≤ x ∧ x ≤ 4294967295 := by
  simp [Lit.wf, IntKind.min, IntKind.max, IntKind.signed, IntKind.bits] at h
  omega
end Go.Proofs.YtnpilfpackdimaaGreat
/- How the arguments of a law read: books, lists of lists, lists. -/
namespace Go.Proofs.YtnpilfpackdimaaGreat
open Go.ChangeShapes Go.WideShapes Go.ChangeAt Go.RowKit Go.Deep

section
variable {H : Type} {enc : TypeId × Value → H} {W : World}
theorem trod_int_cell {k : IntKind} {t : TypeId} (ht : Tryz.prog.underlying t = some (.int k)) {n : Nat} {cs : List Value} {x : DataW H × List MemPlace} (h : DataW.trod enc Tryz.prog W 0 (fun _ => true) true n t cs = some x) : ∃ z : Int, cs = [.int k z] ∧ (Lit.int k z).wf = true := by
  obtain ⟨z, h1, _, h2⟩ := DataW.trod_int ht h
  exact ⟨z, h1, h2⟩
theorem collect_elems {α : Type} {f : α → List Value} {s : Nat} {a : Addr} : ∀ k : Nat, (∀ i, i < k → ∃ y : α, ∀ j, j < s → W.cell? ((a.add (i * s)).add j) = (f y)[j]?) → ∃ l : List α, l.length = k ∧ ∀ i y, l[i]? = some y → ∀ j, j < s → W.cell? ((a.add (i * s)).add j) = (f y)[j]?
  | 0, _ => ⟨[], rfl, fun i y h => by simp at h⟩
  | k + 1, h => by
    obtain ⟨l, hl, hc⟩ := collect_elems k (fun i hi => h i (by omega))
    obtain ⟨y, hy⟩ := h k (by omega)
    refine ⟨l ++ [y], by simp [hl], fun i z hz => ?_⟩
    rcases Nat.lt_or_ge i l.length with hlt | hge
    · rw [List.getElem?_append_left hlt] at hz
      exact hc i z hz
    · rw [List.getElem?_append_right hge] at hz
      obtain rfl : i = k := by
        rcases Nat.lt_or_ge (i - l.length) 1 with h1 | h1
        · omega
        · rw [List.getElem?_eq_none (by simpa using h1)] at hz; cases hz
      rw [hl, Nat.sub_self] at hz
      obtain rfl : y = z := by simpa using hz
      exact hy
theorem open_raw {α : Type} {f : α → List Value} {s : Nat} (hs : 0 < s) (hf : ∀ y, (f y).length = s) {t e : TypeId} (ht : Tryz.prog.underlying t = some (.slice e)) (hC : Tryz.prog.cellsOf e = s)
    (rd : ∀ (n : Nat) cs (x : DataW H × List MemPlace), DataW.trod enc Tryz.prog W 0 (fun _ => true) true n e cs = some x → ∃ y, cs = f y) {fuel : Nat} {cs : List Value} {x : DataW H × List MemPlace}
    (hfu : DataW.trod enc Tryz.prog W 0 (fun _ => true) true fuel t cs = some x) : ∃ A n c, cs = [.slice A n c] ∧ n ≤ c ∧ (A = none → n = 0 ∧ c = 0) ∧ ∃ l : List α, l.length = n ∧ Sl W W.heap.size s A n (l.flatMap f) := by
  rcases open_slice ht hfu with ⟨e, _⟩ | ⟨a, len, cap, m, n', D, Pl, e, hb, hl, hm, hmm, hx, hi⟩
  · exact ⟨none, 0, 0, e, Nat.le_refl _, fun _ => ⟨rfl, rfl⟩, [], rfl, Sl.none_⟩
  · simp only [if_true] at hmm
    refine ⟨some a, len, cap, e, hl, (fun h => by cases h), ?_⟩
    clear e
    obtain ⟨n, rfl⟩ : ∃ n, n = len := ⟨_, rfl⟩
    obtain ⟨l, hll, hc⟩ := collect_elems (W := W) (f := f) (s := s) (a := a) n (fun i hi' => by
      obtain ⟨cs', hcs, htr⟩ := hi i (by omega)
      rw [hC] at hcs
      obtain ⟨y, rfl⟩ := rd _ _ _ htr
      obtain ⟨_, _, hat⟩ := World.cells?_some hcs
      exact ⟨y, hat⟩)
    refine ⟨l, hll, by rw [flat_len hf, hll], fun hn => ?_⟩
    obtain ⟨b, off, spot⟩ := a
    have h0 : l[0]? = some l[0] := List.getElem?_eq_getElem (by omega)
    have hc0 := hc 0 _ h0 0 hs
    have hv : (f l[0])[0]? = some ((f l[0])[0]'(by rw [hf]; exact hs)) := List.getElem?_eq_getElem _
    rw [hv] at hc0
    have hspot : spot = none := by simpa [Addr.add] using World.cell?_spot hc0
    subst hspot
    have hb' : b < W.heap.size := by
      have := World.block_lt_of_cell? W _ hc0
      simpa [Addr.add] using this
    refine ⟨b, off, rfl, hb', fun j u hu => ?_⟩
    have hj : j < l.length * s := by
      have := (List.getElem?_eq_some_iff.1 hu).1
      rwa [flat_len hf] at this
    have hq : j / s < l.length := (Nat.div_lt_iff_lt_mul hs).2 hj
    have hr : j % s < s := Nat.mod_lt _ hs
    have hlq : l[j / s]? = some l[j / s] := List.getElem?_eq_getElem hq
    have h1 := hc _ _ hlq _ hr
    have h2 := flat_at hf l (j / s) (j % s) _ hlq hr
    have e : j / s * s + j % s = j := by rw [Nat.mul_comm]; exact Nat.div_add_mod j s
    rw [e] at h2
    rw [← h2, hu] at h1
    rw [← h1, add_at, add_at, Nat.add_assoc, e]
theorem open_gen {α : Type} {f : α → List Value} {s : Nat} (hs : 0 < s) (hf : ∀ y, (f y).length = s) {t e : TypeId} (ht : Tryz.prog.underlying t = some (.slice e)) (hC : Tryz.prog.cellsOf e = s)
    (rd : ∀ (n : Nat) cs (x : DataW H × List MemPlace), DataW.trod enc Tryz.prog W 0 (fun _ => true) true n e cs = some x → ∃ y, cs = f y) {A : Option Addr} {n c : Nat} {d : DataW H} {p : List MemPlace}
    (h : DataW.Trod enc Tryz.prog W 0 (fun _ => true) true t (.slice A n c) d p) : n ≤ c ∧ ∃ l : List α, l.length = n ∧ Sl W W.heap.size s A n (l.flatMap f) := by
  obtain ⟨fuel, hfu⟩ := h
  obtain ⟨A', n', c', e, h1, -, h2⟩ := open_raw hs hf ht hC rd hfu
  simp [Value.cells] at e
  obtain ⟨rfl, rfl, rfl⟩ := e
  exact ⟨h1, h2⟩
theorem open_is {k : IntKind} {t e : TypeId} (ht : Tryz.prog.underlying t = some (.slice e)) (he : Tryz.prog.underlying e = some (.int k)) (hC : Tryz.prog.cellsOf e = 1) {A : Option Addr} {n c : Nat} {d : DataW H} {p : List MemPlace}
    (h : DataW.Trod enc Tryz.prog W 0 (fun _ => true) true t (.slice A n c) d p) : n ≤ c ∧ ∃ l : List { z : Int // (Lit.int k z).wf = true }, l.length = n ∧ Sl W W.heap.size 1 A n (l.flatMap fun x => [.int k x.1]) :=
  open_gen (α := { z : Int // (Lit.int k z).wf = true }) (f := fun x => [.int k x.1]) (s := 1) (by omega) (fun _ => rfl) ht hC (fun _ _ _ h => by obtain ⟨z, h1, h2⟩ := trod_int_cell he h; exact ⟨⟨z, h2⟩, h1⟩) h
theorem open_ins {t e : TypeId} (ht : Tryz.prog.underlying t = some (.slice e)) (he : Tryz.prog.underlying e = some (.int .i64)) (hC : Tryz.prog.cellsOf e = 1) {A : Option Addr} {n c : Nat} {d : DataW H} {p : List MemPlace}
    (h : DataW.Trod enc Tryz.prog W 0 (fun _ => true) true t (.slice A n c) d p) : n ≤ c ∧ ∃ l : List Int, l.length = n ∧ InS W W.heap.size A n l := by
  obtain ⟨h1, l, h2, h3⟩ := open_is ht he hC h
  refine ⟨h1, l.map (·.1), by simp [h2], ?_⟩
  unfold InS
  rw [List.flatMap_map]
  exact h3
theorem trod_ins {n : Nat} {cs : List Value} {x : DataW H × List MemPlace} (h : DataW.trod enc Tryz.prog W 0 (fun _ => true) true n 25 cs = some x) : ∃ A m c, cs = [.slice A m c] ∧ ∃ l : List Int, InS W W.heap.size A m l := by
  obtain ⟨A, m, c, e, _, _, l, h2, h3⟩ := open_raw (α := Int) (f := fun z => [.int .i64 z]) (s := 1) (by omega) (fun _ => rfl) Tryz.underlying25 (by kernel_rfl) (fun _ _ _ h => by obtain ⟨z, h1, _⟩ := trod_int_cell Tryz.underlying3 h; exact ⟨z, h1⟩) h
  exact ⟨A, m, c, e, l, h3⟩
/-- An inner list: its slice and what it reads as. -/
structure Inn (W : World) where
  A : Option Addr
  m : Nat
  c : Nat
  l : List Int
  h : InS W W.heap.size A m l
theorem inns_lis {l : List (Inn W)} {A : Option Addr} {n : Nat} (h2 : l.length = n) (h3 : Sl W W.heap.size 1 A n (l.flatMap fun x => [.slice x.A x.m x.c])) : LiS W W.heap.size A n (l.map (·.l)) := by
  refine ⟨by simp [h2], l.map fun x => .slice x.A x.m x.c, ?_, fun k y hy => ?_⟩
  · rw [show l.map (fun x => Value.slice x.A x.m x.c) = l.flatMap fun x => [.slice x.A x.m x.c] from (by clear h2 h3; induction l with | nil => rfl | cons a l ih => simp [ih])]
    exact h3
  · rw [List.getElem?_map] at hy
    cases hk : l[k]? with
    | none => rw [hk] at hy; cases hy
    | some x =>
      rw [hk] at hy
      obtain rfl : x.l = y := by simpa using hy
      exact ⟨x.A, x.m, x.c, by rw [List.getElem?_map, hk]; rfl, x.h⟩
theorem open_lis {A : Option Addr} {n c : Nat} {d : DataW H} {p : List MemPlace} (h : DataW.Trod enc Tryz.prog W 0 (fun _ => true) true 22 (.slice A n c) d p) : n ≤ c ∧ ∃ ls : List (List Int), ls.length = n ∧ LiS W W.heap.size A n ls := by
  obtain ⟨h1, l, h2, h3⟩ := open_gen (α := Inn W) (f := fun x => [.slice x.A x.m x.c]) (s := 1) (by omega) (fun _ => rfl) Tryz.underlying22 (by kernel_rfl) (fun _ _ _ h => by obtain ⟨A, m, c, e, l, hl⟩ := trod_ins h; exact ⟨⟨A, m, c, l, hl⟩, e⟩) h
  exact ⟨h1, l.map (·.l), by simp [h2], inns_lis h2 h3⟩
theorem trod_lis {n : Nat} {cs : List Value} {x : DataW H × List MemPlace} (h : DataW.trod enc Tryz.prog W 0 (fun _ => true) true n 22 cs = some x) : ∃ A m c, cs = [.slice A m c] ∧ m ≤ c ∧ (A = none → m = 0 ∧ c = 0) ∧ ∃ ls : List (List Int), ls.length = m ∧ LiS W W.heap.size A m ls := by
  obtain ⟨A, m, c, e, h1, hN, l, h2, h3⟩ := open_raw (α := Inn W) (f := fun x => [.slice x.A x.m x.c]) (s := 1) (by omega) (fun _ => rfl) Tryz.underlying22 (by kernel_rfl) (fun _ _ _ h => by obtain ⟨A, m, c, e, l, hl⟩ := trod_ins h; exact ⟨⟨A, m, c, l, hl⟩, e⟩) h
  exact ⟨A, m, c, e, h1, hN, l.map (·.l), by simp [h2], inns_lis h2 h3⟩
theorem trod_bk {n : Nat} {cs : List Value} {x : DataW H × List MemPlace} (h : DataW.trod enc Tryz.prog W 0 (fun _ => true) true n 24 cs = some x) : ∃ (I : Int) (A : Option Addr) (m c : Nat), cs = [.int .i64 I, .slice A m c] ∧ (Lit.int .i64 I).wf = true ∧ m ≤ c ∧ (A = none → m = 0 ∧ c = 0) ∧ ∃ ls : List (List Int), ls.length = m ∧ LiS W W.heap.size A m ls := by
  obtain ⟨xs, m, _, _, hl, hx, hf⟩ := DataW.trod_struct Tryz.underlying24 h
  have hc : Tryz.prog.cellsOf 24 = 2 := by kernel_rfl
  have hc2 : Tryz.prog.cellsOf 3 = 1 := by kernel_rfl
  have hc3 : Tryz.prog.cellsOf 22 = 1 := by kernel_rfl
  rw [hc] at hl
  have h0 : DataW.trod enc Tryz.prog W 0 (fun _ => true) true m 3 ((cs.drop 0).take (Tryz.prog.cellsOf 3)) = xs[0]? := hf 0 _ rfl
  have h1 : DataW.trod enc Tryz.prog W 0 (fun _ => true) true m 22 ((cs.drop 1).take (Tryz.prog.cellsOf 22)) = xs[1]? := hf 1 _ rfl
  rw [hc2] at h0
  rw [hc3] at h1
  rcases cs with _ | ⟨a, _ | ⟨b, _ | ⟨c, l⟩⟩⟩ <;> simp at hl
  have hx0 : xs[0]? = some (xs[0]'(by rw [hx]; decide)) := List.getElem?_eq_getElem _
  have hx1 : xs[1]? = some (xs[1]'(by rw [hx]; decide)) := List.getElem?_eq_getElem _
  obtain ⟨z0, e0, hw⟩ := trod_int_cell (k := .i64) Tryz.underlying3 (h0.trans hx0)
  obtain ⟨A, q, c, e1, hq, hN, ls, hls, hli⟩ := trod_lis (h1.trans hx1)
  simp at e0 e1
  exact ⟨z0, A, q, c, by rw [e0, e1], hw, hq, hN, ls, hls, hli⟩
set_option maxRecDepth 100000 in
theorem open_book {v : Value} {r : Reach} {b0 : Nat} {d : DataW H} {p : List MemPlace} (hv : Value.okWide Tryz.prog W r b0 24 v) (h : DataW.Trod enc Tryz.prog W 0 (fun _ => true) true 24 v d p) : ∃ (I : Int) (A : Option Addr) (m c : Nat), v = .agg #[.int .i64 I, .slice A m c] ∧ (Lit.int .i64 I).wf = true ∧ m ≤ c ∧ (A = none → m = 0 ∧ c = 0) ∧ ∃ ls : List (List Int), ls.length = m ∧ LiS W W.heap.size A m ls := by
  have hw := okWide_struct Tryz.underlying24 hv
  refine hw.elim fun cs e => ?_
  have e1 := e.1
  clear e hw
  subst e1
  refine Exists.elim h fun fuel hf => ?_
  obtain ⟨I, A, m, c, hq, hr⟩ := trod_bk hf
  refine ⟨I, A, m, c, ?_, hr⟩
  have e2 : cs.toList = [.int .i64 I, .slice A m c] := hq
  rw [← Array.toArray_toList (xs := cs), e2]
/-- The arguments read behind the call as they did. -/
theorem all_below {P : Program} (hl : laidOutB P = true) {W' : World} (hb : Below W.heap.size W W') : ∀ {ts : List TypeId} {vs : List Value} {ds : List (DataW H)} {ps : List MemPlace}, (∀ t ∈ ts, P.readableRec t = true ∧ t < P.types.size) → (∀ x ∈ ps, x.block < W.heap.size) →
    DataW.TrodAll enc P W 0 (fun _ => true) true ts vs ds ps → DataW.TrodAll enc P W' 0 (fun b => decide (b < W.heap.size)) true ts vs ds ps
  | [], vs, ds, ps, _, _, h => by
    obtain ⟨rfl, rfl, rfl⟩ := trodAll_nil h
    exact trodAll_mk0
  | t :: ts, vs, ds, ps, hr, hlt, h => by
    obtain ⟨v, vs', d, ds', p, p', rfl, rfl, rfl, h1, h2⟩ := trodAll_cons h
    obtain ⟨r1, r2⟩ := hr t (by simp)
    exact trodAll_cons_mk (Below.trod hl r1 r2 h1 hb (fun x hx => hlt x (by simp [hx]))) (all_below hl hb (fun t ht => hr t (by simp [ht])) (fun x hx => hlt x (by simp [hx])) h2)
theorem readable_of {P : Program} {ts : List TypeId} (h : (ts.all fun t => P.readableRec t && decide (t < P.types.size)) = true) : ∀ t ∈ ts, P.readableRec t = true ∧ t < P.types.size := fun t ht => by
  have := List.all_eq_true.1 h t ht
  simpa using this
theorem ownKx : ownKnob Tryz.prog.godebug = none := by kernel_rfl
end
end Go.Proofs.YtnpilfpackdimaaGreat
/- Plain: lengths of the answers. -/
namespace Go.Proofs.YtnpilfpackdimaaGreat
theorem mem_outL {I : Nat} {ls : List (List Int)} {l : List Int} : ∀ k, l ∈ outL I ls k → ∃ x, x < k ∧ l = listed x I ∧ rtB I ls x = true
  | 0, h => by simp [outL] at h
  | k + 1, h => by
    rw [outL_succ] at h
    rcases List.mem_append.1 h with h1 | h1
    · obtain ⟨x, hx, e, hr⟩ := mem_outL k h1
      exact ⟨x, by omega, e, hr⟩
    · split at h1
      · rename_i hr
        exact ⟨k, by omega, by simpa using h1, hr⟩
      · simp at h1
theorem allR_mem {I : Nat} {ls : List (List Int)} {l : List Int} (hI : I ≤ 8) (h : l ∈ allR I ls) : l.length ≤ 8 := by
  unfold allR at h
  obtain ⟨x, -, e, -⟩ := mem_outL _ (mem_sortL.1 h)
  rw [e]
  exact Nat.le_trans (listed_len _ _) hI
theorem book_toNat {I : Int} {ls : List (List Int)} (h : chkBook I ls = 0) : I.toNat ≤ 8 := by
  obtain ⟨J, -, e, -, h8, -⟩ := book_nat h; rw [e]; exact h8
theorem ralV_len (I : Int) (ls : List (List Int)) : (ralV I ls).length ≤ 1000000 ∧ ∀ l ∈ ralV I ls, l.length ≤ 8 := by
  unfold ralV
  split
  · simp
  · rename_i h
    have h0 : chkBook I ls = 0 := by omega
    have h8 := book_toNat h0
    exact ⟨Nat.le_trans (allR_len ls h8) (by omega), fun l hl => allR_mem h8 hl⟩
theorem rblV_mem {I : Int} {ls : List (List Int)} (h : rblE I ls = 0) : chkBook I ls = 0 ∧ (allR I.toNat ls).length ≠ 0 ∧ rblV I ls = minL (allR I.toNat ls) ∧ rblV I ls ∈ allR I.toNat ls := by
  unfold rblE at h
  split at h
  · rename_i h1; exact absurd h h1
  · rename_i h1
    have h0 : chkBook I ls = 0 := by omega
    split at h
    · cases h
    · rename_i h2
      have hv : rblV I ls = minL (allR I.toNat ls) := by unfold rblV; rw [if_neg h1, if_neg h2]
      refine ⟨h0, h2, hv, ?_⟩
      rw [hv]
      exact (minL_least (allR_srt (book_toNat h0)) (fun e => h2 (by rw [e]; rfl))).1
theorem rblV_len (I : Int) (ls : List (List Int)) : (rblV I ls).length ≤ 8 := by
  by_cases h : rblE I ls = 0
  · obtain ⟨h0, -, -, hm⟩ := rblV_mem h
    exact allR_mem (book_toNat h0) hm
  · unfold rblE at h
    unfold rblV
    split
    · simp
    · split
      · simp
      · rename_i h1 h2; rw [if_neg h1, if_neg h2] at h; exact absurd rfl h
theorem rapV_len (I : Int) (ls : List (List Int)) : (rapV I ls).length ≤ ls.length := by
  unfold rapV
  split
  · simp
  · exact bstR_len ls _
theorem lisE_book {I : Int} {ls ss : List (List Int)} (h : lisE I ls ss = 0) : chkBook I ls = 0 := by
  unfold lisE at h
  split at h
  · rename_i h1; exact absurd h h1
  · omega
theorem rfoV_len (I : Int) (ls ss : List (List Int)) : (rfoV I ls ss).length ≤ 8 := by
  unfold rfoV
  split
  · simp
  · rename_i h
    have h0 : lisE I ls ss = 0 := by omega
    cases hf : rfoO I ls ss with
    | none => simp
    | some l => exact allR_mem (book_toNat (lisE_book h0)) (List.mem_of_find?_eq_some hf)
theorem rcrV_len (I : Int) (ls : List (List Int)) (hn : ls.length ≤ 1000000) : (rcrV I ls).length ≤ 1000000 ∧ ∀ l ∈ rcrV I ls, l.length ≤ 8 := by
  unfold rcrV
  split
  · simp
  · rename_i h
    have h0 : chkBook I ls = 0 := by omega
    obtain ⟨J, -, -, -, -, -, -, hv⟩ := book_nat h0
    unfold coreR
    refine ⟨?_, fun l hl => ?_⟩
    · rw [sortL_len]
      unfold coreL
      rw [List.length_map]
      exact Nat.le_trans (List.length_filter_le _ _) (by simpa using hn)
    · obtain ⟨k, hk, -, e⟩ := mem_coreL.1 (mem_sortL.1 hl)
      have := isL_len8 (hv l (e ▸ getD_mem hk)) (by omega)
      omega
end Go.Proofs.YtnpilfpackdimaaGreat
/- Lengths of the answers; the reading of lists that a reference returns. -/
namespace Go.Proofs.YtnpilfpackdimaaGreat
open Go.RowKit
theorem lis_of_lw {w' : World} {base : Nat} {P : Nat → Prop} {v : Value} {ls : List (List Int)} (h : NewLw w' base P v ls) : ∃ A c, v = .slice A ls.length c ∧ LiS w' w'.heap.size A ls.length ls := by
  obtain ⟨A, c, e, h1, -⟩ := h.liq
  exact ⟨A, c, e, h1.lis⟩
theorem u64_bd {x : Int} (h : (Lit.int .u64 x).wf = true) : 0 ≤ x ∧ x < 2 ^ 64 := by
  simp [Lit.wf, IntKind.min, IntKind.max, IntKind.signed, IntKind.bits] at h
  omega
theorem toB {P : Program} {f : FuncId} {args : Array Value} {w : World} {v : Ending} (h : Calls P f args w fun e w' => e = v ∧ w = w') : Calls P f args w fun e w' => e = v ∧ Below w.heap.size w w' := h.mono fun _ _ h => ⟨h.1, h.2 ▸ Below.refl _ _⟩
/-- A slice's block is there. -/
def LtA (w : World) (B : Nat) (A : Option Addr) : Prop := ∀ b off, A = some ⟨b, off, none⟩ → b < B
theorem LtA.below {w w' : World} {A : Option Addr} (h : LtA w w.heap.size A) (_ : Below w.heap.size w w') (hs : w.heap.size ≤ w'.heap.size) : LtA w' w'.heap.size A := fun b off e => Nat.lt_of_lt_of_le (h b off e) hs
theorem own_slb {w : World} {base : Nat} {e : TypeId} {size : Nat} {v : Value} {n : Nat} {xs : List Value} (h : w.ownsRow base e size v n xs) : ∃ A c, v = .slice A n c ∧ Sl w w.heap.size size A n xs ∧ n ≤ c ∧ LtA w w.heap.size A := by
  obtain ⟨A, c, rfl, hs⟩ := sl_of_owns h
  refine ⟨A, c, rfl, hs, ?_, fun b off e => ?_⟩
  · obtain ⟨-, ⟨h1, rfl⟩ | ⟨g, cap, cur, h1, -, -, h2, -⟩⟩ := h
    · omega
    · cases h1; exact h2
  · obtain ⟨-, ⟨h1, rfl⟩ | ⟨g, cap, cur, h1, -, hg, h2, -⟩⟩ := h
    · cases h1; cases e
    · cases h1; cases e; exact (Array.getElem?_eq_some_iff.1 hg).1
end Go.Proofs.YtnpilfpackdimaaGreat
/- Walks (law): few. -/
namespace Go.Proofs.YtnpilfpackdimaaGreat
open Go.RowKit Go.Shelf
attribute [local go_sem] Oper.semAt_some
def fwV (I : Int) (ls : List (List Int)) : Int := if bestE I ls ≠ 0 then 0 else (bestV I ls).length
def fwIs (I : Int) (ls : List (List Int)) : Bool := bestE I ls == 0
def fwOk (I : Int) (ls : List (List Int)) : Bool := if bestE I ls ≠ 0 then (bestE I ls == 21 && (bestV I ls).length == 0) else (rtgE I ls (bestV I ls) == 0 && rtgV I ls (bestV I ls) == (bestV I ls).length)
set_option maxRecDepth 100000 in
set_option maxHeartbeats 1600000 in
theorem few_any (A : Option Addr) (n c : Nat) (ls : List (List Int)) (I : Int) (w : World) (hl : LiS w w.heap.size A n ls) (hn : n ≤ 1000000) (hw : ∀ l ∈ ls, l.length ≤ 1000000) (hbl : (bestV I ls).length ≤ 1000000) :
    Calls Tryz.prog 41 #[.agg #[.int .i64 I, .slice A n c]] w fun e w' => e = .returned (.tuple #[.int .i64 (fwV I ls), .bool (fwIs I ls), .bool (fwOk I ls)]) ∧ Below w.heap.size w w' := by
  have HL := hid hl
  have HF := hid (fun w h => fewest_any A n c ls I w h hn hw)
  have HB := hid (fun w h => blame_any A n c ls I w h hn hw)
  have HT := hid (fun (B : Option Addr) (m d : Nat) (s : List Int) w h h2 hm => rcheckTight_any A B n c m d ls s I w h h2 hn hw hm)
  have hb0 : Below w.heap.size w (w.alloc (.cells #[.int .i64 I, .slice A n c] 24)) := (Below.refl _ _).alloc (Nat.le_refl _) _
  have hfe : Hid (fewE I ls = bestE I ls) := hid rfl
  have hfv : Hid (fewV I ls = (bestV I ls).length) := hid rfl
  rw [hfe.out, hfv.out] at HF
  obtain ⟨L, hL⟩ : ∃ L, bestV I ls = L := ⟨_, rfl⟩
  clear hl hw hfe hfv
  by_cases he : bestE I ls = 0
  · have hv : Hid (fwV I ls = L.length) := hid (by unfold fwV; rw [if_neg (by simpa using he), hL])
    have hvi : Hid (fwIs I ls = true) := hid (by unfold fwIs; simp [he])
    have hvo : Hid (fwOk I ls = (rtgE I ls L == 0 && rtgV I ls L == L.length)) := hid (by unfold fwOk; rw [if_neg (by simpa using he), hL])
    rw [hL, he] at HF HB
    rw [hL] at hbl
    have HTL := hid (fun B m d w h h2 hm => HT.out B m d L w h h2 hm)
    obtain ⟨te, hte⟩ : ∃ te, rtgE I ls L = te := ⟨_, rfl⟩
    obtain ⟨tv, htv⟩ : ∃ tv, rtgV I ls L = tv := ⟨_, rfl⟩
    rw [hte, htv] at HTL hvo
    clear he hL hte htv
    go_enter Tryz.func41, Tryz.ntmps41
    go_wp2_with (fail)
    refine (HF.out _ (HL.out.below hb0 hb0.size)).mono ?_
    rintro e w1 ⟨rfl, hb1⟩
    have hbel : Below w.heap.size w w1 := Below.trans (by repeat' (first | with_reducible assumption | with_reducible exact Below.refl _ _ | refine Below.alloc ?_ ?_ _ | refine Below.setCell ?_ ?_ _ | refine Below.drew ?_ | refine below_drewN ?_ _ | (simp; done) | (simp; omega) | omega)) (hb1.mono (by first | (simp; done) | (simp; omega) | omega))
    have c0 : w1.cell? ⟨w.heap.size, 0, none⟩ = some (.int .i64 I) := (hb1.cell (p := ⟨w.heap.size, 0, none⟩) (by first | (simp; done) | (simp; omega) | omega)).trans (by go_simp)
    have c1 : w1.cell? ⟨w.heap.size, 1, none⟩ = some (.slice A n c) := (hb1.cell (p := ⟨w.heap.size, 1, none⟩) (by first | (simp; done) | (simp; omega) | omega)).trans (by go_simp)
    have hq0 : w.heap.size < w1.heap.size := (by have := hb1.size; simp at this; omega)
    clear hb1 hb0
    go_wp2_with (fail)
    refine (HB.out _ (HL.out.below hbel hbel.size)).mono ?_
    rintro e w2 ⟨A2, m2, c2, rfl, hin2, hb2⟩
    have hbe2 := hbel.trans (hb2.mono hbel.size)
    have d0 := (hb2.cell (p := ⟨w.heap.size, 0, none⟩) hq0).trans c0
    have d1 := (hb2.cell (p := ⟨w.heap.size, 1, none⟩) hq0).trans c1
    have hq2 := Nat.lt_of_lt_of_le hq0 hb2.size
    have hlen2 : L.length = m2 := hin2.len
    rw [hlen2] at hv hvo hbl ⊢
    have HI2 := hid hin2
    clear hb2 c0 c1 hin2 hlen2
    go_wp2_with (fail)
    refine (HTL.out A2 m2 c2 _ (HL.out.below hbe2 hbe2.size) HI2.out hbl).mono ?_
    rintro e w3 ⟨rfl, hb3⟩
    have hbe3 := hbe2.trans (hb3.mono hbe2.size)
    clear d0 d1
    by_cases h1 : te = 0
    · have h1b : (te == 0) = true := by simpa using h1
      by_cases h2 : tv = m2
      · have h2b : (tv == (m2 : Int)) = true := by simpa using h2
        rw [h1b, h2b] at hvo
        clear h1 h2
        go_wp2
        refine bodyPost_ret (v := .tuple #[.int .i64 (m2 : Int), .bool true, .bool true]) (by first | (simp [results, Tryz.results41, go_sem]; done) | (simp [results, Tryz.results41, go_sem, *]; done) | (simp [results, Tryz.results41, go_sem, World.cell?_setCell_same', *]; done) | (simp [results, Tryz.results41, go_sem]; first | exact ⟨rfl, rfl⟩ | rfl)) rfl ⟨by rw [hv.out, hvi.out, hvo.out]; rfl, hbe3⟩
      · have h2b : (tv == (m2 : Int)) = false := by simpa using h2
        rw [h1b, h2b] at hvo
        clear h1 h2
        go_wp2
        refine bodyPost_ret (v := .tuple #[.int .i64 (m2 : Int), .bool true, .bool false]) (by first | (simp [results, Tryz.results41, go_sem]; done) | (simp [results, Tryz.results41, go_sem, *]; done) | (simp [results, Tryz.results41, go_sem, World.cell?_setCell_same', *]; done) | (simp [results, Tryz.results41, go_sem]; first | exact ⟨rfl, rfl⟩ | rfl)) rfl ⟨by rw [hv.out, hvi.out, hvo.out]; rfl, hbe3⟩
    · have h1b : (te == 0) = false := by simpa using h1
      rw [h1b] at hvo
      clear h1
      go_wp2
      refine bodyPost_ret (v := .tuple #[.int .i64 (m2 : Int), .bool true, .bool false]) (by first | (simp [results, Tryz.results41, go_sem]; done) | (simp [results, Tryz.results41, go_sem, *]; done) | (simp [results, Tryz.results41, go_sem, World.cell?_setCell_same', *]; done) | (simp [results, Tryz.results41, go_sem]; first | exact ⟨rfl, rfl⟩ | rfl)) rfl ⟨by rw [hv.out, hvi.out, hvo.out]; rfl, hbe3⟩
  · have hv : Hid (fwV I ls = 0) := hid (by unfold fwV; rw [if_pos he])
    have hvi : Hid (fwIs I ls = false) := hid (by unfold fwIs; simpa using he)
    have hvo : Hid (fwOk I ls = (bestE I ls == 21 && L.length == 0)) := hid (by unfold fwOk; rw [if_pos he, hL])
    rw [hL] at HF HB hbl
    obtain ⟨ev, hev⟩ : ∃ ev, bestE I ls = ev := ⟨_, rfl⟩
    rw [hev] at HF HB hvo he
    have hbi : (ev != 0) = true := by simpa using he
    clear hev hL
    go_enter Tryz.func41, Tryz.ntmps41
    go_wp2_with (fail)
    refine (HF.out _ (HL.out.below hb0 hb0.size)).mono ?_
    rintro e w1 ⟨rfl, hb1⟩
    have hbel : Below w.heap.size w w1 := Below.trans (by repeat' (first | with_reducible assumption | with_reducible exact Below.refl _ _ | refine Below.alloc ?_ ?_ _ | refine Below.setCell ?_ ?_ _ | refine Below.drew ?_ | refine below_drewN ?_ _ | (simp; done) | (simp; omega) | omega)) (hb1.mono (by first | (simp; done) | (simp; omega) | omega))
    have c0 : w1.cell? ⟨w.heap.size, 0, none⟩ = some (.int .i64 I) := (hb1.cell (p := ⟨w.heap.size, 0, none⟩) (by first | (simp; done) | (simp; omega) | omega)).trans (by go_simp)
    have c1 : w1.cell? ⟨w.heap.size, 1, none⟩ = some (.slice A n c) := (hb1.cell (p := ⟨w.heap.size, 1, none⟩) (by first | (simp; done) | (simp; omega) | omega)).trans (by go_simp)
    have hq0 : w.heap.size < w1.heap.size := (by have := hb1.size; simp at this; omega)
    clear hb1 hb0
    go_wp2_with (fail)
    refine (HB.out _ (HL.out.below hbel hbel.size)).mono ?_
    rintro e w2 ⟨A2, m2, c2, rfl, hin2, hb2⟩
    have hbe2 := hbel.trans (hb2.mono hbel.size)
    have hlen2 : L.length = m2 := hin2.len
    rw [hlen2] at hvo hbl ⊢
    clear hb2 c0 c1 hin2 hlen2
    by_cases h1 : ev = 21
    · have h1b : (ev == 21) = true := by simpa using h1
      by_cases h2 : m2 = 0
      · have h2b : (m2 == 0) = true := by simpa using h2
        have h2j : (m2 : Int) = 0 := by omega
        have h2c : ((m2 : Int) == 0) = true := beq_iff_eq.2 h2j
        rw [h1b, h2b] at hvo
        clear h1 h2 h2j
        go_wp2
        refine bodyPost_ret (v := .tuple #[.int .i64 0, .bool false, .bool true]) (by first | (simp [results, Tryz.results41, go_sem]; done) | (simp [results, Tryz.results41, go_sem, *]; done) | (simp [results, Tryz.results41, go_sem, World.cell?_setCell_same', *]; done) | (simp [results, Tryz.results41, go_sem]; first | exact ⟨rfl, rfl⟩ | rfl)) rfl ⟨by rw [hv.out, hvi.out, hvo.out]; rfl, hbe2⟩
      · have h2b : (m2 == 0) = false := by simpa using h2
        have h2j : ¬ (m2 : Int) = 0 := by omega
        have h2c : ((m2 : Int) == 0) = false := beq_eq_false_iff_ne.2 h2j
        rw [h1b, h2b] at hvo
        clear h1 h2 h2j
        go_wp2
        refine bodyPost_ret (v := .tuple #[.int .i64 0, .bool false, .bool false]) (by first | (simp [results, Tryz.results41, go_sem]; done) | (simp [results, Tryz.results41, go_sem, *]; done) | (simp [results, Tryz.results41, go_sem, World.cell?_setCell_same', *]; done) | (simp [results, Tryz.results41, go_sem]; first | exact ⟨rfl, rfl⟩ | rfl)) rfl ⟨by rw [hv.out, hvi.out, hvo.out]; rfl, hbe2⟩
    · have h1b : (ev == 21) = false := by simpa using h1
      rw [h1b] at hvo
      clear h1
      go_wp2
      refine bodyPost_ret (v := .tuple #[.int .i64 0, .bool false, .bool false]) (by first | (simp [results, Tryz.results41, go_sem]; done) | (simp [results, Tryz.results41, go_sem, *]; done) | (simp [results, Tryz.results41, go_sem, World.cell?_setCell_same', *]; done) | (simp [results, Tryz.results41, go_sem]; first | exact ⟨rfl, rfl⟩ | rfl)) rfl ⟨by rw [hv.out, hvi.out, hvo.out]; rfl, hbe2⟩
end Go.Proofs.YtnpilfpackdimaaGreat
/- Walks (law): all. -/
namespace Go.Proofs.YtnpilfpackdimaaGreat
open Go.RowKit Go.Shelf
attribute [local go_sem] Oper.semAt_some
def alk1 (I : Int) (ls L : List (List Int)) (k : Nat) : Bool := rtgE I ls (L.getD k []) == 0 && (k == 0 || before (L.getD (k - 1) []) (L.getD k []))
def alK (I : Int) (ls : List (List Int)) : Bool := chkBook I ls == 0 && !wideL (allV I ls) && (List.range (allV I ls).length).all (alk1 I ls (allV I ls))
def alL (I : Int) (ls : List (List Int)) : List (List Int) := if alK I ls then allV I ls else []
theorem lis_nil' (w : World) : LiS w w.heap.size none 0 [] := lis_nil _ _
set_option maxRecDepth 100000 in
set_option maxHeartbeats 4000000 in
theorem allL_any (A : Option Addr) (n c : Nat) (ls : List (List Int)) (I : Int) (w : World) (hl : LiS w w.heap.size A n ls) (hn : n ≤ 1000000) (hw : ∀ l ∈ ls, l.length ≤ 1000000) :
    Calls Tryz.prog 45 #[.agg #[.int .i64 I, .slice A n c]] w fun e w' => ∃ A' m' c', e = .returned (.tuple #[.slice A' m' c', .bool (alK I ls)]) ∧ LiS w' w'.heap.size A' m' (alL I ls) ∧ Below w.heap.size w w' := by
  have HL := hid hl
  have HA := hid (fun w h => allF_any A n c ls I w h hn hw)
  have HT := hid (fun (B : Option Addr) (m d : Nat) (s : List Int) w h h2 hm => rcheckTight_any A B n c m d ls s I w h h2 hn hw hm)
  have hb0 : Below w.heap.size w (w.alloc (.cells #[.int .i64 I, .slice A n c] 24)) := (Below.refl _ _).alloc (Nat.le_refl _) _
  have hK : Hid (alK I ls = (chkBook I ls == 0 && !wideL (allV I ls) && (List.range (allV I ls).length).all (alk1 I ls (allV I ls)))) := hid rfl
  have hAL : Hid (alL I ls = if alK I ls then allV I ls else []) := hid rfl
  obtain ⟨L, hL⟩ : ∃ L, allV I ls = L := ⟨_, rfl⟩
  obtain ⟨ev, hev⟩ : ∃ ev, chkBook I ls = ev := ⟨_, rfl⟩
  rw [hL, hev] at hK
  rw [hL] at hAL
  rw [hL, hev] at HA
  clear hl hw hL hev
  by_cases he : ev = 0
  · subst he
    go_enter Tryz.func45, Tryz.ntmps45
    go_wp2_with (fail)
    refine (HA.out _ (HL.out.below hb0 hb0.size)).mono ?_
    rintro e w1 ⟨A7, m7, c7, rfl, hi7, hb1⟩
    have hbel : Below w.heap.size w w1 := Below.trans (by repeat' (first | with_reducible assumption | with_reducible exact Below.refl _ _ | refine Below.alloc ?_ ?_ _ | refine Below.setCell ?_ ?_ _ | refine Below.drew ?_ | refine below_drewN ?_ _ | (simp; done) | (simp; omega) | omega)) (hb1.mono (by first | (simp; done) | (simp; omega) | omega))
    have c0 : w1.cell? ⟨w.heap.size, 0, none⟩ = some (.int .i64 I) := (hb1.cell (p := ⟨w.heap.size, 0, none⟩) (by first | (simp; done) | (simp; omega) | omega)).trans (by go_simp)
    have c1 : w1.cell? ⟨w.heap.size, 1, none⟩ = some (.slice A n c) := (hb1.cell (p := ⟨w.heap.size, 1, none⟩) (by first | (simp; done) | (simp; omega) | omega)).trans (by go_simp)
    have hq0 : w.heap.size < w1.heap.size := (by have := hb1.size; simp at this; omega)
    have hlis := hid hi7.lis
    have hwd := hid (wide_any A7 m7 c7 L w1 hi7.lis)
    clear hb1 hb0 hi7
    cases hwl : wideL L
    · obtain ⟨k1, k2⟩ := wide_off hwl
      have hLm : Hid (L.length = m7) := hid hlis.out.1
      have K2 := hid k2
      have hK2 : Hid (alK I ls = (List.range m7).all (alk1 I ls L)) := hid (by rw [hK.out, hwl, hLm.out]; rfl)
      have hm90 : m7 ≤ 90 := by have := hLm.out; omega
      rw [hwl] at hwd
      clear hwl k1 k2
      go_wp2_with (go_at_call 25; refine hwd.out.mono ?_; rintro e w2 ⟨rfl, hb2⟩)
      have hbe2 := hbel.trans (hb2.mono hbel.size)
      have d0 := (hb2.cell (p := ⟨w.heap.size, 0, none⟩) hq0).trans c0
      have d1 := (hb2.cell (p := ⟨w.heap.size, 1, none⟩) hq0).trans c1
      have hq2 := Nat.lt_of_lt_of_le hq0 hb2.size
      have hli2 := hid (hlis.out.below hb2 hb2.size)
      clear c0 c1 hb2 hwd
      go_loopw [6, 7, 8] (fun i _ _ wr => ∃ k : Nat, k ≤ m7 ∧ i = .int .i64 k ∧ Hid ((List.range k).all (alk1 I ls L) = true) ∧ Below w2.heap.size w2 wr) (fun i _ _ _ => m7 - (intOf i).toNat)
      case atStart => exact ⟨0, by omega, rfl, hid (by simp), Below.refl _ _⟩
      case round =>
        obtain ⟨k, hk, rfl, hno, hbw⟩ := hrel
        have hszw := hbw.size
        have hbww := hbe2.trans (hbw.mono hbe2.size)
        have e0 := (hbw.cell (p := ⟨w.heap.size, 0, none⟩) hq2).trans d0
        have e1 := (hbw.cell (p := ⟨w.heap.size, 1, none⟩) hq2).trans d1
        have l0 := Nat.lt_of_lt_of_le hq2 hszw
        by_cases hlt : k < m7
        · obtain ⟨b1, o1, x, A3, m3, c3, rfl, hb1, hx, q0, hin3⟩ := (hli2.out.below hbw hszw).at_ hlt
          have hlti : (k : Int) < m7 := by omega
          have hxl : m3 ≤ 1000000 := by have := K2.out x (List.mem_of_getElem? hx); have := hin3.len; omega
          have hgx : Hid (L.getD k [] = x) := hid (by rw [List.getD_eq_getElem?_getD, hx]; rfl)
          have hstep : Hid ((List.range (k + 1)).all (alk1 I ls L) = alk1 I ls L k) := hid (by rw [List.range_succ, List.all_append, hno.out]; simp)
          have hak : alk1 I ls L k = (rtgE I ls x == 0 && (k == 0 || before (L.getD (k - 1) []) x)) := by unfold alk1; rw [hgx.out]
          have hoff : ∀ (_ : alk1 I ls L k = false), alK I ls = false := fun h => by
            rw [hK2.out, Bool.eq_false_iff]
            intro e
            rw [List.all_eq_true.1 e k (List.mem_range.2 hlt)] at h; cases h
          have HTx := hid (fun W h h2 => HT.out A3 m3 c3 x W h h2 hxl)
          have Hin3 := hid hin3
          have hb1r : b1 < wr.heap.size := by omega
          obtain ⟨te, hte⟩ : ∃ te, rtgE I ls x = te := ⟨_, rfl⟩
          obtain ⟨tv, htv⟩ : ∃ tv, rtgV I ls x = tv := ⟨_, rfl⟩
          rw [hte, htv] at HTx
          rw [hte] at hak
          have Hx := hid hx
          clear hx hin3 hte htv
          go_wp2
          refine wp_region_hd_all (fun W => Below wr.heap.size wr W) (by kernel_rfl) (by kernel_rfl) ((Below.refl _ _).drew) ?_
          iterate 5 (refine wpHd_val (v := ?_) (by rfl) (fun W hW => ?_) ?_; rotate_left; (· obtain ⟨hcW, hfW⟩ := bcell hW; go_simp; with_reducible rfl); simp only [Act.put, List.setIfInBounds_toArray, List.set_cons_zero, List.set_cons_succ])
          (refine wpHd_callB (by rfl) (fun W hW => (HTx.out W (HL.out.below (hbww.trans (hW.mono hbww.size)) (Nat.le_trans hbww.size hW.size)) (Hin3.out.below hW hW.size))) (fun W hW => ?_) ?_; (· obtain ⟨hcW, hfW⟩ := bcell hW; go_simp); simp only [Act.put, List.setIfInBounds_toArray, List.set_cons_zero, List.set_cons_succ])
          iterate 5 (refine wpHd_val (v := ?_) (by rfl) (fun W hW => ?_) ?_; rotate_left; (· obtain ⟨hcW, hfW⟩ := bcell hW; go_simp; with_reducible rfl); simp only [Act.put, List.setIfInBounds_toArray, List.set_cons_zero, List.set_cons_succ])
          refine wpHd_nil ?_
          intro W8 hW8
          have hbw8 := hbw.trans (hW8.mono hszw)
          have hbww8 := hbe2.trans (hbw8.mono hbe2.size)
          have q8 := (hW8.cell (p := ⟨b1, o1 + k, none⟩) hb1r).trans q0
          have hb18 := Nat.lt_of_lt_of_le hb1r hW8.size
          have Hin8 := hid (Hin3.out.below hW8 hW8.size)
          clear e0 e1 q0
          by_cases h1 : te = 0
          · subst h1
            by_cases hk0 : k = 0
            · subst hk0
              have Hs : Hid ((List.range (0 + 1)).all (alk1 I ls L) = true) := hid (by rw [hstep.out, hak]; rfl)
              clear hak hoff
              go_wp2
              refine wp_region_hd_all (fun W => Below W8.heap.size W8 W) (by kernel_rfl) (by kernel_rfl) ((Below.refl _ _).drew) ?_
              iterate 19 (first | (refine wpHd_val (v := ?_) (by rfl) (fun W hW => ?_) ?_; rotate_left; (· obtain ⟨hcW, hfW⟩ := bcell hW; go_simp; with_reducible rfl); simp only [Act.put, List.setIfInBounds_toArray, List.set_cons_zero, List.set_cons_succ]) | (refine wpHd_not (by rfl) ?_; simp only [Act.put, List.setIfInBounds_toArray, List.set_cons_zero, List.set_cons_succ]))
              refine wpHd_nil ?_
              intro W9 hW9
              have hbw9 := hbw8.trans (hW9.mono hbw8.size)
              clear q8
              go_wp2
              exact ⟨⟨1, by omega, by go_num, Hs, hbw9⟩, by simp [intOf]; omega⟩
            · obtain ⟨q, rfl⟩ : ∃ q, k = q + 1 := ⟨k - 1, by omega⟩
              obtain ⟨b2, o2, y, A4, m4, c4, h2e, hb2, hy, r0, hin4⟩ := (hli2.out.below hbw8 hbw8.size).at_ (k := q) (by omega)
              cases h2e
              have hgy : L.getD (q + 1 - 1) [] = y := by rw [Nat.add_sub_cancel, List.getD_eq_getElem?_getD, hy]; rfl
              have hyl : m4 ≤ 1000000 := by have := K2.out y (List.mem_of_getElem? hy); have := hin4.len; omega
              have Hin4 := hid hin4
              have hcb := fun (W : World) h h2 => rbefore_any A4 A3 m4 c4 m3 c3 y x W h h2 hyl hxl
              have hqk : q < m7 := by omega
              have h0q : (0 : Int) ≤ (q : Int) + 1 := by omega
              have h1q : (q : Int) < (m7 : Int) := by omega
              have h2q : (q : Int) + 1 < (m7 : Int) := by omega
              have zq : IntKind.i64.wrap (q : Int) = q := by rw [IntKind.wrap_i64]; omega
              have hq1 : ((q + 1 : Nat) : Int) - 1 = (q : Int) := by omega
              have hji : (0 : Int) < ((q + 1 : Nat) : Int) := by omega
              rw [hgy] at hak
              clear hy hin4 hgy hk0
              cases hbf : before y x
              · rw [hbf] at hcb hak
                have Hcb := hid hcb
                have Hf : Hid (alK I ls = false) := hid (hoff (by rw [hak]; simp))
                have Hf2 : Hid (alL I ls = []) := hid (by rw [hAL.out, Hf.out]; rfl)
                clear hak hoff hbf hcb
                go_wp2
                refine wp_region_hd_all (fun W => Below W8.heap.size W8 W) (by kernel_rfl) (by kernel_rfl) ((Below.refl _ _).drew) ?_
                iterate 15 (refine wpHd_val (v := ?_) (by rfl) (fun W hW => ?_) ?_; rotate_left; (· obtain ⟨hcW, hfW⟩ := bcell hW; go_simp; with_reducible rfl); simp only [Act.put, List.setIfInBounds_toArray, List.set_cons_zero, List.set_cons_succ])
                (refine wpHd_callB (by rfl) (fun W hW => (Hcb.out W (Hin4.out.below hW hW.size) (Hin8.out.below hW hW.size))) (fun W hW => ?_) ?_; (· obtain ⟨hcW, hfW⟩ := bcell hW; go_simp); simp only [Act.put, List.setIfInBounds_toArray, List.set_cons_zero, List.set_cons_succ])
                iterate 3 (refine wpHd_val (v := ?_) (by rfl) (fun W hW => ?_) ?_; rotate_left; (· obtain ⟨hcW, hfW⟩ := bcell hW; go_simp; with_reducible rfl); simp only [Act.put, List.setIfInBounds_toArray, List.set_cons_zero, List.set_cons_succ])
                refine wpHd_nil ?_
                intro W9 hW9
                have hbw9 := hbww8.trans (hW9.mono hbww8.size)
                clear q8 r0
                go_wp2
                refine bodyPost_ret (v := .tuple #[.slice none 0 0, .bool false]) (by first | (simp [results, Tryz.results45, go_sem]; done) | (simp [results, Tryz.results45, go_sem, *]; done) | (simp [results, Tryz.results45, go_sem, World.cell?_setCell_same', *]; done) | (simp [results, Tryz.results45, go_sem]; first | exact ⟨rfl, rfl⟩ | rfl)) rfl ⟨none, 0, 0, by rw [Hf.out], by rw [Hf2.out]; exact lis_nil _ _, hbw9⟩
              · rw [hbf] at hcb hak
                have Hcb := hid hcb
                have Hs : Hid ((List.range (q + 1 + 1)).all (alk1 I ls L) = true) := hid (by rw [hstep.out, hak]; simp)
                clear hak hoff hbf hcb
                go_wp2
                refine wp_region_hd_all (fun W => Below W8.heap.size W8 W) (by kernel_rfl) (by kernel_rfl) ((Below.refl _ _).drew) ?_
                iterate 15 (refine wpHd_val (v := ?_) (by rfl) (fun W hW => ?_) ?_; rotate_left; (· obtain ⟨hcW, hfW⟩ := bcell hW; go_simp; with_reducible rfl); simp only [Act.put, List.setIfInBounds_toArray, List.set_cons_zero, List.set_cons_succ])
                (refine wpHd_callB (by rfl) (fun W hW => (Hcb.out W (Hin4.out.below hW hW.size) (Hin8.out.below hW hW.size))) (fun W hW => ?_) ?_; (· obtain ⟨hcW, hfW⟩ := bcell hW; go_simp); simp only [Act.put, List.setIfInBounds_toArray, List.set_cons_zero, List.set_cons_succ])
                iterate 3 (refine wpHd_val (v := ?_) (by rfl) (fun W hW => ?_) ?_; rotate_left; (· obtain ⟨hcW, hfW⟩ := bcell hW; go_simp; with_reducible rfl); simp only [Act.put, List.setIfInBounds_toArray, List.set_cons_zero, List.set_cons_succ])
                refine wpHd_nil ?_
                intro W9 hW9
                have hbw9 := hbw8.trans (hW9.mono hbw8.size)
                clear q8 r0
                go_wp2
                exact ⟨⟨q + 1 + 1, by omega, by go_num, Hs, hbw9⟩, by simp [intOf]; omega⟩
          · have h1b : (te != 0) = true := by simpa using h1
            have Hf : Hid (alK I ls = false) := hid (hoff (by rw [hak, beq_eq_false_iff_ne.2 h1]; rfl))
            have Hf2 : Hid (alL I ls = []) := hid (by rw [hAL.out, Hf.out]; rfl)
            clear hak hoff h1
            go_wp2
            refine wp_region_hd_all (fun W => Below W8.heap.size W8 W) (by kernel_rfl) (by kernel_rfl) ((Below.refl _ _).drew) ?_
            iterate 19 (first | (refine wpHd_val (v := ?_) (by rfl) (fun W hW => ?_) ?_; rotate_left; (· obtain ⟨hcW, hfW⟩ := bcell hW; go_simp; with_reducible rfl); simp only [Act.put, List.setIfInBounds_toArray, List.set_cons_zero, List.set_cons_succ]) | (refine wpHd_not (by rfl) ?_; simp only [Act.put, List.setIfInBounds_toArray, List.set_cons_zero, List.set_cons_succ]))
            refine wpHd_nil ?_
            intro W9 hW9
            have hbw9 := hbww8.trans (hW9.mono hbww8.size)
            clear q8
            go_wp2
            refine bodyPost_ret (v := .tuple #[.slice none 0 0, .bool false]) (by first | (simp [results, Tryz.results45, go_sem]; done) | (simp [results, Tryz.results45, go_sem, *]; done) | (simp [results, Tryz.results45, go_sem, World.cell?_setCell_same', *]; done) | (simp [results, Tryz.results45, go_sem]; first | exact ⟨rfl, rfl⟩ | rfl)) rfl ⟨none, 0, 0, by rw [Hf.out], by rw [Hf2.out]; exact lis_nil _ _, hbw9⟩
        · obtain rfl : k = m7 := by omega
          have Hf : Hid (alK I ls = true) := hid (by rw [hK2.out, hno.out])
          have Hf2 : Hid (alL I ls = L) := hid (by rw [hAL.out, Hf.out]; rfl)
          go_wp2
          refine bodyPost_ret (v := .tuple #[.slice A7 k c7, .bool true]) (by first | (simp [results, Tryz.results45, go_sem]; done) | (simp [results, Tryz.results45, go_sem, *]; done) | (simp [results, Tryz.results45, go_sem, World.cell?_setCell_same', *]; done) | (simp [results, Tryz.results45, go_sem]; first | exact ⟨rfl, rfl⟩ | rfl)) rfl ⟨A7, k, c7, by rw [Hf.out], by rw [Hf2.out]; exact hli2.out.below hbw hszw, hbww⟩
    · have Hf : Hid (alK I ls = false) := hid (by rw [hK.out, hwl]; rfl)
      have Hf2 : Hid (alL I ls = []) := hid (by rw [hAL.out, Hf.out]; rfl)
      rw [hwl] at hwd
      clear hwl
      go_wp2_with (go_at_call 25; refine hwd.out.mono ?_; rintro e w2 ⟨rfl, hb2⟩)
      have hbe2 := hbel.trans (hb2.mono hbel.size)
      refine bodyPost_ret (v := .tuple #[.slice none 0 0, .bool false]) (by first | (simp [results, Tryz.results45, go_sem]; done) | (simp [results, Tryz.results45, go_sem, *]; done) | (simp [results, Tryz.results45, go_sem, World.cell?_setCell_same', *]; done) | (simp [results, Tryz.results45, go_sem]; first | exact ⟨rfl, rfl⟩ | rfl)) rfl ⟨none, 0, 0, by rw [Hf.out], by rw [Hf2.out]; exact lis_nil _ _, hbe2⟩
  · have hbi : (ev != 0) = true := by simpa using he
    have Hf : Hid (alK I ls = false) := hid (by rw [hK.out, beq_eq_false_iff_ne.2 he]; rfl)
    have Hf2 : Hid (alL I ls = []) := hid (by rw [hAL.out, Hf.out]; rfl)
    go_enter Tryz.func45, Tryz.ntmps45
    go_wp2_with (fail)
    refine (HA.out _ (HL.out.below hb0 hb0.size)).mono ?_
    rintro e w1 ⟨A7, m7, c7, rfl, hi7, hb1⟩
    have hbel : Below w.heap.size w w1 := Below.trans (by repeat' (first | with_reducible assumption | with_reducible exact Below.refl _ _ | refine Below.alloc ?_ ?_ _ | refine Below.setCell ?_ ?_ _ | refine Below.drew ?_ | refine below_drewN ?_ _ | (simp; done) | (simp; omega) | omega)) (hb1.mono (by first | (simp; done) | (simp; omega) | omega))
    clear hb1 hb0 hi7
    go_wp2
    refine bodyPost_ret (v := .tuple #[.slice none 0 0, .bool false]) (by first | (simp [results, Tryz.results45, go_sem]; done) | (simp [results, Tryz.results45, go_sem, *]; done) | (simp [results, Tryz.results45, go_sem, World.cell?_setCell_same', *]; done) | (simp [results, Tryz.results45, go_sem]; first | exact ⟨rfl, rfl⟩ | rfl)) rfl ⟨none, 0, 0, by rw [Hf.out], by rw [Hf2.out]; exact lis_nil _ _, hbel⟩
end Go.Proofs.YtnpilfpackdimaaGreat
/- Plain law: subsets of 8 inns, none of which has another one in it, are at most 70; tight blames; what the law's helpers answer. -/
namespace Go.Proofs.YtnpilfpackdimaaGreat
def chn : List (List Nat) := [[0, 1, 3, 7, 15, 31, 63, 127, 255], [128, 129, 131, 135, 143, 159, 191], [64, 65, 67, 71, 79, 95, 223], [192, 193, 195, 199, 207], [32, 33, 35, 39, 47, 111, 239], [160, 161, 163, 167, 175], [96, 97, 99, 103, 231], [224, 225, 227], [16, 17, 19, 23, 55, 119, 247], [144, 145, 147, 151, 183], [80, 81, 83, 87, 215], [208, 209, 211], [48, 49, 51, 115, 243], [176, 177, 179], [112, 113, 241], [240], [8, 9, 11, 27, 59, 123, 251], [136, 137, 139, 155, 187], [72, 73, 75, 91, 219], [200, 201, 203], [40, 41, 43, 107, 235], [168, 169, 171], [104, 105, 233], [232], [24, 25, 57, 121, 249], [152, 153, 185], [88, 89, 217], [216], [56, 120, 248], [184], [4, 5, 13, 29, 61, 125, 253], [132, 133, 141, 157, 189], [68, 69, 77, 93, 221], [196, 197, 205], [36, 37, 45, 109, 237], [164, 165, 173], [100, 101, 229], [228], [20, 21, 53, 117, 245], [148, 149, 181], [84, 85, 213], [212], [52, 116, 244], [180], [12, 28, 60, 124, 252], [140, 156, 188], [76, 92, 220], [204], [44, 108, 236], [172], [2, 6, 14, 30, 62, 126, 254], [130, 134, 142, 158, 190], [66, 70, 78, 94, 222], [194, 198, 206], [34, 38, 46, 110, 238], [162, 166, 174], [98, 102, 230], [226], [18, 22, 54, 118, 246], [146, 150, 182], [82, 86, 214], [210], [50, 114, 242], [178], [10, 26, 58, 122, 250], [138, 154, 186], [74, 90, 218], [202], [42, 106, 234], [170]]
set_option maxRecDepth 100000 in
theorem chn_perm : (chn.flatten.isPerm (List.range 256)) = true := by decide +kernel
def upB : List Nat → Bool
  | [] => true
  | a :: l => l.all (fun b => a &&& b == a) && upB l
set_option maxRecDepth 100000 in
theorem chn_up : (chn.all upB) = true := by decide +kernel
def AntiB (p : Nat → Bool) : Prop := ∀ x y, x < 256 → y < 256 → p x = true → p y = true → subB x y = true → x = y
theorem chain_one {p : Nat → Bool} (ha : AntiB p) : ∀ {c : List Nat}, upB c = true → c.Nodup → (∀ x ∈ c, x < 256) → (c.filter p).length ≤ 1
  | [], _, _, _ => by simp
  | a :: c, hu, hn, hb => by
    simp only [upB, Bool.and_eq_true] at hu
    have ih := chain_one ha hu.2 (List.nodup_cons.1 hn).2 (fun x hx => hb x (by simp [hx]))
    cases hpa : p a
    · rw [List.filter_cons, hpa]; exact ih
    · rw [List.filter_cons, hpa]
      have : c.filter p = [] := by
        rw [List.filter_eq_nil_iff]
        intro b hbm hpb
        have h1 := List.all_eq_true.1 hu.1 b hbm
        have h2 := ha a b (hb a (by simp)) (hb b (by simp [hbm])) hpa hpb (by rw [← and_sub (hb a (by simp))]; exact h1)
        exact (List.nodup_cons.1 hn).1 (h2 ▸ hbm)
      rw [this]; simp
theorem flat_one {p : Nat → Bool} (ha : AntiB p) : ∀ {C : List (List Nat)}, (∀ c ∈ C, upB c = true) → C.flatten.Nodup → (∀ x ∈ C.flatten, x < 256) → (C.flatten.filter p).length ≤ C.length
  | [], _, _, _ => by simp
  | c :: C, hu, hn, hb => by
    rw [List.flatten_cons] at hn hb
    rw [List.flatten_cons, List.filter_append, List.length_append, List.length_cons]
    have h1 := chain_one ha (hu c (by simp)) (List.nodup_append.1 hn).1 (fun x hx => hb x (by simp [hx]))
    have h2 := flat_one ha (fun x hx => hu x (by simp [hx])) (List.nodup_append.1 hn).2.1 (fun x hx => hb x (List.mem_append_right _ hx))
    omega
theorem anti_len {p : Nat → Bool} (ha : AntiB p) : ((List.range 256).filter p).length ≤ 70 := by
  have hp : chn.flatten.Perm (List.range 256) := List.isPerm_iff.1 chn_perm
  rw [← (hp.filter p).length_eq]
  exact flat_one ha (fun c hc => List.all_eq_true.1 chn_up c hc) (hp.nodup_iff.2 List.nodup_range) (fun x hx => List.mem_range.1 (hp.mem_iff.1 hx))
theorem ordL_cnt (S : Nat → Bool) : (ordL S).length = ((List.range 256).filter S).length := by
  unfold ordL
  rw [sortL_len, List.length_map]
theorem min_anti (S : Nat → Bool) : AntiB (minB S) := fun x y hx hy h1 h2 h3 => by
  by_cases h : x = y
  · exact h
  · have := (minB_iff.1 h2).2 x hx (minB_iff.1 h1).1 h
    rw [this] at h3; cases h3
theorem mem_allR {I : Nat} {ls : List (List Int)} (hI : I ≤ 8) (hv : ∀ l ∈ ls, isL (I : Int) 0 l = true) {l : List Int} : l ∈ allR I ls ↔ isL (I : Int) 0 l = true ∧ minB (hitB ls) (bitsL l) = true := by
  rw [allR_eq hI hv, mem_ordL]
  constructor
  · rintro ⟨x, hx, hm, rfl⟩
    have hxI := min_in hv hx hm
    rw [← listed_more hxI hI]
    exact ⟨isL_listed' _ _, by rw [bits_listed hxI]; exact hm⟩
  · rintro ⟨h1, h2⟩
    have hb := bitsL_lt h1
    exact ⟨bitsL l, pow_le256 hI hb, h2, by rw [← listed_more hb hI]; exact listed_bits h1⟩
theorem open_one {I : Nat} {ls : List (List Int)} {s : List Int} (h : chkBook I ls = 0) (hs : isL (I : Int) 0 s = true) : openE I ls [s] = 0 := by
  unfold openE
  rw [if_neg (by simp [h])]
  simp [hs]
theorem blmE_of {I : Nat} {ls : List (List Int)} {s : List Int} (h : chkBook I ls = 0) (hs : isL (I : Int) 0 s = true) : blmE I ls s = if hitB ls (bitsL s) then 0 else 21 := by
  unfold blmE
  rw [open_one h hs, if_neg (by simp)]
  cases hh : hitB ls (bitsL s)
  · rw [if_pos]
    · rfl
    · have : ¬ missI ls (bitsL s) < 0 := fun e => by rw [miss_neg, hh] at e; cases e
      omega
  · have := miss_neg.2 hh
    rw [if_neg (by omega)]; rfl
theorem blmV_of {I : Nat} {ls : List (List Int)} {s : List Int} (h : chkBook I ls = 0) (hs : isL (I : Int) 0 s = true) (hh : hitB ls (bitsL s) = true) : blmV I ls s = s.length := by
  unfold blmV
  rw [open_one h hs, if_neg (by simp)]
  have := miss_neg.2 hh
  rw [if_neg (by omega)]
theorem rtgE_of {I : Nat} {ls : List (List Int)} {s : List Int} (h : chkBook I ls = 0) (hI : I ≤ 8) (hs : isL (I : Int) 0 s = true) : rtgE I ls s = if hitB ls (bitsL s) then (if minB (hitB ls) (bitsL s) then 0 else 16) else 21 := by
  unfold rtgE
  rw [blmE_of h hs]
  cases hh : hitB ls (bitsL s)
  · rfl
  · rw [if_pos rfl, if_neg (by simp), if_pos rfl, Int.toNat_natCast]
    have hm := rtB_min (ls := ls) hI (bitsL_lt hs)
    unfold rtB at hm
    rw [decide_eq_true (miss_neg.2 hh), Bool.true_and] at hm
    rw [← hm]
    by_cases h1 : spR I ls (bitsL s) < 0
    · rw [decide_eq_true h1, if_pos rfl, if_neg (by omega)]
    · rw [decide_eq_false h1, if_pos (by omega)]; rfl
theorem rtgV_of {I : Nat} {ls : List (List Int)} {s : List Int} (h : chkBook I ls = 0) (hI : I ≤ 8) (hs : isL (I : Int) 0 s = true) (hm : minB (hitB ls) (bitsL s) = true) : rtgV I ls s = s.length := by
  have hh := (minB_iff.1 hm).1
  unfold rtgV
  rw [blmE_of h hs, hh, if_pos rfl, if_neg (by simp), Int.toNat_natCast]
  have hm' := rtB_min (ls := ls) hI (bitsL_lt hs)
  unfold rtB at hm'
  rw [decide_eq_true (miss_neg.2 hh), Bool.true_and, hm] at hm'
  have := of_decide_eq_true hm'
  rw [if_neg (by omega), blmV_of h hs hh]
theorem rtg_mem {I : Nat} {ls : List (List Int)} {l : List Int} (h : chkBook I ls = 0) (hI : I ≤ 8) (hv : ∀ l ∈ ls, isL (I : Int) 0 l = true) (hl : l ∈ allR I ls) : rtgE I ls l = 0 ∧ rtgV I ls l = l.length := by
  obtain ⟨h1, h2⟩ := (mem_allR hI hv).1 hl
  refine ⟨?_, rtgV_of h hI h1 h2⟩
  rw [rtgE_of h hI h1, (minB_iff.1 h2).1, h2]; rfl
theorem allR_len70 {I : Nat} {ls : List (List Int)} (hI : I ≤ 8) (hv : ∀ l ∈ ls, isL (I : Int) 0 l = true) : (allR I ls).length ≤ 70 := by
  rw [allR_eq hI hv, ordL_cnt]
  exact anti_len (min_anti _)
theorem ralV_book {I : Int} {ls : List (List Int)} (h : chkBook I ls = 0) : ralV I ls = allR I.toNat ls := by
  unfold ralV; rw [if_neg (by simp [h])]
theorem allR_wide {I : Nat} {ls : List (List Int)} (hI : I ≤ 8) (hv : ∀ l ∈ ls, isL (I : Int) 0 l = true) : wideL (allR I ls) = false := by
  unfold wideL
  rw [decide_eq_false (by have := allR_len70 hI hv; omega), Bool.false_or, Bool.not_eq_false', List.all_eq_true]
  intro l hl
  have := allR_mem hI hl
  exact decide_eq_true (by omega)
theorem alK_true {I : Int} {ls : List (List Int)} (h : chkBook I ls = 0) : alK I ls = true := by
  obtain ⟨J, rfl, hJ, -, hJ8, -, hv, hv8⟩ := book_nat h
  unfold alK
  rw [allV_eq, ralV_book h, hJ, allR_wide hJ8 hv, h]
  simp only [beq_self_eq_true, Bool.not_false, Bool.true_and, List.all_eq_true, List.mem_range]
  intro k hk
  unfold alk1
  have hm : (allR J ls).getD k [] ∈ allR J ls := by
    rw [List.getD_eq_getElem?_getD, List.getElem?_eq_getElem hk]; exact List.getElem_mem hk
  rw [(rtg_mem h hJ8 hv hm).1]
  simp only [beq_self_eq_true, Bool.true_and, Bool.or_eq_true, beq_iff_eq]
  by_cases h0 : k = 0
  · exact .inl h0
  · refine .inr ?_
    have hs : Srt (allR J ls) := allR_srt hJ8
    have := List.pairwise_iff_getElem.1 hs (k - 1) k (by omega) hk (by omega)
    rw [List.getD_eq_getElem?_getD, List.getElem?_eq_getElem (by omega : k - 1 < _), List.getD_eq_getElem?_getD, List.getElem?_eq_getElem hk]
    exact this
theorem alL_eq {I : Int} {ls : List (List Int)} (h : chkBook I ls = 0) : alL I ls = allR I.toNat ls := by
  unfold alL
  rw [alK_true h, if_pos rfl, allV_eq, ralV_book h]
theorem fwOk_true {I : Int} {ls : List (List Int)} (h : chkBook I ls = 0) : fwOk I ls = true := by
  obtain ⟨J, rfl, hJ, -, hJ8, -, hv, hv8⟩ := book_nat h
  unfold fwOk
  rw [bestE_eq, bestV_eq]
  by_cases he : rblE J ls = 0
  · rw [if_neg (by simp [he])]
    have hm := (rblV_mem he).2.2.2
    rw [hJ] at hm
    obtain ⟨h1, h2⟩ := rtg_mem h hJ8 hv hm
    rw [h1, h2]; simp
  · rw [if_pos he]
    have hn : ¬ (chkBook J ls ≠ 0) := fun e => e h
    have h3 : rblE J ls = 21 ∧ rblV J ls = [] := by
      unfold rblE at he ⊢
      unfold rblV
      rw [if_neg hn] at he
      rw [if_neg hn, if_neg hn]
      by_cases h4 : (allR (J : Int).toNat ls).length = 0
      · rw [if_pos h4, if_pos h4]; exact ⟨rfl, rfl⟩
      · rw [if_neg h4] at he; exact absurd rfl he
    rw [h3.1, h3.2]; rfl
end Go.Proofs.YtnpilfpackdimaaGreat
/- Plain law: hires that are apart are no more than a blame has inns; the smallest blames. -/
namespace Go.Proofs.YtnpilfpackdimaaGreat
theorem filter_lt {α : Type} {p q : α → Bool} : ∀ {l : List α}, (∀ x ∈ l, p x = true → q x = true) → (∃ x ∈ l, p x = false ∧ q x = true) → (l.filter p).length < (l.filter q).length
  | [], _, ⟨x, hx, _⟩ => by cases hx
  | y :: l, h, ⟨x, hx, h1, h2⟩ => by
    have hle : (l.filter p).length ≤ (l.filter q).length := by
      clear h1 h2 hx x
      induction l with
      | nil => simp
      | cons z l ih =>
        have := ih (fun x hx => h x (by
          rcases List.mem_cons.1 hx with e | e
          · simp [e]
          · simp [e]))
        cases hp : p z
        · rw [List.filter_cons, hp]
          cases hq : q z <;> simp [List.filter_cons, hq] <;> omega
        · have hq := h z (by simp) hp
          simp [List.filter_cons, hp, hq]; omega
    rcases List.mem_cons.1 hx with e | e
    · subst e
      simp [List.filter_cons, h1, h2]; omega
    · have ih := filter_lt (p := p) (q := q) (l := l) (fun x hx => h x (by simp [hx])) ⟨x, e, h1, h2⟩
      cases hp : p y
      · cases hq : q y <;> simp [List.filter_cons, hp, hq] <;> omega
      · have hq := h y (by simp) hp
        simp [List.filter_cons, hp, hq]; omega
theorem hire_mem {ls : List (List Int)} {i : Int} (h0 : 0 ≤ i) (h : i < ls.length) : hire ls i ∈ ls := by
  unfold hire
  exact getD_mem (by omega)
theorem sB_snoc (ls : List (List Int)) (hs : List Int) (i : Int) : sB ls (hs ++ [i]) = sB ls hs ||| bitsL (hire ls i) := by
  unfold sB; rw [List.foldl_append]; rfl
theorem weak {ls : List (List Int)} {s : List Int} (hv : ∀ l ∈ ls, isL 8 0 l = true) (hs : ∀ x ∈ s, 0 ≤ x) (hh : hitB ls (bitsL s) = true) (hs' : List Int) : (∀ i ∈ hs', 0 ≤ i ∧ i < ls.length) → apP ls hs' = true → hs'.length ≤ (s.filter fun x => (sB ls hs').testBit x.toNat).length := by
  refine snoc_rec (p := fun hs' : List Int => (∀ i ∈ hs', 0 ≤ i ∧ i < ls.length) → apP ls hs' = true → hs'.length ≤ (s.filter fun x => (sB ls hs').testBit x.toNat).length) (by intro _ _; simp) (fun l i ih hb ha => ?_) hs'
  rw [apP_snoc, Bool.and_eq_true, Bool.and_eq_true] at ha
  obtain ⟨h1, -, h3⟩ := ha
  have h4 := ih (fun j hj => hb j (by simp [hj])) h1
  have hm := hire_mem (hb i (by simp)).1 (hb i (by simp)).2
  unfold hitB at hh
  obtain ⟨x, hx, hxb⟩ := List.any_eq_true.1 (List.all_eq_true.1 hh _ hm)
  have hx8 := isL_bd (hv _ hm) x hx
  have hxs : x ∈ s := by
    have h5 : (bitsL s).testBit x.toNat = true := hxb
    rw [bitsL_test hs, has_iff] at h5
    rwa [Int.toNat_of_nonneg hx8.1] at h5
  have hno : (sB ls l).testBit x.toNat = false := by
    rw [Bool.not_eq_true', List.any_eq_false] at h3
    simpa using h3 x hx
  have hyes : (sB ls (l ++ [i])).testBit x.toNat = true := by
    rw [sB_snoc, Nat.testBit_or, bitsL_test (fun y hy => (isL_bd (hv _ hm) y hy).1), has_iff.2 (by rw [Int.toNat_of_nonneg hx8.1]; exact hx), Bool.or_true]
  have := filter_lt (p := fun x => (sB ls l).testBit x.toNat) (q := fun x => (sB ls (l ++ [i])).testBit x.toNat) (l := s) (fun y _ hy => by rw [sB_snoc, Nat.testBit_or, hy, Bool.true_or]) ⟨x, hxs, hno, hyes⟩
  simp only [List.length_append, List.length_singleton]
  omega
theorem weak_len {ls : List (List Int)} {s hs : List Int} (hv : ∀ l ∈ ls, isL 8 0 l = true) {J : Int} (h1 : isL J 0 s = true) (hh : hitB ls (bitsL s) = true) (h2 : isL (ls.length : Int) 0 hs = true) (ha : apP ls hs = true) : hs.length ≤ s.length :=
  Nat.le_trans (weak hv (fun x hx => (isL_bd h1 x hx).1) hh hs (fun i hi => isL_bd h2 i hi) ha) (List.length_filter_le _ _)
structure BestF (J : Nat) (ls : List (List Int)) : Prop where
  good : bestE J ls = 0 → isL (J : Int) 0 (bestV J ls) = true ∧ hitB ls (bitsL (bestV J ls)) = true ∧ ∀ l, isL (J : Int) 0 l = true → hitB ls (bitsL l) = true → l = bestV J ls ∨ Rr (bestV J ls) l
  some : ∀ l, isL (J : Int) 0 l = true → hitB ls (bitsL l) = true → bestE J ls = 0
  none : bestE J ls ≠ 0 → bestE J ls = 21 ∧ bestV J ls = []
theorem best_facts {J : Nat} {ls : List (List Int)} (h : chkBook J ls = 0) : BestF J ls := by
  have hn : ¬ (chkBook J ls ≠ 0) := fun e => e h
  have hE : bestE J ls = if (bestO J ls).isSome then 0 else 21 := by unfold bestE; rw [if_neg hn, Int.toNat_natCast]
  have hV : bestV J ls = (bestO J ls).getD [] := by unfold bestV; rw [if_neg hn, Int.toNat_natCast]
  refine ⟨fun he => ?_, fun l hl hh => ?_, fun he => ?_⟩
  · cases hb : bestO J ls with
    | none => rw [hE, hb] at he; cases he
    | some r =>
      have := bestO_least hb
      rw [hV, hb]
      exact ⟨this.1.1, this.1.2, fun l hl hh => this.2 l ⟨hl, hh⟩⟩
  · cases hb : bestO J ls with
    | none => rw [bestO_no hb hl] at hh; cases hh
    | some r => rw [hE, hb]; rfl
  · cases hb : bestO J ls with
    | none => rw [hE, hV, hb]; exact ⟨rfl, rfl⟩
    | some r => rw [hE, hb] at he; exact absurd rfl he
theorem rr_le {a b : List Int} (h : b = a ∨ Rr a b) : a.length ≤ b.length := by
  rcases h with h | h | h
  · rw [h]; exact Nat.le_refl _
  · omega
  · omega
theorem apr_book {J : Nat} {ls : List (List Int)} (h : chkBook J ls = 0) : BestOf (fun l => isL (ls.length : Int) 0 l = true ∧ apP ls l = true) (aprV J ls) := by
  obtain ⟨-, -, -, -, -, -, -, hv8⟩ := book_nat h
  have : aprV J ls = bstR ls (2 ^ ls.length) := by unfold aprV; rw [if_neg (by simp [h]), apart_eq hv8]
  rw [this]
  exact bstR_all hv8
theorem capE_of {J : Nat} {ls : List (List Int)} (h : chkBook J ls = 0) {hs : List Int} (h1 : isL (ls.length : Int) 0 hs = true) : capE J ls hs = if apP ls hs then 0 else 16 := by
  unfold capE
  rw [if_neg (by simp [h]), h1, if_neg (by simp)]
  cases apP ls hs <;> rfl
theorem capE_zero {J : Nat} {ls : List (List Int)} (h : chkBook J ls = 0) {hs : List Int} (h1 : capE J ls hs = 0) : isL (ls.length : Int) 0 hs = true ∧ apP ls hs = true := by
  unfold capE at h1
  rw [if_neg (by simp [h])] at h1
  cases h2 : isL (ls.length : Int) 0 hs
  · rw [h2, if_pos rfl] at h1; cases h1
  · rw [h2, if_neg (by simp)] at h1
    cases h3 : apP ls hs
    · rw [h3, if_pos rfl] at h1; cases h1
    · exact ⟨rfl, rfl⟩
/-- What BlameProved asks. -/
structure ProvedF (J : Nat) (ls : List (List Int)) (own s : List Int) : Prop where
  ok : fwOk J ls = true
  cap : capE J ls (aprV J ls) = 0
  more : capE J ls own = 0 → own.length ≤ (aprV J ls).length
  dual : fwIs J ls = true → ((aprV J ls).length : Int) ≤ fwV J ls
  code : blmE J ls s = 0 ∨ blmE J ls s = 21
  good : blmE J ls s = 0 → fwIs J ls = true ∧ fwV J ls ≤ blmV J ls s ∧ ((aprV J ls).length : Int) ≤ blmV J ls s ∧ (capE J ls own = 0 → (own.length : Int) ≤ blmV J ls s)
theorem fw_good {J : Nat} {ls : List (List Int)} (h : bestE J ls = 0) : fwIs J ls = true ∧ fwV J ls = (bestV J ls).length := by
  unfold fwIs fwV
  rw [h, if_neg (by simp)]; simp
theorem proved_facts {J : Nat} {ls : List (List Int)} (h : chkBook J ls = 0) {own s : List Int} (hs : isL (J : Int) 0 s = true) : ProvedF J ls own s := by
  obtain ⟨-, -, -, -, -, -, -, hv8⟩ := book_nat h
  have hb := best_facts h
  have ha := apr_book h
  refine ⟨fwOk_true h, ?_, fun hc => ?_, fun hi => ?_, ?_, fun he => ?_⟩
  · rw [capE_of h ha.1.1, ha.1.2]; rfl
  · rcases ha.2 own (capE_zero h hc) with h1 | h1 <;> omega
  · have he : bestE J ls = 0 := by unfold fwIs at hi; simpa using hi
    rw [(fw_good he).2]
    obtain ⟨g1, g2, -⟩ := hb.good he
    have := weak_len hv8 g1 g2 ha.1.1 ha.1.2
    omega
  · rw [blmE_of h hs]; cases hitB ls (bitsL s) <;> simp
  · have hh : hitB ls (bitsL s) = true := by
      rw [blmE_of h hs] at he
      cases hq : hitB ls (bitsL s)
      · rw [hq] at he; cases he
      · rfl
    have h0 := hb.some s hs hh
    rw [(fw_good h0).1, (fw_good h0).2, blmV_of h hs hh]
    have h1 := rr_le ((hb.good h0).2.2 s hs hh)
    have h2 := weak_len hv8 hs hh ha.1.1 ha.1.2
    refine ⟨rfl, by omega, by omega, fun hc => ?_⟩
    have := capE_zero h hc
    have := weak_len hv8 hs hh this.1 this.2
    omega
end Go.Proofs.YtnpilfpackdimaaGreat
/- Plain law: the tight blame that is left; none has another one in it. -/
namespace Go.Proofs.YtnpilfpackdimaaGreat
theorem bk_rev (l : List Int) : (bkL l l.length).map (·.2) = l.reverse := by
  unfold bkL
  rw [List.map_map]
  apply List.ext_getElem (by simp)
  intro k h1 h2
  simp only [List.length_map, List.length_range] at h1
  simp only [List.getElem_map, List.getElem_range, Function.comp_apply, List.getElem_reverse]
  rw [List.getD_eq_getElem?_getD, List.getElem?_eq_getElem (by omega)]
  rfl
theorem tgS_eq {ls : List (List Int)} {b : Nat} {x : Int} (h : b.testBit x.toNat = true) : tgS ls b x = if hitB ls (clr b x.toNat) then clr b x.toNat else b := by
  unfold tgS
  cases hh : hitB ls (clr b x.toNat)
  · have : ¬ missI ls (clr b x.toNat) < 0 := fun e => by rw [miss_neg, hh] at e; cases e
    rw [if_pos (by omega), if_neg (by simp)]
    apply Nat.eq_of_testBit_eq
    intro j
    rw [Nat.testBit_or, clr_bit, Nat.testBit_two_pow]
    by_cases hj : j = x.toNat
    · subst hj; simp [h]
    · have : ¬ x.toNat = j := fun e => hj e.symm
      simp [hj, this]
  · have := miss_neg.2 hh
    rw [if_neg (by omega), if_pos rfl]
theorem clr_mono {a b i : Nat} (h : ∀ j, a.testBit j = true → b.testBit j = true) : ∀ j, (clr a i).testBit j = true → (clr b i).testBit j = true := fun j hj => by
  rw [clr_bit, Bool.and_eq_true] at hj
  rw [clr_bit, h j hj.1, hj.2]; rfl
theorem tg_fold {ls : List (List Int)} : ∀ (xs : List Int) (b : Nat), xs.Nodup → (∀ x ∈ xs, 0 ≤ x ∧ x < 8) → (∀ x ∈ xs, b.testBit x.toNat = true) → b < 256 → hitB ls b = true →
    hitB ls (xs.foldl (tgS ls) b) = true ∧ xs.foldl (tgS ls) b < 256 ∧ (∀ j, (xs.foldl (tgS ls) b).testBit j = true → b.testBit j = true) ∧ ∀ x ∈ xs, (xs.foldl (tgS ls) b).testBit x.toNat = true → hitB ls (clr (xs.foldl (tgS ls) b) x.toNat) = false
  | [], b, _, _, _, hb, hh => ⟨hh, hb, fun _ h => h, fun x hx => by cases hx⟩
  | x :: xs, b, hn, hx8, hbit, hb, hh => by
    obtain ⟨hnx, hn'⟩ := List.nodup_cons.1 hn
    have hbx := hbit x (by simp)
    have h8 := hx8 x (by simp)
    have e := tgS_eq (ls := ls) hbx
    obtain ⟨b', hb'⟩ : ∃ b', tgS ls b x = b' := ⟨_, rfl⟩
    have hs : hitB ls b' = true ∧ b' < 256 ∧ (∀ j, b'.testBit j = true → b.testBit j = true) ∧ (b'.testBit x.toNat = true → hitB ls (clr b' x.toNat) = false) ∧ ∀ j, j ≠ x.toNat → b.testBit j = true → b'.testBit j = true := by
      rw [← hb', e]
      cases hc : hitB ls (clr b x.toNat)
      · rw [if_neg (by simp)]
        exact ⟨hh, hb, fun _ h => h, fun _ => hc, fun _ _ h => h⟩
      · rw [if_pos rfl]
        refine ⟨hc, clr_lt hb (by omega), clr_sub _ _, fun h => ?_, fun j hj h => by rw [clr_bit, h]; simp [hj]⟩
        rw [clr_bit] at h; simp at h
    obtain ⟨s1, s2, s3, s4, s5⟩ := hs
    have ih := tg_fold xs b' hn' (fun y hy => hx8 y (by simp [hy])) (fun y hy => s5 _ (fun he => by
      have hy8 := hx8 y (by simp [hy])
      have : y = x := by omega
      exact hnx (this ▸ hy)) (hbit y (by simp [hy]))) s2 s1
    rw [List.foldl_cons, hb']
    obtain ⟨i1, i2, i3, i4⟩ := ih
    refine ⟨i1, i2, fun j hj => s3 j (i3 j hj), fun y hy hr => ?_⟩
    rcases List.mem_cons.1 hy with rfl | hy
    · have h1 := s4 (i3 _ hr)
      rw [Bool.eq_false_iff]
      intro hc
      have := hit_mono (clr_mono (i := y.toNat) i3) hc
      rw [h1] at this; cases this
    · exact i4 y hy hr
/-- What Tight leaves. -/
theorem tig_law {J : Nat} {ls : List (List Int)} {s : List Int} (h : chkBook J ls = 0) (hs : isL (J : Int) 0 s = true) (hh : hitB ls (bitsL s) = true) :
    isL (J : Int) 0 (tigV J ls s) = true ∧ minB (hitB ls) (bitsL (tigV J ls s)) = true ∧ subB (bitsL (tigV J ls s)) (bitsL s) = true := by
  obtain ⟨J', e, -, -, hJ8, -, hv, hv8⟩ := book_nat h
  obtain rfl : J = J' := by omega
  have hbl := bitsL_lt hs
  have hs0 : ∀ x ∈ s, 0 ≤ x := fun x hx => (isL_bd hs x hx).1
  have hs8 : ∀ x ∈ s, 0 ≤ x ∧ x < 8 := fun x hx => by have := isL_bd hs x hx; omega
  obtain ⟨r, hr⟩ : ∃ r, tgF ls s s.length = r := ⟨_, rfl⟩
  have hr' : r = s.reverse.foldl (tgS ls) (bitsL s) := by rw [← hr]; unfold tgF; rw [bk_rev]
  have ht : tigV J ls s = listed r 8 := by unfold tigV; rw [if_neg (by rw [blmE_of h hs, hh]; simp), hr]
  have hf := tg_fold (ls := ls) s.reverse (bitsL s) ((List.reverse_perm s).nodup_iff.2 (isL_nodup hs)) (fun x hx => hs8 x (List.mem_reverse.1 hx))
    (fun x hx => by rw [bitsL_test hs0, has_iff, Int.toNat_of_nonneg (hs0 x (List.mem_reverse.1 hx))]; exact List.mem_reverse.1 hx) (pow_le256 hJ8 hbl) hh
  rw [← hr'] at hf
  obtain ⟨f1, f2, f3, f4⟩ := hf
  have hrJ : r < 2 ^ J := sup_lt (x := 0) fun i hi => by
    have := f3 i hi
    rw [bitsL_test hs0, has_iff] at this
    have := isL_bd hs _ this
    omega
  rw [ht, ← listed_more hrJ hJ8]
  refine ⟨isL_listed' _ _, ?_, ?_⟩
  · rw [bits_listed hrJ, min_iff hJ8 hrJ]
    refine ⟨f1, fun i _ hi => ?_⟩
    have h1 := f3 i hi
    rw [bitsL_test hs0, has_iff] at h1
    have := f4 (i : Int) (List.mem_reverse.2 h1) (by simpa using hi)
    simpa using this
  · rw [bits_listed hrJ, subB_iff f2]
    exact f3
theorem all_in {p : List Int} {b : Nat} (hp : isL 8 0 p = true) : p.all (inB b) = subB (bitsL p) b := by
  rw [Bool.eq_iff_iff, subB_iff (bits8 hp), List.all_eq_true]
  have h0 : ∀ x ∈ p, 0 ≤ x := fun x hx => (isL_bd hp x hx).1
  constructor
  · intro h i hi
    rw [bitsL_test h0, has_iff] at hi
    simpa [inB] using h _ hi
  · intro h x hx
    have := h x.toNat (by rw [bitsL_test h0, has_iff, Int.toNat_of_nonneg (h0 x hx)]; exact hx)
    exact this
theorem hld_eq {ss : List (List Int)} {s : List Int} (hv : ∀ l ∈ ss, isL 8 0 l = true) : hldB ss s = ss.any fun p => subB (bitsL p) (bitsL s) := by
  unfold hldB
  rw [Bool.eq_iff_iff, List.any_eq_true, List.any_eq_true]
  constructor
  · rintro ⟨p, hp, h⟩; exact ⟨p, hp, by rw [← all_in (hv p hp)]; exact h⟩
  · rintro ⟨p, hp, h⟩; exact ⟨p, hp, by rw [all_in (hv p hp)]; exact h⟩
theorem allR_isL8 {J : Nat} {ls : List (List Int)} (hJ : J ≤ 8) (hv : ∀ l ∈ ls, isL (J : Int) 0 l = true) : ∀ l ∈ allR J ls, isL (8 : Int) 0 l = true := fun l hl => isL_weak (by omega) ((mem_allR hJ hv).1 hl).1
/-- A set has a tight blame in it just if it is a blame. -/
theorem hold_hit {J : Nat} {ls : List (List Int)} {s : List Int} (hJ : J ≤ 8) (hv : ∀ l ∈ ls, isL (J : Int) 0 l = true) (hs : isL (J : Int) 0 s = true) : hldB (allR J ls) s = hitB ls (bitsL s) := by
  rw [hld_eq (allR_isL8 hJ hv), Bool.eq_iff_iff, List.any_eq_true]
  have hb := pow_le256 hJ (bitsL_lt hs)
  constructor
  · rintro ⟨p, hp, h⟩
    obtain ⟨h1, h2⟩ := (mem_allR hJ hv).1 hp
    have hpb := pow_le256 hJ (bitsL_lt h1)
    exact hit_mono ((subB_iff hpb).1 h) (minB_iff.1 h2).1
  · intro h
    obtain ⟨y, hy, hm, hsub⟩ := minB_below (S := hitB ls) _ hb h
    have hyJ := min_in hv hy hm
    exact ⟨listed y J, (mem_allR hJ hv).2 ⟨isL_listed' _ _, by rw [bits_listed hyJ]; exact hm⟩, by rw [bits_listed hyJ]; exact hsub⟩
theorem anti_pair {J : Nat} {ls : List (List Int)} (hJ : J ≤ 8) (hv : ∀ l ∈ ls, isL (J : Int) 0 l = true) {i k : Nat} {a b : List Int} (hi : (allR J ls)[i]? = some a) (hk : (allR J ls)[k]? = some b) (hne : i ≠ k) : (bitsL a &&& bitsL b == bitsL a) = false := by
  obtain ⟨h1, h2⟩ := (mem_allR hJ hv).1 (List.mem_of_getElem? hi)
  obtain ⟨h3, h4⟩ := (mem_allR hJ hv).1 (List.mem_of_getElem? hk)
  have ba := pow_le256 hJ (bitsL_lt h1)
  have bb := pow_le256 hJ (bitsL_lt h3)
  rw [and_sub ba, Bool.eq_false_iff]
  intro hs
  have e := min_anti _ _ _ ba bb h2 h4 hs
  have e2 := bitsL_inj h1 h3 e
  subst e2
  have hn : (allR J ls).Nodup := srt_nodup (allR_srt hJ)
  obtain ⟨hi', ei⟩ := List.getElem?_eq_some_iff.1 hi
  obtain ⟨hk', ek⟩ := List.getElem?_eq_some_iff.1 hk
  rcases Nat.lt_or_gt_of_ne hne with h5 | h5
  · exact List.pairwise_iff_getElem.1 hn i k hi' hk' h5 (ei.trans ek.symm)
  · exact List.pairwise_iff_getElem.1 hn k i hk' hi' h5 (ek.trans ei.symm)
/-- What BlameTight asks. -/
structure TightF (J : Nat) (ls : List (List Int)) (s : List Int) : Prop where
  bad : blmE J ls s ≠ 0 → blmE J ls s = 21 ∧ tgtE J ls s = 21 ∧ hldB (allR J ls) s = false
  good : blmE J ls s = 0 → rtgE J ls (tigV J ls s) = 0 ∧ hldB (allR J ls) s = true ∧ (bitsL (tigV J ls s) &&& bitsL s) = bitsL (tigV J ls s) ∧ tigV J ls s ∈ allR J ls ∧ (tgtE J ls s == 0) = eqI (tigV J ls s) s ∧ isL (J : Int) 0 (tigV J ls s) = true
theorem tight_facts {J : Nat} {ls : List (List Int)} {s : List Int} (h : chkBook J ls = 0) (hs : isL (J : Int) 0 s = true) : TightF J ls s := by
  obtain ⟨J', e, -, -, hJ8, -, hv, hv8⟩ := book_nat h
  obtain rfl : J = J' := by omega
  have hb := pow_le256 hJ8 (bitsL_lt hs)
  refine ⟨fun hn => ?_, fun h0 => ?_⟩
  · rw [hold_hit hJ8 hv hs, tgtE_eq, rtgE_of h hJ8 hs]
    rw [blmE_of h hs] at hn ⊢
    cases hh : hitB ls (bitsL s)
    · exact ⟨rfl, rfl, rfl⟩
    · rw [hh] at hn; exact absurd rfl hn
  · have hh : hitB ls (bitsL s) = true := by
      rw [blmE_of h hs] at h0
      cases hq : hitB ls (bitsL s)
      · rw [hq] at h0; cases h0
      · rfl
    obtain ⟨t1, t2, t3⟩ := tig_law h hs hh
    have tb := pow_le256 hJ8 (bitsL_lt t1)
    have hm : tigV J ls s ∈ allR J ls := (mem_allR hJ8 hv).2 ⟨t1, t2⟩
    refine ⟨(rtg_mem h hJ8 hv hm).1, by rw [hold_hit hJ8 hv hs]; exact hh, ?_, hm, ?_, t1⟩
    · have := and_sub (b := bitsL s) tb
      rw [t3] at this
      simpa using this
    · rw [tgtE_eq, rtgE_of h hJ8 hs, hh, if_pos rfl, Bool.eq_iff_iff, eqI_t]
      cases hm2 : minB (hitB ls) (bitsL s)
      · constructor
        · intro e; cases e
        · intro e; rw [e, hm2] at t2; cases t2
      · refine ⟨fun _ => ?_, fun _ => rfl⟩
        exact bitsL_inj t1 hs (min_anti _ _ _ tb hb t2 hm2 t3)
end Go.Proofs.YtnpilfpackdimaaGreat
/- Plain law: the dual of the dual is the core; a book and its core. -/
namespace Go.Proofs.YtnpilfpackdimaaGreat
theorem sub_zero {a b : Nat} (h : ∀ i, a.testBit i = true → b.testBit i = false) : a &&& b = 0 := by
  apply Nat.eq_of_testBit_eq
  intro i
  rw [Nat.testBit_and, Nat.zero_testBit]
  cases ha : a.testBit i
  · rfl
  · rw [h i ha]; rfl
/-- A set blames all tight blames just if it has a hire in it. -/
theorem hit_dual {J : Nat} {ls : List (List Int)} (hJ : J ≤ 8) (hv : ∀ l ∈ ls, isL (J : Int) 0 l = true) (hv8 : ∀ l ∈ ls, isL 8 0 l = true) {x : Nat} (hx : x < 256) : hitB (allR J ls) x = ls.any fun l => subB (bitsL l) x := by
  rw [Bool.eq_iff_iff]
  constructor
  · intro h
    cases hn : ls.any fun l => subB (bitsL l) x
    · exfalso
      have hc : hitB ls (x ^^^ 255) = true := by
        unfold hitB
        rw [List.all_eq_true]
        intro l hl
        have h1 := List.any_eq_false.1 hn l hl
        have h8 := hv8 l hl
        have h0 : ∀ y ∈ l, 0 ≤ y := fun y hy => (isL_bd h8 y hy).1
        cases ha : l.any (inB (x ^^^ 255))
        · exfalso
          apply h1
          rw [subB_iff (bits8 h8)]
          intro i hi
          rw [bitsL_test h0, has_iff] at hi
          have h2 := List.any_eq_false.1 ha _ hi
          have hi8 := isL_bd h8 _ hi
          have h3 : (255 : Nat).testBit i = true := by
            have : i < 8 := by omega
            rw [show (255 : Nat) = 2 ^ 8 - 1 from rfl, Nat.testBit_two_pow_sub_one]; simp [this]
          unfold inB at h2
          rw [Int.toNat_natCast, Nat.testBit_xor, h3] at h2
          simpa using h2
        · rfl
      obtain ⟨y, hy, hm, hsub⟩ := minB_below (S := hitB ls) (x ^^^ 255) (Nat.xor_lt_two_pow (n := 8) hx (by decide)) hc
      have hyJ := min_in hv hy hm
      have hyM : listed y J ∈ allR J ls := (mem_allR hJ hv).2 ⟨isL_listed' _ _, by rw [bits_listed hyJ]; exact hm⟩
      unfold hitB at h
      obtain ⟨e, he, heb⟩ := List.any_eq_true.1 (List.all_eq_true.1 h _ hyM)
      obtain ⟨i, rfl, hiJ, hib⟩ := mem_listed.1 he
      have h4 := (subB_iff hy).1 hsub i hib
      unfold inB at heb
      rw [Int.toNat_natCast] at heb
      have h3 : (255 : Nat).testBit i = true := by
        have : i < 8 := by omega
        rw [show (255 : Nat) = 2 ^ 8 - 1 from rfl, Nat.testBit_two_pow_sub_one]; simp [this]
      rw [Nat.testBit_xor, h3, heb] at h4
      simp at h4
    · rfl
  · intro h
    obtain ⟨l, hl, hs⟩ := List.any_eq_true.1 h
    unfold hitB
    rw [List.all_eq_true]
    intro p hp
    obtain ⟨h1, h2⟩ := (mem_allR hJ hv).1 hp
    have h3 := (minB_iff.1 h2).1
    unfold hitB at h3
    obtain ⟨e, he, heb⟩ := List.any_eq_true.1 (List.all_eq_true.1 h3 l hl)
    have h8 := hv8 l hl
    have he8 := isL_bd h8 e he
    have hp0 : ∀ y ∈ p, 0 ≤ y := fun y hy => (isL_bd h1 y hy).1
    have hep : e ∈ p := by
      have h5 : (bitsL p).testBit e.toNat = true := heb
      rw [bitsL_test hp0, has_iff, Int.toNat_of_nonneg he8.1] at h5
      exact h5
    refine List.any_eq_true.2 ⟨e, hep, ?_⟩
    have := (subB_iff (bits8 h8)).1 hs e.toNat (by rw [bitsL_test (fun y hy => (isL_bd h8 y hy).1), has_iff, Int.toNat_of_nonneg he8.1]; exact he)
    exact this
theorem S0_mem {ls : List (List Int)} {x : Nat} : S0 ls x = true ↔ ∃ l ∈ ls, bitsL l = x := by
  unfold S0
  rw [List.any_eq_true]
  simp
theorem up_min {ls : List (List Int)} (hv8 : ∀ l ∈ ls, isL 8 0 l = true) : ∀ x, x < 256 → minB (fun x => ls.any fun l => subB (bitsL l) x) x = minB (S0 ls) x := fun x hx => by
  rw [Bool.eq_iff_iff]
  constructor
  · intro h
    obtain ⟨h1, h2⟩ := minB_iff.1 h
    obtain ⟨l, hl, hs⟩ := List.any_eq_true.1 h1
    have hb := bits8 (hv8 l hl)
    have e : bitsL l = x := by
      by_cases e : bitsL l = x
      · exact e
      · have := h2 (bitsL l) hb (List.any_eq_true.2 ⟨l, hl, subB_refl hb⟩) e
        rw [hs] at this; cases this
    rw [minB_iff]
    refine ⟨S0_mem.2 ⟨l, hl, e⟩, fun y hy hS hne => ?_⟩
    obtain ⟨p, hp, rfl⟩ := S0_mem.1 hS
    exact h2 _ hy (List.any_eq_true.2 ⟨p, hp, subB_refl hy⟩) hne
  · intro h
    obtain ⟨h1, h2⟩ := minB_iff.1 h
    obtain ⟨l, hl, e⟩ := S0_mem.1 h1
    rw [minB_iff]
    refine ⟨List.any_eq_true.2 ⟨l, hl, by rw [e]; exact subB_refl hx⟩, fun y hy hS hne => ?_⟩
    obtain ⟨p, hp, hs⟩ := List.any_eq_true.1 hS
    have hb := bits8 (hv8 p hp)
    rw [Bool.eq_false_iff]
    intro hyx
    have hpx := subB_trans hb hy hs hyx
    by_cases hpe : bitsL p = x
    · rw [hpe] at hs
      exact hne (subB_anti hy hx hyx hs)
    · have := h2 _ hb (S0_mem.2 ⟨p, hp, rfl⟩) hpe
      rw [hpx] at this; cases this
theorem dual_dual {J : Nat} {ls : List (List Int)} (hJ : J ≤ 8) (hv : ∀ l ∈ ls, isL (J : Int) 0 l = true) (hv8 : ∀ l ∈ ls, isL 8 0 l = true) : allR J (allR J ls) = leastL ls := by
  have hM : ∀ l ∈ allR J ls, isL (J : Int) 0 l = true := fun l hl => ((mem_allR hJ hv).1 hl).1
  rw [allR_eq hJ hM]
  unfold leastL
  refine ordL_congr fun x hx => ?_
  rw [← up_min hv8 x hx, Bool.eq_iff_iff, minB_iff, minB_iff, hit_dual hJ hv hv8 hx]
  constructor
  · rintro ⟨h1, h2⟩; exact ⟨h1, fun y hy hS hne => h2 y hy (by rw [hit_dual hJ hv hv8 hy]; exact hS) hne⟩
  · rintro ⟨h1, h2⟩; exact ⟨h1, fun y hy hS hne => h2 y hy (by rw [← hit_dual hJ hv hv8 hy]; exact hS) hne⟩
theorem chk_of {J : Nat} {ls : List (List Int)} (h1 : 1 ≤ J) (h8 : J ≤ 8) (hn : ls.length ≤ 10) (hv : ∀ l ∈ ls, isL (J : Int) 0 l = true) : chkBook J ls = 0 := by
  unfold chkBook
  rw [if_neg (by omega), if_neg]
  rw [Bool.not_eq_false, List.all_eq_true]
  exact hv
theorem mem_leastL {ls : List (List Int)} {l : List Int} : l ∈ leastL ls ↔ ∃ x, x < 256 ∧ minB (S0 ls) x = true ∧ listed x 8 = l := mem_ordL
theorem least_mem {ls : List (List Int)} (hv8 : ∀ l ∈ ls, isL 8 0 l = true) {l : List Int} (h : l ∈ leastL ls) : l ∈ ls ∧ minB (S0 ls) (bitsL l) = true := by
  obtain ⟨x, hx, hm, rfl⟩ := mem_leastL.1 h
  obtain ⟨p, hp, e⟩ := S0_mem.1 (minB_iff.1 hm).1
  have : listed x 8 = p := by rw [← e]; exact listed_bits (n := 8) (hv8 p hp)
  rw [bits_listed hx]
  exact ⟨this ▸ hp, hm⟩
theorem least_len (ls : List (List Int)) (hv8 : ∀ l ∈ ls, isL 8 0 l = true) : (leastL ls).length ≤ ls.length := by
  rw [← core_eq hv8]
  unfold coreR
  rw [sortL_len]
  unfold coreL
  rw [List.length_map]
  exact Nat.le_trans (List.length_filter_le _ _) (by simp)
theorem least_below {ls : List (List Int)} (hv8 : ∀ l ∈ ls, isL 8 0 l = true) {l : List Int} (h : l ∈ ls) : ∃ p ∈ leastL ls, subB (bitsL p) (bitsL l) = true := by
  obtain ⟨y, hy, hm, hs⟩ := minB_below (S := S0 ls) (bitsL l) (bits8 (hv8 l h)) (S0_mem.2 ⟨l, h, rfl⟩)
  exact ⟨listed y 8, mem_leastL.2 ⟨y, hy, hm, rfl⟩, by rw [bits_listed hy]; exact hs⟩
theorem any_sub {p l : List Int} {x : Nat} (hp : isL 8 0 p = true) (hl : isL 8 0 l = true) (hs : subB (bitsL p) (bitsL l) = true) (h : p.any (inB x) = true) : l.any (inB x) = true := by
  obtain ⟨e, he, hx⟩ := List.any_eq_true.1 h
  have h0 := isL_bd hp e he
  have := (subB_iff (bits8 hp)).1 hs e.toNat (by rw [bitsL_test (fun y hy => (isL_bd hp y hy).1), has_iff, Int.toNat_of_nonneg h0.1]; exact he)
  rw [bitsL_test (fun y hy => (isL_bd hl y hy).1), has_iff, Int.toNat_of_nonneg h0.1] at this
  exact List.any_eq_true.2 ⟨e, this, hx⟩
theorem core_hit {ls : List (List Int)} (hv8 : ∀ l ∈ ls, isL 8 0 l = true) (x : Nat) : hitB (leastL ls) x = hitB ls x := by
  rw [Bool.eq_iff_iff]
  unfold hitB
  rw [List.all_eq_true, List.all_eq_true]
  constructor
  · intro h l hl
    obtain ⟨p, hp, hs⟩ := least_below hv8 hl
    exact any_sub (hv8 p (least_mem hv8 hp).1) (hv8 l hl) hs (h p hp)
  · intro h p hp
    exact h p (least_mem hv8 hp).1
theorem core_core {ls : List (List Int)} (hv8 : ∀ l ∈ ls, isL 8 0 l = true) : leastL (leastL ls) = leastL ls := by
  unfold leastL
  refine ordL_congr fun x hx => ?_
  have hS : ∀ y, y < 256 → S0 (ordL (minB (S0 ls))) y = minB (S0 ls) y := fun y hy => by
    rw [Bool.eq_iff_iff, S0_mem]
    constructor
    · rintro ⟨l, hl, rfl⟩
      exact (least_mem hv8 hl).2
    · intro h
      exact ⟨listed y 8, mem_leastL.2 ⟨y, hy, h, rfl⟩, bits_listed hy⟩
  rw [Bool.eq_iff_iff, minB_iff, hS x hx]
  constructor
  · exact fun h => h.1
  · intro h
    refine ⟨h, fun y hy h1 hne => ?_⟩
    rw [hS y hy] at h1
    exact (minB_iff.1 h).2 y hy (minB_iff.1 h1).1 hne
theorem core_idle {ls : List (List Int)} (hv8 : ∀ l ∈ ls, isL 8 0 l = true) {h : Nat} (hh : h < (leastL ls).length) : idleB (leastL ls) h = false := by
  have hc8 : ∀ l ∈ leastL ls, isL 8 0 l = true := fun l hl => hv8 l (least_mem hv8 hl).1
  rw [Bool.eq_false_iff]
  intro hi
  obtain ⟨i, hil, hne, hs, h2⟩ := (idle_iff hc8).1 hi
  have mi := getD_mem hil
  have mh := getD_mem hh
  have bi := bits8 (hc8 _ mi)
  have bh := bits8 (hc8 _ mh)
  have e := min_anti _ _ _ bi bh (least_mem hv8 mi).2 (least_mem hv8 mh).2 hs
  have e2 := bitsL_inj (hc8 _ mi) (hc8 _ mh) e
  have hn : (leastL ls).Nodup := srt_nodup (ordL_srt _)
  rw [List.getD_eq_getElem?_getD, List.getElem?_eq_getElem hil, List.getD_eq_getElem?_getD, List.getElem?_eq_getElem hh] at e2
  rcases Nat.lt_or_gt_of_ne hne with h5 | h5
  · exact List.pairwise_iff_getElem.1 hn i h hil hh h5 e2
  · exact List.pairwise_iff_getElem.1 hn h i hh hil h5 e2.symm
structure CoreF (J : Nat) (ls : List (List Int)) : Prop where
  chk : chkBook J (leastL ls) = 0
  great : greatL (leastL ls) = false
  all : allR J (leastL ls) = allR J ls
  again : leastL (leastL ls) = leastL ls
  idle : ∀ h, h < (leastL ls).length → idleB (leastL ls) h = false
  len : (leastL ls).length ≤ 10
  v8 : ∀ l ∈ leastL ls, isL 8 0 l = true
  blm : ∀ s, isL (J : Int) 0 s = true → blmE J (leastL ls) s = blmE J ls s
theorem great_small {ls : List (List Int)} (hn : ls.length ≤ 14) (hv8 : ∀ l ∈ ls, isL 8 0 l = true) : greatL ls = false := by
  unfold greatL wideL
  rw [decide_eq_false (by omega), decide_eq_false (by omega)]
  simp only [Bool.false_or, Bool.not_eq_false', List.all_eq_true, decide_eq_true_eq]
  intro l hl
  have := isL_len8 (hv8 l hl) (by omega)
  omega
theorem core_facts {J : Nat} {ls : List (List Int)} (h : chkBook J ls = 0) : CoreF J ls := by
  obtain ⟨J', e, -, hJ1, hJ8, hln, hv, hv8⟩ := book_nat h
  obtain rfl : J = J' := by omega
  have hl := least_len ls hv8
  have hvc : ∀ l ∈ leastL ls, isL (J : Int) 0 l = true := fun l hl => hv l (least_mem hv8 hl).1
  have hc8 : ∀ l ∈ leastL ls, isL 8 0 l = true := fun l hl => hv8 l (least_mem hv8 hl).1
  have hk := chk_of hJ1 hJ8 (by omega : (leastL ls).length ≤ 10) hvc
  refine ⟨hk, great_small (by omega) hc8, ?_, core_core hv8, fun i hi => core_idle hv8 hi, by omega, hc8, fun s hs => ?_⟩
  · rw [allR_eq hJ8 hvc, allR_eq hJ8 hv]
    refine ordL_congr fun x hx => ?_
    rw [Bool.eq_iff_iff, minB_iff, minB_iff, core_hit hv8]
    constructor
    · rintro ⟨h1, h2⟩; exact ⟨h1, fun y hy hS hne => h2 y hy (by rw [core_hit hv8]; exact hS) hne⟩
    · rintro ⟨h1, h2⟩; exact ⟨h1, fun y hy hS hne => h2 y hy (by rw [← core_hit hv8]; exact hS) hne⟩
  · rw [blmE_of hk hs, blmE_of h hs, core_hit hv8]
end Go.Proofs.YtnpilfpackdimaaGreat
/- Plain law: as many hires that are apart as disjoint sets; a book and its core. -/
namespace Go.Proofs.YtnpilfpackdimaaGreat
def Dj (a b : Nat) : Prop := a &&& b = 0
theorem Dj.symm {a b : Nat} (h : Dj a b) : Dj b a := by unfold Dj at *; rw [Nat.and_comm]; exact h
theorem dj_iff {a b : Nat} : Dj a b ↔ ∀ i, a.testBit i = true → b.testBit i = false := by
  constructor
  · intro h i hi
    have : (a &&& b).testBit i = false := by rw [show a &&& b = 0 from h]; simp
    rw [Nat.testBit_and, hi] at this
    simpa using this
  · exact sub_zero
def hb (ls : List (List Int)) (i : Int) : Nat := bitsL (hire ls i)
theorem sB_bit {ls : List (List Int)} (k : Nat) (hs : List Int) : (sB ls hs).testBit k = hs.any fun i => (hb ls i).testBit k := by
  refine snoc_rec (p := fun hs : List Int => (sB ls hs).testBit k = hs.any fun i => (hb ls i).testBit k) (by unfold sB; simp) (fun l i ih => ?_) hs
  rw [sB_snoc, Nat.testBit_or, ih, List.any_append]
  simp [hb]
theorem hb_zero {ls : List (List Int)} (hv8 : ∀ l ∈ ls, isL 8 0 l = true) {i : Int} (h0 : 0 ≤ i) (h : i < ls.length) : ((hire ls i).isEmpty = true) ↔ hb ls i = 0 := by
  have := bitsL_zero (hv8 _ (hire_mem h0 h))
  unfold hb
  rw [← this, beq_iff_eq]
theorem apP_pair {ls : List (List Int)} (hv8 : ∀ l ∈ ls, isL 8 0 l = true) (hs : List Int) : (∀ i ∈ hs, 0 ≤ i ∧ i < ls.length) → (apP ls hs = true ↔ (∀ i ∈ hs, hb ls i ≠ 0) ∧ hs.Pairwise fun i j => Dj (hb ls i) (hb ls j)) := by
  refine snoc_rec (p := fun hs : List Int => (∀ i ∈ hs, 0 ≤ i ∧ i < ls.length) → (apP ls hs = true ↔ (∀ i ∈ hs, hb ls i ≠ 0) ∧ hs.Pairwise fun i j => Dj (hb ls i) (hb ls j))) (fun _ => by simp [apP, apK]) (fun l i ih hbd => ?_) hs
  have ih := ih fun j hj => hbd j (by simp [hj])
  have hi := hbd i (by simp)
  have hl := hv8 _ (hire_mem hi.1 hi.2)
  rw [apP_snoc, Bool.and_eq_true, Bool.and_eq_true, ih, List.pairwise_append]
  have e1 : (!(hire ls i).isEmpty) = true ↔ hb ls i ≠ 0 := by
    rw [Bool.not_eq_true', Ne, ← hb_zero hv8 hi.1 hi.2]; simp
  have e2 : (!(hire ls i).any fun x => (sB ls l).testBit x.toNat) = true ↔ ∀ j ∈ l, Dj (hb ls j) (hb ls i) := by
    rw [Bool.not_eq_true', List.any_eq_false]
    constructor
    · intro h j hj
      refine Dj.symm (dj_iff.2 fun k hk => ?_)
      unfold hb at hk
      rw [bitsL_test (fun y hy => (isL_bd hl y hy).1), has_iff] at hk
      have := h _ hk
      rw [Int.toNat_natCast, sB_bit] at this
      have h2 := List.any_eq_false.1 (by simpa using this) j hj
      simpa using h2
    · intro h x hx
      rw [sB_bit]
      simp only [Bool.not_eq_true, List.any_eq_false]
      intro j hj
      have h1 := dj_iff.1 (h j hj).symm x.toNat (by unfold hb; rw [bitsL_test (fun y hy => (isL_bd hl y hy).1), has_iff, Int.toNat_of_nonneg (isL_bd hl x hx).1]; exact hx)
      simp [h1]
  rw [e1, e2]
  constructor
  · rintro ⟨⟨h1, h2⟩, h3, h4⟩
    refine ⟨fun j hj => ?_, h2, by simp, fun a ha b hb' => ?_⟩
    · rcases List.mem_append.1 hj with h | h
      · exact h1 j h
      · simp only [List.mem_singleton] at h; subst h; exact h3
    · simp only [List.mem_singleton] at hb'; subst hb'; exact h4 a ha
  · rintro ⟨h1, h2, -, h4⟩
    exact ⟨⟨fun j hj => h1 j (by simp [hj]), h2⟩, h1 i (by simp), fun j hj => h4 j hj i (by simp)⟩
/-- So many disjoint sets. -/
def Fam (S : Nat → Bool) (k : Nat) : Prop := ∃ X : List Nat, X.length = k ∧ X.Pairwise Dj ∧ ∀ x ∈ X, x < 256 ∧ x ≠ 0 ∧ S x = true
theorem pair_all {α : Type} {R : α → α → Prop} (hsym : ∀ a b, R a b → R b a) {l : List α} (h : l.Pairwise R) {a b : α} (ha : a ∈ l) (hb : b ∈ l) (hne : a ≠ b) : R a b := by
  obtain ⟨i, hi, rfl⟩ := List.mem_iff_getElem.1 ha
  obtain ⟨j, hj, rfl⟩ := List.mem_iff_getElem.1 hb
  rcases Nat.lt_trichotomy i j with h1 | h1 | h1
  · exact List.pairwise_iff_getElem.1 h i j hi hj h1
  · subst h1; exact absurd rfl hne
  · exact hsym _ _ (List.pairwise_iff_getElem.1 h j i hj hi h1)
theorem pair_of {α : Type} {R : α → α → Prop} {l : List α} (hn : l.Nodup) (h : ∀ a ∈ l, ∀ b ∈ l, a ≠ b → R a b) : l.Pairwise R := List.Pairwise.imp_of_mem (fun ha hb hne => h _ ha _ hb hne) hn
theorem len_of_mem {l l' : List Int} (hn : l.Nodup) (hn' : l'.Nodup) (h : ∀ x, x ∈ l ↔ x ∈ l') : l.length = l'.length := ((List.perm_ext_iff_of_nodup hn hn').2 h).length_eq
def ixL (ls : List (List Int)) (x : Nat) : Int := (ls.findIdx fun l => bitsL l == x : Nat)
theorem ixL_at {ls : List (List Int)} {x : Nat} (h : S0 ls x = true) : 0 ≤ ixL ls x ∧ ixL ls x < ls.length ∧ hb ls (ixL ls x) = x := by
  obtain ⟨l, hl, e⟩ := S0_mem.1 h
  have hlt : (ls.findIdx fun l => bitsL l == x) < ls.length := List.findIdx_lt_length_of_exists ⟨l, hl, by simp [e]⟩
  have hg := List.findIdx_getElem (w := hlt)
  refine ⟨by unfold ixL; omega, by unfold ixL; omega, ?_⟩
  unfold hb hire ixL
  rw [Int.toNat_natCast, List.getD_eq_getElem?_getD, List.getElem?_eq_getElem hlt]
  simpa using hg
theorem fam_of {ls : List (List Int)} (hv8 : ∀ l ∈ ls, isL 8 0 l = true) {hs : List Int} (h1 : isL (ls.length : Int) 0 hs = true) (h2 : apP ls hs = true) : Fam (S0 ls) hs.length := by
  have hbd : ∀ i ∈ hs, 0 ≤ i ∧ i < ls.length := fun i hi => isL_bd h1 i hi
  obtain ⟨h3, h4⟩ := (apP_pair hv8 hs hbd).1 h2
  refine ⟨hs.map (hb ls), by simp, List.pairwise_map.2 h4, fun x hx => ?_⟩
  obtain ⟨i, hi, rfl⟩ := List.mem_map.1 hx
  have hm := hire_mem (hbd i hi).1 (hbd i hi).2
  exact ⟨bits8 (hv8 _ hm), h3 i hi, S0_mem.2 ⟨_, hm, rfl⟩⟩
theorem of_fam {ls : List (List Int)} (hv8 : ∀ l ∈ ls, isL 8 0 l = true) {k : Nat} (h : Fam (S0 ls) k) : ∃ hs, isL (ls.length : Int) 0 hs = true ∧ apP ls hs = true ∧ hs.length = k := by
  obtain ⟨X, hk, hp, hX⟩ := h
  have hne : ∀ {a b : Nat}, a ∈ X → Dj a b → a ≠ b := fun {a b} ha hd e => by
    subst e
    unfold Dj at hd
    rw [Nat.and_self] at hd
    exact (hX a ha).2.1 hd
  have hXn : X.Nodup := List.Pairwise.imp_of_mem (fun ha _ hd => hne ha hd) hp
  have hnd : (X.map (ixL ls)).Nodup := List.pairwise_map.2 (List.Pairwise.imp_of_mem (fun {a b} ha hb' hd e => by
    have h1 := (ixL_at (hX a ha).2.2).2.2
    have h2 := (ixL_at (hX b hb').2.2).2.2
    rw [e, h2] at h1
    exact hd h1.symm) hXn)
  have hbd : ∀ i ∈ X.map (ixL ls), 0 ≤ i ∧ i < ls.length := fun i hi => by
    obtain ⟨x, hx, rfl⟩ := List.mem_map.1 hi
    have := ixL_at (hX x hx).2.2
    exact ⟨this.1, this.2.1⟩
  have hmem : ∀ i, i ∈ listed (bitsL (X.map (ixL ls))) ls.length ↔ i ∈ X.map (ixL ls) := fun i => by
    rw [mem_listed]
    constructor
    · rintro ⟨j, rfl, hj, hb'⟩
      rw [bitsL_test (fun y hy => (hbd y hy).1), has_iff] at hb'
      exact hb'
    · intro hi
      have := hbd i hi
      exact ⟨i.toNat, by omega, by omega, by rw [bitsL_test (fun y hy => (hbd y hy).1), has_iff, Int.toNat_of_nonneg this.1]; exact hi⟩
  have hl := isL_listed' (bitsL (X.map (ixL ls))) ls.length
  refine ⟨_, hl, ?_, ?_⟩
  · refine (apP_pair hv8 _ (fun i hi => isL_bd hl i hi)).2 ⟨fun i hi => ?_, pair_of (isL_nodup hl) fun a ha b hb' hab => ?_⟩
    · obtain ⟨x, hx, rfl⟩ := List.mem_map.1 ((hmem i).1 hi)
      rw [(ixL_at (hX x hx).2.2).2.2]
      exact (hX x hx).2.1
    · obtain ⟨x, hx, rfl⟩ := List.mem_map.1 ((hmem a).1 ha)
      obtain ⟨y, hy, rfl⟩ := List.mem_map.1 ((hmem b).1 hb')
      rw [(ixL_at (hX x hx).2.2).2.2, (ixL_at (hX y hy).2.2).2.2]
      exact pair_all (fun _ _ h => Dj.symm h) hp hx hy (fun e => hab (by rw [e]))
  · rw [len_of_mem (isL_nodup hl) hnd hmem, List.length_map, hk]
/-- As many hires that are apart as disjoint sets can be. -/
theorem apr_fam {J : Nat} {ls : List (List Int)} (h : chkBook J ls = 0) : Fam (S0 ls) (aprV J ls).length ∧ ∀ k, Fam (S0 ls) k → k ≤ (aprV J ls).length := by
  obtain ⟨-, -, -, -, -, -, -, hv8⟩ := book_nat h
  have ha := apr_book h
  refine ⟨fam_of hv8 ha.1.1 ha.1.2, fun k hk => ?_⟩
  obtain ⟨hs, h1, h2, rfl⟩ := of_fam hv8 hk
  rcases ha.2 hs ⟨h1, h2⟩ with h3 | h3 <;> omega
theorem Fam.congr {S S' : Nat → Bool} (h : ∀ x, x < 256 → S x = true → S' x = true) {k : Nat} (hf : Fam S k) : Fam S' k := by
  obtain ⟨X, h1, h2, h3⟩ := hf
  exact ⟨X, h1, h2, fun x hx => ⟨(h3 x hx).1, (h3 x hx).2.1, h x (h3 x hx).1 (h3 x hx).2.2⟩⟩
noncomputable def mnB (S : Nat → Bool) (x : Nat) : Nat := if h : x < 256 ∧ S x = true then Classical.choose (minB_below (S := S) x h.1 h.2) else 0
theorem mnB_spec {S : Nat → Bool} {x : Nat} (h1 : x < 256) (h2 : S x = true) : mnB S x < 256 ∧ minB S (mnB S x) = true ∧ subB (mnB S x) x = true := by
  unfold mnB
  rw [dif_pos ⟨h1, h2⟩]
  exact Classical.choose_spec (minB_below (S := S) x h1 h2)
theorem fam_min {S : Nat → Bool} (h0 : S 0 = false) {k : Nat} (hf : Fam S k) : Fam (minB S) k := by
  obtain ⟨X, h1, h2, h3⟩ := hf
  refine ⟨X.map (mnB S), by simp [h1], List.pairwise_map.2 (List.Pairwise.imp_of_mem (fun {a b} ha hb' hd => ?_) h2), fun y hy => ?_⟩
  · obtain ⟨a1, a2, a3⟩ := mnB_spec (h3 a ha).1 (h3 a ha).2.2
    obtain ⟨b1, b2, b3⟩ := mnB_spec (h3 b hb').1 (h3 b hb').2.2
    refine dj_iff.2 fun i hi => ?_
    have h4 := dj_iff.1 hd i ((subB_iff a1).1 a3 i hi)
    rw [Bool.eq_false_iff]
    intro h5
    rw [(subB_iff b1).1 b3 i h5] at h4; cases h4
  · obtain ⟨x, hx, rfl⟩ := List.mem_map.1 hy
    obtain ⟨a1, a2, a3⟩ := mnB_spec (h3 x hx).1 (h3 x hx).2.2
    refine ⟨a1, fun e => ?_, a2⟩
    have := (minB_iff.1 a2).1
    rw [e, h0] at this; cases this
theorem core_S0 {ls : List (List Int)} (hv8 : ∀ l ∈ ls, isL 8 0 l = true) {x : Nat} (hx : x < 256) : S0 (leastL ls) x = minB (S0 ls) x := by
  rw [Bool.eq_iff_iff, S0_mem]
  constructor
  · rintro ⟨l, hl, rfl⟩; exact (least_mem hv8 hl).2
  · intro h; exact ⟨listed x 8, mem_leastL.2 ⟨x, hx, h, rfl⟩, bits_listed hx⟩
theorem core_apart {J : Nat} {ls : List (List Int)} (h : chkBook J ls = 0) (hno : S0 ls 0 = false) : (aprV J (leastL ls)).length = (aprV J ls).length := by
  obtain ⟨-, -, -, -, -, -, -, hv8⟩ := book_nat h
  obtain ⟨a1, a2⟩ := apr_fam h
  obtain ⟨b1, b2⟩ := apr_fam (core_facts h).chk
  have h1 := a2 _ (Fam.congr (fun x hx hS => (minB_iff.1 ((core_S0 hv8 hx).symm.trans hS)).1) b1)
  have h2 := b2 _ (Fam.congr (fun x hx hS => (core_S0 hv8 hx).trans hS) (fam_min hno a1))
  omega
/-- All inns blame all hires just if each hire has an inn. -/
theorem full_hit {J : Nat} {ls : List (List Int)} (hv : ∀ l ∈ ls, isL (J : Int) 0 l = true) (hJ : J ≤ 8) : hitB ls (2 ^ J - 1) = !S0 ls 0 := by
  rw [Bool.eq_iff_iff, Bool.not_eq_true', Bool.eq_false_iff]
  unfold hitB
  rw [List.all_eq_true]
  constructor
  · intro h h0
    obtain ⟨l, hl, e⟩ := S0_mem.1 h0
    have h8 : isL 8 0 l = true := isL_weak (by omega) (hv l hl)
    have := bitsL_zero h8
    rw [e] at this
    have hnil : l = [] := by simpa using this.symm
    have := h l hl
    rw [hnil] at this; cases this
  · intro h l hl
    cases hc : l with
    | nil => exact absurd (S0_mem.2 ⟨l, hl, by rw [hc]; rfl⟩) h
    | cons x t =>
      have hx := isL_bd (hv l hl) x (by rw [hc]; simp)
      refine List.any_eq_true.2 ⟨x, by simp, ?_⟩
      unfold inB
      rw [Nat.testBit_two_pow_sub_one]
      simp; omega
end Go.Proofs.YtnpilfpackdimaaGreat
/- Plain law: one more hire. -/
namespace Go.Proofs.YtnpilfpackdimaaGreat
theorem fw_bad {J : Nat} {ls : List (List Int)} (h : bestE J ls ≠ 0) : fwIs J ls = false ∧ fwV J ls = 0 := by
  unfold fwIs fwV
  rw [if_pos h]
  exact ⟨beq_eq_false_iff_ne.2 h, rfl⟩
theorem len_sub {α : Type} [DecidableEq α] : ∀ {a b : List α}, a.Nodup → (∀ x ∈ a, x ∈ b) → a.length ≤ b.length
  | [], _, _, _ => Nat.zero_le _
  | x :: a, b, hn, hs => by
    obtain ⟨h1, h2⟩ := List.nodup_cons.1 hn
    have hx := hs x (by simp)
    have ih := len_sub (a := a) (b := b.erase x) h2 (fun y hy => (List.mem_erase_of_ne (fun e : y = x => h1 (e ▸ hy))).2 (hs y (by simp [hy])))
    rw [List.length_erase_of_mem hx] at ih
    have := List.length_pos_of_mem hx
    simp only [List.length_cons]
    omega
theorem and_zero {s more : List Int} (hs : ∀ x ∈ s, 0 ≤ x) (hm : ∀ x ∈ more, 0 ≤ x) : (bitsL s &&& bitsL more == 0) = !more.any (inB (bitsL s)) := by
  rw [Bool.eq_iff_iff, beq_iff_eq, Bool.not_eq_true', List.any_eq_false]
  constructor
  · intro h x hx
    have h1 : (bitsL s &&& bitsL more).testBit x.toNat = false := by rw [h]; simp
    rw [Nat.testBit_and, bitsL_test hm, has_iff.2 (by rw [Int.toNat_of_nonneg (hm x hx)]; exact hx), Bool.and_true] at h1
    unfold inB; rw [h1]; simp
  · intro h
    refine sub_zero fun i hi => ?_
    rw [bitsL_test hm, Bool.eq_false_iff]
    intro hh
    rw [has_iff] at hh
    have := h _ hh
    unfold inB at this
    rw [Int.toNat_natCast] at this
    exact this hi
structure MoreF (J : Nat) (ls : List (List Int)) (more s : List Int) : Prop where
  chk : chkBook J (ls ++ [more]) = 0
  ok1 : fwOk J ls = true
  ok2 : fwOk J (ls ++ [more]) = true
  same : fwIs J ls = fwIs J (ls ++ [more])
  size : fwIs J ls = true → fwV J ls ≤ fwV J (ls ++ [more]) ∧ fwV J (ls ++ [more]) ≤ fwV J ls + 1
  imp : blmE J (ls ++ [more]) s = 0 → blmE J ls s = 0
  eqv : (blmE J ls s == 0) = ((blmE J (ls ++ [more]) s == 0) || ((blmE J ls s == 0) && (bitsL s &&& bitsL more == 0)))
theorem more_facts {J : Nat} {ls : List (List Int)} {more s : List Int} (h : chkBook J ls = 0) (hn : ls.length < 10) (hm : isL (J : Int) 0 more = true) (hne : more ≠ []) (hs : isL (J : Int) 0 s = true) : MoreF J ls more s := by
  obtain ⟨J', e, -, hJ1, hJ8, hln, hv, hv8⟩ := book_nat h
  obtain rfl : J = J' := by omega
  have hvX : ∀ l ∈ ls ++ [more], isL (J : Int) 0 l = true := fun l hl => by
    rcases List.mem_append.1 hl with h1 | h1
    · exact hv l h1
    · rw [List.mem_singleton.1 h1]; exact hm
  have hX := chk_of hJ1 hJ8 (by simp; omega) hvX
  have hb1 := best_facts h
  have hb2 := best_facts hX
  have hs0 : ∀ x ∈ s, 0 ≤ x := fun x hx => (isL_bd hs x hx).1
  have hm0 : ∀ x ∈ more, 0 ≤ x := fun x hx => (isL_bd hm x hx).1
  have hdown : ∀ l, hitB (ls ++ [more]) l = true → hitB ls l = true := fun l hl => by
    rw [hit_snoc, Bool.and_eq_true] at hl; exact hl.1
  have hup : ∀ l, isL (J : Int) 0 l = true → hitB ls (bitsL l) = true → ∃ l', isL (J : Int) 0 l' = true ∧ hitB (ls ++ [more]) (bitsL l') = true ∧ l'.length ≤ l.length + 1 := fun l hl hh => by
    cases hmc : more with
    | nil => exact absurd hmc hne
    | cons x t =>
      have hx := isL_bd hm x (by rw [hmc]; simp)
      have hl0 : ∀ x ∈ l, 0 ≤ x := fun x hx => (isL_bd hl x hx).1
      have hlt : bitsL l ||| 2 ^ x.toNat < 2 ^ J := Nat.or_lt_two_pow (bitsL_lt hl) (Nat.pow_lt_pow_right (by decide) (by omega))
      refine ⟨listed (bitsL l ||| 2 ^ x.toNat) J, isL_listed' _ _, ?_, ?_⟩
      · rw [bits_listed hlt, ← hmc, hit_snoc, Bool.and_eq_true]
        refine ⟨hit_mono (fun i hi => by rw [Nat.testBit_or, hi, Bool.true_or]) hh, List.any_eq_true.2 ⟨x, by rw [hmc]; simp, ?_⟩⟩
        unfold inB
        rw [Nat.testBit_or, Nat.testBit_two_pow]; simp
      · have hle : (listed (bitsL l ||| 2 ^ x.toNat) J).length ≤ (x :: l).length := by
          have hsub : ∀ y ∈ listed (bitsL l ||| 2 ^ x.toNat) J, y ∈ x :: l := fun y hy => by
            obtain ⟨i, rfl, hi, hb⟩ := mem_listed.1 hy
            rw [Nat.testBit_or, Nat.testBit_two_pow, Bool.or_eq_true] at hb
            rcases hb with hb | hb
            · rw [bitsL_test hl0, has_iff] at hb; simp [hb]
            · have : x.toNat = i := by simpa using hb
              have : (i : Int) = x := by omega
              simp [this]
          have hnd := isL_nodup (isL_listed' (bitsL l ||| 2 ^ x.toNat) J)
          exact len_sub hnd hsub
        simpa using hle
  refine ⟨hX, fwOk_true h, fwOk_true hX, ?_, fun hi => ?_, fun he => ?_, ?_⟩
  · by_cases h1 : bestE J ls = 0
    · obtain ⟨g1, g2, -⟩ := hb1.good h1
      obtain ⟨l', k1, k2, -⟩ := hup _ g1 g2
      rw [(fw_good h1).1, (fw_good (hb2.some l' k1 k2)).1]
    · have h2 : bestE J (ls ++ [more]) ≠ 0 := fun e => by
        obtain ⟨g1, g2, -⟩ := hb2.good e
        exact h1 (hb1.some _ g1 (hdown _ g2))
      rw [(fw_bad h1).1, (fw_bad h2).1]
  · have h1 : bestE J ls = 0 := by unfold fwIs at hi; simpa using hi
    obtain ⟨g1, g2, g3⟩ := hb1.good h1
    obtain ⟨l', k1, k2, k3⟩ := hup _ g1 g2
    have h2 := hb2.some l' k1 k2
    obtain ⟨q1, q2, q3⟩ := hb2.good h2
    rw [(fw_good h1).2, (fw_good h2).2]
    have a1 := rr_le (g3 _ q1 (hdown _ q2))
    have a2 := rr_le (q3 _ k1 k2)
    omega
  · rw [blmE_of hX hs] at he
    have : hitB (ls ++ [more]) (bitsL s) = true := by
      cases hq : hitB (ls ++ [more]) (bitsL s)
      · rw [hq] at he; cases he
      · rfl
    rw [blmE_of h hs, hdown _ this]; rfl
  · rw [blmE_of h hs, blmE_of hX hs, hit_snoc, and_zero hs0 hm0]
    cases hitB ls (bitsL s) <;> cases more.any (inB (bitsL s)) <;> rfl
end Go.Proofs.YtnpilfpackdimaaGreat
