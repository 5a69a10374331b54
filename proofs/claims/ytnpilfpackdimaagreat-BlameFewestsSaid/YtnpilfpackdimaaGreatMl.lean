/- Texts of the proof, laid together by program. -/
import Derived.ProofKit
import Derived.OpenShut
import Derived.Carry
import Derived.Deep.Slices
import Derived.Test.YtnpilfpackdimaaGreatMk
import Derived.Test.YtnpilfpackdimaaGreatRows
import Derived.Test.YtnpilfpackdimaaGreatMi
set_option linter.unusedSimpArgs false
set_option linter.unusedVariables false
/- Five and six parameters of a law; bounds of small kinds. -/
namespace Go.Proofs.YtnpilfpackdimaaGreat
open Go.ChangeShapes Go.WideShapes Go.ChangeAt Go.RowKit Go.Deep
section
variable {H : Type} {enc : TypeId × Value → H} {P : Program} {w : World} {base : Nat} {spare : Nat → Bool} {held : Bool}
theorem trodAll_five {t0 t1 t2 t3 t4 : TypeId} {args : Array Value} {ds : List (DataW H)} {ps : List MemPlace} (h : DataW.TrodAll enc P w base spare held [t0, t1, t2, t3, t4] args.toList ds ps) :
    ∃ v0 v1 v2 v3 v4 d0 d1 d2 d3 d4 p0 p1 p2 p3 p4, args = #[v0, v1, v2, v3, v4] ∧ ds = [d0, d1, d2, d3, d4] ∧ ps = p0 ++ p1 ++ p2 ++ p3 ++ p4 ∧ DataW.Trod enc P w base spare held t0 v0 d0 p0 ∧ DataW.Trod enc P w base spare held t1 v1 d1 p1 ∧ DataW.Trod enc P w base spare held t2 v2 d2 p2 ∧ DataW.Trod enc P w base spare held t3 v3 d3 p3 ∧ DataW.Trod enc P w base spare held t4 v4 d4 p4 := by
  obtain ⟨v0, vs0, d0, ds0, p0, q0, hargs, rfl, rfl, h0, r0⟩ := trodAll_cons h
  obtain ⟨v1, vs1, d1, ds1, p1, q1, rfl, rfl, rfl, h1, r1⟩ := trodAll_cons r0
  obtain ⟨v2, vs2, d2, ds2, p2, q2, rfl, rfl, rfl, h2, r2⟩ := trodAll_cons r1
  obtain ⟨v3, vs3, d3, ds3, p3, q3, rfl, rfl, rfl, h3, r3⟩ := trodAll_cons r2
  obtain ⟨v4, vs4, d4, ds4, p4, q4, rfl, rfl, rfl, h4, r4⟩ := trodAll_cons r3
  obtain ⟨rfl, rfl, rfl⟩ := trodAll_nil r4
  exact ⟨v0, v1, v2, v3, v4, d0, d1, d2, d3, d4, p0, p1, p2, p3, p4, by cases args; simp_all, rfl, by simp, h0, h1, h2, h3, h4⟩
theorem trodAll_six {t0 t1 t2 t3 t4 t5 : TypeId} {args : Array Value} {ds : List (DataW H)} {ps : List MemPlace} (h : DataW.TrodAll enc P w base spare held [t0, t1, t2, t3, t4, t5] args.toList ds ps) :
    ∃ v0 v1 v2 v3 v4 v5 d0 d1 d2 d3 d4 d5 p0 p1 p2 p3 p4 p5, args = #[v0, v1, v2, v3, v4, v5] ∧ ds = [d0, d1, d2, d3, d4, d5] ∧ ps = p0 ++ p1 ++ p2 ++ p3 ++ p4 ++ p5 ∧ DataW.Trod enc P w base spare held t0 v0 d0 p0 ∧ DataW.Trod enc P w base spare held t1 v1 d1 p1 ∧ DataW.Trod enc P w base spare held t2 v2 d2 p2 ∧ DataW.Trod enc P w base spare held t3 v3 d3 p3 ∧ DataW.Trod enc P w base spare held t4 v4 d4 p4 ∧ DataW.Trod enc P w base spare held t5 v5 d5 p5 := by
  obtain ⟨v0, vs0, d0, ds0, p0, q0, hargs, rfl, rfl, h0, r0⟩ := trodAll_cons h
  obtain ⟨v1, vs1, d1, ds1, p1, q1, rfl, rfl, rfl, h1, r1⟩ := trodAll_cons r0
  obtain ⟨v2, vs2, d2, ds2, p2, q2, rfl, rfl, rfl, h2, r2⟩ := trodAll_cons r1
  obtain ⟨v3, vs3, d3, ds3, p3, q3, rfl, rfl, rfl, h3, r3⟩ := trodAll_cons r2
  obtain ⟨v4, vs4, d4, ds4, p4, q4, rfl, rfl, rfl, h4, r4⟩ := trodAll_cons r3
  obtain ⟨v5, vs5, d5, ds5, p5, q5, rfl, rfl, rfl, h5, r5⟩ := trodAll_cons r4
  obtain ⟨rfl, rfl, rfl⟩ := trodAll_nil r5
  exact ⟨v0, v1, v2, v3, v4, v5, d0, d1, d2, d3, d4, d5, p0, p1, p2, p3, p4, p5, by cases args; simp_all, rfl, by simp, h0, h1, h2, h3, h4, h5⟩
end
theorem u8_bd {x : Int} (h : (Lit.int .u8 x).wf = true) : 0 ≤ x ∧ x ≤ 255 := by
  simp [Lit.wf, IntKind.min, IntKind.max, IntKind.signed, IntKind.bits] at h
  omega
theorem u16_bd {x : Int} (h : (Lit.int .u16 x).wf = true) : 0 ≤ x ∧ x ≤ 65535 := by
  simp [Lit.wf, IntKind.min, IntKind.max, IntKind.signed, IntKind.bits] at h
  omega
theorem u32_bd {x : Int} (h : (Lit.int .u32 x).wf = true) : 0 ≤ x ∧ x ≤ 4294967295 := by
  simp [Lit.wf, IntKind.min, IntKind.max, IntKind.signed, IntKind.bits] at h
  omega
end Go.Proofs.YtnpilfpackdimaaGreat
/- How the arguments of a law read: books, lists of lists, lists. -/
namespace Go.Proofs.YtnpilfpackdimaaGreat
open Go.ChangeShapes Go.WideShapes Go.ChangeAt Go.RowKit Go.Deep

section
variable {H : Type} {enc : TypeId × Value → H} {W : World}
theorem trod_int_cell {k : IntKind} {t : TypeId} (ht : Tryz.prog.underlying t = some (.int k)) {n : Nat} {cs : List Value} {x : DataW H × List MemPlace} (h : DataW.trod enc Tryz.prog W 0 (fun _ => true) true n t cs = some x) : ∃ z : Int, cs = [.int k z] ∧ (Lit.int k z).wf = true := by
  obtain ⟨z, h1, _, h2⟩ := DataW.trod_int ht h
  exact ⟨z, h1, h2⟩
theorem collect_elems {α : Type} {f : α → List Value} {s : Nat} {a : Addr} : ∀ k : Nat, (∀ i, i < k → ∃ y : α, ∀ j, j < s → W.cell? ((a.add (i * s)).add j) = (f y)[j]?) → ∃ l : List α, l.length = k ∧ ∀ i y, l[i]? = some y → ∀ j, j < s → W.cell? ((a.add (i * s)).add j) = (f y)[j]?
  | 0, _ => ⟨[], rfl, fun i y h => by simp at h⟩
  | k + 1, h => by
    obtain ⟨l, hl, hc⟩ := collect_elems k (fun i hi => h i (by omega))
    obtain ⟨y, hy⟩ := h k (by omega)
    refine ⟨l ++ [y], by simp [hl], fun i z hz => ?_⟩
    rcases Nat.lt_or_ge i l.length with hlt | hge
    · rw [List.getElem?_append_left hlt] at hz
      exact hc i z hz
    · rw [List.getElem?_append_right hge] at hz
      obtain rfl : i = k := by
        rcases Nat.lt_or_ge (i - l.length) 1 with h1 | h1
        · omega
        · rw [List.getElem?_eq_none (by simpa using h1)] at hz; cases hz
      rw [hl, Nat.sub_self] at hz
      obtain rfl : y = z := by simpa using hz
      exact hy
theorem open_raw {α : Type} {f : α → List Value} {s : Nat} (hs : 0 < s) (hf : ∀ y, (f y).length = s) {t e : TypeId} (ht : Tryz.prog.underlying t = some (.slice e)) (hC : Tryz.prog.cellsOf e = s)
    (rd : ∀ (n : Nat) cs (x : DataW H × List MemPlace), DataW.trod enc Tryz.prog W 0 (fun _ => true) true n e cs = some x → ∃ y, cs = f y) {fuel : Nat} {cs : List Value} {x : DataW H × List MemPlace}
    (hfu : DataW.trod enc Tryz.prog W 0 (fun _ => true) true fuel t cs = some x) : ∃ A n c, cs = [.slice A n c] ∧ n ≤ c ∧ ∃ l : List α, l.length = n ∧ Sl W W.heap.size s A n (l.flatMap f) := by
  rcases open_slice ht hfu with ⟨e, _⟩ | ⟨a, len, cap, m, n', D, Pl, e, hb, hl, hm, hmm, hx, hi⟩
  · exact ⟨none, 0, 0, e, Nat.le_refl _, [], rfl, Sl.none_⟩
  · simp only [if_true] at hmm
    refine ⟨some a, len, cap, e, hl, ?_⟩
    clear e
    obtain ⟨n, rfl⟩ : ∃ n, n = len := ⟨_, rfl⟩
    obtain ⟨l, hll, hc⟩ := collect_elems (W := W) (f := f) (s := s) (a := a) n (fun i hi' => by
      obtain ⟨cs', hcs, htr⟩ := hi i (by omega)
      rw [hC] at hcs
      obtain ⟨y, rfl⟩ := rd _ _ _ htr
      obtain ⟨_, _, hat⟩ := World.cells?_some hcs
      exact ⟨y, hat⟩)
    refine ⟨l, hll, by rw [flat_len hf, hll], fun hn => ?_⟩
    obtain ⟨b, off, spot⟩ := a
    have h0 : l[0]? = some l[0] := List.getElem?_eq_getElem (by omega)
    have hc0 := hc 0 _ h0 0 hs
    have hv : (f l[0])[0]? = some ((f l[0])[0]'(by rw [hf]; exact hs)) := List.getElem?_eq_getElem _
    rw [hv] at hc0
    have hspot : spot = none := by simpa [Addr.add] using World.cell?_spot hc0
    subst hspot
    have hb' : b < W.heap.size := by
      have := World.block_lt_of_cell? W _ hc0
      simpa [Addr.add] using this
    refine ⟨b, off, rfl, hb', fun j u hu => ?_⟩
    have hj : j < l.length * s := by
      have := (List.getElem?_eq_some_iff.1 hu).1
      rwa [flat_len hf] at this
    have hq : j / s < l.length := (Nat.div_lt_iff_lt_mul hs).2 hj
    have hr : j % s < s := Nat.mod_lt _ hs
    have hlq : l[j / s]? = some l[j / s] := List.getElem?_eq_getElem hq
    have h1 := hc _ _ hlq _ hr
    have h2 := flat_at hf l (j / s) (j % s) _ hlq hr
    have e : j / s * s + j % s = j := by rw [Nat.mul_comm]; exact Nat.div_add_mod j s
    rw [e] at h2
    rw [← h2, hu] at h1
    rw [← h1, add_at, add_at, Nat.add_assoc, e]
theorem open_gen {α : Type} {f : α → List Value} {s : Nat} (hs : 0 < s) (hf : ∀ y, (f y).length = s) {t e : TypeId} (ht : Tryz.prog.underlying t = some (.slice e)) (hC : Tryz.prog.cellsOf e = s)
    (rd : ∀ (n : Nat) cs (x : DataW H × List MemPlace), DataW.trod enc Tryz.prog W 0 (fun _ => true) true n e cs = some x → ∃ y, cs = f y) {A : Option Addr} {n c : Nat} {d : DataW H} {p : List MemPlace}
    (h : DataW.Trod enc Tryz.prog W 0 (fun _ => true) true t (.slice A n c) d p) : n ≤ c ∧ ∃ l : List α, l.length = n ∧ Sl W W.heap.size s A n (l.flatMap f) := by
  obtain ⟨fuel, hfu⟩ := h
  obtain ⟨A', n', c', e, h1, h2⟩ := open_raw hs hf ht hC rd hfu
  simp [Value.cells] at e
  obtain ⟨rfl, rfl, rfl⟩ := e
  exact ⟨h1, h2⟩
theorem open_is {k : IntKind} {t e : TypeId} (ht : Tryz.prog.underlying t = some (.slice e)) (he : Tryz.prog.underlying e = some (.int k)) (hC : Tryz.prog.cellsOf e = 1) {A : Option Addr} {n c : Nat} {d : DataW H} {p : List MemPlace}
    (h : DataW.Trod enc Tryz.prog W 0 (fun _ => true) true t (.slice A n c) d p) : n ≤ c ∧ ∃ l : List { z : Int // (Lit.int k z).wf = true }, l.length = n ∧ Sl W W.heap.size 1 A n (l.flatMap fun x => [.int k x.1]) :=
  open_gen (α := { z : Int // (Lit.int k z).wf = true }) (f := fun x => [.int k x.1]) (s := 1) (by omega) (fun _ => rfl) ht hC (fun _ _ _ h => by obtain ⟨z, h1, h2⟩ := trod_int_cell he h; exact ⟨⟨z, h2⟩, h1⟩) h
theorem open_ins {t e : TypeId} (ht : Tryz.prog.underlying t = some (.slice e)) (he : Tryz.prog.underlying e = some (.int .i64)) (hC : Tryz.prog.cellsOf e = 1) {A : Option Addr} {n c : Nat} {d : DataW H} {p : List MemPlace}
    (h : DataW.Trod enc Tryz.prog W 0 (fun _ => true) true t (.slice A n c) d p) : n ≤ c ∧ ∃ l : List Int, l.length = n ∧ InS W W.heap.size A n l := by
  obtain ⟨h1, l, h2, h3⟩ := open_is ht he hC h
  refine ⟨h1, l.map (·.1), by simp [h2], ?_⟩
  unfold InS
  rw [List.flatMap_map]
  exact h3
theorem trod_ins {n : Nat} {cs : List Value} {x : DataW H × List MemPlace} (h : DataW.trod enc Tryz.prog W 0 (fun _ => true) true n 25 cs = some x) : ∃ A m c, cs = [.slice A m c] ∧ ∃ l : List Int, InS W W.heap.size A m l := by
  obtain ⟨A, m, c, e, _, l, h2, h3⟩ := open_raw (α := Int) (f := fun z => [.int .i64 z]) (s := 1) (by omega) (fun _ => rfl) Tryz.underlying25 (by kernel_rfl) (fun _ _ _ h => by obtain ⟨z, h1, _⟩ := trod_int_cell Tryz.underlying3 h; exact ⟨z, h1⟩) h
  exact ⟨A, m, c, e, l, h3⟩
/-- An inner list: its slice and what it reads as. -/
structure Inn (W : World) where
  A : Option Addr
  m : Nat
  c : Nat
  l : List Int
  h : InS W W.heap.size A m l
theorem inns_lis {l : List (Inn W)} {A : Option Addr} {n : Nat} (h2 : l.length = n) (h3 : Sl W W.heap.size 1 A n (l.flatMap fun x => [.slice x.A x.m x.c])) : LiS W W.heap.size A n (l.map (·.l)) := by
  refine ⟨by simp [h2], l.map fun x => .slice x.A x.m x.c, ?_, fun k y hy => ?_⟩
  · rw [show l.map (fun x => Value.slice x.A x.m x.c) = l.flatMap fun x => [.slice x.A x.m x.c] from (by clear h2 h3; induction l with | nil => rfl | cons a l ih => simp [ih])]
    exact h3
  · rw [List.getElem?_map] at hy
    cases hk : l[k]? with
    | none => rw [hk] at hy; cases hy
    | some x =>
      rw [hk] at hy
      obtain rfl : x.l = y := by simpa using hy
      exact ⟨x.A, x.m, x.c, by rw [List.getElem?_map, hk]; rfl, x.h⟩
theorem open_lis {A : Option Addr} {n c : Nat} {d : DataW H} {p : List MemPlace} (h : DataW.Trod enc Tryz.prog W 0 (fun _ => true) true 22 (.slice A n c) d p) : n ≤ c ∧ ∃ ls : List (List Int), ls.length = n ∧ LiS W W.heap.size A n ls := by
  obtain ⟨h1, l, h2, h3⟩ := open_gen (α := Inn W) (f := fun x => [.slice x.A x.m x.c]) (s := 1) (by omega) (fun _ => rfl) Tryz.underlying22 (by kernel_rfl) (fun _ _ _ h => by obtain ⟨A, m, c, e, l, hl⟩ := trod_ins h; exact ⟨⟨A, m, c, l, hl⟩, e⟩) h
  exact ⟨h1, l.map (·.l), by simp [h2], inns_lis h2 h3⟩
theorem trod_lis {n : Nat} {cs : List Value} {x : DataW H × List MemPlace} (h : DataW.trod enc Tryz.prog W 0 (fun _ => true) true n 22 cs = some x) : ∃ A m c, cs = [.slice A m c] ∧ m ≤ c ∧ ∃ ls : List (List Int), ls.length = m ∧ LiS W W.heap.size A m ls := by
  obtain ⟨A, m, c, e, h1, l, h2, h3⟩ := open_raw (α := Inn W) (f := fun x => [.slice x.A x.m x.c]) (s := 1) (by omega) (fun _ => rfl) Tryz.underlying22 (by kernel_rfl) (fun _ _ _ h => by obtain ⟨A, m, c, e, l, hl⟩ := trod_ins h; exact ⟨⟨A, m, c, l, hl⟩, e⟩) h
  exact ⟨A, m, c, e, h1, l.map (·.l), by simp [h2], inns_lis h2 h3⟩
theorem trod_bk {n : Nat} {cs : List Value} {x : DataW H × List MemPlace} (h : DataW.trod enc Tryz.prog W 0 (fun _ => true) true n 24 cs = some x) : ∃ (I : Int) (A : Option Addr) (m c : Nat), cs = [.int .i64 I, .slice A m c] ∧ (Lit.int .i64 I).wf = true ∧ m ≤ c ∧ ∃ ls : List (List Int), ls.length = m ∧ LiS W W.heap.size A m ls := by
  obtain ⟨xs, m, _, _, hl, hx, hf⟩ := DataW.trod_struct Tryz.underlying24 h
  have hc : Tryz.prog.cellsOf 24 = 2 := by kernel_rfl
  have hc2 : Tryz.prog.cellsOf 3 = 1 := by kernel_rfl
  have hc3 : Tryz.prog.cellsOf 22 = 1 := by kernel_rfl
  rw [hc] at hl
  have h0 : DataW.trod enc Tryz.prog W 0 (fun _ => true) true m 3 ((cs.drop 0).take (Tryz.prog.cellsOf 3)) = xs[0]? := hf 0 _ rfl
  have h1 : DataW.trod enc Tryz.prog W 0 (fun _ => true) true m 22 ((cs.drop 1).take (Tryz.prog.cellsOf 22)) = xs[1]? := hf 1 _ rfl
  rw [hc2] at h0
  rw [hc3] at h1
  rcases cs with _ | ⟨a, _ | ⟨b, _ | ⟨c, l⟩⟩⟩ <;> simp at hl
  have hx0 : xs[0]? = some (xs[0]'(by rw [hx]; decide)) := List.getElem?_eq_getElem _
  have hx1 : xs[1]? = some (xs[1]'(by rw [hx]; decide)) := List.getElem?_eq_getElem _
  obtain ⟨z0, e0, hw⟩ := trod_int_cell (k := .i64) Tryz.underlying3 (h0.trans hx0)
  obtain ⟨A, q, c, e1, hq, ls, hls, hli⟩ := trod_lis (h1.trans hx1)
  simp at e0 e1
  exact ⟨z0, A, q, c, by rw [e0, e1], hw, hq, ls, hls, hli⟩
set_option maxRecDepth 100000 in
theorem open_book {v : Value} {r : Reach} {b0 : Nat} {d : DataW H} {p : List MemPlace} (hv : Value.okWide Tryz.prog W r b0 24 v) (h : DataW.Trod enc Tryz.prog W 0 (fun _ => true) true 24 v d p) : ∃ (I : Int) (A : Option Addr) (m c : Nat), v = .agg #[.int .i64 I, .slice A m c] ∧ (Lit.int .i64 I).wf = true ∧ m ≤ c ∧ ∃ ls : List (List Int), ls.length = m ∧ LiS W W.heap.size A m ls := by
  have hw := okWide_struct Tryz.underlying24 hv
  refine hw.elim fun cs e => ?_
  have e1 := e.1
  clear e hw
  subst e1
  refine Exists.elim h fun fuel hf => ?_
  obtain ⟨I, A, m, c, hq, hr⟩ := trod_bk hf
  refine ⟨I, A, m, c, ?_, hr⟩
  have e2 : cs.toList = [.int .i64 I, .slice A m c] := hq
  rw [← Array.toArray_toList (xs := cs), e2]
/-- The arguments read behind the call as they did. -/
theorem all_below {P : Program} (hl : laidOutB P = true) {W' : World} (hb : Below W.heap.size W W') : ∀ {ts : List TypeId} {vs : List Value} {ds : List (DataW H)} {ps : List MemPlace}, (∀ t ∈ ts, P.readableRec t = true ∧ t < P.types.size) → (∀ x ∈ ps, x.block < W.heap.size) →
    DataW.TrodAll enc P W 0 (fun _ => true) true ts vs ds ps → DataW.TrodAll enc P W' 0 (fun b => decide (b < W.heap.size)) true ts vs ds ps
  | [], vs, ds, ps, _, _, h => by
    obtain ⟨rfl, rfl, rfl⟩ := trodAll_nil h
    exact trodAll_mk0
  | t :: ts, vs, ds, ps, hr, hlt, h => by
    obtain ⟨v, vs', d, ds', p, p', rfl, rfl, rfl, h1, h2⟩ := trodAll_cons h
    obtain ⟨r1, r2⟩ := hr t (by simp)
    exact trodAll_cons_mk (Below.trod hl r1 r2 h1 hb (fun x hx => hlt x (by simp [hx]))) (all_below hl hb (fun t ht => hr t (by simp [ht])) (fun x hx => hlt x (by simp [hx])) h2)
theorem readable_of {P : Program} {ts : List TypeId} (h : (ts.all fun t => P.readableRec t && decide (t < P.types.size)) = true) : ∀ t ∈ ts, P.readableRec t = true ∧ t < P.types.size := fun t ht => by
  have := List.all_eq_true.1 h t ht
  simpa using this
theorem ownKx : ownKnob Tryz.prog.godebug = none := by kernel_rfl
end
end Go.Proofs.YtnpilfpackdimaaGreat
/- Lengths of the answers; the reading of lists that a reference returns. -/
namespace Go.Proofs.YtnpilfpackdimaaGreat
open Go.RowKit
theorem mem_outL {I : Nat} {ls : List (List Int)} {l : List Int} : ∀ k, l ∈ outL I ls k → ∃ x, x < k ∧ l = listed x I ∧ rtB I ls x = true
  | 0, h => by simp [outL] at h
  | k + 1, h => by
    rw [outL_succ] at h
    rcases List.mem_append.1 h with h1 | h1
    · obtain ⟨x, hx, e, hr⟩ := mem_outL k h1
      exact ⟨x, by omega, e, hr⟩
    · split at h1
      · rename_i hr
        exact ⟨k, by omega, by simpa using h1, hr⟩
      · simp at h1
theorem allR_mem {I : Nat} {ls : List (List Int)} {l : List Int} (hI : I ≤ 8) (h : l ∈ allR I ls) : l.length ≤ 8 := by
  unfold allR at h
  obtain ⟨x, -, e, -⟩ := mem_outL _ (mem_sortL.1 h)
  rw [e]
  exact Nat.le_trans (listed_len _ _) hI
theorem book_toNat {I : Int} {ls : List (List Int)} (h : chkBook I ls = 0) : I.toNat ≤ 8 := by
  obtain ⟨J, -, e, -, h8, -⟩ := book_nat h; rw [e]; exact h8
theorem ralV_len (I : Int) (ls : List (List Int)) : (ralV I ls).length ≤ 1000000 ∧ ∀ l ∈ ralV I ls, l.length ≤ 8 := by
  unfold ralV
  split
  · simp
  · rename_i h
    have h0 : chkBook I ls = 0 := by omega
    have h8 := book_toNat h0
    exact ⟨Nat.le_trans (allR_len ls h8) (by omega), fun l hl => allR_mem h8 hl⟩
theorem rblV_mem {I : Int} {ls : List (List Int)} (h : rblE I ls = 0) : chkBook I ls = 0 ∧ (allR I.toNat ls).length ≠ 0 ∧ rblV I ls = minL (allR I.toNat ls) ∧ rblV I ls ∈ allR I.toNat ls := by
  unfold rblE at h
  split at h
  · rename_i h1; exact absurd h h1
  · rename_i h1
    have h0 : chkBook I ls = 0 := by omega
    split at h
    · cases h
    · rename_i h2
      have hv : rblV I ls = minL (allR I.toNat ls) := by unfold rblV; rw [if_neg h1, if_neg h2]
      refine ⟨h0, h2, hv, ?_⟩
      rw [hv]
      exact (minL_least (allR_srt (book_toNat h0)) (fun e => h2 (by rw [e]; rfl))).1
theorem rblV_len (I : Int) (ls : List (List Int)) : (rblV I ls).length ≤ 8 := by
  by_cases h : rblE I ls = 0
  · obtain ⟨h0, -, -, hm⟩ := rblV_mem h
    exact allR_mem (book_toNat h0) hm
  · unfold rblE at h
    unfold rblV
    split
    · simp
    · split
      · simp
      · rename_i h1 h2; rw [if_neg h1, if_neg h2] at h; exact absurd rfl h
theorem rapV_len (I : Int) (ls : List (List Int)) : (rapV I ls).length ≤ ls.length := by
  unfold rapV
  split
  · simp
  · exact bstR_len ls _
theorem lisE_book {I : Int} {ls ss : List (List Int)} (h : lisE I ls ss = 0) : chkBook I ls = 0 := by
  unfold lisE at h
  split at h
  · rename_i h1; exact absurd h h1
  · omega
theorem rfoV_len (I : Int) (ls ss : List (List Int)) : (rfoV I ls ss).length ≤ 8 := by
  unfold rfoV
  split
  · simp
  · rename_i h
    have h0 : lisE I ls ss = 0 := by omega
    cases hf : rfoO I ls ss with
    | none => simp
    | some l => exact allR_mem (book_toNat (lisE_book h0)) (List.mem_of_find?_eq_some hf)
theorem rcrV_len (I : Int) (ls : List (List Int)) (hn : ls.length ≤ 1000000) : (rcrV I ls).length ≤ 1000000 ∧ ∀ l ∈ rcrV I ls, l.length ≤ 8 := by
  unfold rcrV
  split
  · simp
  · rename_i h
    have h0 : chkBook I ls = 0 := by omega
    obtain ⟨J, -, -, -, -, -, -, hv⟩ := book_nat h0
    unfold coreR
    refine ⟨?_, fun l hl => ?_⟩
    · rw [sortL_len]
      unfold coreL
      rw [List.length_map]
      exact Nat.le_trans (List.length_filter_le _ _) (by simpa using hn)
    · obtain ⟨k, hk, -, e⟩ := mem_coreL.1 (mem_sortL.1 hl)
      have := isL_len8 (hv l (e ▸ getD_mem hk)) (by omega)
      omega
theorem lis_of_lw {w' : World} {base : Nat} {P : Nat → Prop} {v : Value} {ls : List (List Int)} (h : NewLw w' base P v ls) : ∃ A c, v = .slice A ls.length c ∧ LiS w' w'.heap.size A ls.length ls := by
  obtain ⟨A, c, e, h1, -⟩ := h.liq
  exact ⟨A, c, e, h1.lis⟩
theorem u64_bd {x : Int} (h : (Lit.int .u64 x).wf = true) : 0 ≤ x ∧ x < 2 ^ 64 := by
  simp [Lit.wf, IntKind.min, IntKind.max, IntKind.signed, IntKind.bits] at h
  omega
end Go.Proofs.YtnpilfpackdimaaGreat
