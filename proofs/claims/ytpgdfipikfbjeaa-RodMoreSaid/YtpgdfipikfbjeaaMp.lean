/- Texts of the proof, laid together by program. -/
import Derived.ProofKit
import Derived.OpenShut
import Derived.Carry
import Derived.Deep.Slices
import Derived.Test.YtpgdfipikfbjeaaMo
import Derived.Test.YtpgdfipikfbjeaaRows
import Derived.Test.YtpgdfipikfbjeaaMm
import Derived.Test.YtpgdfipikfbjeaaMe
set_option linter.unusedSimpArgs false
set_option linter.unusedVariables false
/- Five and six parameters of a law; bounds of small kinds. -/
namespace Go.Proofs.Ytpgdfipikfbjeaa
open Go.ChangeShapes Go.WideShapes Go.ChangeAt Go.RowKit Go.Deep
section
variable {H : Type} {enc : TypeId × Value → H} {P : Program} {w : World} {base : Nat} {spare : Nat → Bool} {held : Bool}
theorem trodAll_five {t0 t1 t2 t3 t4 : TypeId} {args : Array Value} {ds : List (DataW H)} {ps : List MemPlace} (h : DataW.TrodAll enc P w base spare held [t0, t1, t2, t3, t4] args.toList ds ps) :
    ∃ v0 v1 v2 v3 v4 d0 d1 d2 d3 d4 p0 p1 p2 p3 p4, args = #[v0, v1, v2, v3, v4] ∧ ds = [d0, d1, d2, d3, d4] ∧ ps = p0 ++ p1 ++ p2 ++ p3 ++ p4 ∧ DataW.Trod enc P w base spare held t0 v0 d0 p0 ∧ DataW.Trod enc P w base spare held t1 v1 d1 p1 ∧ DataW.Trod enc P w base spare held t2 v2 d2 p2 ∧ DataW.Trod enc P w base spare held t3 v3 d3 p3 ∧ DataW.Trod enc P w base spare held t4 v4 d4 p4 := by
  obtain ⟨v0, vs0, d0, ds0, p0, q0, hargs, rfl, rfl, h0, r0⟩ := trodAll_cons h
  obtain ⟨v1, vs1, d1, ds1, p1, q1, rfl, rfl, rfl, h1, r1⟩ := trodAll_cons r0
  obtain ⟨v2, vs2, d2, ds2, p2, q2, rfl, rfl, rfl, h2, r2⟩ := trodAll_cons r1
  obtain ⟨v3, vs3, d3, ds3, p3, q3, rfl, rfl, rfl, h3, r3⟩ := trodAll_cons r2
  obtain ⟨v4, vs4, d4, ds4, p4, q4, rfl, rfl, rfl, h4, r4⟩ := trodAll_cons r3
  obtain ⟨rfl, rfl, rfl⟩ := trodAll_nil r4
  exact ⟨v0, v1, v2, v3, v4, d0, d1, d2, d3, d4, p0, p1, p2, p3, p4, by cases args; simp_all, rfl, by simp, h0, h1, h2, h3, h4⟩
theorem trodAll_six {t0 t1 t2 t3 t4 t5 : TypeId} {args : Array Value} {ds : List (DataW H)} {ps : List MemPlace} (h : DataW.TrodAll enc P w base spare held [t0, t1, t2, t3, t4, t5] args.toList ds ps) :
    ∃ v0 v1 v2 v3 v4 v5 d0 d1 d2 d3 d4 d5 p0 p1 p2 p3 p4 p5, args = #[v0, v1, v2, v3, v4, v5] ∧ ds = [d0, d1, d2, d3, d4, d5] ∧ ps = p0 ++ p1 ++ p2 ++ p3 ++ p4 ++ p5 ∧ DataW.Trod enc P w base spare held t0 v0 d0 p0 ∧ DataW.Trod enc P w base spare held t1 v1 d1 p1 ∧ DataW.Trod enc P w base spare held t2 v2 d2 p2 ∧ DataW.Trod enc P w base spare held t3 v3 d3 p3 ∧ DataW.Trod enc P w base spare held t4 v4 d4 p4 ∧ DataW.Trod enc P w base spare held t5 v5 d5 p5 := by
  obtain ⟨v0, vs0, d0, ds0, p0, q0, hargs, rfl, rfl, h0, r0⟩ := trodAll_cons h
  obtain ⟨v1, vs1, d1, ds1, p1, q1, rfl, rfl, rfl, h1, r1⟩ := trodAll_cons r0
  obtain ⟨v2, vs2, d2, ds2, p2, q2, rfl, rfl, rfl, h2, r2⟩ := trodAll_cons r1
  obtain ⟨v3, vs3, d3, ds3, p3, q3, rfl, rfl, rfl, h3, r3⟩ := trodAll_cons r2
  obtain ⟨v4, vs4, d4, ds4, p4, q4, rfl, rfl, rfl, h4, r4⟩ := trodAll_cons r3
  obtain ⟨v5, vs5, d5, ds5, p5, q5, rfl, rfl, rfl, h5, r5⟩ := trodAll_cons r4
  obtain ⟨rfl, rfl, rfl⟩ := trodAll_nil r5
  exact ⟨v0, v1, v2, v3, v4, v5, d0, d1, d2, d3, d4, d5, p0, p1, p2, p3, p4, p5, by cases args; simp_all, rfl, by simp, h0, h1, h2, h3, h4, h5⟩
end
theorem u8_bd {x : Int} (h : (Lit.int .u8 x).wf = true) : 0 ≤ x ∧ x ≤ 255 := by
  simp [Lit.wf, IntKind.min, IntKind.max, IntKind.signed, IntKind.bits] at h
  omega
theorem u16_bd {x : Int} (h : (Lit.int .u16 x).wf = true) : 0 ≤ x ∧ x ≤ 65535 := by
  simp [Lit.wf, IntKind.min, IntKind.max, IntKind.signed, IntKind.bits] at h
  omega
theorem u32_bd {x : Int} (h : (Lit.int .u32 x).wf = true) : 0 ≤ x ∧ x ≤ 4294967295 := by
  simp [Lit.wf, IntKind.min, IntKind.max, IntKind.signed, IntKind.bits] at h
  omega
end Go.Proofs.Ytpgdfipikfbjeaa
/- How the arguments of a law read: books, lists of lists, lists; the post of a law that only reads. -/
namespace Go.Proofs.Ytpgdfipikfbjeaa
open Go.ChangeShapes Go.WideShapes Go.ChangeAt Go.RowKit Go.Deep

section
variable {H : Type} {enc : TypeId × Value → H} {W : World}
theorem trod_int_cell {k : IntKind} {t : TypeId} (ht : Try.prog.underlying t = some (.int k)) {n : Nat} {cs : List Value} {x : DataW H × List MemPlace} (h : DataW.trod enc Try.prog W 0 (fun _ => true) true n t cs = some x) : ∃ z : Int, cs = [.int k z] ∧ (Lit.int k z).wf = true := by
  obtain ⟨z, h1, _, h2⟩ := DataW.trod_int ht h
  exact ⟨z, h1, h2⟩
structure Bk where
  P : Int
  M : Int
def cB (b : Bk) : List Value := [.int .i64 b.P, .int .i64 b.M]
theorem trod_bk {n : Nat} {cs : List Value} {x : DataW H × List MemPlace} (h : DataW.trod enc Try.prog W 0 (fun _ => true) true n 23 cs = some x) : ∃ r : Bk, cs = cB r := by
  obtain ⟨xs, m, _, _, hl, hx, hf⟩ := DataW.trod_struct Try.underlying23 h
  have hc : Try.prog.cellsOf 23 = 2 := by kernel_rfl
  have hc2 : Try.prog.cellsOf 3 = 1 := by kernel_rfl
  rw [hc] at hl
  have h0 : DataW.trod enc Try.prog W 0 (fun _ => true) true m 3 ((cs.drop 0).take (Try.prog.cellsOf 3)) = xs[0]? := hf 0 _ rfl
  have h1 : DataW.trod enc Try.prog W 0 (fun _ => true) true m 3 ((cs.drop 1).take (Try.prog.cellsOf 3)) = xs[1]? := hf 1 _ rfl
  rw [hc2] at h0 h1
  rcases cs with _ | ⟨a, _ | ⟨b, _ | ⟨c, l⟩⟩⟩ <;> simp at hl
  have hx0 : xs[0]? = some (xs[0]'(by rw [hx]; decide)) := List.getElem?_eq_getElem _
  have hx1 : xs[1]? = some (xs[1]'(by rw [hx]; decide)) := List.getElem?_eq_getElem _
  obtain ⟨z0, e0, _⟩ := trod_int_cell (k := .i64) Try.underlying3 (h0.trans hx0)
  obtain ⟨z1, e1, _⟩ := trod_int_cell (k := .i64) Try.underlying3 (h1.trans hx1)
  simp at e0 e1
  exact ⟨⟨z0, z1⟩, by rw [e0, e1]; rfl⟩
set_option maxRecDepth 100000 in
theorem open_book {v : Value} {r : Reach} {b0 : Nat} {d : DataW H} {p : List MemPlace} (hv : Value.okWide Try.prog W r b0 23 v) (h : DataW.Trod enc Try.prog W 0 (fun _ => true) true 23 v d p) : ∃ q : Bk, v = .agg #[.int .i64 q.P, .int .i64 q.M] := by
  have hw := okWide_struct Try.underlying23 hv
  refine hw.elim fun cs e => ?_
  have e1 := e.1
  clear e hw
  subst e1
  refine Exists.elim h fun fuel hf => ?_
  refine Exists.elim (trod_bk hf) fun q hq => ⟨q, ?_⟩
  have e2 : cs.toList = cB q := hq
  rw [← Array.toArray_toList (xs := cs), e2]; rfl
theorem collect_elems {α : Type} {f : α → List Value} {s : Nat} {a : Addr} : ∀ k : Nat, (∀ i, i < k → ∃ y : α, ∀ j, j < s → W.cell? ((a.add (i * s)).add j) = (f y)[j]?) → ∃ l : List α, l.length = k ∧ ∀ i y, l[i]? = some y → ∀ j, j < s → W.cell? ((a.add (i * s)).add j) = (f y)[j]?
  | 0, _ => ⟨[], rfl, fun i y h => by simp at h⟩
  | k + 1, h => by
    obtain ⟨l, hl, hc⟩ := collect_elems k (fun i hi => h i (by omega))
    obtain ⟨y, hy⟩ := h k (by omega)
    refine ⟨l ++ [y], by simp [hl], fun i z hz => ?_⟩
    rcases Nat.lt_or_ge i l.length with hlt | hge
    · rw [List.getElem?_append_left hlt] at hz
      exact hc i z hz
    · rw [List.getElem?_append_right hge] at hz
      obtain rfl : i = k := by
        rcases Nat.lt_or_ge (i - l.length) 1 with h1 | h1
        · omega
        · rw [List.getElem?_eq_none (by simpa using h1)] at hz; cases hz
      rw [hl, Nat.sub_self] at hz
      obtain rfl : y = z := by simpa using hz
      exact hy
theorem open_raw {α : Type} {f : α → List Value} {s : Nat} (hs : 0 < s) (hf : ∀ y, (f y).length = s) {t e : TypeId} (ht : Try.prog.underlying t = some (.slice e)) (hC : Try.prog.cellsOf e = s)
    (rd : ∀ (n : Nat) cs (x : DataW H × List MemPlace), DataW.trod enc Try.prog W 0 (fun _ => true) true n e cs = some x → ∃ y, cs = f y) {fuel : Nat} {cs : List Value} {x : DataW H × List MemPlace}
    (hfu : DataW.trod enc Try.prog W 0 (fun _ => true) true fuel t cs = some x) : ∃ A n c, cs = [.slice A n c] ∧ n ≤ c ∧ ∃ l : List α, l.length = n ∧ Sl W W.heap.size s A n (l.flatMap f) := by
  rcases open_slice ht hfu with ⟨e, _⟩ | ⟨a, len, cap, m, n', D, Pl, e, hb, hl, hm, hmm, hx, hi⟩
  · exact ⟨none, 0, 0, e, Nat.le_refl _, [], rfl, Sl.none_⟩
  · simp only [if_true] at hmm
    refine ⟨some a, len, cap, e, hl, ?_⟩
    clear e
    obtain ⟨n, rfl⟩ : ∃ n, n = len := ⟨_, rfl⟩
    obtain ⟨l, hll, hc⟩ := collect_elems (W := W) (f := f) (s := s) (a := a) n (fun i hi' => by
      obtain ⟨cs', hcs, htr⟩ := hi i (by omega)
      rw [hC] at hcs
      obtain ⟨y, rfl⟩ := rd _ _ _ htr
      obtain ⟨_, _, hat⟩ := World.cells?_some hcs
      exact ⟨y, hat⟩)
    refine ⟨l, hll, by rw [flat_len hf, hll], fun hn => ?_⟩
    obtain ⟨b, off, spot⟩ := a
    have h0 : l[0]? = some l[0] := List.getElem?_eq_getElem (by omega)
    have hc0 := hc 0 _ h0 0 hs
    have hv : (f l[0])[0]? = some ((f l[0])[0]'(by rw [hf]; exact hs)) := List.getElem?_eq_getElem _
    rw [hv] at hc0
    have hspot : spot = none := by simpa [Addr.add] using World.cell?_spot hc0
    subst hspot
    have hb' : b < W.heap.size := by
      have := World.block_lt_of_cell? W _ hc0
      simpa [Addr.add] using this
    refine ⟨b, off, rfl, hb', fun j u hu => ?_⟩
    have hj : j < l.length * s := by
      have := (List.getElem?_eq_some_iff.1 hu).1
      rwa [flat_len hf] at this
    have hq : j / s < l.length := (Nat.div_lt_iff_lt_mul hs).2 hj
    have hr : j % s < s := Nat.mod_lt _ hs
    have hlq : l[j / s]? = some l[j / s] := List.getElem?_eq_getElem hq
    have h1 := hc _ _ hlq _ hr
    have h2 := flat_at hf l (j / s) (j % s) _ hlq hr
    have e : j / s * s + j % s = j := by rw [Nat.mul_comm]; exact Nat.div_add_mod j s
    rw [e] at h2
    rw [← h2, hu] at h1
    rw [← h1, add_at, add_at, Nat.add_assoc, e]
theorem open_gen {α : Type} {f : α → List Value} {s : Nat} (hs : 0 < s) (hf : ∀ y, (f y).length = s) {t e : TypeId} (ht : Try.prog.underlying t = some (.slice e)) (hC : Try.prog.cellsOf e = s)
    (rd : ∀ (n : Nat) cs (x : DataW H × List MemPlace), DataW.trod enc Try.prog W 0 (fun _ => true) true n e cs = some x → ∃ y, cs = f y) {A : Option Addr} {n c : Nat} {d : DataW H} {p : List MemPlace}
    (h : DataW.Trod enc Try.prog W 0 (fun _ => true) true t (.slice A n c) d p) : n ≤ c ∧ ∃ l : List α, l.length = n ∧ Sl W W.heap.size s A n (l.flatMap f) := by
  obtain ⟨fuel, hfu⟩ := h
  obtain ⟨A', n', c', e, h1, h2⟩ := open_raw hs hf ht hC rd hfu
  simp [Value.cells] at e
  obtain ⟨rfl, rfl, rfl⟩ := e
  exact ⟨h1, h2⟩
theorem open_is {k : IntKind} {t e : TypeId} (ht : Try.prog.underlying t = some (.slice e)) (he : Try.prog.underlying e = some (.int k)) (hC : Try.prog.cellsOf e = 1) {A : Option Addr} {n c : Nat} {d : DataW H} {p : List MemPlace}
    (h : DataW.Trod enc Try.prog W 0 (fun _ => true) true t (.slice A n c) d p) : n ≤ c ∧ ∃ l : List { z : Int // (Lit.int k z).wf = true }, l.length = n ∧ Sl W W.heap.size 1 A n (l.flatMap fun x => [.int k x.1]) :=
  open_gen (α := { z : Int // (Lit.int k z).wf = true }) (f := fun x => [.int k x.1]) (s := 1) (by omega) (fun _ => rfl) ht hC (fun _ _ _ h => by obtain ⟨z, h1, h2⟩ := trod_int_cell he h; exact ⟨⟨z, h2⟩, h1⟩) h
theorem open_ins {t e : TypeId} (ht : Try.prog.underlying t = some (.slice e)) (he : Try.prog.underlying e = some (.int .i64)) (hC : Try.prog.cellsOf e = 1) {A : Option Addr} {n c : Nat} {d : DataW H} {p : List MemPlace}
    (h : DataW.Trod enc Try.prog W 0 (fun _ => true) true t (.slice A n c) d p) : n ≤ c ∧ ∃ l : List Int, l.length = n ∧ InS W W.heap.size A n l := by
  obtain ⟨h1, l, h2, h3⟩ := open_is ht he hC h
  refine ⟨h1, l.map (·.1), by simp [h2], ?_⟩
  unfold InS
  rw [List.flatMap_map]
  exact h3
theorem trod_ins {n : Nat} {cs : List Value} {x : DataW H × List MemPlace} (h : DataW.trod enc Try.prog W 0 (fun _ => true) true n 25 cs = some x) : ∃ A m c, cs = [.slice A m c] ∧ ∃ l : List Int, InS W W.heap.size A m l := by
  obtain ⟨A, m, c, e, _, l, h2, h3⟩ := open_raw (α := Int) (f := fun z => [.int .i64 z]) (s := 1) (by omega) (fun _ => rfl) under25 (by kernel_rfl) (fun _ _ _ h => by obtain ⟨z, h1, _⟩ := trod_int_cell Try.underlying3 h; exact ⟨z, h1⟩) h
  exact ⟨A, m, c, e, l, h3⟩
/-- An inner list: its slice and what it reads as. -/
structure Inn (W : World) where
  A : Option Addr
  m : Nat
  c : Nat
  l : List Int
  h : InS W W.heap.size A m l
theorem open_lis {A : Option Addr} {n c : Nat} {d : DataW H} {p : List MemPlace} (h : DataW.Trod enc Try.prog W 0 (fun _ => true) true 24 (.slice A n c) d p) : n ≤ c ∧ ∃ ls : List (List Int), ls.length = n ∧ LiS W W.heap.size A n ls := by
  obtain ⟨h1, l, h2, h3⟩ := open_gen (α := Inn W) (f := fun x => [.slice x.A x.m x.c]) (s := 1) (by omega) (fun _ => rfl) under24 (by kernel_rfl) (fun _ _ _ h => by obtain ⟨A, m, c, e, l, hl⟩ := trod_ins h; exact ⟨⟨A, m, c, l, hl⟩, e⟩) h
  refine ⟨h1, l.map (·.l), by simp [h2], by simp [h2], l.map fun x => .slice x.A x.m x.c, ?_, fun k y hy => ?_⟩
  · rw [show l.map (fun x => Value.slice x.A x.m x.c) = l.flatMap fun x => [.slice x.A x.m x.c] from (by clear h2 h3; induction l with | nil => rfl | cons a l ih => simp [ih])]
    exact h3
  · rw [List.getElem?_map] at hy
    cases hk : l[k]? with
    | none => rw [hk] at hy; cases hy
    | some x =>
      rw [hk] at hy
      obtain rfl : x.l = y := by simpa using hy
      exact ⟨x.A, x.m, x.c, by rw [List.getElem?_map, hk]; rfl, x.h⟩
/-- The arguments read behind the call as they did. -/
theorem all_below {P : Program} (hl : laidOutB P = true) {W' : World} (hb : Below W.heap.size W W') : ∀ {ts : List TypeId} {vs : List Value} {ds : List (DataW H)} {ps : List MemPlace}, (∀ t ∈ ts, P.readableRec t = true ∧ t < P.types.size) → (∀ x ∈ ps, x.block < W.heap.size) →
    DataW.TrodAll enc P W 0 (fun _ => true) true ts vs ds ps → DataW.TrodAll enc P W' 0 (fun b => decide (b < W.heap.size)) true ts vs ds ps
  | [], vs, ds, ps, _, _, h => by
    obtain ⟨rfl, rfl, rfl⟩ := trodAll_nil h
    exact trodAll_mk0
  | t :: ts, vs, ds, ps, hr, hlt, h => by
    obtain ⟨v, vs', d, ds', p, p', rfl, rfl, rfl, h1, h2⟩ := trodAll_cons h
    obtain ⟨r1, r2⟩ := hr t (by simp)
    exact trodAll_cons_mk (Below.trod hl r1 r2 h1 hb (fun x hx => hlt x (by simp [hx]))) (all_below hl hb (fun t ht => hr t (by simp [ht])) (fun x hx => hlt x (by simp [hx])) h2)
theorem readable_of {P : Program} {ts : List TypeId} (h : (ts.all fun t => P.readableRec t && decide (t < P.types.size)) = true) : ∀ t ∈ ts, P.readableRec t = true ∧ t < P.types.size := fun t ht => by
  have := List.all_eq_true.1 h t ht
  simpa using this
theorem ownKx : ownKnob Try.prog.godebug = none := by kernel_rfl
end
end Go.Proofs.Ytpgdfipikfbjeaa
/- Plain law of the statements: when a plan tells, when it is plain, what the results of a case leave. -/
namespace Go.Proofs.Ytpgdfipikfbjeaa
theorem plan_nat {P M : Int} {pl : List (List Int)} (h : checkPlan P M pl = 0) : ∃ p m : Nat, P = p ∧ M = m ∧ 1 ≤ p ∧ p ≤ 8 ∧ m ≤ 2 ∧ pl.length ≤ 8 ∧ ∀ r ∈ pl, isL p 0 r = true := by
  obtain ⟨h1, h2, h3⟩ := plan_good h
  obtain ⟨h4, h5, h6, h7⟩ := book_good h1
  exact ⟨P.toNat, M.toNat, by omega, by omega, by omega, by omega, by omega, h2, fun r hr => by rw [show ((P.toNat : Nat) : Int) = P by omega]; exact List.all_eq_true.1 h3 r hr⟩
theorem at_mem (P M x : Nat) : atC P M x ∈ casesL P M := getD_mem (Nat.mod_lt _ (cases_pos P M))
theorem resL_len (pl : List (List Int)) (c : List Int) : (resL pl c).length = pl.length := by simp [resL]
theorem resL_01 (pl : List (List Int)) (c : List Int) : ∀ x ∈ resL pl c, x = 0 ∨ x = 1 := by
  intro x hx
  unfold resL at hx
  obtain ⟨r, -, h⟩ := List.mem_map.1 hx
  split at h
  · exact .inr h.symm
  · exact .inl h.symm
theorem errR_of {P M : Int} {pl : List (List Int)} {r : List Int} (h : checkPlan P M pl = 0) (h1 : r.length = pl.length) (h2 : ∀ x ∈ r, x = 0 ∨ x = 1) : errR P M pl r = 0 := by
  have h3 : r.all (inR 0 1) = true := List.all_eq_true.2 fun x hx => by
    rcases h2 x hx with rfl | rfl <;> decide
  unfold errR
  rw [if_neg (by simp [h]), if_neg (by simp [h1]), if_neg (by simp [h3])]
theorem errR_case {P M : Int} {pl : List (List Int)} (h : checkPlan P M pl = 0) (c : List Int) : errR P M pl (resL pl c) = 0 := errR_of h (resL_len _ _) (resL_01 _ _)
theorem resE_case {P M : Nat} {pl : List (List Int)} (hP : P ≤ 8) (hM : M ≤ 2) (h : checkPlan P M pl = 0) {c : List Int} (hc : c ∈ casesL P M) : resE P M pl c = 0 := by
  obtain ⟨h1, h2⟩ := cases_isL hP hM c hc
  unfold resE
  rw [if_neg (by simp [h]), if_neg (by rw [h1]; simp; omega)]
theorem resV_case {P M : Nat} {pl : List (List Int)} (hP : P ≤ 8) (hM : M ≤ 2) (h : checkPlan P M pl = 0) {c : List Int} (hc : c ∈ casesL P M) : resV P M pl c = resL pl c := by
  unfold resV
  rw [if_pos (resE_case hP hM h hc)]
theorem told_mem {P M : Nat} {pl : List (List Int)} {r c : List Int} : c ∈ toldL P M pl r ↔ c ∈ casesL P M ∧ resL pl c = r := by
  unfold toldL
  rw [List.mem_filter, eqI_t]
theorem toldE_of {P M : Nat} {pl : List (List Int)} {r : List Int} (h : errR P M pl r = 0) : toldE P M pl r = if toldL P M pl r = [] then 23 else 0 := by
  unfold toldE
  rw [if_neg (by simp [h])]
  show (if (toldL P M pl r).length = 0 then _ else _) = _
  simp only [List.length_eq_zero_iff]
theorem toldE_case {P M : Nat} {pl : List (List Int)} (h : checkPlan P M pl = 0) {c : List Int} (hc : c ∈ casesL P M) : toldE P M pl (resL pl c) = 0 := by
  rw [toldE_of (errR_case h c), if_neg]
  intro e
  have h1 : c ∈ toldL P M pl (resL pl c) := told_mem.2 ⟨hc, rfl⟩
  rw [e] at h1; cases h1
theorem toldV_zero {P M : Nat} {pl : List (List Int)} {r : List Int} (h : toldE P M pl r = 0) : toldV P M pl r = toldL P M pl r := by
  unfold toldV
  rw [if_pos h]; rfl
theorem toldV_off {P M : Nat} {pl : List (List Int)} {r : List Int} (h : toldE P M pl r ≠ 0) : toldV P M pl r = [] := by
  unfold toldV
  rw [if_neg h]
/-- A plan tells all. -/
def Tells (P M : Nat) (pl : List (List Int)) : Prop := ∀ c ∈ casesL P M, ∀ d ∈ casesL P M, resL pl c = resL pl d → c = d
theorem mem_at {l : List (List Int)} {c : List Int} (h : c ∈ l) : ∃ i, i < l.length ∧ l.getD i [] = c := by
  obtain ⟨i, hi, rfl⟩ := List.mem_iff_getElem.1 h
  exact ⟨i, hi, by rw [List.getD_eq_getElem?_getD, List.getElem?_eq_getElem hi]; rfl⟩
theorem aliP_t {pl CL : List (List Int)} {i k : Nat} : aliP pl CL i k = true ↔ resL pl (CL.getD i []) = resL pl (CL.getD k []) := eqI_t
theorem aliK_some {pl CL : List (List Int)} {i n k : Nat} (h : aliK pl CL i n = some k) : k < n ∧ i < k ∧ aliP pl CL i k = true := by
  unfold aliK at h
  have h1 := List.find?_some h
  have h2 := List.mem_range.1 (List.mem_of_find?_eq_some h)
  rw [Bool.and_eq_true, decide_eq_true_eq] at h1
  exact ⟨h2, h1⟩
theorem aliF_some {pl CL : List (List Int)} {n i k : Nat} (h : aliF pl CL n = some (i, k)) : i < n ∧ k < CL.length ∧ i < k ∧ aliP pl CL i k = true := by
  unfold aliF at h
  obtain ⟨j, hj, h2⟩ := List.exists_of_findSome?_eq_some h
  rw [Option.map_eq_some_iff] at h2
  obtain ⟨k', hk, e⟩ := h2
  injection e with e1 e2
  subst e1 e2
  obtain ⟨h3, h4, h5⟩ := aliK_some hk
  exact ⟨List.mem_range.1 hj, h3, h4, h5⟩
theorem aliF_none {pl CL : List (List Int)} (h : aliF pl CL CL.length = none) : ∀ i k, i < k → k < CL.length → aliP pl CL i k = false := by
  intro i k h1 h2
  unfold aliF at h
  have h3 := List.findSome?_eq_none_iff.1 h i (List.mem_range.2 (by omega))
  rw [Option.map_eq_none_iff] at h3
  unfold aliK at h3
  have h4 := List.find?_eq_none.1 h3 k (List.mem_range.2 h2)
  rw [Bool.and_eq_true, decide_eq_true_eq] at h4
  cases h5 : aliP pl CL i k
  · rfl
  · exact absurd ⟨h1, h5⟩ h4
theorem tells_of_none {P M : Nat} {pl : List (List Int)} (h : aliF pl (casesL P M) (casesL P M).length = none) : Tells P M pl := by
  intro c hc d hd he
  obtain ⟨i, hi, rfl⟩ := mem_at hc
  obtain ⟨k, hk, rfl⟩ := mem_at hd
  rcases Nat.lt_trichotomy i k with h1 | h1 | h1
  · have := aliF_none h i k h1 hk
    rw [aliP_t.2 he] at this; cases this
  · rw [h1]
  · have := aliF_none h k i h1 hi
    rw [aliP_t.2 he.symm] at this; cases this
/-- Alike, of a valid plan: it tells, or there are two cases. -/
theorem ali_cases {P M : Nat} {pl : List (List Int)} (hP : P ≤ 8) (hM : M ≤ 2) (h : checkPlan P M pl = 0) : (Tells P M pl ∧ aliR P M pl = ([], [], 5) ∧ tellsE P M pl = 0) ∨ (¬ Tells P M pl ∧ tellsE P M pl = 23 ∧ ∃ x y, aliR P M pl = (x, y, 0) ∧ x ∈ casesL P M ∧ y ∈ casesL P M ∧ x ≠ y ∧ resL pl x = resL pl y) := by
  unfold tellsE
  have e : aliR P M pl = match aliF pl (casesL P M) (casesL P M).length with
    | some (i, k) => ((casesL P M).getD i [], (casesL P M).getD k [], 0)
    | none => ([], [], 5) := by
    unfold aliR
    rw [if_neg (by simp [h])]; rfl
  rw [e]
  cases hf : aliF pl (casesL P M) (casesL P M).length with
  | none => exact .inl ⟨tells_of_none hf, rfl, rfl⟩
  | some p =>
    obtain ⟨i, k⟩ := p
    obtain ⟨h1, h2, h3, h4⟩ := aliF_some hf
    have hne : (casesL P M).getD i [] ≠ (casesL P M).getD k [] := fun e' => by
      have := nodup_getD (cases_nodup hP hM) h1 h2 e'
      omega
    have hr := aliP_t.1 h4
    exact .inr ⟨fun ht => hne (ht _ (getD_mem h1) _ (getD_mem h2) hr), rfl, _, _, rfl, getD_mem h1, getD_mem h2, hne, hr⟩
theorem tells_iff {P M : Nat} {pl : List (List Int)} (hP : P ≤ 8) (hM : M ≤ 2) (h : checkPlan P M pl = 0) : tellsE P M pl = 0 ↔ Tells P M pl := by
  rcases ali_cases hP hM h with ⟨h1, h2, h3⟩ | ⟨h1, h2, h3⟩
  · exact ⟨fun _ => h1, fun _ => h3⟩
  · exact ⟨fun e => (by rw [h2] at e; cases e), fun e => absurd e h1⟩
theorem tellsE_or {P M : Nat} {pl : List (List Int)} (hP : P ≤ 8) (hM : M ≤ 2) (h : checkPlan P M pl = 0) : tellsE P M pl = 0 ∨ tellsE P M pl = 23 := by
  rcases ali_cases hP hM h with ⟨h1, h2, h3⟩ | ⟨h1, h2, h3⟩
  · exact .inl h3
  · exact .inr h2
theorem nodup_one {α : Type} {l : List α} {c : α} (hn : l.Nodup) (hc : c ∈ l) (h : ∀ d ∈ l, d = c) : l = [c] := by
  cases l with
  | nil => cases hc
  | cons a l =>
    have ha : a = c := h a (by simp)
    subst ha
    cases l with
    | nil => rfl
    | cons b l =>
      have hb : b = a := h b (by simp)
      subst hb
      rw [List.nodup_cons] at hn
      exact absurd (List.mem_cons_self ..) hn.1
theorem told_one {P M : Nat} {pl : List (List Int)} (hP : P ≤ 8) (hM : M ≤ 2) (ht : Tells P M pl) {c : List Int} (hc : c ∈ casesL P M) : toldL P M pl (resL pl c) = [c] :=
  nodup_one ((cases_nodup hP hM).sublist (List.filter_sublist ..)) (told_mem.2 ⟨hc, rfl⟩) fun d hd => by
    obtain ⟨h1, h2⟩ := told_mem.1 hd
    exact ht d h1 c hc h2
/-- A plan is plain. -/
def PlainP (P M : Nat) (pl : List (List Int)) : Prop := ∀ c ∈ casesL P M, ∀ x : Nat, x < P → covers pl c x = false
theorem covers_t {pl : List (List Int)} {c : List Int} {x : Int} : covers pl c x = true ↔ has c x = false ∧ ∀ r ∈ pl, has r x = true → meet r c = true := by
  unfold covers
  rw [Bool.and_eq_true, Bool.not_eq_true', List.all_eq_true]
  refine and_congr_right fun _ => forall_congr' fun r => forall_congr' fun _ => ?_
  unfold cov1
  cases has r x <;> cases meet r c <;> simp
theorem covI_some {pl : List (List Int)} {c : List Int} {n i : Nat} (h : covI pl c n = some i) : i < n ∧ covers pl c i = true := ⟨List.mem_range.1 (List.mem_of_find?_eq_some h), List.find?_some (p := fun i : Nat => covers pl c (i : Int)) h⟩
theorem cov_cases {P M : Nat} {pl : List (List Int)} (h : checkPlan P M pl = 0) : (PlainP P M pl ∧ covR P M pl = ([], 0, 5) ∧ plainE P M pl = 0) ∨ (¬ PlainP P M pl ∧ plainE P M pl = 16 ∧ ∃ c, ∃ x : Nat, covR P M pl = (c, x, 0) ∧ c ∈ casesL P M ∧ x < P ∧ covers pl c x = true) := by
  unfold plainE
  have e : covR P M pl = match covF pl P (casesL P M) with
    | some (c, i) => (c, i, 0)
    | none => ([], 0, 5) := by
    unfold covR
    rw [if_neg (by simp [h])]; rfl
  rw [e]
  cases hf : covF pl P (casesL P M) with
  | none =>
    refine .inl ⟨fun c hc x hx => ?_, rfl, rfl⟩
    unfold covF at hf
    have h1 := List.findSome?_eq_none_iff.1 hf c hc
    rw [Option.map_eq_none_iff] at h1
    unfold covI at h1
    have h2 := List.find?_eq_none.1 h1 x (List.mem_range.2 hx)
    simpa using h2
  | some p =>
    obtain ⟨c, i⟩ := p
    unfold covF at hf
    obtain ⟨c', hc, h2⟩ := List.exists_of_findSome?_eq_some hf
    rw [Option.map_eq_some_iff] at h2
    obtain ⟨k', hk, e⟩ := h2
    injection e with e1 e2
    subst e1 e2
    obtain ⟨h3, h4⟩ := covI_some hk
    exact .inr ⟨fun hp => (by rw [hp c' hc k' h3] at h4; cases h4), rfl, _, _, rfl, hc, h3, h4⟩
theorem plain_iff {P M : Nat} {pl : List (List Int)} (h : checkPlan P M pl = 0) : plainE P M pl = 0 ↔ PlainP P M pl := by
  rcases cov_cases h with ⟨h1, h2, h3⟩ | ⟨h1, h2, h3⟩
  · exact ⟨fun _ => h1, fun _ => h3⟩
  · exact ⟨fun e => (by rw [h2] at e; cases e), fun e => absurd e h1⟩
theorem plainE_or {P M : Nat} {pl : List (List Int)} (h : checkPlan P M pl = 0) : plainE P M pl = 0 ∨ plainE P M pl = 16 := by
  rcases cov_cases h with ⟨h1, h2, h3⟩ | ⟨h1, h2, h3⟩
  · exact .inl h3
  · exact .inr h2
theorem goodP_res {pl : List (List Int)} {c : List Int} {x : Int} : goodP pl (resL pl c) x = true ↔ ∃ r ∈ pl, has r x = true ∧ meet r c = false := by
  unfold goodP resL
  induction pl with
  | nil => simp
  | cons r pl ih =>
    rw [List.map_cons, List.zip_cons_cons, List.any_cons, Bool.or_eq_true, ih]
    have e : good1 x (r, if meet r c = true then 1 else 0) = true ↔ has r x = true ∧ meet r c = false := by
      unfold good1
      cases meet r c <;> simp
    rw [e]
    simp
theorem has_map_range {q : Nat → Bool} {P : Nat} {x : Int} : has (((List.range P).filter q).map fun i : Nat => (i : Int)) x = true ↔ ∃ i : Nat, i < P ∧ q i = true ∧ x = i := by
  unfold has
  rw [List.any_eq_true]
  constructor
  · rintro ⟨y, hy, h2⟩
    obtain ⟨i, hi, rfl⟩ := List.mem_map.1 hy
    obtain ⟨h3, h4⟩ := List.mem_filter.1 hi
    exact ⟨i, List.mem_range.1 h3, h4, (by simpa using h2 : (i : Int) = x).symm⟩
  · rintro ⟨i, h1, h2, rfl⟩
    exact ⟨(i : Int), List.mem_map.2 ⟨i, List.mem_filter.2 ⟨List.mem_range.2 h1, h2⟩, rfl⟩, by simp⟩
theorem has_sus {pl : List (List Int)} {r : List Int} {P : Nat} {x : Int} : has (susL pl r P) x = true ↔ ∃ i : Nat, i < P ∧ goodP pl r (i : Int) = false ∧ x = i := by
  unfold susL
  rw [has_map_range]
  simp
theorem isL_range (q : Nat → Bool) : ∀ P : Nat, isL P 0 (((List.range P).filter q).map fun i : Nat => (i : Int)) = true ∧ ∀ x ∈ (((List.range P).filter q).map fun i : Nat => (i : Int)), 0 ≤ x ∧ x < (P : Int)
  | 0 => by simp [isL]
  | P + 1 => by
    obtain ⟨h1, h2⟩ := isL_range q P
    rw [List.range_succ, List.filter_append, List.map_append]
    have up : ∀ (l : List Int) (nx : Int), isL (P : Int) nx l = true → isL ((P + 1 : Nat) : Int) nx l = true := by
      intro l
      induction l with
      | nil => intro nx _; rfl
      | cons y l ih =>
        intro nx h
        have h' : (decide (nx ≤ y ∧ y < (P : Int)) && isL P (y + 1) l) = true := h
        rw [Bool.and_eq_true, decide_eq_true_eq] at h'
        show (decide (nx ≤ y ∧ y < ((P + 1 : Nat) : Int)) && isL ((P + 1 : Nat) : Int) (y + 1) l) = true
        rw [Bool.and_eq_true, decide_eq_true_eq]
        exact ⟨⟨h'.1.1, by omega⟩, ih _ h'.2⟩
    cases hq : q P
    · simp only [List.filter_cons, hq, List.filter_nil, List.map_nil, List.append_nil, if_false, Bool.false_eq_true]
      exact ⟨up _ _ h1, fun x hx => by have := h2 x hx; omega⟩
    · simp only [List.filter_cons, hq, List.filter_nil, List.map_cons, List.map_nil, if_true]
      refine ⟨?_, fun x hx => ?_⟩
      · rw [isL_snoc, up _ _ h1, Bool.true_and, decide_eq_true_eq]
        have : ((((List.range P).filter q).map fun i : Nat => (i : Int)).getLastD (0 - 1)) < P := by
          rcases hl : (((List.range P).filter q).map fun i : Nat => (i : Int)).getLast? with _ | y
          · rw [List.getLastD_eq_getLast?, hl]; simp; omega
          · rw [List.getLastD_eq_getLast?, hl]
            exact (h2 y (List.mem_of_getLast? hl)).2
        omega
      · rcases List.mem_append.1 hx with h3 | h3
        · have := h2 x h3; omega
        · rw [List.mem_singleton.1 h3]; omega
theorem sus_isL (pl : List (List Int)) (r : List Int) (P : Nat) : isL P 0 (susL pl r P) = true := (isL_range _ P).1
/-- The suspects hold each told case. -/
theorem sus_sup {P M : Nat} {pl : List (List Int)} (hP : P ≤ 8) (hM : M ≤ 2) {r d : List Int} (hd : d ∈ toldL P M pl r) {x : Int} (hx : x ∈ d) : has (susL pl r P) x = true := by
  obtain ⟨h1, rfl⟩ := told_mem.1 hd
  have h2 := cases_bd hP hM d h1 x hx
  refine has_sus.2 ⟨x.toNat, by omega, ?_, by omega⟩
  rw [show ((x.toNat : Nat) : Int) = x by omega]
  cases hg : goodP pl (resL pl d) x
  · rfl
  · obtain ⟨rr, h3, h4, h5⟩ := goodP_res.1 hg
    have : meet rr d = true := by
      unfold meet
      unfold has at h4
      obtain ⟨y, hy, hxy⟩ := List.any_eq_true.1 h4
      have e : y = x := by simpa using hxy
      subst e
      exact List.any_eq_true.2 ⟨y, hy, List.any_eq_true.2 ⟨y, hx, by simp⟩⟩
    rw [this] at h5; cases h5
theorem has_mem {l : List Int} {x : Int} : has l x = true ↔ x ∈ l := by
  unfold has
  rw [List.any_eq_true]
  exact ⟨fun ⟨y, h1, h2⟩ => by rw [← (by simpa using h2 : y = x)]; exact h1, fun h => ⟨x, h, by simp⟩⟩
theorem plain_sus {P M : Nat} {pl : List (List Int)} (hP : P ≤ 8) (hM : M ≤ 2) (hp : PlainP P M pl) {c : List Int} (hc : c ∈ casesL P M) : susL pl (resL pl c) P = c := by
  refine isL_ext (sus_isL pl _ P) (cases_isL hP hM c hc).1 fun x => ?_
  cases h : has c x
  · cases hs : has (susL pl (resL pl c) P) x
    · rfl
    · obtain ⟨i, h1, h2, rfl⟩ := has_sus.1 hs
      exfalso
      have h3 := hp c hc i h1
      have h4 : covers pl c (i : Int) = true := covers_t.2 ⟨h, fun r hr hx => by
        cases hm : meet r c
        · rw [goodP_res.2 ⟨r, hr, hx, hm⟩] at h2; cases h2
        · rfl⟩
      rw [h3] at h4; cases h4
  · exact sus_sup hP hM (told_mem.2 ⟨hc, rfl⟩) (has_mem.1 h)
theorem plain_tells {P M : Nat} {pl : List (List Int)} (hP : P ≤ 8) (hM : M ≤ 2) (hp : PlainP P M pl) : Tells P M pl := fun c hc d hd he => by
  rw [← plain_sus hP hM hp hc, he, plain_sus hP hM hp hd]
theorem susV_zero {P M : Nat} {pl : List (List Int)} {r : List Int} (h : errR P M pl r = 0) : susV P M pl r = susL pl r P := by
  unfold susV
  rw [if_pos h]; rfl
theorem bound_le {c k : Nat} (hc : c ≤ 64) (h : c ≤ 2 ^ k) : boundC c ≤ k := by
  rcases Nat.lt_or_ge k 7 with hk | hk
  · have h1 : ∀ c : Fin 65, ∀ k : Fin 7, c.val ≤ 2 ^ k.val → boundC c.val ≤ k.val := by decide +kernel
    exact h1 ⟨c, by omega⟩ ⟨k, hk⟩ h
  · have h1 : ∀ c : Fin 65, boundC c.val ≤ 6 := by decide +kernel
    have := h1 ⟨c, by omega⟩
    simp at this
    omega
theorem bound_six {c : Nat} (hc : c ≤ 64) : boundC c ≤ 6 := bound_le hc (by omega)
theorem lefN_lt2 (CL pl : List (List Int)) (r : List Int) : lefN CL pl r CL.length < 2 ^ CL.length := by
  rw [← pick_lef]; exact pickN_lt _ _ _
/-- What is needed for the cases that are left, by sets. -/
theorem apart_told {P M : Nat} {pl : List (List Int)} (hP : P ≤ 8) (hM : M ≤ 2) (ht : Tells P M pl) (s : Nat) : ApartN (casesL P M) s pl := fun i j hi hj _ _ he =>
  nodup_getD (cases_nodup hP hM) hi hj (ht _ (getD_mem hi) _ (getD_mem hj) he)
theorem told_nil (P M : Nat) : toldL P M [] [] = casesL P M := by
  unfold toldL
  exact List.filter_eq_self.2 fun c _ => rfl
theorem need_bound {P M : Nat} (hP : P ≤ 8) (hM : M ≤ 2) : boundC (casesL P M).length ≤ needOf P M (casesL P M) := by
  have h := needOf_told P M [] []
  rw [told_nil] at h
  rw [h]
  have h1 := need_low (casesL P M) P _ (lefN_lt2 (casesL P M) [] [])
  rw [cnt_told, told_nil] at h1
  exact bound_le (Nat.le_trans (cases_len hP) (by decide)) h1
theorem need_tells {P M : Nat} {pl : List (List Int)} (hP : P ≤ 8) (hM : M ≤ 2) (h : ∀ r ∈ pl, isL P 0 r = true) (ht : Tells P M pl) : needOf P M (casesL P M) ≤ pl.length := by
  have h0 := needOf_told P M [] []
  rw [told_nil] at h0
  rw [h0]
  exact need_plan _ P pl _ (lefN_lt2 _ _ _) (fun r hr => isL_bd (h r hr)) (apart_told hP hM ht _)
theorem tells_bound {P M : Nat} {pl : List (List Int)} (hP : P ≤ 8) (hM : M ≤ 2) (h : ∀ r ∈ pl, isL P 0 r = true) (ht : Tells P M pl) : boundC (casesL P M).length ≤ pl.length := Nat.le_trans (need_bound hP hM) (need_tells hP hM h ht)
theorem need_few {P M : Nat} (hP : P ≤ 8) (hM : M ≤ 2) (pl : List (List Int)) (r : List Int) : needOf P M (toldL P M pl r) ≤ P := by
  rw [needOf_told]
  exact need_plates hP hM (lefN_lt2 _ _ _)
end Go.Proofs.Ytpgdfipikfbjeaa
/- Plain law of the statements: how long what the functions answer is. -/
namespace Go.Proofs.Ytpgdfipikfbjeaa
theorem case_short {P M : Int} {pl : List (List Int)} (h : checkPlan P M pl = 0) {c : List Int} (hc : c ∈ casesL P.toNat M.toNat) : c.length ≤ 2 := by
  obtain ⟨p, m, rfl, rfl, h1, h2, h3, -⟩ := plan_nat h
  have := (cases_isL h2 h3 c (by simpa using hc)).2
  omega
theorem alik_len (P M : Int) (pl : List (List Int)) : (aliR P M pl).1.length ≤ 2 ∧ (aliR P M pl).2.1.length ≤ 2 := by
  by_cases h : checkPlan P M pl = 0
  · obtain ⟨p, m, rfl, rfl, h1, h2, h3, -⟩ := plan_nat h
    rcases ali_cases h2 h3 h with ⟨_, e, _⟩ | ⟨_, _, x, y, e, hx, hy, _⟩
    · rw [e]; simp
    · rw [e]
      have := (cases_isL h2 h3 x hx).2
      have := (cases_isL h2 h3 y hy).2
      exact ⟨by simp; omega, by simp; omega⟩
  · unfold aliR
    rw [if_pos h]; simp
theorem covk_len (P M : Int) (pl : List (List Int)) : (covR P M pl).1.length ≤ 2 := by
  by_cases h : checkPlan P M pl = 0
  · obtain ⟨p, m, rfl, rfl, h1, h2, h3, -⟩ := plan_nat h
    rcases cov_cases h with ⟨_, e, _⟩ | ⟨_, _, x, y, e, hx, _⟩
    · rw [e]; simp
    · rw [e]
      have := (cases_isL h2 h3 x hx).2
      simp; omega
  · unfold covR
    rw [if_pos h]; simp
theorem toldV_len (P M : Int) (pl : List (List Int)) (r : List Int) : (toldV P M pl r).length ≤ 37 ∧ ∀ x ∈ toldV P M pl r, x.length ≤ 2 := by
  unfold toldV
  split
  · rename_i h
    have h0 : errR P M pl r = 0 := by
      unfold toldE at h
      split at h
      · exact absurd h ‹_›
      · rename_i h1; simpa using h1
    have hp := (errR_zero h0).1
    obtain ⟨p, m, rfl, rfl, h1, h2, h3, -⟩ := plan_nat hp
    refine ⟨toldL_len (by simpa using h2) pl r, fun x hx => ?_⟩
    exact case_short hp (told_mem.1 hx).1
  · simp
theorem susV_len (P M : Int) (pl : List (List Int)) (r : List Int) : (susV P M pl r).length ≤ 8 := by
  unfold susV
  split
  · rename_i h
    obtain ⟨p, m, rfl, rfl, h1, h2, h3, -⟩ := plan_nat (errR_zero h).1
    have := sus_len pl r p
    simp; omega
  · simp
theorem resV_len (P M : Int) (pl : List (List Int)) (r : List Int) (h : pl.length ≤ 12) : (resV P M pl r).length ≤ 12 := by
  unfold resV
  split
  · rw [resL_len]; exact h
  · simp
theorem caseV_len (P M : Int) : (caseV P M).length ≤ 37 ∧ ∀ x ∈ caseV P M, x.length ≤ 2 := by
  unfold caseV
  split
  · rename_i h
    obtain ⟨h1, h2, h3, h4⟩ := book_good h
    refine ⟨cases_len (by omega), fun x hx => ?_⟩
    have := (cases_isL (by omega) (by omega) x hx).2
    omega
  · simp
end Go.Proofs.Ytpgdfipikfbjeaa
/- Plain law of the statements: the next rod. -/
namespace Go.Proofs.Ytpgdfipikfbjeaa
theorem next_good {P M : Int} {pl : List (List Int)} {r : List Int} (h : nextE P M pl r = 0) : ∃ p m : Nat, P = p ∧ M = m ∧ p ≤ 5 ∧ m ≤ 2 ∧ isL P 0 (nextV P M pl r) = true ∧ (nextV P M pl r).length ≤ 8 ∧ divB p m (toldL p m pl r) (nextV P M pl r) = true := by
  have h0 := h
  have h1 : leftE P M pl r = 0 := by
    unfold nextE at h
    split at h
    · exact absurd h ‹_›
    · rename_i h2; simpa using h2
  obtain ⟨h2, h3, h4⟩ := leftE_zero h1
  obtain ⟨p, m, rfl, rfl, h5, h6, h7, -⟩ := plan_nat (errR_zero h2).1
  have h8 : p ≤ 5 := by omega
  have hz : need (casesL p m) p (lefN (casesL p m) pl r (casesL p m).length) ≠ 0 := by
    intro e
    have h9 := (need_zero_told p m pl r).1 e
    have h10 : (toldL p m pl r).length ≠ 0 := by simpa using h4
    unfold nextE at h0
    rw [if_neg (by simp [h1]), if_pos (by simp; omega)] at h0
    cases h0
  have hv : nextV p m pl r ∈ splR (casesL p m) (lefN (casesL p m) pl r (casesL p m).length) p := by
    unfold nextV
    rw [if_neg (by simp [h0])]
    exact (bestX_mem _ (split_some h8 h7 pl r hz)).1
  have hm : nextV p m pl r ∈ rodsTo p p := (List.mem_filter.1 hv).1
  exact ⟨p, m, rfl, rfl, h8, h7, rod_mem (by omega) (by omega) _ hm, rod_len (by omega) (by omega) _ hm, next_div h8 h7 pl r h0⟩
end Go.Proofs.Ytpgdfipikfbjeaa
/- Plain law of the statements: one more rod; plates with other numbers; plates alone. -/
namespace Go.Proofs.Ytpgdfipikfbjeaa
theorem listed_isL (b P : Nat) : isL P 0 (listed b P) = true := (isL_range _ P).1
theorem plan_ok {P M : Nat} {pl : List (List Int)} (h1 : 1 ≤ P) (h2 : P ≤ 8) (h3 : M ≤ 2) (h4 : pl.length ≤ 8) (h5 : ∀ r ∈ pl, isL P 0 r = true) : checkPlan P M pl = 0 := by
  have hb : checkBook P M = 0 := by
    unfold checkBook
    rw [if_neg (by omega), if_neg (by omega)]
  unfold checkPlan
  rw [if_neg (by simp [hb]), if_neg (by omega), if_neg (by rw [List.all_eq_true.2 h5]; simp)]
/-- One more rod. -/
theorem resL_snoc (pl : List (List Int)) (q c : List Int) : resL (pl ++ [q]) c = resL pl c ++ [if meet q c then 1 else 0] := by
  unfold resL
  rw [List.map_append]; rfl
theorem snoc_inj {a b : List Int} {x y : Int} (h : a ++ [x] = b ++ [y]) : a = b ∧ x = y := by
  have h1 := List.append_inj' h rfl
  exact ⟨h1.1, by simpa using h1.2⟩
theorem tells_snoc {P M : Nat} {pl : List (List Int)} (q : List Int) (h : Tells P M pl) : Tells P M (pl ++ [q]) := fun c hc d hd he => by
  rw [resL_snoc, resL_snoc] at he
  exact h c hc d hd (snoc_inj he).1
theorem plain_snoc {P M : Nat} {pl : List (List Int)} (q : List Int) (h : PlainP P M pl) : PlainP P M (pl ++ [q]) := fun c hc x hx => by
  cases hv : covers (pl ++ [q]) c (x : Int)
  · rfl
  · obtain ⟨h1, h2⟩ := covers_t.1 hv
    have : covers pl c (x : Int) = true := covers_t.2 ⟨h1, fun r hr => h2 r (List.mem_append_left _ hr)⟩
    rw [h c hc x hx] at this; cases this
theorem told_snoc {P M : Nat} (pl : List (List Int)) (q r : List Int) (b : Int) : (toldL P M (pl ++ [q]) (r ++ [b])).length ≤ (toldL P M pl r).length := by
  unfold toldL
  rw [← List.countP_eq_length_filter, ← List.countP_eq_length_filter]
  refine List.countP_mono_left fun c _ h => ?_
  rw [eqI_t, resL_snoc] at h
  exact eqI_t.2 (snoc_inj h).1
theorem need_snoc {P M : Nat} (pl : List (List Int)) (q r : List Int) (b : Int) : needOf P M (toldL P M (pl ++ [q]) (r ++ [b])) ≤ needOf P M (toldL P M pl r) := by
  rw [needOf_told, needOf_told]
  refine need_mono _ _ _ _ (Nat.eq_of_testBit_eq fun i => ?_)
  rw [Nat.testBit_and, lefN_bit, lefN_bit]
  cases h : eqI (resL (pl ++ [q]) ((casesL P M).getD i [])) (r ++ [b])
  · simp
  · rw [eqI_t, resL_snoc] at h
    rw [eqI_t.2 (snoc_inj h).1]; simp
theorem cases_fewer {P M : Nat} : ∀ c ∈ casesL P (M - 1), c ∈ casesL P M := by
  intro c hc
  unfold casesL at hc ⊢
  simp only [List.mem_append] at hc ⊢
  rcases hc with (h | h) | h
  · exact .inl (.inl h)
  · refine .inl (.inr ?_)
    split at h
    · rw [if_pos (by omega)]; exact h
    · cases h
  · refine .inr ?_
    split at h
    · rw [if_pos (by omega)]; exact h
    · cases h
theorem tells_fewer {P M : Nat} {pl : List (List Int)} (h : Tells P M pl) : Tells P (M - 1) pl := fun c hc d hd he => h c (cases_fewer c hc) d (cases_fewer d hd) he
/-- Plates with other numbers. -/
theorem movB_bit (l : List Int) (s p i : Nat) : ∀ k, (movB l s p k).testBit i = (List.range k).any fun j => movJ s p (l.getD j 0) == i
  | 0 => by simp [movB]
  | k + 1 => by
    show (movB l s p k ||| 2 ^ movJ s p (l.getD k 0)).testBit i = _
    rw [Nat.testBit_or, movB_bit l s p i k, Nat.testBit_two_pow, List.range_succ, List.any_append]
    congr 1
    rw [Bool.eq_iff_iff]
    simp
theorem has_mov {l : List Int} {s p : Nat} (hp : 0 < p) {z : Int} : has (movL l s p) z = true ↔ ∃ y ∈ l, ((movJ s p y : Nat) : Int) = z := by
  unfold movL
  rw [has_listed, movB_bit]
  constructor
  · rintro ⟨h1, h2, h3⟩
    obtain ⟨j, hj, he⟩ := List.any_eq_true.1 h3
    have hj' := List.mem_range.1 hj
    refine ⟨l.getD j 0, ?_, ?_⟩
    · rw [List.getD_eq_getElem?_getD, List.getElem?_eq_getElem hj']; exact List.getElem_mem _
    · have : movJ s p (l.getD j 0) = z.toNat := by simpa using he
      omega
  · rintro ⟨y, hy, rfl⟩
    have h1 : movJ s p y < p := Nat.mod_lt _ hp
    refine ⟨by omega, by omega, List.any_eq_true.2 ?_⟩
    obtain ⟨j, hj, rfl⟩ := List.mem_iff_getElem.1 hy
    exact ⟨j, List.mem_range.2 hj, by rw [List.getD_eq_getElem?_getD, List.getElem?_eq_getElem hj]; simp⟩
theorem add_mod_small {a t p : Nat} (ha : a < p) (ht : t < p) : (a + t) % p = if a + t < p then a + t else a + t - p := by
  split
  · rw [Nat.mod_eq_of_lt ‹_›]
  · rw [Nat.mod_eq_sub_mod (by omega), Nat.mod_eq_of_lt (by omega)]
theorem movJ_inj {s p : Nat} {x y : Int} (hx : 0 ≤ x ∧ x < p) (hy : 0 ≤ y ∧ y < p) (h : movJ s p x = movJ s p y) : x = y := by
  unfold movJ at h
  have ht : s % p < p := Nat.mod_lt _ (by omega)
  rw [add_mod_small (by omega) ht, add_mod_small (by omega) ht] at h
  split at h <;> split at h <;> omega
theorem has_mov_at {l : List Int} {s p : Nat} (hp : 0 < p) (hl : ∀ x ∈ l, 0 ≤ x ∧ x < (p : Int)) {y : Int} (hy : 0 ≤ y ∧ y < (p : Int)) : has (movL l s p) (movJ s p y : Nat) = has l y := by
  cases h : has l y
  · cases h2 : has (movL l s p) (movJ s p y : Nat)
    · rfl
    · obtain ⟨z, hz, e⟩ := (has_mov hp).1 h2
      have := movJ_inj (hl z hz) hy (by exact_mod_cast e)
      subst this
      rw [has_mem.2 hz] at h; cases h
  · exact (has_mov hp).2 ⟨y, has_mem.1 h, rfl⟩
theorem meet_mov {a b : List Int} {s p : Nat} (hp : 0 < p) (ha : ∀ x ∈ a, 0 ≤ x ∧ x < (p : Int)) (hb : ∀ x ∈ b, 0 ≤ x ∧ x < (p : Int)) : meet (movL a s p) (movL b s p) = meet a b := by
  rw [Bool.eq_iff_iff]
  unfold meet
  rw [List.any_eq_true, List.any_eq_true]
  constructor
  · rintro ⟨z, hz, h⟩
    obtain ⟨y, hy, rfl⟩ := (has_mov hp).1 (has_mem.2 hz)
    rw [has_mov_at hp hb (ha y hy)] at h
    exact ⟨y, hy, h⟩
  · rintro ⟨y, hy, h⟩
    refine ⟨((movJ s p y : Nat) : Int), has_mem.1 ((has_mov hp).2 ⟨y, hy, rfl⟩), ?_⟩
    rw [has_mov_at hp hb (ha y hy)]
    exact h
theorem mov_mod (l : List Int) (s p : Nat) : movL l s p = movL l (s % p) p := by
  have e : ∀ k, movB l s p k = movB l (s % p) p k := by
    intro k
    induction k with
    | zero => rfl
    | succ k ih =>
      show movB l s p k ||| _ = movB l (s % p) p k ||| _
      rw [ih]
      unfold movJ
      rw [Nat.mod_mod]
  unfold movL
  rw [e]
theorem mov_perm_k : ∀ P : Fin 9, ∀ M : Fin 3, ∀ s : Fin 8, s.val < P.val → (((casesL P.val M.val).map fun c => movL c s.val P.val).isPerm (casesL P.val M.val)) = true := by decide +kernel
theorem mov_perm {P M : Nat} (h0 : 0 < P) (hP : P ≤ 8) (hM : M ≤ 2) (s : Nat) : ((casesL P M).map fun c => movL c s P).Perm (casesL P M) := by
  have hs : s % P < P := Nat.mod_lt _ h0
  have := mov_perm_k ⟨P, by omega⟩ ⟨M, by omega⟩ ⟨s % P, by omega⟩ hs
  have e : ((casesL P M).map fun c => movL c s P) = (casesL P M).map fun c => movL c (s % P) P := List.map_congr_left fun c _ => mov_mod c s P
  rw [e]
  exact List.isPerm_iff.1 this
theorem mov_mem {P M : Nat} (h0 : 0 < P) (hP : P ≤ 8) (hM : M ≤ 2) {s : Nat} {c : List Int} (hc : c ∈ casesL P M) : movL c s P ∈ casesL P M := (mov_perm h0 hP hM s).mem_iff.1 (List.mem_map.2 ⟨c, hc, rfl⟩)
theorem mov_onto {P M : Nat} (h0 : 0 < P) (hP : P ≤ 8) (hM : M ≤ 2) {s : Nat} {d : List Int} (hd : d ∈ casesL P M) : ∃ c ∈ casesL P M, movL c s P = d := List.mem_map.1 ((mov_perm h0 hP hM s).mem_iff.2 hd)
theorem mov_inj {P M : Nat} (h0 : 0 < P) (hP : P ≤ 8) (hM : M ≤ 2) {s : Nat} {c d : List Int} (hc : c ∈ casesL P M) (hd : d ∈ casesL P M) (h : movL c s P = movL d s P) : c = d := by
  refine isL_ext (cases_isL hP hM c hc).1 (cases_isL hP hM d hd).1 fun x => ?_
  by_cases hx : 0 ≤ x ∧ x < (P : Int)
  · rw [← has_mov_at (s := s) h0 (cases_bd hP hM c hc) hx, h, has_mov_at h0 (cases_bd hP hM d hd) hx]
  · have n : ∀ l ∈ casesL P M, has l x = false := fun l hl => by
      cases e : has l x
      · rfl
      · exact absurd (cases_bd hP hM l hl x (has_mem.1 e)) hx
    rw [n c hc, n d hd]
/-- The rods from one on, round, with other numbers. -/
def turnL (pl : List (List Int)) (s f P : Nat) : List (List Int) := (List.range pl.length).map fun i => movL (pl.getD ((i + f) % pl.length) []) s P
theorem turn_len (pl : List (List Int)) (s f P : Nat) : (turnL pl s f P).length = pl.length := by simp [turnL]
theorem turn_at {pl : List (List Int)} {s f P i : Nat} (hi : i < pl.length) : (turnL pl s f P)[i]? = some (movL (pl.getD ((i + f) % pl.length) []) s P) := by
  unfold turnL
  rw [List.getElem?_map, List.getElem?_range hi]; rfl
theorem res_at (pl : List (List Int)) (c : List Int) (i : Nat) (hi : i < pl.length) : (resL pl c)[i]? = some (if meet (pl.getD i []) c then 1 else 0) := by
  unfold resL
  rw [List.getElem?_map, List.getElem?_eq_getElem hi, List.getD_eq_getElem?_getD, List.getElem?_eq_getElem hi]; rfl
theorem turn_isL {pl : List (List Int)} {s f P : Nat} : ∀ r ∈ turnL pl s f P, isL P 0 r = true := by
  intro r hr
  unfold turnL at hr
  obtain ⟨i, -, rfl⟩ := List.mem_map.1 hr
  exact listed_isL _ _
theorem getD_bd {P : Nat} {pl : List (List Int)} (h : ∀ r ∈ pl, isL P 0 r = true) (j : Nat) : ∀ x ∈ pl.getD j [], 0 ≤ x ∧ x < (P : Int) := by
  rcases Nat.lt_or_ge j pl.length with hj | hj
  · exact isL_bd (h _ (getD_mem hj))
  · rw [List.getD_eq_getElem?_getD, List.getElem?_eq_none hj]; simp
/-- What a turned plan answers: the answers, turned. -/
theorem turn_res {P M : Nat} {pl : List (List Int)} (h0 : 0 < P) (hP : P ≤ 8) (hM : M ≤ 2) (h : ∀ r ∈ pl, isL P 0 r = true) (s f : Nat) {c : List Int} (hc : c ∈ casesL P M) {i : Nat} (hi : i < pl.length) : (resL (turnL pl s f P) (movL c s P))[i]? = (resL pl c)[(i + f) % pl.length]? := by
  have hj : (i + f) % pl.length < pl.length := Nat.mod_lt _ (by omega)
  rw [res_at pl c _ hj, res_at _ _ i (by rw [turn_len]; exact hi), List.getD_eq_getElem?_getD, turn_at hi]
  show some (if meet (movL (pl.getD ((i + f) % pl.length) []) s P) (movL c s P) = true then _ else _) = _
  rw [meet_mov h0 (getD_bd h _) (cases_bd hP hM c hc)]
theorem turn_full {n f j : Nat} (hj : j < n) : ∃ i, i < n ∧ (i + f) % n = j := by
  have hn : 0 < n := by omega
  have hf := Nat.mod_lt f hn
  refine ⟨(j + (n - f % n)) % n, Nat.mod_lt _ hn, ?_⟩
  rw [Nat.mod_add_mod, ← Nat.add_mod_mod, show j + (n - f % n) + f % n = j + n by omega, Nat.add_mod_right, Nat.mod_eq_of_lt hj]
theorem turn_res_iff {P M : Nat} {pl : List (List Int)} (h0 : 0 < P) (hP : P ≤ 8) (hM : M ≤ 2) (h : ∀ r ∈ pl, isL P 0 r = true) (s f : Nat) {c d : List Int} (hc : c ∈ casesL P M) (hd : d ∈ casesL P M) :
    resL (turnL pl s f P) (movL c s P) = resL (turnL pl s f P) (movL d s P) ↔ resL pl c = resL pl d := by
  constructor
  · intro e
    refine List.ext_getElem? fun j => ?_
    rcases Nat.lt_or_ge j pl.length with hj | hj
    · obtain ⟨i, hi, rfl⟩ := turn_full (f := f) hj
      rw [← turn_res h0 hP hM h s f hc hi, e, turn_res h0 hP hM h s f hd hi]
    · rw [List.getElem?_eq_none (by rw [resL_len]; exact hj), List.getElem?_eq_none (by rw [resL_len]; exact hj)]
  · intro e
    refine List.ext_getElem? fun i => ?_
    rcases Nat.lt_or_ge i pl.length with hi | hi
    · rw [turn_res h0 hP hM h s f hc hi, e, turn_res h0 hP hM h s f hd hi]
    · rw [List.getElem?_eq_none (by rw [resL_len, turn_len]; exact hi), List.getElem?_eq_none (by rw [resL_len, turn_len]; exact hi)]
theorem turn_tells {P M : Nat} {pl : List (List Int)} (h0 : 0 < P) (hP : P ≤ 8) (hM : M ≤ 2) (h : ∀ r ∈ pl, isL P 0 r = true) (s f : Nat) : Tells P M (turnL pl s f P) ↔ Tells P M pl := by
  constructor
  · intro ht c hc d hd he
    exact mov_inj h0 hP hM hc hd (ht _ (mov_mem h0 hP hM hc) _ (mov_mem h0 hP hM hd) ((turn_res_iff h0 hP hM h s f hc hd).2 he))
  · intro ht c hc d hd he
    obtain ⟨c, hc', rfl⟩ := mov_onto (s := s) h0 hP hM hc
    obtain ⟨d, hd', rfl⟩ := mov_onto (s := s) h0 hP hM hd
    rw [ht c hc' d hd' ((turn_res_iff h0 hP hM h s f hc' hd').1 he)]
theorem turn_told {P M : Nat} {pl : List (List Int)} (h0 : 0 < P) (hP : P ≤ 8) (hM : M ≤ 2) (h : ∀ r ∈ pl, isL P 0 r = true) (s f : Nat) {c : List Int} (hc : c ∈ casesL P M) :
    (toldL P M (turnL pl s f P) (resL (turnL pl s f P) (movL c s P))).length = (toldL P M pl (resL pl c)).length := by
  unfold toldL
  rw [((mov_perm h0 hP hM s).filter _).length_eq.symm, List.filter_map, List.length_map]
  congr 1
  refine List.filter_congr fun d hd => ?_
  show eqI _ _ = eqI _ _
  rw [Bool.eq_iff_iff, eqI_t, eqI_t]
  exact turn_res_iff h0 hP hM h s f hd hc
theorem turn_covers {P M : Nat} {pl : List (List Int)} (h0 : 0 < P) (hP : P ≤ 8) (hM : M ≤ 2) (h : ∀ r ∈ pl, isL P 0 r = true) (s f : Nat) {c : List Int} (hc : c ∈ casesL P M) {y : Int} (hy : 0 ≤ y ∧ y < (P : Int)) :
    covers (turnL pl s f P) (movL c s P) (movJ s P y : Nat) = covers pl c y := by
  rw [Bool.eq_iff_iff, covers_t, covers_t, has_mov_at h0 (cases_bd hP hM c hc) hy]
  refine and_congr_right fun _ => ?_
  constructor
  · intro e r hr hx
    obtain ⟨j, hj, rfl⟩ := mem_at hr
    obtain ⟨i, hi, rfl⟩ := turn_full (f := f) hj
    have h1 := e _ (List.mem_of_getElem? (turn_at hi))
    rw [has_mov_at h0 (getD_bd h _) hy, meet_mov h0 (getD_bd h _) (cases_bd hP hM c hc)] at h1
    exact h1 hx
  · intro e r hr hx
    obtain ⟨i, hi, rfl⟩ := List.mem_iff_getElem.1 hr
    have hi' : i < pl.length := by rwa [turn_len] at hi
    have e1 := turn_at (s := s) (f := f) (P := P) hi'
    rw [List.getElem?_eq_getElem hi] at e1
    have e2 := Option.some.inj e1
    rw [e2] at hx ⊢
    rw [has_mov_at h0 (getD_bd h _) hy] at hx
    rw [meet_mov h0 (getD_bd h _) (cases_bd hP hM c hc)]
    exact e _ (getD_mem (Nat.mod_lt _ (by omega))) hx
theorem movJ_onto {s P x : Nat} (hx : x < P) : ∃ y : Nat, y < P ∧ movJ s P (y : Int) = x := by
  obtain ⟨i, hi, e⟩ := turn_full (n := P) (f := s % P) hx
  exact ⟨i, hi, by unfold movJ; simpa using e⟩
theorem turn_plain {P M : Nat} {pl : List (List Int)} (h0 : 0 < P) (hP : P ≤ 8) (hM : M ≤ 2) (h : ∀ r ∈ pl, isL P 0 r = true) (s f : Nat) : PlainP P M (turnL pl s f P) ↔ PlainP P M pl := by
  constructor
  · intro hp c hc x hx
    rw [← turn_covers h0 hP hM h s f hc (y := (x : Int)) (by omega)]
    exact hp _ (mov_mem h0 hP hM hc) _ (Nat.mod_lt _ h0)
  · intro hp d hd x hx
    obtain ⟨c, hc, rfl⟩ := mov_onto (s := s) h0 hP hM hd
    obtain ⟨y, hy, rfl⟩ := movJ_onto (s := s) hx
    rw [turn_covers h0 hP hM h s f hc (y := (y : Int)) (by omega)]
    exact hp c hc y hy
/-- Each plate alone. -/
theorem single_isL (P : Nat) : ∀ r ∈ single P, isL P 0 r = true := by
  intro r hr
  obtain ⟨i, hi, rfl⟩ := List.mem_map.1 hr
  have := List.mem_range.1 hi
  show (decide ((0 : Int) ≤ i ∧ (i : Int) < (P : Int)) && true) = true
  rw [Bool.and_true, decide_eq_true_eq]
  omega
theorem single_len (P : Nat) : (single P).length = P := by simp [single]
theorem single_plain (P M : Nat) : PlainP P M (single P) := fun c hc x hx => by
  cases h : covers (single P) c (x : Int)
  · rfl
  · obtain ⟨h1, h2⟩ := covers_t.1 h
    have h3 := h2 [(x : Int)] (List.mem_map.2 ⟨x, List.mem_range.2 hx, rfl⟩) (by simp [has])
    have h4 : meet [(x : Int)] c = has c (x : Int) := by simp [meet]
    rw [h4, h1] at h3; cases h3
theorem tells_none (P : Nat) (pl : List (List Int)) : Tells P 0 pl := fun c hc d hd _ => by
  have e : casesL P 0 = [[]] := rfl
  rw [e] at hc hd
  rw [List.mem_singleton.1 hc, List.mem_singleton.1 hd]
/-- Rods that tell one bad plate of few. -/
def codeL (P : Nat) : List (List Int) := (List.range (boundC (P + 1))).map fun k => ((List.range P).filter fun x => (x + 1).testBit k).map fun x : Nat => (x : Int)
theorem code_k : ∀ P : Fin 6, 1 ≤ P.val → ((casesL P.val 1).all fun c => (casesL P.val 1).all fun d => decide (resL (codeL P.val) c = resL (codeL P.val) d → c = d)) = true ∧ (casesL P.val 1).length = P.val + 1 := by decide +kernel
theorem need_one_bad {P : Nat} (h1 : 1 ≤ P) (hP : P ≤ 5) : needOf P 1 (casesL P 1) = boundC (casesL P 1).length := by
  obtain ⟨h2, h3⟩ := code_k ⟨P, by omega⟩ h1
  have ht : Tells P 1 (codeL P) := fun c hc d hd => by
    have := List.all_eq_true.1 (List.all_eq_true.1 h2 c hc) d hd
    exact of_decide_eq_true this
  have h4 := need_tells (P := P) (M := 1) (by omega) (by omega) (fun r hr => by
    obtain ⟨k, -, rfl⟩ := List.mem_map.1 hr
    exact (isL_range _ P).1) ht
  have h5 := need_bound (P := P) (M := 1) (by omega) (by omega)
  have h6 : (codeL P).length = boundC (casesL P 1).length := by
    show _ = boundC (casesL P 1).length
    rw [show (casesL P 1).length = P + 1 from h3]; simp [codeL]
  omega
theorem need_none_bad {P : Nat} (hP : P ≤ 8) : needOf P 0 (casesL P 0) = 0 := by
  have h := needOf_told P 0 [] []
  rw [told_nil] at h
  rw [h, need_zero_told, told_nil]
  exact Nat.le_refl _
end Go.Proofs.Ytpgdfipikfbjeaa
/- Plain law of the statements: what a fine plan is; results by bits. -/
namespace Go.Proofs.Ytpgdfipikfbjeaa
theorem fine_good {P M : Int} {l : List (List Int)} (h : fineB P M l = true) : l.length ≤ 12 ∧ (∀ x ∈ l, x.length ≤ 12) ∧ checkPlan P M l = 0 := by
  unfold fineB at h
  rw [Bool.and_eq_true, Bool.not_eq_true'] at h
  obtain ⟨h1, h2⟩ := wide_off h.1
  exact ⟨h1, h2, by simpa using h.2⟩
/-- Results by bits. -/
def bitL (b n : Nat) : List Int := (List.range n).map fun i => if b.testBit i then 1 else 0
theorem bitL_len (b n : Nat) : (bitL b n).length = n := by simp [bitL]
theorem bitL_succ (b n : Nat) : bitL b (n + 1) = bitL b n ++ [if b.testBit n then 1 else 0] := by
  unfold bitL
  rw [List.range_succ, List.map_append]; rfl
theorem bitL_01 (b n : Nat) : ∀ x ∈ bitL b n, x = 0 ∨ x = 1 := by
  intro x hx
  unfold bitL at hx
  obtain ⟨r, -, h⟩ := List.mem_map.1 hx
  split at h
  · exact .inr h.symm
  · exact .inl h.symm
theorem low_bit_8 (b k : Nat) (hb : b < 256) : Go.bits .and .u8 ((b : Int) / 2 ^ k) 1 = if b.testBit k then 1 else 0 := by
  have h1 : ((b : Int) / 2 ^ k) = ((b / 2 ^ k : Nat) : Int) := by simp
  rw [h1, Nat.testBit_eq_decide_div_mod_eq]
  have h2 : b / 2 ^ k ≤ b := Nat.div_le_self _ _
  have h3 : ∀ q : Fin 256, Go.bits .and .u8 ((q.val : Nat) : Int) 1 = if decide (q.val % 2 = 1) then 1 else 0 := by decide +kernel
  exact h3 ⟨b / 2 ^ k, by omega⟩
end Go.Proofs.Ytpgdfipikfbjeaa
/- Walks of wide and fine, for plans of any length. -/
namespace Go.Proofs.Ytpgdfipikfbjeaa
open Go.RowKit
attribute [local go_sem] Oper.semAt_some
set_option maxRecDepth 10000 in
set_option maxHeartbeats 1600000 in
theorem wideW_any (A : Option Addr) (n c : Nat) (l : List (List Int)) (w : World) (hl : LiS w w.heap.size A n l) :
    Calls Try.prog 15 #[.slice A n c] w fun e w' => e = .returned (.bool (wideL l)) ∧ Below w.heap.size w w' := by
  have HL := hid hl
  have la := hid hl.1
  clear hl
  by_cases hn : 12 < n
  · have hni : ((12 : Int) < (n : Int)) := by omega
    have hf : Hid (wideL l = true) := hid (by unfold wideL; rw [la.out, decide_eq_true hn]; rfl)
    go_enter Try.func15, Try.ntmps15
    go_wp2
    refine bodyPost_ret (v := .bool true) (by first | (simp [results, Try.results15, go_sem]; done) | (simp [results, Try.results15, go_sem, *]; done) | (simp [results, Try.results15, go_sem, World.cell?_setCell_same', *]; done) | (simp [results, Try.results15, go_sem]; first | exact ⟨rfl, rfl⟩ | rfl)) rfl ⟨by rw [hf.out], Below.refl _ _⟩
  · have hni : ¬ ((12 : Int) < (n : Int)) := by omega
    have hf : Hid (wideL l = !(l.all fun x => decide (x.length ≤ 12))) := hid (by unfold wideL; rw [la.out, decide_eq_false hn]; rfl)
    go_enter Try.func15, Try.ntmps15
    go_wp2_with (fail)
    go_loopw [3, 4] (fun v i wr => ∃ k mx : Nat, k ≤ n ∧ v = .int .i64 mx ∧ i = .int .i64 k ∧ Hid (decide (12 < mx) = !((l.take k).all fun x => decide (x.length ≤ 12))) ∧ w = wr) (fun _ i _ => n - (intOf i).toNat)
    case atStart => exact ⟨0, 0, by omega, rfl, rfl, hid (by simp), rfl⟩
    case round =>
      obtain ⟨k, mx, hk, rfl, rfl, hall, rfl⟩ := hrel
      by_cases hlt : k < n
      · obtain ⟨b1, o1, x, A1, m1, c1, rfl, hb1, hx, d1, hinx⟩ := HL.out.at_ hlt
        have hxl : Hid (x.length = m1) := hid hinx.len
        have hst : Hid (((l.take (k + 1)).all fun x => decide (x.length ≤ 12)) = (((l.take k).all fun x => decide (x.length ≤ 12)) && decide (m1 ≤ 12))) := hid (by rw [List.take_add_one, hx, List.all_append, ← hxl.out]; simp)
        have hlti : (k : Int) < n := by omega
        clear hx hinx
        have hnx : Hid (decide (12 < max mx m1) = !((l.take (k + 1)).all fun x => decide (x.length ≤ 12))) := hid (by
          rw [hst.out, Bool.not_and, ← hall.out]
          by_cases h1 : 12 < mx <;> by_cases h2 : m1 ≤ 12 <;> simp [h1, h2] <;> omega)
        go_wp2
        exact ⟨⟨k + 1, max mx m1, by omega, by congr 1; omega, by go_num, hnx, trivial⟩, by simp [intOf]; omega⟩
      · obtain rfl : n = k := by omega
        have hall2 := hall.out
        rw [List.take_of_length_le (by rw [la.out]; exact Nat.le_refl _)] at hall2
        have hf2 := hid (hf.out.trans hall2.symm)
        clear hall2
        by_cases h12 : 12 < mx
        · have h12i : ((12 : Int) < (mx : Int)) := by omega
          have hf3 := hid (hf2.out.trans (decide_eq_true h12))
          go_wp2
          refine bodyPost_ret (v := .bool true) (by first | (simp [results, Try.results15, go_sem]; done) | (simp [results, Try.results15, go_sem, *]; done) | (simp [results, Try.results15, go_sem, World.cell?_setCell_same', *]; done) | (simp [results, Try.results15, go_sem]; first | exact ⟨rfl, rfl⟩ | rfl)) rfl ⟨by rw [hf3.out], Below.refl _ _⟩
        · have h12i : ¬ ((12 : Int) < (mx : Int)) := by omega
          have hf3 := hid (hf2.out.trans (decide_eq_false h12))
          go_wp2
          refine bodyPost_ret (v := .bool false) (by first | (simp [results, Try.results15, go_sem]; done) | (simp [results, Try.results15, go_sem, *]; done) | (simp [results, Try.results15, go_sem, World.cell?_setCell_same', *]; done) | (simp [results, Try.results15, go_sem]; first | exact ⟨rfl, rfl⟩ | rfl)) rfl ⟨by rw [hf3.out], Below.refl _ _⟩
set_option maxRecDepth 10000 in
set_option maxHeartbeats 1600000 in
theorem fineW_any (A : Option Addr) (n c : Nat) (l : List (List Int)) (P M : Int) (w : World) (hl : LiS w w.heap.size A n l) :
    Calls Try.prog 39 #[.agg #[.int .i64 P, .int .i64 M], .slice A n c] w fun e w' => e = .returned (.bool (fineB P M l)) ∧ Below w.heap.size w w' := by
  have la := hid hl.1
  have HL := hid hl
  obtain ⟨Wb, hWb⟩ : ∃ Wb, w.alloc (.cells #[.int .i64 P, .int .i64 M] 23) = Wb := ⟨_, rfl⟩
  have bB : Blk Wb w.heap.size 23 #[.int .i64 P, .int .i64 M] := by rw [← hWb]; exact Blk.new' rfl
  have hbb : Below w.heap.size w Wb := by rw [← hWb]; exact (Below.refl _ _).alloc (Nat.le_refl _) _
  have lB := bB.lt
  have hzb := hbb.size
  clear hl
  cases hwd : wideL l
  · obtain ⟨k1, k2⟩ := wide_off hwd
    have Hwd := hid hwd
    have hn : n ≤ 12 := by rw [← la.out]; exact k1
    have K2 := hid k2
    have hf : Hid (fineB P M l = (checkPlan P M l == 0)) := hid (by unfold fineB; rw [hwd]; rfl)
    obtain ⟨cv, hcv⟩ : ∃ cv, checkPlan P M l = cv := ⟨_, rfl⟩
    rw [hcv] at hf
    have Hcv := hid hcv
    clear hwd hcv k2
    go_enter Try.func39, Try.ntmps39
    go_wp2_with (fail)
    refine (wideW_any A n c l _ (HL.out.below (by repeat' (first | with_reducible assumption | with_reducible exact Below.refl _ _ | refine Below.alloc ?_ ?_ _ | refine Below.setCell ?_ ?_ _ | refine Below.drew ?_ | refine below_drewN ?_ _ | (simp; done) | (simp; omega) | omega)) (by first | (simp; done) | (simp; omega) | omega))).mono ?_
    rw [Hwd.out]
    rintro e W1 ⟨rfl, hb1⟩
    have hbw1 := hbb.trans (hb1.mono hzb)
    have hz1 := hbw1.size
    have bB1 := bB.below hb1 lB
    have lB1 := bB1.lt
    have p0 := bB1.cell 0
    have p1 := bB1.cell 1
    clear hWb
    go_wp2_with (go_at_call 59; refine (refCheckPlan_any A n c l P M _ (HL.out.below hbw1 hz1) hn K2.out).mono ?_; rw [Hcv.out]; rintro e W2 ⟨rfl, hb2⟩)
    refine bodyPost_ret (v := .bool (cv == 0)) (by first | (simp [results, Try.results39, go_sem]; done) | (simp [results, Try.results39, go_sem, *]; done) | (simp [results, Try.results39, go_sem, World.cell?_setCell_same', *]; done) | (simp [results, Try.results39, go_sem]; first | exact ⟨rfl, rfl⟩ | rfl)) rfl ⟨by rw [hf.out], hbw1.trans (hb2.mono hz1)⟩
  · have Hwd := hid hwd
    have hf : Hid (fineB P M l = false) := hid (by unfold fineB; rw [hwd]; rfl)
    clear hwd
    go_enter Try.func39, Try.ntmps39
    go_wp2_with (fail)
    refine (wideW_any A n c l _ (HL.out.below (by repeat' (first | with_reducible assumption | with_reducible exact Below.refl _ _ | refine Below.alloc ?_ ?_ _ | refine Below.setCell ?_ ?_ _ | refine Below.drew ?_ | refine below_drewN ?_ _ | (simp; done) | (simp; omega) | omega)) (by first | (simp; done) | (simp; omega) | omega))).mono ?_
    rw [Hwd.out]
    rintro e W1 ⟨rfl, hb1⟩
    have hbw1 := hbb.trans (hb1.mono hzb)
    clear hWb
    go_wp2
    refine bodyPost_ret (v := .bool false) (by first | (simp [results, Try.results39, go_sem]; done) | (simp [results, Try.results39, go_sem, *]; done) | (simp [results, Try.results39, go_sem, World.cell?_setCell_same', *]; done) | (simp [results, Try.results39, go_sem]; first | exact ⟨rfl, rfl⟩ | rfl)) rfl ⟨by rw [hf.out], hbw1⟩
end Go.Proofs.Ytpgdfipikfbjeaa
