/- Texts of the proof, laid together by program. -/
import Derived.Test.YtiobmfggnacplaaMk
import Derived.Test.YtiobmfggnacplaaMc
import Derived.Test.YtiobmfggnacplaaRows
import Derived.ProofKit
import Derived.OpenShut
import Derived.Carry
import Derived.Deep.Slices
set_option linter.unusedSimpArgs false
set_option linter.unusedVariables false
/- How the arguments of a law read: lists; the post of a law that only reads. -/
namespace Go.Proofs.Ytiobmfggnacplaa
open Go.ChangeShapes Go.WideShapes Go.ChangeAt Go.RowKit Go.Deep

section
variable {H : Type} {enc : TypeId × Value → H} {W : World}
theorem trod_int_cell {k : IntKind} {t : TypeId} (ht : Try.prog.underlying t = some (.int k)) {n : Nat} {cs : List Value} {x : DataW H × List MemPlace} (h : DataW.trod enc Try.prog W 0 (fun _ => true) true n t cs = some x) : ∃ z : Int, cs = [.int k z] ∧ (Lit.int k z).wf = true := by
  obtain ⟨z, h1, _, h2⟩ := DataW.trod_int ht h
  exact ⟨z, h1, h2⟩
theorem collect_elems {α : Type} {f : α → List Value} {s : Nat} {a : Addr} : ∀ k : Nat, (∀ i, i < k → ∃ y : α, ∀ j, j < s → W.cell? ((a.add (i * s)).add j) = (f y)[j]?) → ∃ l : List α, l.length = k ∧ ∀ i y, l[i]? = some y → ∀ j, j < s → W.cell? ((a.add (i * s)).add j) = (f y)[j]?
  | 0, _ => ⟨[], rfl, fun i y h => by simp at h⟩
  | k + 1, h => by
    obtain ⟨l, hl, hc⟩ := collect_elems k (fun i hi => h i (by omega))
    obtain ⟨y, hy⟩ := h k (by omega)
    refine ⟨l ++ [y], by simp [hl], fun i z hz => ?_⟩
    rcases Nat.lt_or_ge i l.length with hlt | hge
    · rw [List.getElem?_append_left hlt] at hz
      exact hc i z hz
    · rw [List.getElem?_append_right hge] at hz
      obtain rfl : i = k := by
        rcases Nat.lt_or_ge (i - l.length) 1 with h1 | h1
        · omega
        · rw [List.getElem?_eq_none (by simpa using h1)] at hz; cases hz
      rw [hl, Nat.sub_self] at hz
      obtain rfl : y = z := by simpa using hz
      exact hy
theorem open_raw {α : Type} {f : α → List Value} {s : Nat} (hs : 0 < s) (hf : ∀ y, (f y).length = s) {t e : TypeId} (ht : Try.prog.underlying t = some (.slice e)) (hC : Try.prog.cellsOf e = s)
    (rd : ∀ (n : Nat) cs (x : DataW H × List MemPlace), DataW.trod enc Try.prog W 0 (fun _ => true) true n e cs = some x → ∃ y, cs = f y) {fuel : Nat} {cs : List Value} {x : DataW H × List MemPlace}
    (hfu : DataW.trod enc Try.prog W 0 (fun _ => true) true fuel t cs = some x) : ∃ A n c, cs = [.slice A n c] ∧ n ≤ c ∧ ∃ l : List α, l.length = n ∧ Sl W W.heap.size s A n (l.flatMap f) := by
  rcases open_slice ht hfu with ⟨e, _⟩ | ⟨a, len, cap, m, n', D, Pl, e, hb, hl, hm, hmm, hx, hi⟩
  · exact ⟨none, 0, 0, e, Nat.le_refl _, [], rfl, Sl.none_⟩
  · simp only [if_true] at hmm
    refine ⟨some a, len, cap, e, hl, ?_⟩
    clear e
    obtain ⟨n, rfl⟩ : ∃ n, n = len := ⟨_, rfl⟩
    obtain ⟨l, hll, hc⟩ := collect_elems (W := W) (f := f) (s := s) (a := a) n (fun i hi' => by
      obtain ⟨cs', hcs, htr⟩ := hi i (by omega)
      rw [hC] at hcs
      obtain ⟨y, rfl⟩ := rd _ _ _ htr
      obtain ⟨_, _, hat⟩ := World.cells?_some hcs
      exact ⟨y, hat⟩)
    refine ⟨l, hll, by rw [flat_len hf, hll], fun hn => ?_⟩
    obtain ⟨b, off, spot⟩ := a
    have h0 : l[0]? = some l[0] := List.getElem?_eq_getElem (by omega)
    have hc0 := hc 0 _ h0 0 hs
    have hv : (f l[0])[0]? = some ((f l[0])[0]'(by rw [hf]; exact hs)) := List.getElem?_eq_getElem _
    rw [hv] at hc0
    have hspot : spot = none := by simpa [Addr.add] using World.cell?_spot hc0
    subst hspot
    have hb' : b < W.heap.size := by
      have := World.block_lt_of_cell? W _ hc0
      simpa [Addr.add] using this
    refine ⟨b, off, rfl, hb', fun j u hu => ?_⟩
    have hj : j < l.length * s := by
      have := (List.getElem?_eq_some_iff.1 hu).1
      rwa [flat_len hf] at this
    have hq : j / s < l.length := (Nat.div_lt_iff_lt_mul hs).2 hj
    have hr : j % s < s := Nat.mod_lt _ hs
    have hlq : l[j / s]? = some l[j / s] := List.getElem?_eq_getElem hq
    have h1 := hc _ _ hlq _ hr
    have h2 := flat_at hf l (j / s) (j % s) _ hlq hr
    have e : j / s * s + j % s = j := by rw [Nat.mul_comm]; exact Nat.div_add_mod j s
    rw [e] at h2
    rw [← h2, hu] at h1
    rw [← h1, add_at, add_at, Nat.add_assoc, e]
theorem open_gen {α : Type} {f : α → List Value} {s : Nat} (hs : 0 < s) (hf : ∀ y, (f y).length = s) {t e : TypeId} (ht : Try.prog.underlying t = some (.slice e)) (hC : Try.prog.cellsOf e = s)
    (rd : ∀ (n : Nat) cs (x : DataW H × List MemPlace), DataW.trod enc Try.prog W 0 (fun _ => true) true n e cs = some x → ∃ y, cs = f y) {A : Option Addr} {n c : Nat} {d : DataW H} {p : List MemPlace}
    (h : DataW.Trod enc Try.prog W 0 (fun _ => true) true t (.slice A n c) d p) : n ≤ c ∧ ∃ l : List α, l.length = n ∧ Sl W W.heap.size s A n (l.flatMap f) := by
  obtain ⟨fuel, hfu⟩ := h
  obtain ⟨A', n', c', e, h1, h2⟩ := open_raw hs hf ht hC rd hfu
  simp [Value.cells] at e
  obtain ⟨rfl, rfl, rfl⟩ := e
  exact ⟨h1, h2⟩
theorem open_is {k : IntKind} {t e : TypeId} (ht : Try.prog.underlying t = some (.slice e)) (he : Try.prog.underlying e = some (.int k)) (hC : Try.prog.cellsOf e = 1) {A : Option Addr} {n c : Nat} {d : DataW H} {p : List MemPlace}
    (h : DataW.Trod enc Try.prog W 0 (fun _ => true) true t (.slice A n c) d p) : n ≤ c ∧ ∃ l : List { z : Int // (Lit.int k z).wf = true }, l.length = n ∧ Sl W W.heap.size 1 A n (l.flatMap fun x => [.int k x.1]) :=
  open_gen (α := { z : Int // (Lit.int k z).wf = true }) (f := fun x => [.int k x.1]) (s := 1) (by omega) (fun _ => rfl) ht hC (fun _ _ _ h => by obtain ⟨z, h1, h2⟩ := trod_int_cell he h; exact ⟨⟨z, h2⟩, h1⟩) h
theorem open_ins {t e : TypeId} (ht : Try.prog.underlying t = some (.slice e)) (he : Try.prog.underlying e = some (.int .i64)) (hC : Try.prog.cellsOf e = 1) {A : Option Addr} {n c : Nat} {d : DataW H} {p : List MemPlace}
    (h : DataW.Trod enc Try.prog W 0 (fun _ => true) true t (.slice A n c) d p) : n ≤ c ∧ ∃ l : List Int, l.length = n ∧ InS W W.heap.size A n l := by
  obtain ⟨h1, l, h2, h3⟩ := open_is ht he hC h
  refine ⟨h1, l.map (·.1), by simp [h2], ?_⟩
  unfold InS
  rw [List.flatMap_map]
  exact h3
theorem wf_u8 {z : Int} (h : (Lit.int .u8 z).wf = true) : 0 ≤ z ∧ z < 256 := by
  simp [Lit.wf, IntKind.min, IntKind.max, IntKind.signed, IntKind.bits] at h
  omega
theorem open_u8s {A : Option Addr} {n c : Nat} {d : DataW H} {p : List MemPlace}
    (h : DataW.Trod enc Try.prog W 0 (fun _ => true) true 59 (.slice A n c) d p) : n ≤ c ∧ ∃ l : List Nat, l.length = n ∧ U8S W W.heap.size A n l ∧ ∀ x ∈ l, x < 256 := by
  obtain ⟨h1, l, h2, h3⟩ := open_is Try.underlying59 Try.underlying5 (by kernel_rfl) h
  refine ⟨h1, l.map (fun x => x.1.toNat), by simp [h2], ?_, fun x hx => ?_⟩
  · unfold U8S
    have e : (l.map fun x => x.1.toNat).map (fun x : Nat => Value.int .u8 (x : Int)) = l.flatMap fun x => [.int .u8 x.1] := by
      rw [List.map_map]
      clear h2 h3
      induction l with
      | nil => rfl
      | cons a l ih =>
        have := wf_u8 a.2
        simp only [List.map_cons, List.flatMap_cons, List.cons_append, List.nil_append, Function.comp, Int.toNat_of_nonneg this.1]
        rw [← ih]
    rw [e]
    exact h3
  · obtain ⟨y, hy, rfl⟩ := List.mem_map.1 hx
    have := wf_u8 y.2
    omega
/-- The arguments read behind the call as they did. -/
theorem all_below {P : Program} (hl : laidOutB P = true) {W' : World} (hb : Below W.heap.size W W') : ∀ {ts : List TypeId} {vs : List Value} {ds : List (DataW H)} {ps : List MemPlace}, (∀ t ∈ ts, P.readableRec t = true ∧ t < P.types.size) → (∀ x ∈ ps, x.block < W.heap.size) →
    DataW.TrodAll enc P W 0 (fun _ => true) true ts vs ds ps → DataW.TrodAll enc P W' 0 (fun b => decide (b < W.heap.size)) true ts vs ds ps
  | [], vs, ds, ps, _, _, h => by
    obtain ⟨rfl, rfl, rfl⟩ := trodAll_nil h
    exact trodAll_mk0
  | t :: ts, vs, ds, ps, hr, hlt, h => by
    obtain ⟨v, vs', d, ds', p, p', rfl, rfl, rfl, h1, h2⟩ := trodAll_cons h
    obtain ⟨r1, r2⟩ := hr t (by simp)
    exact trodAll_cons_mk (Below.trod hl r1 r2 h1 hb (fun x hx => hlt x (by simp [hx]))) (all_below hl hb (fun t ht => hr t (by simp [ht])) (fun x hx => hlt x (by simp [hx])) h2)
theorem readable_of {P : Program} {ts : List TypeId} (h : (ts.all fun t => P.readableRec t && decide (t < P.types.size)) = true) : ∀ t ∈ ts, P.readableRec t = true ∧ t < P.types.size := fun t ht => by
  have := List.all_eq_true.1 h t ht
  simpa using this
theorem ownKx : ownKnob Try.prog.godebug = none := by kernel_rfl
end
end Go.Proofs.Ytiobmfggnacplaa
/- Bounds on what is returned. -/
namespace Go.Proofs.Ytiobmfggnacplaa
open Go.RowKit
theorem turnV_bd (K : Int) (l : List Int) (b : Int) (h : l.length ≤ 1000000) : (turnV K l b).length ≤ 1000000 := by
  unfold turnV
  split
  · rw [rot_len]; exact h
  · simp
theorem leastV_bd (K : Int) (l : List Int) (h : l.length ≤ 1000000) : (leastV K l).length ≤ 1000000 := by
  unfold leastV
  split
  · rw [least_len]; exact h
  · simp
theorem wordsV_bd (K : Int) (l : List Int) (h : l.length ≤ 1000000) : (wordsV K l).length ≤ 1000000 := by
  unfold wordsV
  split
  · exact Nat.le_trans (cutsI_le l) h
  · simp
set_option maxRecDepth 100000 in
theorem row_few : ∀ (K : Fin 5) (L : Fin 7), 1 ≤ K.1 → 1 ≤ L.1 → K.1 ^ L.1 ≤ 64 → (rowF L.1 (wdsL K.1 L.1)).length = K.1 ^ L.1 := by decide +kernel
theorem rowV_bd (K L : Int) : (rowV K L).length ≤ 1000000 := by
  unfold rowV
  split
  · rename_i h
    obtain ⟨h1, h2, h3⟩ := rowE_ok h
    have := row_few ⟨K.toNat, by omega⟩ ⟨L.toNat, by omega⟩ (by simp only; omega) (by simp only; omega) h3
    simp only at this
    omega
  · simp
end Go.Proofs.Ytiobmfggnacplaa
