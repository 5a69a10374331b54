/- Texts of the proof, laid together by program. -/
import Derived.Test.YtdgllpcfmkjfhaaGreatMs
import Derived.ProofKit
import Derived.OpenShut
import Derived.Carry
import Derived.Deep.Slices
set_option linter.unusedSimpArgs false
set_option linter.unusedVariables false
/- How the book of moulds among the arguments reads. -/
namespace Go.Proofs.YtdgllpcfmkjfhaaGreat.Bl
open Go.ChangeShapes Go.WideShapes Go.ChangeAt Go.RowKit Go.Deep
section
variable {H : Type} {enc : TypeId × Value → H} {W : World}
theorem trod_int_cell {k : IntKind} {t : TypeId} (ht : Tryz.prog.underlying t = some (.int k)) {n : Nat} {cs : List Value} {x : DataW H × List MemPlace} (h : DataW.trod enc Tryz.prog W 0 (fun _ => true) true n t cs = some x) : ∃ z : Int, cs = [.int k z] ∧ (Lit.int k z).wf = true := by
  obtain ⟨z, h1, _, h2⟩ := DataW.trod_int ht h
  exact ⟨z, h1, h2⟩
theorem collect_elems {α : Type} {f : α → List Value} {s : Nat} {a : Addr} : ∀ k : Nat, (∀ i, i < k → ∃ y : α, ∀ j, j < s → W.cell? ((a.add (i * s)).add j) = (f y)[j]?) → ∃ l : List α, l.length = k ∧ ∀ i y, l[i]? = some y → ∀ j, j < s → W.cell? ((a.add (i * s)).add j) = (f y)[j]?
  | 0, _ => ⟨[], rfl, fun i y h => by simp at h⟩
  | k + 1, h => by
    obtain ⟨l, hl, hc⟩ := collect_elems k (fun i hi => h i (by omega))
    obtain ⟨y, hy⟩ := h k (by omega)
    refine ⟨l ++ [y], by simp [hl], fun i z hz => ?_⟩
    rcases Nat.lt_or_ge i l.length with hlt | hge
    · rw [List.getElem?_append_left hlt] at hz
      exact hc i z hz
    · rw [List.getElem?_append_right hge] at hz
      obtain rfl : i = k := by
        rcases Nat.lt_or_ge (i - l.length) 1 with h1 | h1
        · omega
        · rw [List.getElem?_eq_none (by simpa using h1)] at hz; cases hz
      rw [hl, Nat.sub_self] at hz
      obtain rfl : y = z := by simpa using hz
      exact hy
theorem open_raw {α : Type} {f : α → List Value} {s : Nat} (hs : 0 < s) (hf : ∀ y, (f y).length = s) {t e : TypeId} (ht : Tryz.prog.underlying t = some (.slice e)) (hC : Tryz.prog.cellsOf e = s)
    (rd : ∀ (n : Nat) cs (x : DataW H × List MemPlace), DataW.trod enc Tryz.prog W 0 (fun _ => true) true n e cs = some x → ∃ y, cs = f y) {fuel : Nat} {cs : List Value} {x : DataW H × List MemPlace}
    (hfu : DataW.trod enc Tryz.prog W 0 (fun _ => true) true fuel t cs = some x) : ∃ A n c, cs = [.slice A n c] ∧ n ≤ c ∧ (A = none → n = 0 ∧ c = 0) ∧ ∃ l : List α, l.length = n ∧ Sl W W.heap.size s A n (l.flatMap f) := by
  rcases open_slice ht hfu with ⟨e, _⟩ | ⟨a, len, cap, m, n', D, Pl, e, hb, hl, hm, hmm, hx, hi⟩
  · exact ⟨none, 0, 0, e, Nat.le_refl _, fun _ => ⟨rfl, rfl⟩, [], rfl, Sl.none_⟩
  · simp only [if_true] at hmm
    refine ⟨some a, len, cap, e, hl, (fun h => by cases h), ?_⟩
    clear e
    obtain ⟨n, rfl⟩ : ∃ n, n = len := ⟨_, rfl⟩
    obtain ⟨l, hll, hc⟩ := collect_elems (W := W) (f := f) (s := s) (a := a) n (fun i hi' => by
      obtain ⟨cs', hcs, htr⟩ := hi i (by omega)
      rw [hC] at hcs
      obtain ⟨y, rfl⟩ := rd _ _ _ htr
      obtain ⟨_, _, hat⟩ := World.cells?_some hcs
      exact ⟨y, hat⟩)
    refine ⟨l, hll, by rw [flat_len hf, hll], fun hn => ?_⟩
    obtain ⟨b, off, spot⟩ := a
    have h0 : l[0]? = some l[0] := List.getElem?_eq_getElem (by omega)
    have hc0 := hc 0 _ h0 0 hs
    have hv : (f l[0])[0]? = some ((f l[0])[0]'(by rw [hf]; exact hs)) := List.getElem?_eq_getElem _
    rw [hv] at hc0
    have hspot : spot = none := by simpa [Addr.add] using World.cell?_spot hc0
    subst hspot
    have hb' : b < W.heap.size := by
      have := World.block_lt_of_cell? W _ hc0
      simpa [Addr.add] using this
    refine ⟨b, off, rfl, hb', fun j u hu => ?_⟩
    have hj : j < l.length * s := by
      have := (List.getElem?_eq_some_iff.1 hu).1
      rwa [flat_len hf] at this
    have hq : j / s < l.length := (Nat.div_lt_iff_lt_mul hs).2 hj
    have hr : j % s < s := Nat.mod_lt _ hs
    have hlq : l[j / s]? = some l[j / s] := List.getElem?_eq_getElem hq
    have h1 := hc _ _ hlq _ hr
    have h2 := flat_at hf l (j / s) (j % s) _ hlq hr
    have e : j / s * s + j % s = j := by rw [Nat.mul_comm]; exact Nat.div_add_mod j s
    rw [e] at h2
    rw [← h2, hu] at h1
    rw [← h1, add_at, add_at, Nat.add_assoc, e]
theorem trod_want {n : Nat} {cs : List Value} {x : DataW H × List MemPlace} (h : DataW.trod enc Tryz.prog W 0 (fun _ => true) true n 33 cs = some x) : ∃ r : Int × Int, cs = cW r := by
  obtain ⟨xs, m, _, _, hl, hx, hf⟩ := DataW.trod_struct Tryz.underlying33 h
  have hc : Tryz.prog.cellsOf 33 = 2 := by kernel_rfl
  have hc2 : Tryz.prog.cellsOf 3 = 1 := by kernel_rfl
  rw [hc] at hl
  have h0 : DataW.trod enc Tryz.prog W 0 (fun _ => true) true m 3 ((cs.drop 0).take (Tryz.prog.cellsOf 3)) = xs[0]? := hf 0 _ rfl
  have h1 : DataW.trod enc Tryz.prog W 0 (fun _ => true) true m 3 ((cs.drop 1).take (Tryz.prog.cellsOf 3)) = xs[1]? := hf 1 _ rfl
  rw [hc2] at h0 h1
  rcases cs with _ | ⟨a, _ | ⟨b, _ | ⟨c, l⟩⟩⟩ <;> simp at hl
  have hx0 : xs[0]? = some (xs[0]'(by rw [hx]; decide)) := List.getElem?_eq_getElem _
  have hx1 : xs[1]? = some (xs[1]'(by rw [hx]; decide)) := List.getElem?_eq_getElem _
  obtain ⟨z0, e0, _⟩ := trod_int_cell (k := .i64) Tryz.underlying3 (h0.trans hx0)
  obtain ⟨z1, e1, _⟩ := trod_int_cell (k := .i64) Tryz.underlying3 (h1.trans hx1)
  simp at e0 e1
  exact ⟨(z0, z1), by rw [e0, e1]; rfl⟩
theorem trod_mbk {n : Nat} {cs : List Value} {x : DataW H × List MemPlace} (h : DataW.trod enc Tryz.prog W 0 (fun _ => true) true n 24 cs = some x) : ∃ (S M : Int) (A : Option Addr) (m c : Nat), cs = [.int .i64 S, .int .i64 M, .slice A m c] ∧ ∃ ws : List (Int × Int), WtS W W.heap.size A m ws := by
  obtain ⟨xs, m, _, _, hl, hx, hf⟩ := DataW.trod_struct Tryz.underlying24 h
  have hc : Tryz.prog.cellsOf 24 = 3 := by kernel_rfl
  have hc2 : Tryz.prog.cellsOf 3 = 1 := by kernel_rfl
  have hc3 : Tryz.prog.cellsOf 22 = 1 := by kernel_rfl
  rw [hc] at hl
  have h0 : DataW.trod enc Tryz.prog W 0 (fun _ => true) true m 3 ((cs.drop 0).take (Tryz.prog.cellsOf 3)) = xs[0]? := hf 0 _ rfl
  have h1 : DataW.trod enc Tryz.prog W 0 (fun _ => true) true m 3 ((cs.drop 1).take (Tryz.prog.cellsOf 3)) = xs[1]? := hf 1 _ rfl
  have h2 : DataW.trod enc Tryz.prog W 0 (fun _ => true) true m 22 ((cs.drop 2).take (Tryz.prog.cellsOf 22)) = xs[2]? := hf 2 _ rfl
  rw [hc2] at h0 h1
  rw [hc3] at h2
  rcases cs with _ | ⟨a, _ | ⟨b, _ | ⟨c, _ | ⟨d, l⟩⟩⟩⟩ <;> simp at hl
  have hx0 : xs[0]? = some (xs[0]'(by rw [hx]; decide)) := List.getElem?_eq_getElem _
  have hx1 : xs[1]? = some (xs[1]'(by rw [hx]; decide)) := List.getElem?_eq_getElem _
  have hx2 : xs[2]? = some (xs[2]'(by rw [hx]; decide)) := List.getElem?_eq_getElem _
  obtain ⟨z0, e0, _⟩ := trod_int_cell (k := .i64) Tryz.underlying3 (h0.trans hx0)
  obtain ⟨z1, e1, _⟩ := trod_int_cell (k := .i64) Tryz.underlying3 (h1.trans hx1)
  obtain ⟨A, q, c, e2, _, _, ws, _, hs⟩ := open_raw (α := Int × Int) (f := cW) (s := 2) (by omega) (fun _ => rfl) Tryz.underlying22 (by kernel_rfl) (fun _ _ _ h => trod_want h) (h2.trans hx2)
  simp at e0 e1 e2
  exact ⟨z0, z1, A, q, c, by rw [e0, e1, e2], ws, hs⟩
set_option maxRecDepth 100000 in
theorem open_mbook {v : Value} {r : Reach} {b0 : Nat} {d : DataW H} {p : List MemPlace} (hv : Value.okWide Tryz.prog W r b0 24 v) (h : DataW.Trod enc Tryz.prog W 0 (fun _ => true) true 24 v d p) : ∃ (S M : Int) (A : Option Addr) (m c : Nat), v = .agg #[.int .i64 S, .int .i64 M, .slice A m c] ∧ ∃ ws : List (Int × Int), WtS W W.heap.size A m ws := by
  have hw := okWide_struct Tryz.underlying24 hv
  refine hw.elim fun cs e => ?_
  have e1 := e.1
  clear e hw
  subst e1
  refine Exists.elim h fun fuel hf => ?_
  obtain ⟨S, M, A, m, c, hq, hr⟩ := trod_mbk hf
  refine ⟨S, M, A, m, c, ?_, hr⟩
  have e2 : cs.toList = [.int .i64 S, .int .i64 M, .slice A m c] := hq
  rw [← Array.toArray_toList (xs := cs), e2]
end
end Go.Proofs.YtdgllpcfmkjfhaaGreat.Bl
