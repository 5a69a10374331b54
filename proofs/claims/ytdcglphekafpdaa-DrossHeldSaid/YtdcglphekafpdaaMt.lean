/- Texts of the proof, laid together by program. -/
import Derived.Test.YtdcglphekafpdaaMs
/- An own slice of melts, of which one is exchanged. -/
namespace Go.Proofs.Ytdcglphekafpdaa
open Go.RowKit Go.Shelf
theorem info85 : (Try.prog.info? 85).map (fun i => (i.zero, i.size, i.bytes)) = some (some (.agg #[.int .i64 0, .int .i64 0, .int .i64 0, .int .i64 0]), 4, 32) := by kernel_rfl
theorem under22 : Try.prog.underlying 22 = some (.slice 85) := by kernel_rfl
theorem one_flatM (l : List Mt) : ∀ u ∈ l.flatMap cM, u.oneCell' = true := by
  intro v hv
  obtain ⟨r, -, hr⟩ := List.mem_flatMap.1 hv
  simp only [cM, List.mem_cons, List.not_mem_nil, or_false] at hr
  rcases hr with rfl | rfl | rfl | rfl <;> rfl
theorem set_flatM (m : Mt) : ∀ (l : List Mt) (i : Nat), ((((l.flatMap cM).set (i * 4) (.int .i64 m.keep.lo)).set (i * 4 + 1) (.int .i64 m.keep.hi)).set (i * 4 + 2) (.int .i64 m.fixed.lo)).set (i * 4 + 3) (.int .i64 m.fixed.hi) = (l.set i m).flatMap cM
  | [], i => by simp
  | x :: l, 0 => by simp [cM]
  | x :: l, i + 1 => by
    have h := set_flatM m l i
    rw [List.flatMap_cons, List.set_cons_succ, List.flatMap_cons, ← h, show (i + 1) * 4 = i * 4 + 1 + 1 + 1 + 1 by omega, show i * 4 + 1 + 1 + 1 + 1 + 1 = (i * 4 + 1) + 1 + 1 + 1 + 1 by omega, show i * 4 + 1 + 1 + 1 + 1 + 2 = (i * 4 + 2) + 1 + 1 + 1 + 1 by omega, show i * 4 + 1 + 1 + 1 + 1 + 3 = (i * 4 + 3) + 1 + 1 + 1 + 1 by omega]
    simp [cM]
theorem own_atM {w : World} {base : Nat} {e : TypeId} {g n cap : Nat} {l : List Mt} (h : w.ownsRow base e 4 (.slice (some ⟨g, 0, none⟩) n cap) n (l.flatMap cM)) {k : Nat} {r : Mt} (hk : l[k]? = some r) :
    w.cell? ⟨g, k * 4, none⟩ = some (.int .i64 r.keep.lo) ∧ w.cell? ⟨g, k * 4 + 1, none⟩ = some (.int .i64 r.keep.hi) ∧ w.cell? ⟨g, k * 4 + 2, none⟩ = some (.int .i64 r.fixed.lo) ∧ w.cell? ⟨g, k * 4 + 3, none⟩ = some (.int .i64 r.fixed.hi) ∧
    w.frozen? ⟨g, k * 4, none⟩ = false ∧ w.frozen? ⟨g, k * 4 + 1, none⟩ = false ∧ w.frozen? ⟨g, k * 4 + 2, none⟩ = false ∧ w.frozen? ⟨g, k * 4 + 3, none⟩ = false := by
  have hl : (l.flatMap cM).length = l.length * 4 := flat_len (s := 4) (fun _ => rfl) l
  have hn := h.1
  have hkl := (List.getElem?_eq_some_iff.1 hk).1
  have h0 := flat_at (f := cM) (s := 4) (fun _ => rfl) l k 0 r hk (by omega)
  have h1 := flat_at (f := cM) (s := 4) (fun _ => rfl) l k 1 r hk (by omega)
  have h2 := flat_at (f := cM) (s := 4) (fun _ => rfl) l k 2 r hk (by omega)
  have h3 := flat_at (f := cM) (s := 4) (fun _ => rfl) l k 3 r hk (by omega)
  exact ⟨(h.cellAt (k * 4) (by omega)).trans h0, (h.cellAt (k * 4 + 1) (by omega)).trans h1, (h.cellAt (k * 4 + 2) (by omega)).trans h2, (h.cellAt (k * 4 + 3) (by omega)).trans h3, h.frozenAt _, h.frozenAt _, h.frozenAt _, h.frozenAt _⟩
theorem mts_of_own {w : World} {base n : Nat} {g cap : Nat} {l : List Mt} (h : w.ownsRow base 85 4 (.slice (some ⟨g, 0, none⟩) n cap) n (l.flatMap cM)) : MtS w w.heap.size (some ⟨g, 0, none⟩) n l := by
  obtain ⟨A, c, e, hs⟩ := sl_of_owns h
  cases e
  exact hs
theorem own_cap {w : World} {base n e s : Nat} {A : Option Addr} {cap : Nat} {xs : List Value} (h : w.ownsRow base e s (.slice A n cap) n xs) : n ≤ cap := by
  rcases h.2 with ⟨e1, e2⟩ | ⟨g, cap', cur, e1, _, _, hn, _⟩
  · cases e1; omega
  · cases e1; exact hn
theorem own_setM {w : World} {base g n cap : Nat} {l : List Mt} (h : w.ownsRow base 85 4 (.slice (some ⟨g, 0, none⟩) n cap) n (l.flatMap cM)) (i : Nat) (m : Mt) :
    ((((w.setCell ⟨g, i * 4, none⟩ (.int .i64 m.keep.lo)).setCell ⟨g, i * 4 + 1, none⟩ (.int .i64 m.keep.hi)).setCell ⟨g, i * 4 + 2, none⟩ (.int .i64 m.fixed.lo)).setCell ⟨g, i * 4 + 3, none⟩ (.int .i64 m.fixed.hi)).ownsRow base 85 4 (.slice (some ⟨g, 0, none⟩) n cap) n ((l.set i m).flatMap cM) := by
  have h1 := (h.stored (i * 4) (.int .i64 m.keep.lo)).1
  have h2 := (h1.stored (i * 4 + 1) (.int .i64 m.keep.hi)).1
  have h3 := (h2.stored (i * 4 + 2) (.int .i64 m.fixed.lo)).1
  have h4 := (h3.stored (i * 4 + 3) (.int .i64 m.fixed.hi)).1
  rw [set_flatM] at h4
  exact h4
def keepM : Mt := ⟨⟨1000, 1000⟩, ⟨0, 0⟩⟩
theorem keepM_ok : checkRow [keepM] = 0 := by kernel_rfl
theorem mts_keep {w : World} {g : Nat} (h : Blk w g 85 #[.int .i64 1000, .int .i64 1000, .int .i64 0, .int .i64 0]) : MtS w w.heap.size (some ⟨g, 0, none⟩) 1 [keepM] := mts_blk (l := [keepM]) h h.lt
end Go.Proofs.Ytdcglphekafpdaa
