/- Texts of the proof, laid together by program. -/
import Derived.Test.YtdcglphekafpdaaMr
/- Parts of a slice of numbers, as they are appended. -/
namespace Go.Proofs.Ytdcglphekafpdaa
open Go.RowKit Go.Shelf
theorem flatI_get (l : List Int) (j : Nat) : (l.flatMap cI)[j]? = (l[j]?).map (Value.int .i64) := by
  induction l generalizing j with
  | nil => rfl
  | cons x l ih =>
    cases j with
    | zero => rfl
    | succ j => simpa [cI] using ih j
theorem flatI_len' (l : List Int) : (l.flatMap cI).length = l.length := by rw [flat_len (s := 1) (fun _ => rfl), Nat.mul_one]
theorem one_flatI (l : List Int) : ∀ u ∈ l.flatMap cI, u.oneCell' = true := by
  intro v hv
  obtain ⟨r, -, hr⟩ := List.mem_flatMap.1 hv
  simp only [cI, List.mem_cons, List.not_mem_nil, or_false] at hr
  subst hr; rfl
theorem ins_take {w : World} {B b off n : Nat} {l : List Int} (h : InS w B (some ⟨b, off, none⟩) n l) {k : Nat} (hk : k ≤ n) : ∀ j u, ((l.take k).flatMap cI)[j]? = some u → w.cell? ((⟨b, off, none⟩ : Addr).add j) = some u := by
  intro j u hj
  rw [add_at]
  rw [flatI_get] at hj
  have hjk : j < k := by
    rcases Nat.lt_or_ge j k with h1 | h1
    · exact h1
    · rw [List.getElem?_eq_none (by rw [List.length_take]; omega)] at hj; cases hj
  rw [List.getElem?_take_of_lt hjk, ← flatI_get] at hj
  obtain ⟨b', off', e, _, hc⟩ := h.2 (by omega)
  cases e
  exact hc j u hj
theorem ins_drop {w : World} {B b off n : Nat} {l : List Int} (h : InS w B (some ⟨b, off, none⟩) n l) {k : Nat} : ∀ j u, ((l.drop k).flatMap cI)[j]? = some u → w.cell? ((⟨b, off + k, none⟩ : Addr).add j) = some u := by
  intro j u hj
  rw [add_at, Nat.add_assoc]
  rw [flatI_get, List.getElem?_drop, ← flatI_get] at hj
  have hl := h.len
  have hlt : k + j < l.length := by
    rcases Nat.lt_or_ge (k + j) l.length with h1 | h1
    · exact h1
    · rw [List.getElem?_eq_none (by rw [flatI_len']; exact h1)] at hj; cases hj
  obtain ⟨b', off', e, _, hc⟩ := h.2 (by omega)
  cases e
  exact hc (k + j) u hj
theorem ins_some {w : World} {B n : Nat} {A : Option Addr} {l : List Int} (h : InS w B A n l) (hn : 0 < n) : ∃ b off, A = some ⟨b, off, none⟩ ∧ b < B := by
  obtain ⟨b, off, e, hb, _⟩ := h.2 hn
  exact ⟨b, off, e, hb⟩
theorem ownN_len (b n : Nat) : (ownN b n).length ≤ n := by
  have e : ownN b n = filN (fun i => b.testBit i) n := by unfold ownN filN; simp
  rw [e]; exact filN_len _ _
theorem withN_len (b : Int) (m : Int) (n : Nat) : (withN b m n).length ≤ n := by
  have e : withN b m n = filN (fun i => (b.toNat).testBit i || decide ((i : Int) = m)) n := by unfold withN filN; rfl
  rw [e]; exact filN_len _ _
end Go.Proofs.Ytdcglphekafpdaa
