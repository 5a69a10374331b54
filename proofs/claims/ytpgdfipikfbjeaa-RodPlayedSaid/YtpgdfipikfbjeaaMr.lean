/- Texts of the proof, laid together by program. -/
import Derived.Test.YtpgdfipikfbjeaaMp
set_option linter.unusedSimpArgs false
set_option linter.unusedVariables false
/- append of a plan, and of one more rod, to an own row; a plan as an own row. -/
namespace Go.Proofs.Ytpgdfipikfbjeaa
open Go.RowKit
/-- append of what a slice value reads as, nil or not, as one step of a region that draws. -/
theorem lupon_append_src {P : Program} (w : World) {o : Oper} {a : Act} {K : Act → World → Prop} (s x : Operand) (t : TypeId)
    (ho : o.op = .call { callee := .builtin .append, args := #[s, x], argTypes := #[t, t] })
    (base : Nat) (e : TypeId) (i : TypeInfo) (z : Value) (size bytes : Nat) (ht : P.underlying t = some (.slice e)) (hi : P.info? e = some i) (hz : i.zero = some z)
    (hsize : i.size = size) (hby : i.bytes = bytes) (hzs : z.cells.size = size) (hsz : 0 < size)
    (v : Value) (n : Nat) (xs : List Value) (hs : a.eval s = v) (hown : w.ownsRow base e size v n xs)
    (A : Option Addr) (m c : Nat) (news : List Value) (hx : a.eval x = .slice A m c) (B : Nat) (hS : Sl w B size A m news) (hA : A = none → m = 0 ∧ c = 0) (h1 : ∀ u ∈ news, u.oneCell' = true)
    (h63 : n + m ≤ maxLen) (hbytes : (n + m) * bytes ≤ 140737488355328) (hbase : base ≤ w.heap.size)
    (h : ∀ v' w', w'.ownsRow base e size v' (n + m) (xs ++ news) → w.grownBy w' v.ownBlock → (v'.ownBlock = v.ownBlock ∨ v'.ownBlock = some w.heap.size) → K (a.put o.dst v') w') : LUpon P o a K ((execOp a.eval o).run P w) := by
  cases A with
  | none =>
    obtain ⟨rfl, rfl⟩ := hA rfl
    have hn : news = [] := List.eq_nil_of_length_eq_zero (by rw [hS.1]; omega)
    subst hn
    have hrun := run_append_owned_none (P := P) (w := w) base t o.type e i size ht hi v n xs hown
    unfold execOp
    simp only [ho, resolve, invoke, builtin, Sem.run_bind, Sem.run_pure, Result.andThen_ok, List.map_toArray, List.map_cons, List.map_nil, hs, hx, hrun]
    exact h v w (by rw [List.append_nil, Nat.add_zero]; exact hown) ⟨rfl, rfl, rfl, Nat.le_refl _, fun _ _ _ => rfl⟩ (.inl rfl)
  | some ad =>
    have hnews : ∀ j u, news[j]? = some u → w.cell? (ad.add j) = some u := fun j u hj => by
      have hm : 0 < m := by
        rcases Nat.eq_zero_or_pos m with h0 | h0
        · have := hS.1; rw [h0, Nat.zero_mul] at this
          rw [List.eq_nil_of_length_eq_zero this] at hj; simp at hj
        · exact h0
      obtain ⟨b, off, hA', -, hc⟩ := hS.2 hm
      cases hA'
      rw [add_at]
      exact hc j u hj
    obtain ⟨v', w', hr, h2, h3, h4, h5⟩ := run_append_own_at (P := P) w base t o.type e i z size bytes ht hi hz hsize hby hzs hsz v n xs hown ad m c news hS.1 hnews h1 h63 hbytes hbase
    unfold execOp
    simp only [ho, resolve, invoke, builtin, Sem.run_bind, Sem.run_pure, Result.andThen_ok, List.map_toArray, List.map_cons, List.map_nil, hs, hx, hr]
    exact h v' w' h2 h3 h5
/-- What the cells of a plan read as. -/
def Cells (w : World) (B : Nat) (ls : List (List Int)) (vs : List Value) : Prop := vs.length = ls.length ∧ ∀ (k : Nat) (l : List Int), ls[k]? = some l → ∃ (A' : Option Addr) (m c' : Nat), vs[k]? = some (Value.slice A' m c') ∧ InS w B A' m l
theorem LiS.cells {w : World} {B n : Nat} {A : Option Addr} {ls : List (List Int)} (h : LiS w B A n ls) : ∃ vs, Sl w B 1 A n vs ∧ Cells w B ls vs := by
  obtain ⟨h1, vs, h2, h3⟩ := h
  exact ⟨vs, h2, by rw [h2.1, h1, Nat.mul_one], h3⟩
theorem Cells.below {w w' : World} {B B' : Nat} {ls : List (List Int)} {vs : List Value} (h : Cells w B ls vs) (hb : Below B w w') (hB : B ≤ B') : Cells w' B' ls vs :=
  ⟨h.1, fun k l hk => by obtain ⟨A', m, c', e, h4⟩ := h.2 k l hk; exact ⟨A', m, c', e, h4.below hb hB⟩⟩
theorem Cells.one {w : World} {B : Nat} {ls : List (List Int)} {vs : List Value} (h : Cells w B ls vs) : ∀ u ∈ vs, u.oneCell' = true := by
  intro u hu
  obtain ⟨k, hk, rfl⟩ := List.mem_iff_getElem.1 hu
  have hk2 : k < ls.length := by rw [← h.1]; exact hk
  obtain ⟨A', m, c', e, -⟩ := h.2 k _ (List.getElem?_eq_getElem hk2)
  rw [List.getElem?_eq_getElem hk] at e
  rw [Option.some.inj e]; rfl
theorem Cells.snoc {w : World} {B : Nat} {ls : List (List Int)} {vs : List Value} (h : Cells w B ls vs) {A : Option Addr} {m c : Nat} {l : List Int} (hl : InS w B A m l) : Cells w B (ls ++ [l]) (vs ++ [.slice A m c]) := by
  refine ⟨by simp [h.1], fun k x hk => ?_⟩
  rcases Nat.lt_or_ge k ls.length with h1 | h1
  · rw [List.getElem?_append_left h1] at hk
    obtain ⟨A', m', c', h2, h3⟩ := h.2 k x hk
    exact ⟨A', m', c', by rw [List.getElem?_append_left (by rw [h.1]; exact h1)]; exact h2, h3⟩
  · rw [List.getElem?_append_right h1] at hk
    have hk0 : k - ls.length = 0 := by
      have := (List.getElem?_eq_some_iff.1 hk).1
      simp at this; omega
    rw [hk0] at hk
    obtain rfl : l = x := by simpa using hk
    exact ⟨A, m, c, by rw [List.getElem?_append_right (by rw [h.1]; exact h1), h.1, hk0]; rfl, hl⟩
theorem Cells.lis {w : World} {base n : Nat} {v : Value} {ls : List (List Int)} {vs : List Value} (h : Cells w w.heap.size ls vs) (ho : w.ownsRow base 25 1 v n vs) : ∃ A c, v = .slice A n c ∧ LiS w w.heap.size A n ls ∧ (A = none → n = 0 ∧ c = 0) := by
  obtain ⟨A, c, e, hs, hA⟩ := own_src ho
  exact ⟨A, c, e, ⟨by rw [← h.1, hs.1, Nat.mul_one], vs, hs, h.2⟩, hA⟩
/-- A row of numbers that was made behind an older own row. -/
theorem ins_young {w : World} {base : Nat} {v : Value} {n : Nat} {l : List Int} (ho : w.ownsRow base 3 1 v n (l.flatMap cI)) : ∃ A c, v = .slice A n c ∧ InS w w.heap.size A n l ∧ ∀ b off, 0 < n → A = some ⟨b, off, none⟩ → base ≤ b := by
  obtain ⟨A, c, e, hs⟩ := sl_of_owns ho
  refine ⟨A, c, e, hs, fun b off hn hA => ?_⟩
  obtain ⟨g, cap, h1, h2, -⟩ := own_form2 ho hn
  rw [e] at h1
  injection h1 with h3
  rw [hA] at h3
  injection h3 with h4
  injection h4 with h5
  omega
/-- It outlasts a write to the older row. -/
theorem ins_outlast {w w' : World} {B n : Nat} {A : Option Addr} {l : List Int} {row : Option Nat} {base : Nat} (h : InS w w.heap.size A n l) (hy : ∀ b off, 0 < n → A = some ⟨b, off, none⟩ → base ≤ b) (hr : ∀ r, row = some r → r < base) (hg : w.grownBy w' row) (hB : w.heap.size ≤ B) : InS w' B A n l := by
  refine ⟨h.1, fun hm => ?_⟩
  obtain ⟨b, off, e, hb, hc⟩ := h.2 hm
  exact ⟨b, off, e, by omega, fun j u hu => hg.cell (hc j u hu) (fun e' => by have h1 := hr b e'.symm; have h2 := hy b off hm e; omega)⟩
theorem flat_one {α β : Type} (f : α → β) : ∀ l : List α, (l.flatMap fun x => [f x]) = l.map f
  | [] => rfl
  | a :: l => by rw [List.flatMap_cons, List.map_cons, flat_one f l]; rfl
theorem own_blk2 {w : World} {base n c : Nat} {e : TypeId} {size : Nat} {A : Option Addr} {xs : List Value} (ho : w.ownsRow base e size (.slice A n c) n xs) : ∀ b off, A = some ⟨b, off, none⟩ → base ≤ b ∧ b < w.heap.size := by
  intro b off hA
  rcases ho.2 with ⟨h, _⟩ | ⟨g, cap, cur, h, hb, hg, _⟩
  · cases h; cases hA
  · cases h; cases hA
    exact ⟨hb, (Array.getElem?_eq_some_iff.1 hg).1⟩
/-- One list more is appended to a list of lists of its own, as one step of a region that draws. -/
theorem lupon_newLi {w : World} {o : Oper} {a : Act} {K : Act → World → Prop} (s x : Operand)
    (ho : o.op = .call { callee := .builtin .append, args := #[s, x], argTypes := #[24, 24] })
    (base : Nat) (v : Value) (ls : List (List Int)) (hs : a.eval s = v) (hown : NewLi w base v ls)
    (g : Nat) (A : Option Addr) (m c : Nat) (l : List Int) (hx : a.eval x = .slice (some ⟨g, 0, none⟩) 1 1) (hg : Blk w g 25 #[.slice A m c]) (hl : InS w w.heap.size A m l) (hA : ∀ b off, A = some ⟨b, off, none⟩ → b < w.heap.size ∧ v.ownBlock ≠ some b)
    (hlen : ls.length ≤ 1000000) (hbase : base ≤ w.heap.size)
    (h : ∀ v' w', NewLi w' base v' (ls ++ [l]) → w.grownBy w' v.ownBlock → K (a.put o.dst v') w') : LUpon Try.prog o a K ((execOp a.eval o).run Try.prog w) := by
  obtain ⟨vs, h1, h2⟩ := hown
  obtain ⟨i0, hi0, hi1, hi2, hi3⟩ := info_parts' info25
  refine lupon_append_src w s x 24 ho base 25 i0 _ 1 24 under24 hi0 hi1 hi2 hi3 rfl (by decide) v ls.length vs hs h1 (some ⟨g, 0, none⟩) 1 1 [.slice A m c] hx w.heap.size ⟨rfl, fun _ => ⟨g, 0, rfl, hg.lt, fun j u hu => by rw [hg.cell, Nat.zero_add]; simpa using hu⟩⟩ (fun h => by cases h) (fun u hu => by rw [List.mem_singleton.1 hu]; rfl) (by unfold maxLen; omega) (by omega) hbase ?_
  intro v' w' ho' hg' hat
  exact h v' w' ⟨vs ++ [.slice A m c], by rw [List.length_append]; exact ho', (h2.snoc hl hA).grown hg' hat⟩ hg'
theorem NewLi.ownLt {w : World} {base : Nat} {v : Value} {ls : List (List Int)} (h : NewLi w base v ls) : ∀ r, v.ownBlock = some r → base ≤ r ∧ r < w.heap.size := by
  obtain ⟨vs, h1, -⟩ := h
  exact fun r hr => World.ownsRow.lt h1 r hr
theorem NewLi.short {w : World} {base : Nat} {v : Value} {ls : List (List Int)} (h : NewLi w base v ls) : ∃ A c, v = .slice A ls.length c ∧ LiS w w.heap.size A ls.length ls := by
  obtain ⟨A, c, e, h1, -⟩ := h.lis
  exact ⟨A, c, e, h1⟩
section
open Go.ChangeShapes Go.WideShapes Go.ChangeAt Go.Deep
variable {H : Type} {enc : TypeId × Value → H} {W : World}
theorem open_nil {t e : TypeId} (ht : Try.prog.underlying t = some (.slice e)) {A : Option Addr} {n c : Nat} {d : DataW H} {p : List MemPlace} (h : DataW.Trod enc Try.prog W 0 (fun _ => true) true t (.slice A n c) d p) : A = none → n = 0 ∧ c = 0 := by
  obtain ⟨fuel, hfu⟩ := h
  rcases open_slice ht hfu with ⟨e, _⟩ | ⟨a, len, cap, m, n', D, Pl, e, _⟩
  · simp [Value.cells] at e
    exact fun _ => ⟨e.2.1, e.2.2⟩
  · simp [Value.cells] at e
    obtain ⟨rfl, rfl, rfl⟩ := e
    exact fun h => by cases h
end
end Go.Proofs.Ytpgdfipikfbjeaa
