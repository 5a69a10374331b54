/- Texts of the proof, laid together by program. -/
import Derived.Test.YtdgllpcfmkjfhaaGreatMt
import Derived.Test.YtdgllpcfmkjfhaaGreatMu
import Derived.Deep.AppendSrc
set_option linter.unusedSimpArgs false
set_option linter.unusedVariables false
/- Words for the walk of TopMouldedBlame: a list is put to a list of lists by a drawn region; what stays while it is. -/
namespace Go.Proofs.YtdgllpcfmkjfhaaGreat.Bl
open Go.RowKit Go.Shelf Go.WideMaps
attribute [local go_sem] Oper.semAt_some
def Hir (w : World) (g : Nat) (v : Value) (ls : List (List Int)) : Prop := ∃ vs, w.ownsRow (g + 1) 34 1 v ls.length vs ∧ LiAt w vs ls v.ownBlock ∧ ∀ u ∈ vs, lowV (g + 1) u
theorem Hir.nil (w : World) (g : Nat) : Hir w g (.slice none 0 0) [] := ⟨[], World.ownsRow_nil _ _ _ _, LiAt.nil _ _, fun u hu => by cases hu⟩
theorem Hir.below {w w' : World} {g : Nat} {v : Value} {ls : List (List Int)} (h : Hir w g v ls) (hb : Below w.heap.size w w') : Hir w' g v ls := by
  obtain ⟨vs, h1, h2, h3⟩ := h
  exact ⟨vs, owns_below h1 hb, h2.below hb, h3⟩
theorem Hir.ownLt {w : World} {g : Nat} {v : Value} {ls : List (List Int)} (h : Hir w g v ls) : ∀ r, v.ownBlock = some r → g + 1 ≤ r ∧ r < w.heap.size := by
  obtain ⟨vs, h1, -⟩ := h
  exact fun r hr => World.ownsRow.lt h1 r hr
theorem Hir.lis {w : World} {g : Nat} {v : Value} {ls : List (List Int)} (h : Hir w g v ls) : ∃ A c, v = .slice A ls.length c ∧ LiS w w.heap.size A ls.length ls := by
  obtain ⟨vs, h1, h2, -⟩ := h
  obtain ⟨A, c, e, h3, -⟩ := own_src h1
  exact ⟨A, c, e, h2.lis h3⟩
theorem Hir.put {w : World} {g i : Nat} {v y : Value} {ls : List (List Int)} (h : Hir w g v ls) : Hir (w.setCell ⟨g, i, none⟩ y) g v ls := by
  obtain ⟨vs, h1, h2, h3⟩ := h
  refine ⟨vs, owns_same h1 fun q hq => Below.heap_setCell _ _ _ _ (fun e => by have := (World.ownsRow.lt h1 q hq).1; have e : q = g := e; omega), ⟨h2.1, fun k l hk => ?_⟩, h3⟩
  obtain ⟨A, m, c, h4, h5, h6⟩ := h2.2 k l hk
  have hlow := h3 _ (List.mem_of_getElem? h4)
  refine ⟨A, m, c, h4, ⟨h5.1, fun hm => ?_⟩, fun b off e => ⟨by have := (h6 b off e).1; simpa [World.setCell] using this, (h6 b off e).2⟩⟩
  obtain ⟨b, off, rfl, hb, hc⟩ := h5.2 hm
  have hgb := hlow _ m c b off rfl rfl
  exact ⟨b, off, rfl, by simpa [World.setCell] using hb, fun j u hu => (World.cell?_of_block (Below.heap_setCell _ _ _ _ (fun e => by have e : b = g := e; omega))).trans (hc j u hu)⟩
theorem lupon_hir {w : World} {o : Oper} {a : Act} {K : Act → World → Prop} (s x : Operand)
    (ho : o.op = .call { callee := .builtin .append, args := #[s, x], argTypes := #[29, 29] })
    (bg : Nat) (v : Value) (ls : List (List Int)) (hs : a.eval s = v) (hown : Hir w bg v ls)
    (g : Nat) (h1 m c : Nat) (l : List Int) (hx : a.eval x = .slice (some ⟨g, 0, none⟩) 1 1) (hg : Blk w g 34 #[.slice (some ⟨h1, 0, none⟩) m c]) (hl : InS w w.heap.size (some ⟨h1, 0, none⟩) m l) (hA : h1 < w.heap.size ∧ v.ownBlock ≠ some h1) (hlo : bg + 1 ≤ h1)
    (hlen : ls.length ≤ 1000000) (hbase : bg + 1 ≤ w.heap.size)
    (h : ∀ v' w', Hir w' bg v' (ls ++ [l]) → w.grownBy w' v.ownBlock → K (a.put o.dst v') w') : LUpon Tryz.prog o a K ((execOp a.eval o).run Tryz.prog w) := by
  obtain ⟨vs, k1, k2, k3⟩ := hown
  obtain ⟨i0, hi0, hi1, hi2, hi3⟩ := info_parts' infoL
  obtain ⟨v', w', hr, h3, h4, h5, h6⟩ := run_append_own_at (P := Tryz.prog) w (bg + 1) 29 o.type 34 i0 _ 1 24 underLL hi0 hi1 hi2 hi3 rfl (by decide) v ls.length vs k1 ⟨g, 0, none⟩ 1 1 [.slice (some ⟨h1, 0, none⟩) m c] rfl (fun j u hu => by rw [add_at, hg.cell, Nat.zero_add]; simpa using hu) (fun u hu => by rw [List.mem_singleton.1 hu]; rfl) (by unfold maxLen; omega) (by omega) hbase
  unfold execOp
  simp only [ho, resolve, invoke, builtin, Sem.run_bind, Sem.run_pure, Result.andThen_ok, List.map_toArray, List.map_cons, List.map_nil, hs, hx, hr]
  refine h v' w' ⟨vs ++ [.slice (some ⟨h1, 0, none⟩) m c], by rw [List.length_append]; exact h3, (k2.snoc hl (fun b off e => by cases e; exact hA)).grown h4 h6, fun u hu => ?_⟩ h4
  rcases List.mem_append.1 hu with hu | hu
  · exact k3 u hu
  · rw [List.mem_singleton.1 hu]
    intro A m' c' b off e e2
    cases e; cases e2; exact hlo
def CR (w0 : World) (p g : Nat) (S M : Int) (A : Option Addr) (n c : Nat) (W : World) : Prop :=
  Below g w0 W ∧ W.cell? ⟨p, 0, none⟩ = some (.int .i64 S) ∧ W.cell? ⟨p, 1, none⟩ = some (.int .i64 M) ∧ W.cell? ⟨p, 2, none⟩ = some (.slice A n c) ∧ p < W.heap.size ∧ g < W.heap.size ∧ p < g ∧ ∃ x, W.cell? ⟨g, 1, none⟩ = some x
theorem CR.step {w0 : World} {p g : Nat} {S M : Int} {A : Option Addr} {n c : Nat} {X Y : World} (h : CR w0 p g S M A n c X) (he : Below (g + 1) X Y) : CR w0 p g S M A n c Y := by
  obtain ⟨h1, h2, h3, h4, h5, h6, hp, x, h7⟩ := h
  exact ⟨h1.trans (he.mono (by omega)), (he.cell (p := ⟨p, 0, none⟩) (by show p < g + 1; omega)).trans h2, (he.cell (p := ⟨p, 1, none⟩) (by show p < g + 1; omega)).trans h3, (he.cell (p := ⟨p, 2, none⟩) (by show p < g + 1; omega)).trans h4, Nat.lt_of_lt_of_le h5 he.size, Nat.lt_of_lt_of_le h6 he.size, hp, x, (he.cell (p := ⟨g, 1, none⟩) (by show g < g + 1; omega)).trans h7⟩
theorem CR.ext {w0 : World} {p g : Nat} {S M : Int} {A : Option Addr} {n c : Nat} {X Y : World} (h : CR w0 p g S M A n c X) (he : Below X.heap.size X Y) : CR w0 p g S M A n c Y := h.step (he.mono (by obtain ⟨-, -, -, -, -, h6, -⟩ := h; omega))
theorem CR.put {w0 : World} {p g : Nat} {S M : Int} {A : Option Addr} {n c : Nat} {X : World} {y : Value} (h : CR w0 p g S M A n c X) : CR w0 p g S M A n c (X.setCell ⟨g, 1, none⟩ y) := by
  obtain ⟨h1, h2, h3, h4, h5, h6, hp, x, h7⟩ := h
  have ho : ∀ i, (X.setCell ⟨g, 1, none⟩ y).cell? ⟨p, i, none⟩ = X.cell? ⟨p, i, none⟩ := fun i => World.cell?_setCell_other _ _ _ _ (fun e => by cases e; omega)
  exact ⟨h1.setCell (Nat.le_refl g) _, (ho 0).trans h2, (ho 1).trans h3, (ho 2).trans h4, by simpa using h5, by simpa using h6, hp, y, World.cell?_setCell_same _ _ _ h7⟩
theorem hir_take {S : Int} {ws : List (Int × Int)} {k : Nat} {p q : Int} (h : ws[k]? = some (p, q)) : hirL S (ws.take (k + 1)) = hirL S (ws.take k) ++ [[p, S + q]] := by
  unfold hirL
  rw [List.take_add_one, h, List.map_append]
  rfl
theorem wpl_ins {w : World} {ops : Array Oper} {rest : List Oper} {o : Oper} {a : Act} {Q : Exit → Act → World → Prop} (hw : Region.wanted o (yielded ops a.tmps) = true) (s x : Operand)
    (ho : o.op = .call { callee := .builtin .append, args := #[s, x], argTypes := #[34, 34] })
    (base : Nat) (v : Value) (n : Nat) (xs : List Value) (hs : a.eval s = v) (hown : w.ownsRow base 3 1 v n xs) (g : Nat) (z : Int) (hx : a.eval x = .slice (some ⟨g, 0, none⟩) 1 1) (hg : Blk w g 3 #[.int .i64 z]) (hn : n ≤ 1000000) (hbase : base ≤ w.heap.size)
    (h : ∀ v' w', w'.ownsRow base 3 1 v' (n + 1) (xs ++ [.int .i64 z]) → w.grownBy w' v.ownBlock → (v'.ownBlock = v.ownBlock ∨ v'.ownBlock = some w.heap.size) → wpList Tryz.prog ops Q rest (a.put o.dst v') w') : wpList Tryz.prog ops Q (o :: rest) a w := by
  obtain ⟨i0, hi0, hi1, hi2, hi3⟩ := info_parts' infoI
  refine wpList_append_srcG hw s x 34 ho base 3 i0 _ 1 8 underL hi0 hi1 hi2 hi3 rfl (by decide) v n xs hs hown (some ⟨g, 0, none⟩) 1 1 [.int .i64 z] hx w.heap.size ⟨rfl, fun _ => ⟨g, 0, rfl, hg.lt, fun j u hu => by rw [hg.cell, Nat.zero_add]; simpa using hu⟩⟩ (fun h => by cases h) (fun u hu => by rw [List.mem_singleton.1 hu]; rfl) (by unfold maxLen; omega) (by omega) hbase ?_
  intro v' w' h1 h2 _ h3
  exact h v' w' h1 h2 h3
theorem lupon_ins {w : World} {o : Oper} {a : Act} {K : Act → World → Prop} (s x : Operand)
    (ho : o.op = .call { callee := .builtin .append, args := #[s, x], argTypes := #[34, 34] })
    (base : Nat) (v : Value) (n : Nat) (xs : List Value) (hs : a.eval s = v) (hown : w.ownsRow base 3 1 v n xs) (g : Nat) (z : Int) (hx : a.eval x = .slice (some ⟨g, 0, none⟩) 1 1) (hg : Blk w g 3 #[.int .i64 z]) (hn : n ≤ 1000000) (hbase : base ≤ w.heap.size)
    (h : ∀ v' w', w'.ownsRow base 3 1 v' (n + 1) (xs ++ [.int .i64 z]) → w.grownBy w' v.ownBlock → (v'.ownBlock = v.ownBlock ∨ v'.ownBlock = some w.heap.size) → K (a.put o.dst v') w') : LUpon Tryz.prog o a K ((execOp a.eval o).run Tryz.prog w) := by
  obtain ⟨i0, hi0, hi1, hi2, hi3⟩ := info_parts' infoI
  obtain ⟨v', w', hr, h3, h4, h5, h6⟩ := run_append_own_at (P := Tryz.prog) w base 34 o.type 3 i0 _ 1 8 underL hi0 hi1 hi2 hi3 rfl (by decide) v n xs hown ⟨g, 0, none⟩ 1 1 [.int .i64 z] rfl (fun j u hu => by rw [add_at, hg.cell, Nat.zero_add]; simpa using hu) (fun u hu => by rw [List.mem_singleton.1 hu]; rfl) (by unfold maxLen; omega) (by omega) hbase
  unfold execOp
  simp only [ho, resolve, invoke, builtin, Sem.run_bind, Sem.run_pure, Result.andThen_ok, List.map_toArray, List.map_cons, List.map_nil, hs, hx, hr]
  exact h v' w' h3 h4 h6
theorem app_step0 {wr w6 : World} {v v6 u : Value} {B e s m : Nat} {ys : List Value} (hD : Apart v u) (hu : wr.ownsRow B e s u m ys) (hgr : wr.grownBy w6 v.ownBlock) (hob : v6.ownBlock = v.ownBlock ∨ v6.ownBlock = some wr.heap.size) : w6.ownsRow B e s u m ys ∧ Apart v6 u := by
  refine ⟨hu.kept hgr ?_, fun q h1 h2 => ?_⟩
  · cases h : u.ownBlock with
    | none => exact .inl rfl
    | some q => exact .inr fun e => hD q e.symm h
  · rcases hob with e | e
    · exact hD q (e.symm.trans h1) h2
    · rw [e] at h1
      have := (hu.lt q h2).2
      simp at h1
      omega
theorem shops_put {S : Int} {l : List Int} {x : Int} (h : x < S) : shopsL S (l ++ [x]) = shopsL S l ++ [x] ∧ mouldsL S (l ++ [x]) = mouldsL S l := by
  unfold shopsL mouldsL
  simp [List.filter_append, h]
theorem moulds_put {S : Int} {l : List Int} {x : Int} (h : ¬ x < S) : shopsL S (l ++ [x]) = shopsL S l ∧ mouldsL S (l ++ [x]) = mouldsL S l ++ [x - S] := by
  unfold shopsL mouldsL
  simp [List.filter_append, h]
end Go.Proofs.YtdgllpcfmkjfhaaGreat.Bl
