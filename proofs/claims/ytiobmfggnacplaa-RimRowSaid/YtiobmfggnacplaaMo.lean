/- Texts of the proof, laid together by program. -/
import Derived.Test.YtiobmfggnacplaaMn
import Derived.Test.YtiobmfggnacplaaMg
import Derived.Test.YtiobmfggnacplaaMj
import Derived.Test.YtiobmfggnacplaaMe
set_option linter.unusedSimpArgs false
set_option linter.unusedVariables false
/- All rims: what is in the list. Plain. -/
namespace Go.Proofs.Ytiobmfggnacplaa
theorem all_mem {K t q : Nat} {x : List Int} (h : x ∈ allT K t q) : ∃ y, y < q ∧ x = numL K t y ∧ leastB x = true := by
  unfold allT at h
  obtain ⟨h1, h2⟩ := List.mem_filter.1 h
  obtain ⟨y, hy, rfl⟩ := List.mem_map.1 h1
  exact ⟨y, List.mem_range.1 hy, rfl, h2⟩
theorem all_inc {K t : Nat} (hK : 1 ≤ K) : ∀ q, q ≤ K ^ t → (allT K t q).Pairwise fun a b => bef a b = true
  | 0, _ => List.Pairwise.nil
  | q + 1, h => by
    rw [allT_succ]
    split
    · refine List.pairwise_append.2 ⟨all_inc hK q (by omega), List.pairwise_singleton _ _, fun a ha b hb => ?_⟩
      rw [List.mem_singleton.1 hb]
      obtain ⟨y, hy, rfl, -⟩ := all_mem ha
      exact numL_lt hK t y q hy (by omega)
    · exact all_inc hK q (by omega)
theorem all_has {K : Nat} {a : List Int} (h : ∀ x ∈ a, 0 ≤ x ∧ x < (K : Int)) (hl : leastB a = true) : a ∈ allT K a.length (K ^ a.length) := by
  unfold allT
  refine List.mem_filter.2 ⟨List.mem_map.2 ⟨valN K a, List.mem_range.2 (valN_lt a h), numL_val a h⟩, hl⟩
theorem leastB_least {l : List Int} (h0 : 0 < l.length) : leastB (least l) = true := leastB_yes fun k hk0 hk => by
  rw [least_len] at hk
  have := least_min (l := least l) (j := k) (by rw [least_len]; exact hk)
  rw [show least (least l) = least l from least_rot (lstart_lt h0)] at this
  exact this
theorem leastB_t {l : List Int} (h : leastB l = true) : ∀ k, 0 < k → k < l.length → bef (rot l k) l = false := fun k h0 hk => by
  unfold leastB at h
  rw [List.all_eq_true] at h
  have := h k (List.mem_range.2 hk)
  simp at this
  rcases this with h1 | h1
  · omega
  · exact h1
theorem lstart_zero {l : List Int} (h0 : 0 < l.length) (h : leastB l = true) : lstart l = 0 := by
  rcases Nat.eq_zero_or_pos (lstart l) with h1 | h1
  · exact h1
  · exfalso
    have h2 := lst_first l l.length 0 h1
    rw [rot_zero] at h2
    have h3 := leastB_t h (lstart l) h1 (lstart_lt h0)
    have h4 : bef (rot l (lstart l)) l = true := h2
    rw [h3] at h4; cases h4
set_option maxRecDepth 100000 in
theorem perF_cnt : ∀ K : Fin 5, ∀ t : Fin 13, fewB K.1 t.1 = true → 1 ≤ K.1 → 1 ≤ t.1 → ((perF t.1 (wdsL K.1 t.1)).length : Int) = cntT K.1 t.1 (t.1 + 1) := by decide +kernel
theorem givR_ok {K t : Nat} {by_ : List Nat} (hK : 1 ≤ K) : ∀ x ∈ givR K t by_, 0 ≤ x ∧ x < (K : Int) := fun x hx => by
  obtain ⟨i, -, rfl⟩ := List.mem_map.1 hx
  unfold givT
  split
  · constructor <;> omega
  · have := Nat.mod_lt (by_.getD (i % by_.length) 0) (show 0 < K by omega)
    constructor <;> omega
theorem checkRim_ok {K : Int} {l : List Int} (h1 : 1 ≤ K) (h2 : K ≤ 4) (h3 : 1 ≤ l.length) (h4 : l.length ≤ 64) (h : ∀ x ∈ l, 0 ≤ x ∧ x < K) : checkRim K l = 0 := by
  unfold checkRim
  rw [if_neg (by omega), if_neg (by omega), if_neg]
  rw [Bool.not_eq_false, List.all_eq_true]
  intro x hx
  have := h x hx
  exact inR_t.2 ⟨this.1, by omega⟩
theorem pw_at {L : List (List Int)} (h : L.Pairwise fun a b => bef a b = true) {i j : Nat} {a b : List Int} (hi : L[i]? = some a) (hj : L[j]? = some b) (hij : i < j) : bef a b = true := by
  have h1 := (List.getElem?_eq_some_iff.1 hi)
  have h2 := (List.getElem?_eq_some_iff.1 hj)
  obtain ⟨h1, rfl⟩ := h1
  obtain ⟨h2, rfl⟩ := h2
  exact List.pairwise_iff_getElem.1 h i j h1 h2 hij
end Go.Proofs.Ytiobmfggnacplaa
/- The readings of a list repeated, and of a list whose touches are exchanged by a rising map. Plain. -/
namespace Go.Proofs.Ytiobmfggnacplaa
/-! A list repeated. -/
def repL (m : Nat) (l : List Int) : List Int := (List.replicate m l).flatten
theorem repL_len (m : Nat) (l : List Int) : (repL m l).length = m * l.length := rep_len m l
theorem repL_cons (m : Nat) (l : List Int) : repL (m + 1) l = l ++ repL m l := by unfold repL; rw [List.replicate_succ, List.flatten_cons]
theorem repL_succ : ∀ (m : Nat) (l : List Int), repL (m + 1) l = repL m l ++ l
  | 0, l => by simp [repL]
  | m + 1, l => by
    rw [repL_cons (m + 1)]
    conv => rhs; rw [repL_cons m]
    rw [repL_succ m l, List.append_assoc]
theorem repL_mem {m : Nat} {l : List Int} {x : Int} (h : x ∈ repL m l) : x ∈ l := by
  obtain ⟨a, ha, hx⟩ := List.mem_flatten.1 h
  rw [(List.mem_replicate.1 ha).2] at hx; exact hx
theorem repL_rot {m j : Nat} {l : List Int} (h0 : 0 < l.length) (hj : j ≤ m * l.length) : rot (repL m l) j = repL m (rot l (j % l.length)) := by
  have hm := Nat.mod_lt j h0
  refine rot_ext (by rw [repL_len]; exact hj) (by rw [repL_len, repL_len, rot_len]) fun i hi => ?_
  rw [repL_len] at hi
  have hp : 0 < m * l.length := by omega
  unfold repL
  rw [rep_at _ _ (by rw [rot_len]; exact hi), rot_len, rep_len, rep_at _ _ (Nat.mod_lt _ hp), rot_at (by omega) (Nat.mod_lt _ h0), Nat.mod_mod_of_dvd _ (Nat.dvd_mul_left _ _)]
  congr 1
  rw [Nat.mod_add_mod, Nat.add_mod_mod]
theorem repL_bef {m : Nat} {a b : List Int} (hm : 1 ≤ m) (hl : a.length = b.length) : bef (repL m a) (repL m b) = bef a b := by
  obtain ⟨m', rfl⟩ : ∃ m', m = m' + 1 := ⟨m - 1, by omega⟩
  rw [repL_cons, repL_cons]
  by_cases e : a = b
  · subst e; rw [bef_self, bef_self]
  · cases hb : bef a b
    · rcases bef_total hb with h | h
      · exact bef_asymm (bef_same_len _ _ hl.symm h)
      · exact absurd h e
    · exact bef_same_len _ _ hl hb
theorem repL_inj {m : Nat} {a b : List Int} (hm : 1 ≤ m) (hl : a.length = b.length) (h : repL m a = repL m b) : a = b := by
  refine bef_eq ?_ ?_
  · rw [← repL_bef hm hl, h, bef_self]
  · rw [← repL_bef hm hl.symm, h, bef_self]
theorem repL_per {m : Nat} {l : List Int} (hm : 1 ≤ m) (h0 : 0 < l.length) : perL (repL m l) = perL l := by
  have hmn : l.length ≤ m * l.length := Nat.le_mul_of_pos_left _ hm
  obtain ⟨hp1, hpn⟩ := perL_pos h0
  have hx0 : 0 < (repL m l).length := by rw [repL_len]; omega
  obtain ⟨hq1, hqn⟩ := perL_pos hx0
  have e1 : rot (repL m l) (perL l) = repL m l := by
    rw [repL_rot h0 (by omega)]
    rcases Nat.lt_or_ge (perL l) l.length with h | h
    · rw [Nat.mod_eq_of_lt h, perL_rot]
    · rw [show perL l = l.length by omega, Nat.mod_self, rot_zero]
  have h1 : perL (repL m l) ≤ perL l := by
    rcases Nat.lt_or_ge (perL l) (perL (repL m l)) with h | h
    · exact absurd e1 (perL_min hp1 h)
    · exact h
  rcases Nat.lt_or_ge (perL (repL m l)) (perL l) with h | h
  · exfalso
    have h2 := perL_rot (repL m l)
    rw [repL_rot h0 (by omega), Nat.mod_eq_of_lt (by omega)] at h2
    exact perL_min hq1 h (repL_inj hm (rot_len _ _) h2)
  · omega
theorem repL_start {m : Nat} {l : List Int} (hm : 1 ≤ m) (h0 : 0 < l.length) : lstart (repL m l) = lstart l := by
  have hmn : l.length ≤ m * l.length := Nat.le_mul_of_pos_left _ hm
  have hx0 : 0 < (repL m l).length := by rw [repL_len]; omega
  have ht := lstart_lt h0
  have hs := lstart_lt hx0
  rw [repL_len] at hs
  have hsm := Nat.mod_lt (lstart (repL m l)) h0
  have a1 : bef (rot (repL m l) (lstart l)) (least (repL m l)) = false := least_min (by rw [repL_len]; omega)
  unfold least at a1
  rw [repL_rot h0 (by omega), repL_rot h0 (by omega), repL_bef hm (by rw [rot_len, rot_len]), Nat.mod_eq_of_lt ht] at a1
  have a2 : bef (rot l (lstart (repL m l) % l.length)) (rot l (lstart l)) = false := least_min hsm
  have e := bef_eq a1 a2
  have h1 : lstart (repL m l) ≤ lstart l := by
    rcases Nat.lt_or_ge (lstart l) (lstart (repL m l)) with h | h
    · exfalso
      have := lst_first (repL m l) _ _ h
      rw [show lst (repL m l) (repL m l).length = lstart (repL m l) from rfl, repL_rot h0 (by omega), repL_rot h0 (by omega), Nat.mod_eq_of_lt ht, e, bef_self] at this
      cases this
    · exact h
  rcases Nat.lt_or_ge (lstart (repL m l)) (lstart l) with h | h
  · exfalso
    have := lst_first l _ _ h
    rw [Nat.mod_eq_of_lt (by omega)] at e
    rw [show lst l l.length = lstart l from rfl, e, bef_self] at this
    cases this
  · omega
theorem repL_least {m : Nat} {l : List Int} (hm : 1 ≤ m) (h0 : 0 < l.length) : least (repL m l) = repL m (least l) := by
  have hmn : l.length ≤ m * l.length := Nat.le_mul_of_pos_left _ hm
  have ht := lstart_lt h0
  show rot (repL m l) (lstart (repL m l)) = _
  rw [repL_start hm h0, repL_rot h0 (by omega), Nat.mod_eq_of_lt ht]; rfl
theorem first_le {P : Nat → Prop} [DecidablePred P] : ∀ f, P f → ∃ j, j ≤ f ∧ P j ∧ ∀ i, i < j → ¬ P i := fun f => by
  induction f using Nat.strongRecOn with
  | _ f ih =>
    intro h
    by_cases e : ∃ i, i < f ∧ P i
    · obtain ⟨i, hi, hp⟩ := e
      obtain ⟨j, hj, h1, h2⟩ := ih i hi hp
      exact ⟨j, by omega, h1, h2⟩
    · exact ⟨f, Nat.le_refl _, h, fun i hi hp => e ⟨i, hi, hp⟩⟩
/-- A part of a list turned stands in the list and in the list repeated at the same place. -/
theorem repL_find {m f k : Nat} {l : List Int} (hm : 1 ≤ m) (hf : f < l.length) (hk : k ≤ l.length) : ∃ j, j ≤ f ∧ fdK l ((rot l f).take k) = some j ∧ fdK (repL m l) ((rot l f).take k) = some j := by
  have h0 : 0 < l.length := by omega
  have hmn : l.length ≤ m * l.length := Nat.le_mul_of_pos_left _ hm
  have hbl : ((rot l f).take k).length = k := by rw [List.length_take, rot_len]; omega
  obtain ⟨j, hj, h1, h2⟩ := first_le (P := fun j => (rot l j).take ((rot l f).take k).length = (rot l f).take k) f (by rw [hbl])
  have hrep : ∀ i, i < l.length → (rot (repL m l) i).take k = (rot l i).take k := fun i hi => by
    obtain ⟨m', rfl⟩ : ∃ m', m = m' + 1 := ⟨m - 1, by omega⟩
    rw [repL_rot h0 (by omega), Nat.mod_eq_of_lt hi, repL_cons, List.take_append_of_le_length (by rw [rot_len]; exact hk)]
  refine ⟨j, hj, fdK_some (by omega) h2 h1, fdK_some (by rw [repL_len]; omega) (fun i hi e => h2 i hi ?_) ?_⟩
  · rw [hbl] at e ⊢; rw [← hrep i (by omega)]; exact e
  · rw [hbl] at h1 ⊢; rw [hrep j (by omega)]; exact h1
/-! Touches exchanged by a rising map. -/
section
variable {g : Int → Int} {K : Int}
def Rises (g : Int → Int) (K : Int) : Prop := ∀ a b, 0 ≤ a → a < K → 0 ≤ b → b < K → a < b → g a < g b
def InK (K : Int) (l : List Int) : Prop := ∀ x ∈ l, 0 ≤ x ∧ x < K
theorem rot_map (l : List Int) (k : Nat) : rot (l.map g) k = (rot l k).map g := by unfold rot; rw [List.map_append, List.map_drop, List.map_take]
theorem bef_map (hg : Rises g K) : ∀ {a b : List Int}, InK K a → InK K b → bef (a.map g) (b.map g) = bef a b
  | [], [], _, _ => rfl
  | [], _ :: _, _, _ => rfl
  | _ :: _, [], _, _ => rfl
  | x :: a, y :: b, ha, hb => by
    have h1 := ha x (by simp)
    have h2 := hb y (by simp)
    have ih := bef_map hg (a := a) (b := b) (fun z hz => ha z (List.mem_cons_of_mem _ hz)) (fun z hz => hb z (List.mem_cons_of_mem _ hz))
    rw [List.map_cons, List.map_cons, bef, bef]
    by_cases e : x = y
    · subst e; rw [if_pos rfl, if_pos rfl]; exact ih
    · rcases Int.lt_or_gt_of_ne e with h | h
      · have := hg x y h1.1 h1.2 h2.1 h2.2 h
        rw [if_neg e, if_neg (by omega), decide_eq_true this, decide_eq_true h]
      · have := hg y x h2.1 h2.2 h1.1 h1.2 h
        rw [if_neg e, if_neg (by omega), decide_eq_false (by omega), decide_eq_false (by omega)]
theorem inK_rot {l : List Int} {k : Nat} (h : InK K l) : InK K (rot l k) := fun x hx => h x (rot_mem.1 hx)
theorem map_inj (hg : Rises g K) {a b : List Int} (ha : InK K a) (hb : InK K b) (h : a.map g = b.map g) : a = b := by
  refine bef_eq ?_ ?_
  · rw [← bef_map hg ha hb, h, bef_self]
  · rw [← bef_map hg hb ha, h, bef_self]
theorem per_map (hg : Rises g K) {l : List Int} (h : InK K l) : perL (l.map g) = perL l := by
  refine (perL_congr (List.length_map g).symm fun k _ _ => ?_).symm
  rw [rot_map]
  exact ⟨fun e => by rw [e], fun e => map_inj hg (inK_rot h) h e⟩
theorem lst_map (hg : Rises g K) {l : List Int} (h : InK K l) : ∀ n, lst (l.map g) n = lst l n
  | 0 => rfl
  | n + 1 => by
    show (if bef (rot (l.map g) n) (rot (l.map g) (lst (l.map g) n)) then n else lst (l.map g) n) = if bef (rot l n) (rot l (lst l n)) then n else lst l n
    rw [lst_map hg h n, rot_map, rot_map, bef_map hg (inK_rot h) (inK_rot h)]
theorem lstart_map (hg : Rises g K) {l : List Int} (h : InK K l) : lstart (l.map g) = lstart l := by
  unfold lstart
  rw [List.length_map]; exact lst_map hg h _
theorem wrd_map (hg : Rises g K) {l : List Int} (h : InK K l) (hw : Wrd l) : Wrd (l.map g) := by
  refine ⟨fun e => hw.1 (List.map_eq_nil_iff.1 e), fun k h1 h2 => ?_⟩
  rw [List.length_map] at h2
  rw [rot_map, bef_map hg h (inK_rot h)]
  exact hw.2 k h1 h2
theorem cfl_map (hg : Rises g K) : ∀ {fs : List (List Int)}, (∀ f ∈ fs, InK K f) → CFL fs → CFL (fs.map fun f => f.map g)
  | [], _, _ => trivial
  | f :: fs, h, hc => by
    refine ⟨wrd_map hg (h f (by simp)) hc.1, fun x hx => ?_, cfl_map hg (fun y hy => h y (List.mem_cons_of_mem _ hy)) hc.2.2⟩
    rw [List.head?_map] at hx
    cases hh : fs.head? with
    | none => rw [hh] at hx; cases hx
    | some y =>
      rw [hh] at hx
      cases hx
      have hy : y ∈ fs := List.mem_of_mem_head? (by rw [hh]; rfl)
      rw [bef_map hg (h f (by simp)) (h y (List.mem_cons_of_mem _ hy))]
      exact hc.2.1 y (by rw [hh]; rfl)
theorem starts_map : ∀ (fs : List (List Int)) (a : Nat), starts a (fs.map fun f => f.map g) = starts a fs
  | [], _ => rfl
  | f :: fs, a => by rw [List.map_cons, starts, starts, List.length_map, starts_map fs]
theorem cuts_map (hg : Rises g K) {l : List Int} (h : InK K l) : cutsL (l.map g) = cutsL l := by
  have hin : ∀ f ∈ wordsL l, InK K f := fun f hf x hx => h x (by rw [← wordsL_flat l]; exact List.mem_flatten.2 ⟨f, hf, hx⟩)
  have := wordsL_of (cfl_map hg hin (wordsL_cfl l))
  rw [← List.map_flatten, wordsL_flat] at this
  unfold cutsL
  rw [this, starts_map]
end
end Go.Proofs.Ytiobmfggnacplaa
