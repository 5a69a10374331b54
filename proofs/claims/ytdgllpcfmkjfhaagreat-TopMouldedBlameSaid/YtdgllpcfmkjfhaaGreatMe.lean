/- Texts of the proof, laid together by program. -/
import Derived.Test.YtdgllpcfmkjfhaaGreatMc
import Derived.Test.YtdgllpcfmkjfhaaGreatMd
set_option linter.unusedSimpArgs false
set_option linter.unusedVariables false
/- A loop over a map from which it deletes entries, the order drawn: each round by itself. Over any program. -/
namespace Go.Proofs.YtdgllpcfmkjfhaaGreat
open Go.RowKit
set_option linter.unusedVariables false
noncomputable section

theorem BR.ghost {G G' : Gh} {E : Env} {w : World} {n b base ext : Nat} {k : Blk} (h : BR G E w n b base ext k) (hg : G' n = G n) : BR G' E w n b base ext k := by
  cases k with
  | fit m rw ks es cl st => unfold BR at h ⊢; rw [hg]; exact h
  | _ => exact h

def hpF (hp : Hp) (n m nx : Nat) (rw : Bool) (ks : List Tk) (es : List MapEntry) (cl : Nat) (st : Fs) : Hp := s5 (nx + 1) (some (.fmp nx)) (s5 nx (some (.fit (nx + 1) rw ks es cl st)) (s5 n none (s5 m none hp)))
def hpE (hp : Hp) (n m : Nat) (rw : Bool) (ks : List Tk) (es : List MapEntry) (cl : Nat) (D : Nat → Bool) : Hp := s5 m (some (.mp rw ks (es.filter fun e => !D e.born) cl)) (s5 n none hp)
theorem get_hpF {hp : Hp} {n m nx : Nat} {rw : Bool} {ks : List Tk} {es : List MapEntry} {cl : Nat} {st : Fs} (hn : n < nx) (hm : m < nx) (hx : nx + 2 ≤ 32768) {j : Nat} {q : Blk} (h : g5 j (hpF hp n m nx rw ks es cl st) = some q) :
    (j = nx + 1 ∧ q = .fmp nx) ∨ (j = nx ∧ q = .fit (nx + 1) rw ks es cl st) ∨ (j ≠ n ∧ j ≠ m ∧ j ≠ nx ∧ j ≠ nx + 1 ∧ g5 j hp = some q) := by
  have hj := g5_lt h
  unfold hpF at h
  rw [g5_s5 _ _ _ _ hj (by omega)] at h
  by_cases h1 : j = nx + 1
  · rw [if_pos h1] at h; injection h with h; exact .inl ⟨h1, h.symm⟩
  rw [if_neg h1, g5_s5 _ _ _ _ hj (by omega)] at h
  by_cases h2 : j = nx
  · rw [if_pos h2] at h; injection h with h; exact .inr (.inl ⟨h2, h.symm⟩)
  rw [if_neg h2, g5_s5 _ _ _ _ hj (by omega)] at h
  by_cases h3 : j = n
  · rw [if_pos h3] at h; cases h
  rw [if_neg h3, g5_s5 _ _ _ _ hj (by omega)] at h
  by_cases h4 : j = m
  · rw [if_pos h4] at h; cases h
  rw [if_neg h4] at h
  exact .inr (.inr ⟨h3, h4, h2, h1, h⟩)
theorem hpF_get {hp : Hp} {n m nx : Nat} {rw : Bool} {ks : List Tk} {es : List MapEntry} {cl : Nat} {st : Fs} (hn : n < nx) (hm : m < nx) (hx : nx + 2 ≤ 32768) {j : Nat} (hj : j < 32768) (h1 : j ≠ n) (h2 : j ≠ m) (h3 : j ≠ nx) (h4 : j ≠ nx + 1) : g5 j (hpF hp n m nx rw ks es cl st) = g5 j hp := by
  unfold hpF
  rw [g5_s5 _ _ _ _ hj (by omega), if_neg h4, g5_s5 _ _ _ _ hj (by omega), if_neg h3, g5_s5 _ _ _ _ hj (by omega), if_neg h1, g5_s5 _ _ _ _ hj (by omega), if_neg h2]
theorem hpF_it {hp : Hp} {n m nx : Nat} {rw : Bool} {ks : List Tk} {es : List MapEntry} {cl : Nat} {st : Fs} (hx : nx + 2 ≤ 32768) : g5 nx (hpF hp n m nx rw ks es cl st) = some (.fit (nx + 1) rw ks es cl st) ∧ g5 (nx + 1) (hpF hp n m nx rw ks es cl st) = some (.fmp nx) := by
  unfold hpF
  constructor
  · rw [g5_s5 _ _ _ _ (by omega) (by omega), if_neg (by omega), g5_s5 _ _ _ _ (by omega) (by omega), if_pos rfl]
  · rw [g5_s5 _ _ _ _ (by omega) (by omega), if_pos rfl]

def envF (E : Env) (n m nx : Nat) : Env := fun j => if j = nx then E n else if j = nx + 1 then E m else E j
def ghF (G : Gh) (nx : Nat) (vis del : List Nat) (f : Fst) : Gh := fun j => if j = nx then (vis, del, f) else G j

section
variable {P : Program} {N : Nat} {G : Gh} {E : Env} {w w' : World} {hp : Hp} {nx n m : Nat} {rw : Bool} {ks : List Tk} {es : List MapEntry} {cl : Nat}
theorem envF_ext (hr : Rel G E hp nx w) : Ext E (envF E n m nx) := fun j x e => by
  have : j < nx := by
    rcases Nat.lt_or_ge j nx with h | h
    · exact h
    · rw [hr.bound j h] at e; cases e
  unfold envF
  rw [if_neg (by omega), if_neg (by omega)]; exact e

def HpB (m mm : Nat) (hp hpB : Hp) : Prop := ∀ j, j < 32768 → g5 j hpB = g5 j hp ∨ ∃ cs o, g5 j hp = some (.row cs) ∧ cs[o]? = some (.map (some m)) ∧ g5 j hpB = some (.row (cs.set o (.map (some mm))))
theorem HpB.refl (m mm : Nat) (hp : Hp) : HpB m mm hp hp := fun _ _ => .inl rfl
theorem HpB.get {m mm : Nat} {hp hpB : Hp} (h : HpB m mm hp hpB) {j : Nat} {q : Blk} (g : g5 j hpB = some q) : g5 j hp = some q ∨ ∃ cs o, g5 j hp = some (.row cs) ∧ cs[o]? = some (.map (some m)) ∧ q = .row (cs.set o (.map (some mm))) := by
  rcases h j (g5_lt g) with h1 | ⟨cs, o, h1, h2, h3⟩
  · exact .inl (h1 ▸ g)
  · rw [h3] at g; injection g with g; exact .inr ⟨cs, o, h1, h2, g.symm⟩
theorem HpB.live {m mm : Nat} {hp hpB : Hp} (h : HpB m mm hp hpB) {j : Nat} {q : Blk} (g : g5 j hp = some q) : ∃ q', g5 j hpB = some q' ∧ (q' = q ∨ ∃ cs, q = .row cs) := by
  rcases h j (g5_lt g) with h1 | ⟨cs, o, h1, h2, h3⟩
  · exact ⟨q, h1.trans g, .inl rfl⟩
  · rw [h1] at g; injection g with g; exact ⟨_, h3, .inr ⟨cs, g.symm⟩⟩
theorem HpB.some {m mm : Nat} {hp hpB : Hp} (h : HpB m mm hp hpB) {j : Nat} {q : Blk} (g : g5 j hpB = some q) : ∃ q', g5 j hp = some q' := by
  rcases h.get g with h1 | ⟨_, _, h1, _⟩ <;> exact ⟨_, h1⟩
theorem LR.setAt {E : Env} : ∀ {l l' : List Value} (o : Nat) {v : Value}, LR E l l' → (∀ v', l'[o]? = some v' → VR E v v') → LR E (l.set o v) l'
  | _, _, o, v, .nil, _ => by simpa using LR.nil
  | _, _, 0, v, .cons h h', hv => .cons (hv _ rfl) h'
  | _, _, o + 1, v, .cons h h', hv => .cons h (LR.setAt o h' fun v' h1 => hv v' (by simpa using h1))
theorem all_setAt {l : List Value} (h : l.all Value.oneCell' = true) {v : Value} (hv : v.oneCell' = true) (o : Nat) : (l.set o v).all Value.oneCell' = true := by
  rw [List.all_eq_true] at h ⊢
  intro x hx
  rcases List.mem_or_eq_of_mem_set hx with h1 | rfl
  · exact h x h1
  · exact hv
theorem BR.setMap {G : Gh} {E EL : Env} {w : World} {j b base ext m mm : Nat} {cs : List Value} (hx : Ext E EL) {x : Nat × Nat × Nat} (e1 : EL m = some x) (e2 : EL mm = some x) (h : BR G E w j b base ext (.row cs)) {o : Nat} (ho : cs[o]? = Option.some (.map (Option.some m))) :
    BR G EL w j b base ext (.row (cs.set o (.map (Option.some mm)))) := by
  obtain ⟨c, e, h1, h2, h3, h4, h5⟩ := h
  refine ⟨c, e, h1, h2, by simpa using h3, all_setAt h4 rfl o, ?_⟩
  rw [List.length_set]
  have h6 := h5.mono hx
  refine h6.setAt o fun v' hv' => ?_
  obtain ⟨v0, h7, h8⟩ := h6.get o _ ho
  rw [h7] at hv'; injection hv' with hv'; subst hv'
  obtain ⟨bm, y, z, e3, rfl⟩ := h8.map_inv
  rw [e1] at e3; injection e3 with e3; subst e3
  exact .map e2

theorem rel_hpF (hr : Rel G E hp nx w) {hpB : Hp} (hB : HpB m (nx + 1) hp hpB) (hx : nx + 2 ≤ 32768) {xn xm : Nat × Nat × Nat} (en : E n = some xn) (em : E m = some xm) (gn : g5 n hp = some (.it m cl [])) (gm : g5 m hp = some (.mp rw ks es cl))
    (hs : w.heap.size ≤ w'.heap.size) (hw : ∀ r, r < w.heap.size → r ≠ xn.1 → r ≠ xm.1 → w'.heap[r]? = w.heap[r]?) {vis del : List Nat} {st : Fs}
    (hb : BR (ghF G nx vis del ⟨rw, ks, es, cl⟩) (envF E n m nx) w' nx xn.1 xn.2.1 xn.2.2 (.fit (nx + 1) rw ks es cl st)) : Rel (ghF G nx vis del ⟨rw, ks, es, cl⟩) (envF E n m nx) (hpF hpB n m nx rw ks es cl st) (nx + 2) w' := by
  have hnx := hr.lt_nx gn
  have hmx := hr.lt_nx gm
  have hnm : n ≠ m := fun h => by rw [h, gm] at gn; cases gn
  have hlt : ∀ j x, E j = some x → j < nx := fun j x e => by
    rcases Nat.lt_or_ge j nx with h | h
    · exact h
    · rw [hr.bound j h] at e; cases e
  have hE : ∀ j, j < nx → envF E n m nx j = E j := fun j h => by unfold envF; rw [if_neg (by omega), if_neg (by omega)]
  have hEn : envF E n m nx nx = some xn := by unfold envF; rw [if_pos rfl]; exact en
  have hEm : envF E n m nx (nx + 1) = some xm := by unfold envF; rw [if_neg (by omega), if_pos rfl]; exact em
  have hbm : xn.1 ≠ xm.1 := fun h => hnm (hr.inj n m xn xm _ _ en em gn gm h)
  -- old names
  have old : ∀ j q y, j ≠ n → j ≠ m → j ≠ nx → j ≠ nx + 1 → g5 j hpB = some q → envF E n m nx j = some y → E j = some y ∧ y.1 ≠ xn.1 ∧ y.1 ≠ xm.1 := fun j q y h1 h2 h3 h4 g' e => by
    obtain ⟨q', g⟩ := hB.some g'
    have hj := hr.lt_nx g
    rw [hE j hj] at e
    exact ⟨e, fun h => h1 (hr.inj j n y xn _ _ e en g gn h), fun h => h2 (hr.inj j m y xm _ _ e em g gm h)⟩
  refine ⟨fun j h => ?_, fun j x e => ?_, fun j y q ej gj => ?_, fun j j' y y' q q' e1 e2 g1 g2 hyy => ?_, fun j j' rw' ks' es' cl' st' gj => ?_, fun j h => ?_⟩
  · unfold envF; rw [if_neg (by omega), if_neg (by omega)]; exact hr.bound j (by omega)
  · unfold envF at e
    by_cases h1 : j = nx
    · rw [if_pos h1] at e; exact Nat.lt_of_lt_of_le (hr.lt n x e) hs
    rw [if_neg h1] at e
    by_cases h2 : j = nx + 1
    · rw [if_pos h2] at e; exact Nat.lt_of_lt_of_le (hr.lt m x e) hs
    rw [if_neg h2] at e; exact Nat.lt_of_lt_of_le (hr.lt j x e) hs
  · rcases get_hpF hnx hmx hx gj with ⟨rfl, rfl⟩ | ⟨rfl, rfl⟩ | ⟨h1, h2, h3, h4, g⟩
    · exact ⟨xn, hEn⟩
    · rw [hEn] at ej; injection ej with ej; subst ej; exact hb
    · obtain ⟨e, h5, h6⟩ := old j q y h1 h2 h3 h4 g ej
      rcases hB.get g with g | ⟨cs, o, g0, ho, rfl⟩
      rotate_left
      · refine BR.setMap (envF_ext hr) ((hE m hmx).trans em) hEm ?_ ho
        exact ((hr.blk j y _ e g0).keep (Ext.refl _) (hw _ (hr.lt j y e) h5 h6) fun p rw' ks' es' cl' st' bm u v hq ep => by cases hq).ghost (by unfold ghF; rw [if_neg h3])
      refine ((hr.blk j y q e g).keep (envF_ext hr) (hw _ (hr.lt j y e) h5 h6) fun p rw' ks' es' cl' st' bm u v hq ep => ?_).ghost (by unfold ghF; rw [if_neg h3])
      subst hq
      have gp := hr.own j p _ _ _ _ _ g
      refine hw _ (hr.lt p _ ep) (fun h => ?_) (fun h => ?_)
      · have := hr.inj p n _ xn _ _ ep en gp gn h
        subst this; rw [gn] at gp; cases gp
      · have := hr.inj p m _ xm _ _ ep em gp gm h
        subst this; rw [gm] at gp; cases gp
  · rcases get_hpF hnx hmx hx g1 with ⟨rfl, rfl⟩ | ⟨rfl, rfl⟩ | ⟨h1, h2, h3, h4, g⟩
    · rw [hEm] at e1; injection e1 with e1; subst e1
      rcases get_hpF hnx hmx hx g2 with ⟨rfl, rfl⟩ | ⟨rfl, rfl⟩ | ⟨h1', h2', h3', h4', g'⟩
      · rfl
      · rw [hEn] at e2; injection e2 with e2; subst e2; exact absurd hyy.symm hbm
      · exact absurd hyy.symm (old _ _ _ h1' h2' h3' h4' g' e2).2.2
    · rw [hEn] at e1; injection e1 with e1; subst e1
      rcases get_hpF hnx hmx hx g2 with ⟨rfl, rfl⟩ | ⟨rfl, rfl⟩ | ⟨h1', h2', h3', h4', g'⟩
      · rw [hEm] at e2; injection e2 with e2; subst e2; exact absurd hyy hbm
      · rfl
      · exact absurd hyy.symm (old _ _ _ h1' h2' h3' h4' g' e2).2.1
    · obtain ⟨e1', h5, h6⟩ := old _ _ _ h1 h2 h3 h4 g e1
      rcases get_hpF hnx hmx hx g2 with ⟨rfl, rfl⟩ | ⟨rfl, rfl⟩ | ⟨h1', h2', h3', h4', g'⟩
      · rw [hEm] at e2; injection e2 with e2; subst e2; exact absurd hyy h6
      · rw [hEn] at e2; injection e2 with e2; subst e2; exact absurd hyy h5
      · obtain ⟨_, g0⟩ := hB.some g
        obtain ⟨_, g0'⟩ := hB.some g'
        exact hr.inj _ _ _ _ _ _ e1' (old _ _ _ h1' h2' h3' h4' g' e2).1 g0 g0' hyy
  · rcases get_hpF hnx hmx hx gj with ⟨rfl, h⟩ | ⟨rfl, h⟩ | ⟨h1, h2, h3, h4, g⟩
    · cases h
    · injection h with h; subst h; exact (hpF_it hx).2
    · rcases hB.get g with g | ⟨_, _, _, _, h⟩
      rotate_left
      · cases h
      have key := hr.own _ _ _ _ _ _ _ g
      obtain ⟨q', key', hq' | ⟨_, hq'⟩⟩ := hB.live key
      rotate_left
      · cases hq'
      subst hq'
      rw [hpF_get hnx hmx hx (g5_lt key) (fun h => by subst h; rw [gn] at key; cases key) (fun h => by subst h; rw [gm] at key; cases key) (fun h => by have := hr.lt_nx key; omega) (fun h => by have := hr.lt_nx key; omega)]
      exact key'
  · rcases Nat.lt_or_ge j 32768 with h5 | h5
    · rw [hpF_get hnx hmx hx h5 (by omega) (by omega) (by omega) (by omega)]
      cases hg : g5 j hpB with
      | none => rfl
      | some q => obtain ⟨_, g0⟩ := hB.some hg; rw [hr.top j (by omega)] at g0; cases g0
    · exact g5_far _ _ (by omega)

theorem post_hpE (hr : Rel G E hp nx w) (wm : Nat) {xn xm : Nat × Nat × Nat} (en : E n = some xn) (em : E m = some xm) (gn : g5 n hp = some (.it m cl [])) (gm : g5 m hp = some (.mp rw ks es cl))
    (hs : w.heap.size ≤ w'.heap.size) (hw : ∀ r, r < w.heap.size → r ≠ xn.1 → r ≠ xm.1 → w'.heap[r]? = w.heap[r]?) (hio : Io w w') {D : Nat → Bool}
    (hb : BR G E w' m xm.1 xm.2.1 xm.2.2 (.mp rw ks (es.filter fun e => !D e.born) cl)) : Post G E hp nx wm w E (hpE hp n m rw ks es cl D) nx (min wm (min n m)) w' := by
  have hnx := hr.lt_nx gn
  have hmx := hr.lt_nx gm
  have hn5 := g5_lt gn
  have hm5 := g5_lt gm
  have hnm : n ≠ m := fun h => by rw [h, gm] at gn; cases gn
  have get : ∀ j q, g5 j (hpE hp n m rw ks es cl D) = some q → (j = m ∧ q = .mp rw ks (es.filter fun e => !D e.born) cl) ∨ (j ≠ m ∧ j ≠ n ∧ g5 j hp = some q) := fun j q h => by
    have hj := g5_lt h
    unfold hpE at h
    rw [g5_s5 _ _ _ _ hj hm5] at h
    by_cases h1 : j = m
    · rw [if_pos h1] at h; injection h with h; exact .inl ⟨h1, h.symm⟩
    rw [if_neg h1, g5_s5 _ _ _ _ hj hn5] at h
    by_cases h2 : j = n
    · rw [if_pos h2] at h; cases h
    rw [if_neg h2] at h; exact .inr ⟨h1, h2, h⟩
  have same : ∀ j, j < 32768 → j ≠ m → j ≠ n → g5 j (hpE hp n m rw ks es cl D) = g5 j hp := fun j hj h1 h2 => by
    unfold hpE
    rw [g5_s5 _ _ _ _ hj hm5, if_neg h1, g5_s5 _ _ _ _ hj hn5, if_neg h2]
  have old : ∀ j q y, j ≠ n → j ≠ m → g5 j hp = some q → E j = some y → y.1 ≠ xn.1 ∧ y.1 ≠ xm.1 := fun j q y h1 h2 g e =>
    ⟨fun h => h1 (hr.inj j n y xn _ _ e en g gn h), fun h => h2 (hr.inj j m y xm _ _ e em g gm h)⟩
  refine ⟨fun _ _ => rfl, ⟨hr.bound, fun j x e => Nat.lt_of_lt_of_le (hr.lt j x e) hs, fun j y q ej gj => ?_, fun j j' y y' q q' e1 e2 g1 g2 hyy => ?_, fun j j' rw' ks' es' cl' st' gj => ?_, fun j h => ?_⟩, Nat.le_refl _, Nat.min_le_left _ _,
    ⟨hs, fun r hr0 hx => hw r hr0 (Ne.symm (hx n xn _ en gn (by omega))) (Ne.symm (hx m xm _ em gm (by omega))), hio⟩, fun j h h' => ?_, fun j h gj => ?_, fun j x h e => by rw [hr.bound j h] at e; cases e⟩
  · rcases get j q gj with ⟨rfl, rfl⟩ | ⟨h1, h2, g⟩
    · rw [em] at ej; injection ej with ej; subst ej; exact hb
    · obtain ⟨h5, h6⟩ := old j q y h2 h1 g ej
      refine (hr.blk j y q ej g).keep (Ext.refl _) (hw _ (hr.lt j y ej) h5 h6) fun p rw' ks' es' cl' st' bm u v hq ep => ?_
      subst hq
      have gp := hr.own j p _ _ _ _ _ g
      refine hw _ (hr.lt p _ ep) (fun h => ?_) (fun h => ?_)
      · have := hr.inj p n _ xn _ _ ep en gp gn h
        subst this; rw [gn] at gp; cases gp
      · have := hr.inj p m _ xm _ _ ep em gp gm h
        subst this; rw [gm] at gp; cases gp
  · obtain ⟨k1, h1⟩ : ∃ k1, g5 j hp = some k1 := by
      rcases get j q g1 with ⟨rfl, _⟩ | ⟨_, _, h⟩
      · exact ⟨_, gm⟩
      · exact ⟨_, h⟩
    obtain ⟨k2, h2⟩ : ∃ k2, g5 j' hp = some k2 := by
      rcases get j' q' g2 with ⟨rfl, _⟩ | ⟨_, _, h⟩
      · exact ⟨_, gm⟩
      · exact ⟨_, h⟩
    exact hr.inj j j' y y' k1 k2 e1 e2 h1 h2 hyy
  · rcases get j _ gj with ⟨_, h⟩ | ⟨h1, h2, g⟩
    · cases h
    · have key := hr.own _ _ _ _ _ _ _ g
      rw [same _ (g5_lt key) (fun h => by subst h; rw [gm] at key; cases key) (fun h => by subst h; rw [gn] at key; cases key)]
      exact key
  · rcases Nat.lt_or_ge j 32768 with h5 | h5
    · rw [same j h5 (by omega) (by omega)]; exact hr.top j h
    · exact g5_far _ _ (by omega)
  · rcases Nat.lt_or_ge j 32768 with h5 | h5
    · exact same j h5 (by omega) (by omega)
    · rw [g5_far _ _ (by omega), g5_far _ _ (by omega)]
  · rcases Nat.lt_or_ge j 32768 with h5 | h5
    · rw [same j h5 (fun h' => by subst h'; rw [gm] at gj; cases gj) (fun h' => by subst h'; rw [gn] at gj; cases gj)]; exact gj
    · exact g5_far _ _ (by omega)

def fsV (es : List MapEntry) (vis : List Nat) : Fs := if ∀ b ∈ borns es, b ∈ vis then .fin else .idle
theorem fsV_at (es : List MapEntry) (vis del : List Nat) : FsAt (borns es) vis del vis (fsV es vis) := by
  unfold fsV
  by_cases h : ∀ b ∈ borns es, b ∈ vis
  · rw [if_pos h]; exact ⟨rfl, h⟩
  · rw [if_neg h]
    refine ⟨rfl, Classical.byContradiction fun h' => h fun b hb => Classical.byContradiction fun hv => h' ⟨b, hb, hv⟩⟩
theorem fsV_count {es : List MapEntry} {vis : List Nat} {b : Nat} (h : b ∈ borns es) (hv : b ∉ vis) : ((borns es).filter fun x => decide (x ∉ vis ++ [b])).length < ((borns es).filter fun x => decide (x ∉ vis)).length := by
  have : ((borns es).filter fun x => decide (x ∉ vis ++ [b])) = ((borns es).filter fun x => decide (x ∉ vis)).filter fun x => decide (x ≠ b) := by
    rw [List.filter_filter]
    refine List.filter_congr fun x _ => ?_
    simp only [List.mem_append, List.mem_singleton, ne_eq, ← Bool.decide_and, decide_eq_decide]
    constructor
    · exact fun h => ⟨fun e => h (.inr e), fun e => h (.inl e)⟩
    · exact fun h e => e.elim h.2 h.1
  rw [this]
  exact List.length_filter_lt_length_iff_exists.2 ⟨b, List.mem_filter.2 ⟨h, by simpa using hv⟩, by simp⟩

theorem br_head {nx' mm bn bm extn x y : Nat} {vis del : List Nat} {E' : Env} {es' : List MapEntry} (hkey : es.all (fun e => okKey rw ks e.key) = true) (hbo : Bo es cl) (em : E' mm = some (bm, x, y)) (h1 : w'.heap[bn]? = some (.mapIter (some bm) cl vis.toArray cl))
    (hmr : MR E' es es') (hdv : ∀ x ∈ del, x ∈ vis) (h2 : w'.heap[bm]? = some (.map (es'.filter fun e => !(del.contains e.born)).toArray cl)) : BR (ghF G nx' vis del ⟨rw, ks, es, cl⟩) E' w' nx' bn 0 extn (.fit mm rw ks es cl (fsV es vis)) := by
  have hgh : ghF G nx' vis del ⟨rw, ks, es, cl⟩ nx' = (vis, del, ⟨rw, ks, es, cl⟩) := if_pos rfl
  have hfs := fsV_at es vis del
  have hV : fsV es vis = .fin ∨ fsV es vis = .idle := by unfold fsV; split <;> simp
  unfold BR
  rw [hgh]
  refine ⟨⟨rfl, hkey, hbo⟩, bm, x, y, vis, es', em, h1, rfl, hfs, hmr, hdv, ?_⟩
  rcases hV with h | h <;> rw [h] <;> simpa using h2

theorem SimP.loopF {c : Code} {s : St} {O : Option Ex → St → Prop} {ti tm : Nat} (hx : s.nx + 2 ≤ 32768)
    (h1 : g3 ti s.rg = some (.pointer (some ⟨n, 0, none⟩))) (h2 : g3 tm s.rg = some (.map (some m))) (gn : g5 n s.hp = some (.it m cl [])) (gm : g5 m s.hp = some (.mp rw ks es cl)) {hpB : Hp} (hB : HpB m (s.nx + 1) s.hp hpB)
    {rgL rgE : Reg} (hL : ∀ t v, g3 t rgL = some v → (t = ti ∧ v = .pointer (some ⟨s.nx, 0, none⟩)) ∨ (t = tm ∧ v = .map (some (s.nx + 1))) ∨ g3 t s.rg = some v)
    (hE : ∀ t v, g3 t rgE = some v → (v = .map (some m) ∧ g3 t rgL = some (.map (some (s.nx + 1)))) ∨ (g3 t rgL = some v ∧ g3 t s.rg = some v)) (D : Nat → Bool)
    (run1 : es ≠ [] → SimP P N c ⟨rgL, hpF hpB n m s.nx rw ks es cl .idle, s.nx + 2, s.nx + 2⟩ fun e s' => e = none ∧ s.nx ≤ s'.wm ∧ (∀ t v, g3 t rgL = some v → g3 t s'.rg = some v) ∧
      ∃ rw' ks' es' cl' st b, g5 s.nx s'.hp = some (.fit (s.nx + 1) rw' ks' es' cl' st) ∧ ((st = .cur b ∧ D b = false) ∨ (st = .gone b ∧ D b = true)))
    (run2 : SimP P N c ⟨rgL, hpF hpB n m s.nx rw ks es cl .fin, s.nx + 2, s.nx + 2⟩ fun e s' => s.nx ≤ s'.wm ∧ (∀ t v, g3 t rgL = some v → g3 t s'.rg = some v) ∧
      (∃ rw' ks' es' cl', g5 s.nx s'.hp = some (.fit (s.nx + 1) rw' ks' es' cl' .fin)) ∧ ∃ x, e = some x ∧ O (some x) ⟨rgE, hpE s.hp n m rw ks es cl D, s.nx, min s.wm (min n m)⟩) : SimP P N (.loop c) s O := by
  intro G E pv a w ro nn Q hok hro hQ
  have hr := hok.rel
  have hnx := hr.lt_nx gn
  have hmx := hr.lt_nx gm
  have hnm : n ≠ m := fun h => by rw [h, gm] at gn; cases gn
  obtain ⟨pn, _, hvn⟩ := hok.rr ti _ h1
  obtain ⟨bn, basen, extn, en, _⟩ := hvn.ptr_inv
  obtain ⟨pm, _, hvm⟩ := hok.rr tm _ h2
  obtain ⟨bm, basem, extm, em, _⟩ := hvm.map_inv
  obtain ⟨bm', x', y', em', hit, hb0⟩ : BR G E w n bn basen extn (.it m cl []) := hr.blk n _ _ en gn
  rw [em] at em'; injection em' with em'; injection em' with e1 e2; subst e1; clear e2
  subst hb0
  obtain ⟨es0, hmp, hmr0, hkey, hbo⟩ : BR G E w m bm basem extm (.mp rw ks es cl) := hr.blk m _ _ em gm
  have hEx := envF_ext (n := n) (m := m) hr
  have hEn : envF E n m s.nx s.nx = some (bn, 0, extn) := by unfold envF; rw [if_pos rfl]; exact en
  have hEm : envF E n m s.nx (s.nx + 1) = some (bm, basem, extm) := by unfold envF; rw [if_neg (by omega), if_pos rfl]; exact em
  have hElt : ∀ j, j < s.nx → envF E n m s.nx j = E j := fun j h => by unfold envF; rw [if_neg (by omega), if_neg (by omega)]
  have hEge : ∀ j, s.nx + 2 ≤ j → envF E n m s.nx j = none := fun j h => by unfold envF; rw [if_neg (by omega), if_neg (by omega)]; exact hr.bound j (by omega)
  have hbnm : bn ≠ bm := fun h => by rw [h, hmp] at hit; cases hit
  -- what a round leaves
  have leave : ∀ (vis : List Nat) (pv' : List (Nat × Obj)) (a' : Act) (w1 : World), Ok (ghF G s.nx vis (vis.filter D) ⟨rw, ks, es, cl⟩) (envF E n m s.nx) N ⟨rgL, hpF hpB n m s.nx rw ks es cl (fsV es vis), s.nx + 2, s.nx + 2⟩ pv' a' w1 →
      w.heap.size ≤ w1.heap.size → (∀ r, r < w.heap.size → r ≠ bn → r ≠ bm → w1.heap[r]? = w.heap[r]?) → Io w w1 →
      ∀ (s' : St) (E2 : Env) (pv2 : List (Nat × Obj)) (a2 : Act) (w2 : World), Ok (ghF G s.nx vis (vis.filter D) ⟨rw, ks, es, cl⟩) E2 N s' pv2 a2 w2 →
      Post (ghF G s.nx vis (vis.filter D) ⟨rw, ks, es, cl⟩) (envF E n m s.nx) (hpF hpB n m s.nx rw ks es cl (fsV es vis)) (s.nx + 2) (s.nx + 2) w1 E2 s'.hp s'.nx s'.wm w2 → s.nx ≤ s'.wm → (∀ t v, g3 t rgL = some v → g3 t s'.rg = some v) →
      ∀ {rw' ks' es' cl' st}, g5 s.nx s'.hp = some (.fit (s.nx + 1) rw' ks' es' cl' st) →
      (w.heap.size ≤ w2.heap.size ∧ (∀ r, r < w.heap.size → r ≠ bn → r ≠ bm → w2.heap[r]? = w.heap[r]?)) ∧ Io w w2 ∧ RR (envF E n m s.nx) rgL a2.tmps ∧
      (∀ p ∈ pv2, w2.heap[p.1]? = some p.2 ∧ p.1 ≠ bn ∧ p.1 ≠ bm ∧ ∀ j x k, j ≠ n → j ≠ m → E j = some x → g5 j s.hp = some k → x.1 ≠ p.1) ∧
      ∃ seen es', w2.heap[bn]? = some (.mapIter (some bm) cl seen.toArray cl) ∧ FsAt (borns es) vis (vis.filter D) seen st ∧ MR (envF E n m s.nx) es es' ∧
        w2.heap[bm]? = some (.map (es'.filter fun e => !((vis.filter D).contains e.born || (match st with | .gone b => e.born == b | .brk _ d => e.born == d | _ => false))).toArray cl) := by
    intro vis pv' a' w1 hok1 hs1 hw1 hI1 s' E2 pv2 a2 w2 hok2 hp2 hwm hreg rw' ks' es' cl' st hg
    have hE2 : ∀ j, j < s.nx + 2 → E2 j = envF E n m s.nx j := fun j h => hp2.old j h
    have hX2 : Ext (envF E n m s.nx) E2 := hp2.ext hok1.rel
    have gm2 := hok2.rel.own _ _ _ _ _ _ _ hg
    obtain ⟨⟨hst, _, _⟩, bm2, u, v, seen, es'', e2, q1, q2, q3, q4, q5, q6⟩ : BR _ E2 w2 s.nx bn 0 extn (.fit (s.nx + 1) rw' ks' es' cl' st) := hok2.rel.blk s.nx _ _ ((hE2 _ (by omega)).trans hEn) hg
    rw [hE2 _ (by omega), hEm] at e2; injection e2 with e2; injection e2 with e3 e4; subst e3; clear e4
    have hgh : ghF G s.nx vis (vis.filter D) ⟨rw, ks, es, cl⟩ s.nx = (vis, vis.filter D, ⟨rw, ks, es, cl⟩) := if_pos rfl
    rw [hgh] at hst q3 q5 q6
    injection hst with r1 r2 r3 r4
    subst r1; subst r2; subst r3; subst r4
    refine ⟨⟨Nat.le_trans hs1 hp2.kept.size, fun r hr0 hr1 hr2 => ?_⟩, hI1.trans hp2.kept.io, fun t v hv => ?_, fun p hp => ?_, seen, es'', q1, q3, MR.back hX2 (hmr0.mono hEx) q4, q6⟩
    · refine (hp2.kept.blk r (by omega) fun j x k e g hj => ?_).trans (hw1 r hr0 hr1 hr2)
      by_cases h3 : j = s.nx
      · subst h3; rw [hEn] at e; injection e with e; subst e; exact Ne.symm hr1
      by_cases h4 : j = s.nx + 1
      · subst h4; rw [hEm] at e; injection e with e; subst e; exact Ne.symm hr2
      rw [hEge j (by omega)] at e; cases e
    · obtain ⟨v0, _, hv0⟩ := hok1.rr t v hv
      obtain ⟨v2, h3, h4⟩ := hok2.rr t v (hreg t v hv)
      exact ⟨v2, h3, hv0.back hX2 h4⟩
    · obtain ⟨h3, h4⟩ := hok2.prv p hp
      refine ⟨h3, Ne.symm (h4 s.nx _ _ ((hE2 _ (by omega)).trans hEn) hg), Ne.symm (h4 (s.nx + 1) _ _ ((hE2 _ (by omega)).trans hEm) gm2), fun j x k hjn hjm e g => ?_⟩
      have hj := hr.lt_nx g
      obtain ⟨k', g', _⟩ := hB.live g
      refine h4 j x k' ((hE2 j (by omega)).trans ((hElt j hj).trans e)) ?_
      rw [hp2.log j (by omega) (by omega), hpF_get hnx hmx hx (g5_lt g) hjn hjm (by omega) (by omega)]
      exact g'
  refine wpIn_loop_iter (fun k a' w1 => ∃ vis pv', Ok (ghF G s.nx vis (vis.filter D) ⟨rw, ks, es, cl⟩) (envF E n m s.nx) N ⟨rgL, hpF hpB n m s.nx rw ks es cl (fsV es vis), s.nx + 2, s.nx + 2⟩ pv' a' w1 ∧ w.heap.size ≤ w1.heap.size ∧
    (∀ r, r < w.heap.size → r ≠ bn → r ≠ bm → w1.heap[r]? = w.heap[r]?) ∧ Io w w1 ∧ Pvs pv w pv' ∧ k = ((borns es).filter fun x => decide (x ∉ vis)).length) (fun k a' w1 hk => ?_) (k := ((borns es).filter fun x => decide (x ∉ ([] : List Nat))).length) ⟨[], pv, ?_, Nat.le_refl _, fun _ _ _ _ => rfl, Io.refl _, Pvs.refl _ _, rfl⟩
  · obtain ⟨vis, pv', hok1, hs1, hw1, hI1, hpv1, rfl⟩ := hk
    by_cases hfin : ∀ b ∈ borns es, b ∈ vis
    · have hV : fsV es vis = .fin := if_pos hfin
      refine run2 (ghF G s.nx vis (vis.filter D) ⟨rw, ks, es, cl⟩) (envF E n m s.nx) pv' a' w1 ro nn _ (by rw [← hV]; exact hok1) (hro.mono hpv1.sub) fun e s' hO E2 pv2 a2 w2 hok2 hp2 hpv2 => ?_
      obtain ⟨o1, o2, ⟨rw', ks', es', cl', o3⟩, x, rfl, o4⟩ := hO
      rw [← hV] at hp2
      obtain ⟨⟨l1, l2⟩, lI, l3, l4, seen, es'', l5, l6, l7, l8⟩ := leave vis pv' a' w1 hok1 hs1 hw1 hI1 s' E2 pv2 a2 w2 hok2 hp2 o1 o2 o3
      have hX : ∀ j x, envF E n m s.nx j = some x → j < s.nx + 2 := fun j x e => by
        rcases Nat.lt_or_ge j (s.nx + 2) with h | h
        · exact h
        · rw [hEge j h] at e; cases e
      have hMR : MR E es es'' := MR.back hEx hmr0 l7
      have hP := post_hpE (w' := w2) (D := D) hr s.wm en em gn gm l1 l2 lI (by
        refine ⟨(es''.filter fun e => !D e.born).toArray, ?_, ?_, ?_, ?_⟩
        · rw [l8]
          congr 3
          refine List.filter_congr fun e he => ?_
          obtain ⟨e', he', _, _, hb⟩ := hMR.mem he
          have hv : e.born ∈ vis := hfin _ (mem_borns.2 ⟨e', he', hb⟩)
          simp only [Bool.or_false, List.contains_eq_mem, List.mem_filter, hv, true_and]
          cases D e.born <;> rfl
        · exact hMR.filter (p := fun b => !D b)
        · rw [List.all_eq_true]
          exact fun e he => List.all_eq_true.1 hkey e (List.mem_filter.1 he).1
        · exact ⟨fun e he => hbo.1 e (List.mem_filter.1 he).1, List.Nodup.sublist (List.Sublist.map _ List.filter_sublist) hbo.2⟩)
      have hthis := hQ (some x) _ o4 E pv2 a2 w2 ⟨hP.rel, fun t v hv => ?_, hok2.size, fun p hp => ?_, hok2.dfr⟩ hP (hpv1.trans hpv2 hs1)
      · cases x <;> exact hthis
      · rcases hE t v hv with ⟨rfl, hv'⟩ | ⟨hv', hv''⟩
        · obtain ⟨v2, q1, q2⟩ := l3 t _ hv'
          obtain ⟨b2, u, v, e2, rfl⟩ := q2.map_inv
          rw [hEm] at e2; injection e2 with e2; injection e2 with e3 e4; subst e3
          exact ⟨_, q1, .map em⟩
        · obtain ⟨v2, q1, q2⟩ := l3 t _ hv'
          obtain ⟨v0, _, q3⟩ := hok.rr t v hv''
          exact ⟨v2, q1, q3.back hEx q2⟩
      · obtain ⟨q1, q2, q3, q4⟩ := l4 p hp
        refine ⟨q1, fun j x' k e g => ?_⟩
        have hj := g5_lt g
        unfold hpE at g
        rw [g5_s5 _ _ _ _ hj (g5_lt gm)] at g
        by_cases hjm : j = m
        · subst hjm; rw [em] at e; injection e with e; subst e; exact Ne.symm q3
        rw [if_neg hjm, g5_s5 _ _ _ _ hj (g5_lt gn)] at g
        by_cases hjn : j = n
        · rw [if_pos hjn] at g; cases g
        rw [if_neg hjn] at g
        exact q4 j x' k hjn hjm e g
    · have hV : fsV es vis = .idle := if_neg hfin
      have hne : es ≠ [] := fun h => hfin (by rw [h]; exact fun _ h => nomatch h)
      refine run1 hne (ghF G s.nx vis (vis.filter D) ⟨rw, ks, es, cl⟩) (envF E n m s.nx) pv' a' w1 ro nn _ (by rw [← hV]; exact hok1) (hro.mono hpv1.sub) fun e s' hO E2 pv2 a2 w2 hok2 hp2 hpv2 => ?_
      obtain ⟨rfl, o1, o2, rw', ks', es', cl', st, b, o3, o4⟩ := hO
      rw [← hV] at hp2
      obtain ⟨⟨l1, l2⟩, lI, l3, l4, seen, es'', l5, l6, l7, l8⟩ := leave vis pv' a' w1 hok1 hs1 hw1 hI1 s' E2 pv2 a2 w2 hok2 hp2 o1 o2 o3
      have hseen : seen = vis ++ [b] ∧ b ∉ vis := by rcases o4 with ⟨rfl, _⟩ | ⟨rfl, _⟩ <;> exact ⟨l6.1, l6.2.1⟩
      have hbes : b ∈ borns es := by
        rcases o4 with ⟨rfl, _⟩ | ⟨rfl, _⟩ <;> exact l6.2.2
      refine ⟨((borns es).filter fun x => decide (x ∉ vis ++ [b])).length, fsV_count hbes hseen.2, vis ++ [b], pv2, ⟨?_, l3, hok2.size, fun p hp => ?_, hok2.dfr⟩, l1, l2, lI, hpv1.trans hpv2 hs1, rfl⟩
      · refine rel_hpF hr hB hx en em gn gm l1 l2 ?_
        refine br_head hkey hbo hEm (by rw [← hseen.1]; exact l5) l7 (fun x hx => (List.mem_filter.1 hx).1) ?_
        rw [l8]
        congr 3
        refine List.filter_congr fun e he => ?_
        rcases o4 with ⟨rfl, hD⟩ | ⟨rfl, hD⟩
        · simp only [Bool.or_false, List.contains_eq_mem, List.mem_filter, List.mem_append, List.mem_singleton]
          congr 1
          rw [decide_eq_decide]
          exact ⟨fun h => ⟨.inl h.1, h.2⟩, fun h => ⟨h.1.resolve_right (fun h' => by rw [h', hD] at h; exact absurd h.2 (by simp)), h.2⟩⟩
        · simp only [List.contains_eq_mem, List.mem_filter, List.mem_append, List.mem_singleton]
          congr 1
          rw [Bool.eq_iff_iff]
          simp only [Bool.or_eq_true, decide_eq_true_eq, beq_iff_eq]
          exact ⟨fun h => h.elim (fun h => ⟨.inl h.1, h.2⟩) fun h => ⟨.inr h, by rw [h]; exact hD⟩, fun h => h.1.elim (fun h' => .inl ⟨h', h.2⟩) .inr⟩
      · obtain ⟨q1, q2, q3, q4⟩ := l4 p hp
        refine ⟨q1, fun j x' k e g => ?_⟩
        rcases get_hpF hnx hmx hx g with ⟨rfl, rfl⟩ | ⟨rfl, rfl⟩ | ⟨h3, h4, h5, h6, g'⟩
        · rw [hEm] at e; injection e with e; subst e; exact Ne.symm q3
        · rw [hEn] at e; injection e with e; subst e; exact Ne.symm q2
        · obtain ⟨_, g''⟩ := hB.some g'
          rw [hElt j (hr.lt_nx g'')] at e
          exact q4 j x' _ h3 h4 e g''
  · refine ⟨rel_hpF hr hB hx en em gn gm (Nat.le_refl _) (fun _ _ _ _ => rfl) ?_, fun t v hv => ?_, hok.size, fun p hp => ?_, hok.dfr⟩
    · refine br_head (vis := []) (del := []) (es' := es0.toList) hkey hbo hEm hit (hmr0.mono hEx) (fun _ h => nomatch h) ?_
      rw [hmp]
      congr 2
      apply Array.ext'
      simp only [List.contains_nil, Bool.not_false]
      exact (List.filter_eq_self.2 fun _ _ => rfl).symm
    · rcases hL t v hv with ⟨rfl, rfl⟩ | ⟨rfl, rfl⟩ | hv'
      · obtain ⟨v0, q1, q2⟩ := hok.rr _ _ h1
        obtain ⟨b2, u, v, e2, rfl⟩ := q2.ptr_inv
        rw [en] at e2; injection e2 with e2; injection e2 with e3 e4; injection e4 with e4 e5; subst e3; subst e4
        exact ⟨_, q1, .ptr 0 hEn⟩
      · obtain ⟨v0, q1, q2⟩ := hok.rr _ _ h2
        obtain ⟨b2, u, v, e2, rfl⟩ := q2.map_inv
        rw [em] at e2; injection e2 with e2; injection e2 with e3 e4; subst e3
        exact ⟨_, q1, .map hEm⟩
      · obtain ⟨v0, q1, q2⟩ := hok.rr _ _ hv'
        exact ⟨v0, q1, q2.mono hEx⟩
    · obtain ⟨q1, q2⟩ := hok.prv p hp
      refine ⟨q1, fun j x' k e g => ?_⟩
      rcases get_hpF hnx hmx hx g with ⟨rfl, rfl⟩ | ⟨rfl, rfl⟩ | ⟨h3, h4, h5, h6, g'⟩
      · rw [hEm] at e; injection e with e; subst e; exact q2 m _ _ em gm
      · rw [hEn] at e; injection e with e; subst e; exact q2 n _ _ en gn
      · obtain ⟨_, g''⟩ := hB.some g'
        rw [hElt j (hr.lt_nx g'')] at e
        exact q2 j x' _ e g''

theorem SimP.loopA {c : Code} {s : St} {O : Option Ex → St → Prop} {ti tm : Nat} (hx : s.nx + 2 ≤ 32768)
    (h1 : g3 ti s.rg = some (.pointer (some ⟨n, 0, none⟩))) (h2 : g3 tm s.rg = some (.map (some m))) (gn : g5 n s.hp = some (.it m cl [])) (gm : g5 m s.hp = some (.mp rw ks es cl)) {hpB : Hp} (hB : HpB m (s.nx + 1) s.hp hpB)
    {rgL rgE : Reg} (hL : ∀ t v, g3 t rgL = some v → (t = ti ∧ v = .pointer (some ⟨s.nx, 0, none⟩)) ∨ (t = tm ∧ v = .map (some (s.nx + 1))) ∨ g3 t s.rg = some v)
    (hE : ∀ t v, g3 t rgE = some v → (v = .map (some m) ∧ g3 t rgL = some (.map (some (s.nx + 1)))) ∨ (g3 t rgL = some v ∧ g3 t s.rg = some v)) {b0 : Nat} (hb0 : b0 ∈ borns es) {NS : Nat → Bool} (hNS : NS b0 = false) {e0 : Nat}
    (run1 : SimP P N c ⟨rgL, hpF hpB n m s.nx rw ks es cl .idleA, s.nx + 2, s.nx + 2⟩ fun e s' => s.nx ≤ s'.wm ∧ (∀ t v, g3 t rgL = some v → g3 t s'.rg = some v) ∧
      ∃ rw' ks' es' cl' st b, g5 s.nx s'.hp = some (.fit (s.nx + 1) rw' ks' es' cl' st) ∧ ((e = none ∧ st = .curA b ∧ NS b = true) ∨ (∃ x, e = some x ∧ st = .brk b e0 ∧ O (some x) ⟨rgE, hpE s.hp n m rw ks es cl (fun d => d == e0), s.nx, min s.wm (min n m)⟩))) : SimP P N (.loop c) s O := by
  intro G E pv a w ro nn Q hok hro hQ
  have hr := hok.rel
  have hnx := hr.lt_nx gn
  have hmx := hr.lt_nx gm
  have hnm : n ≠ m := fun h => by rw [h, gm] at gn; cases gn
  obtain ⟨pn, _, hvn⟩ := hok.rr ti _ h1
  obtain ⟨bn, basen, extn, en, _⟩ := hvn.ptr_inv
  obtain ⟨pm, _, hvm⟩ := hok.rr tm _ h2
  obtain ⟨bm, basem, extm, em, _⟩ := hvm.map_inv
  obtain ⟨bm', x', y', em', hit, hb0⟩ : BR G E w n bn basen extn (.it m cl []) := hr.blk n _ _ en gn
  rw [em] at em'; injection em' with em'; injection em' with e1 e2; subst e1; clear e2
  subst hb0
  obtain ⟨es0, hmp, hmr0, hkey, hbo⟩ : BR G E w m bm basem extm (.mp rw ks es cl) := hr.blk m _ _ em gm
  have hEx := envF_ext (n := n) (m := m) hr
  have hEn : envF E n m s.nx s.nx = some (bn, 0, extn) := by unfold envF; rw [if_pos rfl]; exact en
  have hEm : envF E n m s.nx (s.nx + 1) = some (bm, basem, extm) := by unfold envF; rw [if_neg (by omega), if_pos rfl]; exact em
  have hElt : ∀ j, j < s.nx → envF E n m s.nx j = E j := fun j h => by unfold envF; rw [if_neg (by omega), if_neg (by omega)]
  have hEge : ∀ j, s.nx + 2 ≤ j → envF E n m s.nx j = none := fun j h => by unfold envF; rw [if_neg (by omega), if_neg (by omega)]; exact hr.bound j (by omega)
  have hbnm : bn ≠ bm := fun h => by rw [h, hmp] at hit; cases hit
  -- what a round leaves
  have leave : ∀ (vis : List Nat) (pv' : List (Nat × Obj)) (a' : Act) (w1 : World), Ok (ghF G s.nx vis [] ⟨rw, ks, es, cl⟩) (envF E n m s.nx) N ⟨rgL, hpF hpB n m s.nx rw ks es cl .idleA, s.nx + 2, s.nx + 2⟩ pv' a' w1 →
      w.heap.size ≤ w1.heap.size → (∀ r, r < w.heap.size → r ≠ bn → r ≠ bm → w1.heap[r]? = w.heap[r]?) → Io w w1 →
      ∀ (s' : St) (E2 : Env) (pv2 : List (Nat × Obj)) (a2 : Act) (w2 : World), Ok (ghF G s.nx vis [] ⟨rw, ks, es, cl⟩) E2 N s' pv2 a2 w2 →
      Post (ghF G s.nx vis [] ⟨rw, ks, es, cl⟩) (envF E n m s.nx) (hpF hpB n m s.nx rw ks es cl .idleA) (s.nx + 2) (s.nx + 2) w1 E2 s'.hp s'.nx s'.wm w2 → s.nx ≤ s'.wm → (∀ t v, g3 t rgL = some v → g3 t s'.rg = some v) →
      ∀ {rw' ks' es' cl' st}, g5 s.nx s'.hp = some (.fit (s.nx + 1) rw' ks' es' cl' st) →
      (w.heap.size ≤ w2.heap.size ∧ (∀ r, r < w.heap.size → r ≠ bn → r ≠ bm → w2.heap[r]? = w.heap[r]?)) ∧ Io w w2 ∧ RR (envF E n m s.nx) rgL a2.tmps ∧
      (∀ p ∈ pv2, w2.heap[p.1]? = some p.2 ∧ p.1 ≠ bn ∧ p.1 ≠ bm ∧ ∀ j x k, j ≠ n → j ≠ m → E j = some x → g5 j s.hp = some k → x.1 ≠ p.1) ∧
      ∃ seen es', w2.heap[bn]? = some (.mapIter (some bm) cl seen.toArray cl) ∧ FsAt (borns es) vis [] seen st ∧ MR (envF E n m s.nx) es es' ∧
        w2.heap[bm]? = some (.map (es'.filter fun e => !([].contains e.born || (match st with | .gone b => e.born == b | .brk _ d => e.born == d | _ => false))).toArray cl) := by
    intro vis pv' a' w1 hok1 hs1 hw1 hI1 s' E2 pv2 a2 w2 hok2 hp2 hwm hreg rw' ks' es' cl' st hg
    have hE2 : ∀ j, j < s.nx + 2 → E2 j = envF E n m s.nx j := fun j h => hp2.old j h
    have hX2 : Ext (envF E n m s.nx) E2 := hp2.ext hok1.rel
    have gm2 := hok2.rel.own _ _ _ _ _ _ _ hg
    obtain ⟨⟨hst, _, _⟩, bm2, u, v, seen, es'', e2, q1, q2, q3, q4, q5, q6⟩ : BR _ E2 w2 s.nx bn 0 extn (.fit (s.nx + 1) rw' ks' es' cl' st) := hok2.rel.blk s.nx _ _ ((hE2 _ (by omega)).trans hEn) hg
    rw [hE2 _ (by omega), hEm] at e2; injection e2 with e2; injection e2 with e3 e4; subst e3; clear e4
    have hgh : ghF G s.nx vis [] ⟨rw, ks, es, cl⟩ s.nx = (vis, [], ⟨rw, ks, es, cl⟩) := if_pos rfl
    rw [hgh] at hst q3 q5 q6
    injection hst with r1 r2 r3 r4
    subst r1; subst r2; subst r3; subst r4
    refine ⟨⟨Nat.le_trans hs1 hp2.kept.size, fun r hr0 hr1 hr2 => ?_⟩, hI1.trans hp2.kept.io, fun t v hv => ?_, fun p hp => ?_, seen, es'', q1, q3, MR.back hX2 (hmr0.mono hEx) q4, q6⟩
    · refine (hp2.kept.blk r (by omega) fun j x k e g hj => ?_).trans (hw1 r hr0 hr1 hr2)
      by_cases h3 : j = s.nx
      · subst h3; rw [hEn] at e; injection e with e; subst e; exact Ne.symm hr1
      by_cases h4 : j = s.nx + 1
      · subst h4; rw [hEm] at e; injection e with e; subst e; exact Ne.symm hr2
      rw [hEge j (by omega)] at e; cases e
    · obtain ⟨v0, _, hv0⟩ := hok1.rr t v hv
      obtain ⟨v2, h3, h4⟩ := hok2.rr t v (hreg t v hv)
      exact ⟨v2, h3, hv0.back hX2 h4⟩
    · obtain ⟨h3, h4⟩ := hok2.prv p hp
      refine ⟨h3, Ne.symm (h4 s.nx _ _ ((hE2 _ (by omega)).trans hEn) hg), Ne.symm (h4 (s.nx + 1) _ _ ((hE2 _ (by omega)).trans hEm) gm2), fun j x k hjn hjm e g => ?_⟩
      have hj := hr.lt_nx g
      obtain ⟨k', g', _⟩ := hB.live g
      refine h4 j x k' ((hE2 j (by omega)).trans ((hElt j hj).trans e)) ?_
      rw [hp2.log j (by omega) (by omega), hpF_get hnx hmx hx (g5_lt g) hjn hjm (by omega) (by omega)]
      exact g'
  have hne : ∀ vis : List Nat, (∀ b ∈ vis, NS b = true) → b0 ∉ vis := fun vis hv h => by rw [hv b0 h] at hNS; cases hNS
  have headA : ∀ (vis : List Nat) (w2 : World) (es' : List MapEntry), (∀ b ∈ vis, NS b = true) → w2.heap[bn]? = some (.mapIter (some bm) cl vis.toArray cl) → MR (envF E n m s.nx) es es' → w2.heap[bm]? = some (.map es'.toArray cl) →
      BR (ghF G s.nx vis [] ⟨rw, ks, es, cl⟩) (envF E n m s.nx) w2 s.nx bn 0 extn (.fit (s.nx + 1) rw ks es cl .idleA) := fun vis w2 es' hv h1 h2 h3 => by
    have hgh : ghF G s.nx vis [] ⟨rw, ks, es, cl⟩ s.nx = (vis, [], ⟨rw, ks, es, cl⟩) := if_pos rfl
    unfold BR
    rw [hgh]
    refine ⟨⟨rfl, hkey, hbo⟩, bm, _, _, vis, es', hEm, h1, rfl, ⟨⟨rfl, b0, hb0, hne vis hv⟩, rfl⟩, h2, (fun _ h => nomatch h), ?_⟩
    rw [h3]
    congr 3
    exact (List.filter_eq_self.2 fun _ _ => rfl).symm
  refine wpIn_loop_iter (fun k a' w1 => ∃ vis pv', Ok (ghF G s.nx vis [] ⟨rw, ks, es, cl⟩) (envF E n m s.nx) N ⟨rgL, hpF hpB n m s.nx rw ks es cl .idleA, s.nx + 2, s.nx + 2⟩ pv' a' w1 ∧ w.heap.size ≤ w1.heap.size ∧
    (∀ r, r < w.heap.size → r ≠ bn → r ≠ bm → w1.heap[r]? = w.heap[r]?) ∧ Io w w1 ∧ Pvs pv w pv' ∧ (∀ b ∈ vis, NS b = true) ∧ k = ((borns es).filter fun x => decide (x ∉ vis)).length) (fun k a' w1 hk => ?_) (k := ((borns es).filter fun x => decide (x ∉ ([] : List Nat))).length) ⟨[], pv, ?_, Nat.le_refl _, fun _ _ _ _ => rfl, Io.refl _, Pvs.refl _ _, (fun _ h => nomatch h), rfl⟩
  · obtain ⟨vis, pv', hok1, hs1, hw1, hI1, hpv1, hvis, rfl⟩ := hk
    refine run1 (ghF G s.nx vis [] ⟨rw, ks, es, cl⟩) (envF E n m s.nx) pv' a' w1 ro nn _ hok1 (hro.mono hpv1.sub) fun e s' hO E2 pv2 a2 w2 hok2 hp2 hpv2 => ?_
    obtain ⟨o1, o2, rw', ks', es', cl', st, b, o3, o4⟩ := hO
    obtain ⟨⟨l1, l2⟩, lI, l3, l4, seen, es'', l5, l6, l7, l8⟩ := leave vis pv' a' w1 hok1 hs1 hw1 hI1 s' E2 pv2 a2 w2 hok2 hp2 o1 o2 o3
    rcases o4 with ⟨rfl, rfl, hb⟩ | ⟨x, rfl, rfl, hOx⟩
    · obtain ⟨⟨hseen, hbv, hbes⟩, _⟩ := l6
      refine ⟨((borns es).filter fun x => decide (x ∉ vis ++ [b])).length, fsV_count hbes hbv, vis ++ [b], pv2, ⟨?_, l3, hok2.size, fun p hp => ?_, hok2.dfr⟩, l1, l2, lI, hpv1.trans hpv2 hs1, fun b' hb' => ?_, rfl⟩
      · refine rel_hpF hr hB hx en em gn gm l1 l2 (headA (vis ++ [b]) w2 es'' (fun b' hb' => ?_) (by rw [← hseen]; exact l5) l7 ?_)
        · rcases List.mem_append.1 hb' with h | h
          · exact hvis b' h
          · simp only [List.mem_singleton] at h; subst h; exact hb
        · rw [l8]
          congr 3
          exact List.filter_eq_self.2 fun _ _ => rfl
      · obtain ⟨q1, q2, q3, q4⟩ := l4 p hp
        refine ⟨q1, fun j x' k e g => ?_⟩
        rcases get_hpF hnx hmx hx g with ⟨rfl, rfl⟩ | ⟨rfl, rfl⟩ | ⟨h3, h4, h5, h6, g'⟩
        · rw [hEm] at e; injection e with e; subst e; exact Ne.symm q3
        · rw [hEn] at e; injection e with e; subst e; exact Ne.symm q2
        · obtain ⟨_, g''⟩ := hB.some g'
          rw [hElt j (hr.lt_nx g'')] at e
          exact q4 j x' _ h3 h4 e g''
      · rcases List.mem_append.1 hb' with h | h
        · exact hvis b' h
        · simp only [List.mem_singleton] at h; subst h; exact hb
    · have hMR : MR E es es'' := MR.back hEx hmr0 l7
      have hP := post_hpE (w' := w2) (D := fun d => d == e0) hr s.wm en em gn gm l1 l2 lI (by
        refine ⟨(es''.filter fun e => !(e.born == e0)).toArray, ?_, ?_, ?_, ?_⟩
        · rw [l8]
          congr 3
        · exact hMR.filter (p := fun b => !(b == e0))
        · rw [List.all_eq_true]
          exact fun e he => List.all_eq_true.1 hkey e (List.mem_filter.1 he).1
        · exact ⟨fun e he => hbo.1 e (List.mem_filter.1 he).1, List.Nodup.sublist (List.Sublist.map _ List.filter_sublist) hbo.2⟩)
      have hthis := hQ (some x) _ hOx E pv2 a2 w2 ⟨hP.rel, fun t v hv => ?_, hok2.size, fun p hp => ?_, hok2.dfr⟩ hP (hpv1.trans hpv2 hs1)
      · cases x <;> exact hthis
      · rcases hE t v hv with ⟨rfl, hv'⟩ | ⟨hv', hv''⟩
        · obtain ⟨v2, q1, q2⟩ := l3 t _ hv'
          obtain ⟨b2, u, v, e2, rfl⟩ := q2.map_inv
          rw [hEm] at e2; injection e2 with e2; injection e2 with e3 e4; subst e3
          exact ⟨_, q1, .map em⟩
        · obtain ⟨v2, q1, q2⟩ := l3 t _ hv'
          obtain ⟨v0, _, q3⟩ := hok.rr t v hv''
          exact ⟨v2, q1, q3.back hEx q2⟩
      · obtain ⟨q1, q2, q3, q4⟩ := l4 p hp
        refine ⟨q1, fun j x' k e g => ?_⟩
        have hj := g5_lt g
        unfold hpE at g
        rw [g5_s5 _ _ _ _ hj (g5_lt gm)] at g
        by_cases hjm : j = m
        · subst hjm; rw [em] at e; injection e with e; subst e; exact Ne.symm q3
        rw [if_neg hjm, g5_s5 _ _ _ _ hj (g5_lt gn)] at g
        by_cases hjn : j = n
        · rw [if_pos hjn] at g; cases g
        rw [if_neg hjn] at g
        exact q4 j x' k hjn hjm e g
  · refine ⟨rel_hpF hr hB hx en em gn gm (Nat.le_refl _) (fun _ _ _ _ => rfl) (headA [] w es0.toList (fun _ h => nomatch h) hit (hmr0.mono hEx) (by rw [hmp])), fun t v hv => ?_, hok.size, fun p hp => ?_, hok.dfr⟩
    · rcases hL t v hv with ⟨rfl, rfl⟩ | ⟨rfl, rfl⟩ | hv'
      · obtain ⟨v0, q1, q2⟩ := hok.rr _ _ h1
        obtain ⟨b2, u, v, e2, rfl⟩ := q2.ptr_inv
        rw [en] at e2; injection e2 with e2; injection e2 with e3 e4; injection e4 with e4 e5; subst e3; subst e4
        exact ⟨_, q1, .ptr 0 hEn⟩
      · obtain ⟨v0, q1, q2⟩ := hok.rr _ _ h2
        obtain ⟨b2, u, v, e2, rfl⟩ := q2.map_inv
        rw [em] at e2; injection e2 with e2; injection e2 with e3 e4; subst e3
        exact ⟨_, q1, .map hEm⟩
      · obtain ⟨v0, q1, q2⟩ := hok.rr _ _ hv'
        exact ⟨v0, q1, q2.mono hEx⟩
    · obtain ⟨q1, q2⟩ := hok.prv p hp
      refine ⟨q1, fun j x' k e g => ?_⟩
      rcases get_hpF hnx hmx hx g with ⟨rfl, rfl⟩ | ⟨rfl, rfl⟩ | ⟨h3, h4, h5, h6, g'⟩
      · rw [hEm] at e; injection e with e; subst e; exact q2 m _ _ em gm
      · rw [hEn] at e; injection e with e; subst e; exact q2 n _ _ en gn
      · obtain ⟨_, g''⟩ := hB.some g'
        rw [hElt j (hr.lt_nx g'')] at e
        exact q2 j x' _ e g''


theorem SimP.segI {c : Code} {s : St} {O : Option Ex → St → Prop} {rgK : Reg} {k : Blk} (hn : n + 1 = s.nx) (gn : g5 n s.hp = some k) (hk : ∀ i, k ≠ .fmp i)
    (h : SimP P N c ⟨s.rg, s.hp, s.nx, s.nx⟩ fun e s' => e = none ∧ n ≤ s'.wm ∧ ∀ t v, g3 t rgK = some v → g3 t s'.rg = some v ∧ blw n v = true)
    (hO : O none ⟨rgK, s5 n none s.hp, s.nx, min s.wm n⟩) : SimP P N c s O := by
  intro G E pv a w ro nn Q hok hro hQ
  refine h G E pv a w ro nn Q ⟨hok.rel, hok.rr, hok.size, hok.prv, hok.dfr⟩ hro fun e s' ⟨he, hwm, hkeep⟩ E' pv' a' w' hok' hp hpv => ?_
  subst he
  have hb := hok.rel.bound
  have hn5 := g5_lt gn
  have hr1 : Rel G E (s5 n none s.hp) s.nx w := hok.rel.stop hn5 fun i h => by rw [gn] at h; injection h with h; exact hk i h
  have get : ∀ j q, g5 j (s5 n none s.hp) = some q → j ≠ n ∧ j < s.nx ∧ g5 j s.hp = some q := fun j q g => by
    have hj := g5_lt g
    rw [g5_s5 _ _ _ _ hj hn5] at g
    by_cases h1 : j = n
    · rw [if_pos h1] at g; cases g
    · rw [if_neg h1] at g; exact ⟨h1, hok.rel.lt_nx g, g⟩
  have hE : ∀ j, j < s.nx → E' j = E j := hp.old
  have hold : ∀ r, r < w.heap.size → (∀ x, E n = some x → x.1 ≠ r) → w'.heap[r]? = w.heap[r]? := fun r hr hx => hp.kept.blk r hr fun m x q e g hm => by
    have hmn : m < s.nx := hok.rel.lt_nx g
    have : m = n := by
      have hwm : n ≤ s'.wm := hwm
      have hm : s'.wm ≤ m := hm
      omega
    subst this; exact hx x e
  have hsz := hp.kept.size
  have hP : Post G E s.hp s.nx s.wm w E (s5 n none s.hp) s.nx (min s.wm n) w' := by
    refine ⟨fun _ _ => rfl, ⟨hb, fun j x e => Nat.lt_of_lt_of_le (hok.rel.lt j x e) hsz, fun j x q e g => ?_, hr1.inj, hr1.own, hr1.top⟩, Nat.le_refl _, Nat.min_le_left _ _,
      ⟨hsz, fun r hr hx => hold r hr fun x e => hx n x _ e gn (by omega), hp.kept.io⟩, fun j h h' => ?_, fun j h gj => ?_, fun j x h e => by rw [hb j h] at e; cases e⟩
    · obtain ⟨h1, h2, h3⟩ := get j q g
      have hne : ∀ z, E n = some z → z.1 ≠ x.1 := fun z ez hz => h1 (hok.rel.inj j n x z q k e ez h3 gn hz.symm)
      refine (hr1.blk j x q e g).keep (Ext.refl _) (hold _ (hok.rel.lt j x e) hne) fun p rw' ks' es' cl' st' bm u v hq ep => ?_
      subst hq
      have gp := hok.rel.own j p _ _ _ _ _ h3
      refine hold _ (hok.rel.lt p _ ep) fun z ez hz => ?_
      have := hok.rel.inj p n _ z _ k ep ez gp gn hz.symm
      subst this
      rw [gn] at gp; injection gp with gp; exact hk _ gp
    · rcases Nat.lt_or_ge j 32768 with h5 | h5
      · rw [g5_s5 _ _ _ _ h5 hn5, if_neg (by omega)]
      · rw [g5_far _ _ (by omega), g5_far _ _ (by omega)]
    · rcases Nat.lt_or_ge j 32768 with h5 | h5
      · rw [g5_s5 _ _ _ _ h5 hn5]; split
        · rfl
        · exact gj
      · exact g5_far _ _ (by omega)
  refine hQ none _ hO E pv' a' w' ⟨hP.rel, fun t v hv => ?_, hok'.size, fun p hp' => ?_, hok'.dfr⟩ hP hpv
  · obtain ⟨h1, h2⟩ := hkeep t v hv
    obtain ⟨v', h3, h4⟩ := hok'.rr t v h1
    exact ⟨v', h3, h4.blw (fun j hj => hE j (by omega)) h2⟩
  · obtain ⟨h1, h2⟩ := hok'.prv p hp'
    refine ⟨h1, fun j x q e g => ?_⟩
    obtain ⟨q1, q2, q3⟩ := get j q g
    refine h2 j x q ((hE j q2).trans e) ?_
    have hwm : n ≤ s'.wm := hwm
    rw [hp.log j (by omega) q2]; exact q3
end
end
end Go.Proofs.YtdgllpcfmkjfhaaGreat
/- Iterators whose keys nobody looks at: only how many have been visited is known. Over any program. -/
namespace Go.Proofs.YtdgllpcfmkjfhaaGreat
open Go.RowKit
set_option linter.unusedVariables false
noncomputable section
section
variable {P : Program} {N : Nat} {O : Option Ex → St → Prop}

theorem nodup_len : ∀ {l m : List Nat}, l.Nodup → (∀ x ∈ l, x ∈ m) → l.length ≤ m.length
  | [], m, _, _ => Nat.zero_le _
  | a :: l, m, h, hs => by
    rw [List.nodup_cons] at h
    have h1 : a ∈ m := hs a (List.mem_cons_self ..)
    have h2 := nodup_len (l := l) (m := m.erase a) h.2 fun x hx => (List.mem_erase_of_ne (fun e : x = a => h.1 (by rw [← e]; exact hx))).2 (hs x (List.mem_cons_of_mem _ hx))
    rw [List.length_erase_of_mem h1] at h2
    have h3 := List.length_pos_of_mem h1
    rw [List.length_cons]
    omega

theorem SimP.count {c : Code} {s : St} {n m since : Nat} (h0 : ∃ t, g3 t s.rg = some (.pointer (some ⟨n, 0, none⟩))) (hg : g5 n s.hp = some (.it m since [])) (h : SimP P N c ⟨s.rg, s5 n (some (.cit m since 0)) s.hp, s.nx, min s.wm n⟩ O) : SimP P N c s O := by
  intro G E pv a w ro nn Q hok hro hQ
  obtain ⟨t, ht⟩ := h0
  obtain ⟨v, _, hv⟩ := hok.rr t _ ht
  obtain ⟨b, base, ext, e, _⟩ := hv.ptr_inv
  obtain ⟨bm, x, y, h1, h2, h3⟩ : BR G E w n b base ext (.it m since []) := hok.rel.blk n _ _ e hg
  have hP := Post.change (w' := w) (k' := .cit m since 0) hok.rel s.wm e hg (fun _ _ _ _ _ _ => nofun) (fun _ => nofun) rfl (fun _ _ => rfl) ⟨bm, x, y, [], h1, h2, h3, List.nodup_nil, rfl⟩
  exact h G E pv a w ro nn Q ⟨hP.rel, hok.rr, hok.size, hok.prv.post hP, hok.dfr⟩ hro fun e s' ho E' pv' a' w' hok' hp hpv => hQ e s' ho E' pv' a' w' hok' (hP.trans hp) hpv

theorem SimRP.counted {ops : Array Oper} {s : St} {o1 o2 : Oper} {x : Operand} {d1 d2 n m since k : Nat} {rw : Bool} {ks : List Tk} {es : List MapEntry} {O : St → Prop} (h1 : o1.op = .next x false) (h2 : o2.op = .extract (.tmp d1) 0) (g1 : o1.guard = none) (g2 : o2.guard = none)
    (e1 : o1.dst = some d1) (e2 : o2.dst = some d2) (hd1 : d1 < N ∧ d1 < 512) (hd2 : d2 < N ∧ d2 < 512) (hx : opv s.rg x = some (.pointer (some ⟨n, 0, none⟩))) (hg : g5 n s.hp = some (.cit m since k)) (hm : g5 m s.hp = some (.mp rw ks es since))
    (hlt : k < es.length → O ⟨s3 d2 (some (.bool true)) (s3 d1 none s.rg), s5 n (some (.cit m since (k + 1))) s.hp, s.nx, min s.wm n⟩)
    (hnil : ¬ k < es.length → es = [] ∧ O ⟨s3 d2 (some (.bool false)) (s3 d1 none s.rg), s.hp, s.nx, s.wm⟩) : SimRP P N ops [o1, o2] s O := by
  intro G E pv a w ro nn Q hok hro hQ
  refine wpListIn_step fun K hK => ?_
  have w1 : Region.wanted o1 (yielded ops a.tmps) = true := by unfold Region.wanted; rw [g1]
  rw [w1, if_pos rfl]
  obtain ⟨br, base, ext, e, hxv⟩ := (opv_eval hok.rr hx).ptr_inv
  obtain ⟨bm, x', y', seen, em, q1, q2, q3, q4⟩ : BR G E w n br base ext (.cit m since k) := hok.rel.blk n _ _ e hg
  subst q2
  obtain ⟨es', q5, q6, q7, hbo⟩ : BR G E w m bm x' y' (.mp rw ks es since) := hok.rel.blk m _ _ em hm
  have hrun := run_next_at (P := P) w o1.type br bm since since _ es' since q1 q5 (fun f hf => by
    obtain ⟨e', he', _, _, hb⟩ := q6.mem hf
    rw [← hb]; exact hbo.1 e' he') (Nat.le_refl _)
  have hdef1 : ∀ cc, o1.op ≠ .defer cc := fun cc h => by rw [h1] at h; cases h
  have hdef2 : ∀ cc, o2.op ≠ .defer cc := fun cc h => by rw [h2] at h; cases h
  -- the second operation
  have second : ∀ (b : Bool) (l : List Value) (hp' : Hp) (wm' : Nat) (w' : World), Rel G E hp' s.nx w' → Post G E s.hp s.nx s.wm w E hp' s.nx wm' w' → O ⟨s3 d2 (some (.bool b)) (s3 d1 none s.rg), hp', s.nx, wm'⟩ →
      wpListIn (Wd ro) nn P ops Q [o2] (a.put o1.dst (.tuple ⟨.bool b :: l⟩)) w' := fun b l hp' wm' w' hr hp ho => by
    refine wpListIn_step fun K2 hK2 => ?_
    have w2 : Region.wanted o2 (yielded ops (a.put o1.dst (.tuple ⟨.bool b :: l⟩)).tmps) = true := by unfold Region.wanted; rw [g2]
    rw [w2, if_pos rfl]
    refine ⟨fun _ _ => trivial, ?_⟩
    rw [Oper.semAt_eq _ _ _ hdef2]
    have hev : (a.put o1.dst (.tuple ⟨.bool b :: l⟩)).eval (.tmp d1) = .tuple ⟨.bool b :: l⟩ := by
      rw [e1]
      simp [Act.put, Act.eval, Array.getD_eq_getD_getElem?, hok.size, hd1.1]
    have hr2 : (execOp (a.put o1.dst (.tuple ⟨.bool b :: l⟩)).eval o2).run P w' = .ok (.value (.bool b)) w' := by
      simp [execOp, h2, hev, Instr.extract]
    rw [hr2]
    refine hK2 _ _ (wpListIn_nil ?_)
    have hsz1 : (a.put o1.dst (.tuple ⟨.bool b :: l⟩)).tmps = a.tmps.setIfInBounds d1 (.tuple ⟨.bool b :: l⟩) := by rw [e1]; rfl
    refine hQ _ ho E _ w' ⟨hr, ?_, ?_, hok.prv.post hp, by rw [e1, e2]; exact hok.dfr⟩ hp
    · rw [e2]
      show RR E _ ((a.put o1.dst (.tuple ⟨.bool b :: l⟩)).tmps.setIfInBounds d2 (.bool b))
      rw [hsz1]
      exact (hok.rr.erase hd1.2 _).set (by simp [hok.size, hd2.1]) hd2.2 (.bool b)
    · rw [e1, e2]; simp [Act.put, hok.size]
  have first : ∀ (v : Value) (w' : World), (Instr.next (.pointer (some ⟨br, 0, none⟩)) false o1.type).run P w = .ok v w' → (execOp a.eval o1).run P w = .ok (.value v) w' := fun v w' h => by
    simp only [execOp, h1, hxv, Nat.zero_add, Sem.run_bind, h, Result.andThen_ok, Sem.run_pure]
  refine ⟨fun _ _ => trivial, ?_⟩
  rw [Oper.semAt_eq _ _ _ hdef1]
  by_cases hk : k < es.length
  · rcases hrun with ⟨h3, _⟩ | ⟨f, hf, w1, hw1, hr1⟩
    · exfalso
      have : ∀ b ∈ es.map (·.born), b ∈ seen := fun b hb => by
        refine Classical.byContradiction fun hn => ?_
        obtain ⟨e0, he0, rfl⟩ := List.mem_map.1 hb
        obtain ⟨f0, hf0, _, _, hq⟩ := q6.mem' he0
        have : f0 ∈ (leftOf es' seen.toArray).toList := mem_leftOf.2 ⟨hf0, by rw [← hq]; simpa using hn⟩
        have := List.length_pos_of_mem this
        rw [Array.length_toList] at this
        omega
      have := nodup_len hbo.2 this
      rw [List.length_map] at this
      omega
    · obtain ⟨h6, h7⟩ := mem_leftOf.1 hf
      have hh : w1.heap = w.heap := by rcases hw1 with rfl | rfl <;> rfl
      have hio : Io w w1 := by rcases hw1 with rfl | rfl <;> exact ⟨rfl, rfl, rfl⟩
      have q1' : w1.heap[br]? = some (.mapIter (some bm) since seen.toArray since) := by rw [hh]; exact q1
      rw [first _ _ hr1]
      have hp1 := Post.congr hok.rel s.wm (w' := w1) hh
      have hP := hp1.trans (Post.change (w' := ChangeMaps.setBlock w1 br (.mapIter (some bm) since (seen.toArray.push f.born) since)) (k' := .cit m since (k + 1)) hp1.rel s.wm e hg (fun _ _ _ _ _ _ => nofun) (fun _ => nofun) (by simp [ChangeMaps.setBlock]) (fun r h => setBlock_other w1 br _ r h) ⟨bm, x', y', seen ++ [f.born], em, by rw [setBlock_self _ q1']; simp, rfl,
        List.nodup_append.2 ⟨q3, by simp, fun x hx y hy => by
          simp only [List.mem_singleton] at hy
          subst hy
          intro hxy
          subst hxy
          exact h7 (by simpa using hx)⟩, by simp [q4]⟩)
      exact hK _ _ (second true [f.key, f.val] _ _ _ hP.rel hP (hlt hk))
  · obtain ⟨hes, ho⟩ := hnil hk
    rcases hrun with ⟨_, hr1⟩ | ⟨f, hf, _⟩
    · rw [first _ _ hr1]
      exact hK _ _ (second false [] _ _ _ hok.rel (Post.refl hok.rel _) ho)
    · exfalso
      obtain ⟨h6, _⟩ := mem_leftOf.1 hf
      obtain ⟨e', he', _⟩ := q6.mem h6
      rw [hes] at he'; cases he'
end
end
end Go.Proofs.YtdgllpcfmkjfhaaGreat
/- Ways that come together up to the names of what they made. Over any program. -/
namespace Go.Proofs.YtdgllpcfmkjfhaaGreat
open Go.RowKit
set_option linter.unusedVariables false
noncomputable section

/-! ### Values that are the same up to names -/
def asc (ρ : List (Nat × Nat)) (n : Nat) : Option Nat := List.rec none (fun p _ ih => Bool.rec ih (some p.2) (Nat.beq p.1 n)) ρ
def nmR (fl : Nat) (ρ : List (Nat × Nat)) (n m : Nat) : Bool := Bool.rec (Option.rec false (fun k => Nat.beq k m) (asc ρ n)) (Nat.beq n m) (Nat.blt n fl)
def rnA (fl : Nat) (ρ : List (Nat × Nat)) (a b : Addr) : Bool := match a, b with
  | ⟨n, o, none⟩, ⟨n', o', none⟩ => and (nmR fl ρ n n') (Nat.beq o o')
  | _, _ => false
def rn1 (fl : Nat) (ρ : List (Nat × Nat)) (a b : Value) : Bool := match a, b with
  | .pointer (some a), .pointer (some b) => rnA fl ρ a b
  | .slice (some a) l c, .slice (some b) l' c' => and (rnA fl ρ a b) (and (Nat.beq l l') (and (Nat.beq c c') (not (Nat.beq c VG))))
  | .map (some n), .map (some m) => nmR fl ρ n m
  | .pointer none, .pointer none => true
  | .slice none l c, .slice none l' c' => and (Nat.beq l l') (Nat.beq c c')
  | .map none, .map none => true
  | .int k m, .int j n => and (keq k j) (ieq m n)
  | .bool a, .bool b => Bool.rec (not b) b a
  | .nilFunc, .nilFunc => true
  | .nilIface, .nilIface => true
  | .func (.yield n) ⟨[]⟩ ⟨[]⟩, .func (.yield m) ⟨[]⟩ ⟨[]⟩ => nmR fl ρ n m
  | _, _ => false
def rn1L (fl : Nat) (ρ : List (Nat × Nat)) (l : List Value) : List Value → Bool := List.rec (fun m => List.rec true (fun _ _ _ => false) m) (fun a _ ih m => List.rec false (fun b m _ => Bool.rec false (ih m) (rn1 fl ρ a b)) m) l
def rn2 (fl : Nat) (ρ : List (Nat × Nat)) (a b : Value) : Bool := match a, b with
  | .agg ⟨l⟩, .agg ⟨m⟩ => rn1L fl ρ l m
  | .func (.func f) ⟨l⟩ ⟨m⟩, .func (.func f') ⟨l'⟩ ⟨m'⟩ => and (Nat.beq f f') (and (rn1L fl ρ l l') (rn1L fl ρ m m'))
  | a, b => rn1 fl ρ a b
def rn2L (fl : Nat) (ρ : List (Nat × Nat)) (l : List Value) : List Value → Bool := List.rec (fun m => List.rec true (fun _ _ _ => false) m) (fun a _ ih m => List.rec false (fun b m _ => Bool.rec false (ih m) (rn2 fl ρ a b)) m) l
section
variable {fl : Nat} {ρ : List (Nat × Nat)} {Ec Ei : Env}
theorem rnA_inv {a b : Addr} (h : rnA fl ρ a b = true) : ∃ n n' o, a = ⟨n, o, none⟩ ∧ b = ⟨n', o, none⟩ ∧ nmR fl ρ n n' = true := by
  obtain ⟨n, o, m⟩ := a
  obtain ⟨n', o', m'⟩ := b
  cases m <;> cases m' <;> simp only [rnA, Bool.and_eq_true, Bool.false_eq_true] at h
  have := Nat.eq_of_beq_eq_true h.2
  subst this
  exact ⟨n, n', o, rfl, rfl, h.1⟩
theorem rn1_vr (H : ∀ n m, nmR fl ρ n m = true → Ec n = Ei m) {a b v : Value} (h : rn1 fl ρ a b = true) (hv : VR Ei b v) : VR Ec a v := by
  unfold rn1 at h
  split at h
  · obtain ⟨n, n', o, rfl, rfl, hn⟩ := rnA_inv h
    obtain ⟨x, base, ext, e, rfl⟩ := hv.ptr_inv
    exact .ptr o ((H n n' hn).trans e)
  · simp only [Bool.and_eq_true, Bool.not_eq_true'] at h
    obtain ⟨h1, h2, h3, h4⟩ := h
    obtain ⟨n, n', o, rfl, rfl, hn⟩ := rnA_inv h1
    have h2 := Nat.eq_of_beq_eq_true h2
    have h3 := Nat.eq_of_beq_eq_true h3
    subst h2; subst h3
    rcases hv.slice_cases with ⟨n2, b, base, ext, k, e, ha, rfl, hc⟩ | ⟨n2, b, base, ext, k, c0, s, c', e, ha, rfl, hcc, h5, h6, h7, h8⟩ | ⟨a', c', rfl, hl, hc⟩
    · injection ha with e1 e2; subst e1; subst e2
      exact .slc o _ _ ((H n _ hn).trans e) hc
    · injection ha with e1 e2; subst e1; subst e2
      rw [hcc]
      exact .opn o _ _ _ _ ((H n _ hn).trans e) h5 h6 h7 h8
    · rw [hc] at h4; exact absurd (Nat.beq_refl VG) (by rw [h4]; simp)
  · obtain ⟨b, base, ext, e, rfl⟩ := hv.map_inv
    exact .map ((H _ _ h).trans e)
  · cases hv; exact .nilp
  · simp only [Bool.and_eq_true] at h
    rw [Nat.eq_of_beq_eq_true h.1, Nat.eq_of_beq_eq_true h.2]
    cases hv; exact .nils _ _
  · cases hv; exact .nilm
  · simp only [Bool.and_eq_true] at h
    have h2 := h.2
    rw [ieq_eq, beq_iff_eq] at h2
    rw [keq_eq h.1, h2]
    cases hv; exact .int _ _
  · rename_i a b
    have : a = b := by cases a <;> cases b <;> first | rfl | cases h
    subst this
    cases hv; exact .bool _
  · cases hv; exact .nilf
  · cases hv; exact .nili
  · cases hv with | yld h1 => exact .yld ((H _ _ h).trans h1)
  · cases h
theorem rn1L_vr (H : ∀ n m, nmR fl ρ n m = true → Ec n = Ei m) : ∀ {l m vs : List Value}, rn1L fl ρ l m = true → LR Ei m vs → LR Ec l vs
  | [], [], _, _, h => by cases h; exact .nil
  | [], _ :: _, _, h, _ => by cases h
  | _ :: _, [], _, h, _ => by cases h
  | a :: l, b :: m, _, h, .cons h1 h2 => by
    replace h : (Bool.rec false (rn1L fl ρ l m) (rn1 fl ρ a b) : Bool) = true := h
    cases hb : rn1 fl ρ a b with
    | false => rw [hb] at h; cases h
    | true => rw [hb] at h; exact .cons (rn1_vr H hb h1) (rn1L_vr H h h2)
theorem rn1_one {a b : Value} (h : rn1 fl ρ a b = true) : a.oneCell' = b.oneCell' := by
  unfold rn1 at h
  split at h <;> first | rfl | cases h
theorem rn1L_one : ∀ {l m : List Value}, rn1L fl ρ l m = true → l.all Value.oneCell' = m.all Value.oneCell'
  | [], [], _ => rfl
  | [], _ :: _, h => by cases h
  | _ :: _, [], h => by cases h
  | a :: l, b :: m, h => by
    replace h : (Bool.rec false (rn1L fl ρ l m) (rn1 fl ρ a b) : Bool) = true := h
    cases hb : rn1 fl ρ a b with
    | false => rw [hb] at h; cases h
    | true => rw [hb] at h; rw [List.all_cons, List.all_cons, rn1_one hb, rn1L_one h]
theorem rn2_vr (H : ∀ n m, nmR fl ρ n m = true → Ec n = Ei m) {a b v : Value} (h : rn2 fl ρ a b = true) (hv : VR Ei b v) : VR Ec a v := by
  unfold rn2 at h
  split at h
  · cases hv with | agg h1 h2 => exact .agg (rn1L_vr H h h1) (by rw [rn1L_one h]; exact h2)
  · simp only [Bool.and_eq_true] at h
    rw [Nat.eq_of_beq_eq_true h.1]
    cases hv with | func _ h1 h2 => exact .func _ (rn1L_vr H h.2.1 h1) (rn1L_vr H h.2.2 h2)
  · exact rn1_vr H h hv
theorem rn2L_vr (H : ∀ n m, nmR fl ρ n m = true → Ec n = Ei m) : ∀ {l m vs : List Value}, rn2L fl ρ l m = true → LR Ei m vs → LR Ec l vs
  | [], [], _, _, h => by cases h; exact .nil
  | [], _ :: _, _, h, _ => by cases h
  | _ :: _, [], _, h, _ => by cases h
  | a :: l, b :: m, _, h, .cons h1 h2 => by
    replace h : (Bool.rec false (rn2L fl ρ l m) (rn2 fl ρ a b) : Bool) = true := h
    cases hb : rn2 fl ρ a b with
    | false => rw [hb] at h; cases h
    | true => rw [hb] at h; exact .cons (rn2_vr H hb h1) (rn2L_vr H h h2)
theorem rn2L_len : ∀ {l m : List Value}, rn2L fl ρ l m = true → l.length = m.length
  | [], [], _ => rfl
  | [], _ :: _, h => by cases h
  | _ :: _, [], h => by cases h
  | a :: l, b :: m, h => by
    replace h : (Bool.rec false (rn2L fl ρ l m) (rn2 fl ρ a b) : Bool) = true := h
    cases hb : rn2 fl ρ a b with
    | false => rw [hb] at h; cases h
    | true => rw [hb] at h; rw [List.length_cons, List.length_cons, rn2L_len h]
end

def esR (fl : Nat) (ρ : List (Nat × Nat)) (rw : Bool) (ks : List Tk) (l : List MapEntry) : List MapEntry → Bool := List.rec (fun m => List.rec true (fun _ _ _ => false) m) (fun a _ ih m => List.rec false (fun b m _ => Bool.rec false (ih m) (and (okKey rw ks a.key) (and (rn2 fl ρ a.key b.key) (and (rn2 fl ρ a.val b.val) (Nat.beq a.born b.born))))) m) l
def rnB (fl : Nat) (ρ : List (Nat × Nat)) (a b : Blk) : Bool := match a, b with
  | .row cs, .row cs' => rn2L fl ρ cs cs'
  | .mp rw ks es cl, .mp rw' ks' es' cl' => and (Bool.rec (not rw') rw' rw) (and (tksEq ks ks') (and (Nat.beq cl cl') (esR fl ρ rw ks es es')))
  | _, _ => false
theorem rn2L_one {fl : Nat} {ρ : List (Nat × Nat)} : ∀ {l m : List Value}, rn2L fl ρ l m = true → m.all Value.oneCell' = true → l.all Value.oneCell' = true
  | [], _, _, _ => rfl
  | _ :: _, [], h, _ => by cases h
  | a :: l, b :: m, h, hone => by
    replace h : (Bool.rec false (rn2L fl ρ l m) (rn2 fl ρ a b) : Bool) = true := h
    cases hb : rn2 fl ρ a b with
    | false => rw [hb] at h; cases h
    | true =>
      rw [hb] at h
      rw [List.all_cons, Bool.and_eq_true] at hone ⊢
      refine ⟨?_, rn2L_one h hone.2⟩
      unfold rn2 at hb
      split at hb
      · exact absurd hone.1 (by simp [Value.oneCell'])
      · rfl
      · rw [rn1_one hb]; exact hone.1
theorem esR_ok {fl : Nat} {ρ : List (Nat × Nat)} {rw : Bool} {ks : List Tk} {Ec Ei : Env} (H : ∀ n m, nmR fl ρ n m = true → Ec n = Ei m) : ∀ {l m vs : List MapEntry}, esR fl ρ rw ks l m = true → MR Ei m vs → MR Ec l vs ∧ l.all (fun e => okKey rw ks e.key) = true ∧ l.map (·.born) = m.map (·.born)
  | [], [], [], _, _ => ⟨trivial, rfl, rfl⟩
  | [], [], _ :: _, _, h => h.elim
  | [], _ :: _, _, h, _ => by cases h
  | _ :: _, [], _, h, _ => by cases h
  | _ :: _, _ :: _, [], _, h => h.elim
  | a :: l, b :: m, c :: vs, h, h' => by
    replace h : (Bool.rec false (esR fl ρ rw ks l m) (and (okKey rw ks a.key) (and (rn2 fl ρ a.key b.key) (and (rn2 fl ρ a.val b.val) (Nat.beq a.born b.born)))) : Bool) = true := h
    cases hb : and (okKey rw ks a.key) (and (rn2 fl ρ a.key b.key) (and (rn2 fl ρ a.val b.val) (Nat.beq a.born b.born))) with
    | false => rw [hb] at h; cases h
    | true =>
      rw [hb] at h
      simp only [Bool.and_eq_true] at hb
      obtain ⟨h1, h2, h3, h4⟩ := hb
      have h4 := Nat.eq_of_beq_eq_true h4
      obtain ⟨q1, q2, q3⟩ := esR_ok H h h'.2.2.2
      refine ⟨⟨rn2_vr H h2 h'.1, rn2_vr H h3 h'.2.1, h4.trans h'.2.2.1, q1⟩, ?_, ?_⟩
      · rw [List.all_cons, h1, q2]; rfl
      · rw [List.map_cons, List.map_cons, h4, q3]
theorem rnB_br {fl : Nat} {ρ : List (Nat × Nat)} {Ec Ei : Env} (H : ∀ n m, nmR fl ρ n m = true → Ec n = Ei m) {G : Gh} {w : World} {n m b base ext : Nat} {k k' : Blk} (h : rnB fl ρ k k' = true) (hb : BR G Ei w m b base ext k') : BR G Ec w n b base ext k := by
  unfold rnB at h
  split at h
  · obtain ⟨c, f, b1, b2, b3, b4, b5⟩ := hb
    have hl := rn2L_len h
    exact ⟨c, f, b1, b2, by rw [hl]; exact b3, rn2L_one h b4, by rw [hl]; exact rn2L_vr H h b5⟩
  · simp only [Bool.and_eq_true] at h
    obtain ⟨h1, h2, h3, h4⟩ := h
    have h3 := Nat.eq_of_beq_eq_true h3
    subst h3
    obtain ⟨es', b1, b2, b3, b4⟩ := hb
    obtain ⟨q1, q2, q3⟩ := esR_ok H h4 b2
    refine ⟨es', b1, q1, q2, fun e he => ?_, by rw [q3]; exact b4.2⟩
    have := List.mem_map_of_mem (f := MapEntry.born) he
    rw [show List.map MapEntry.born _ = _ from q3] at this
    obtain ⟨e', he', h5⟩ := List.mem_map.1 this
    rw [← h5]; exact b4.1 e' he'
  · cases h
theorem rnB_kind {fl : Nat} {ρ : List (Nat × Nat)} {k k' : Blk} (h : rnB fl ρ k k' = true) : (∀ m rw ks es cl st, k ≠ .fit m rw ks es cl st) ∧ (∀ i, k ≠ .fmp i) := by
  unfold rnB at h
  split at h
  · exact ⟨fun _ _ _ _ _ _ => nofun, fun _ => nofun⟩
  · exact ⟨fun _ _ _ _ _ _ => nofun, fun _ => nofun⟩
  · cases h

/-! ### The heap that is left -/
def rowsH (R : List (Nat × Blk)) (hp : Hp) : Hp := List.rec hp (fun p _ ih => s5 p.1 (some p.2) ih) R
theorem g5_rowsH {hp : Hp} : ∀ {R : List (Nat × Blk)}, (∀ p ∈ R, p.1 < 32768) → ∀ n k, g5 n (rowsH R hp) = some k → (∃ p ∈ R, p.1 = n ∧ k = p.2) ∨ ((∀ p ∈ R, p.1 ≠ n) ∧ g5 n hp = some k)
  | [], _, n, k, h => .inr ⟨(fun _ h => nomatch h), h⟩
  | p :: R, hR, n, k, h => by
    have hn := g5_lt h
    replace h : g5 n (s5 p.1 (some p.2) (rowsH R hp)) = some k := h
    rw [g5_s5 _ _ _ _ hn (hR p (List.mem_cons_self ..))] at h
    by_cases h1 : n = p.1
    · rw [if_pos h1] at h; injection h with h; exact .inl ⟨p, List.mem_cons_self .., h1.symm, h.symm⟩
    · rw [if_neg h1] at h
      rcases g5_rowsH (fun q hq => hR q (List.mem_cons_of_mem _ hq)) n k h with ⟨q, hq, h2⟩ | ⟨h2, h3⟩
      · exact .inl ⟨q, List.mem_cons_of_mem _ hq, h2⟩
      · refine .inr ⟨fun q hq => ?_, h3⟩
        rcases List.mem_cons.1 hq with rfl | hq
        · exact Ne.symm h1
        · exact h2 q hq
theorem g5_rowsH_old {hp : Hp} : ∀ {R : List (Nat × Blk)}, (∀ p ∈ R, p.1 < 32768) → ∀ n, n < 32768 → (∀ p ∈ R, p.1 ≠ n) → g5 n (rowsH R hp) = g5 n hp
  | [], _, n, _, _ => rfl
  | p :: R, hR, n, hn, h => by
    show g5 n (s5 p.1 (some p.2) (rowsH R hp)) = _
    rw [g5_s5 _ _ _ _ hn (hR p (List.mem_cons_self ..)), if_neg (Ne.symm (h p (List.mem_cons_self ..)))]
    exact g5_rowsH_old (fun q hq => hR q (List.mem_cons_of_mem _ hq)) n hn fun q hq => h q (List.mem_cons_of_mem _ hq)

structure RnOk (fl : Nat) (ρ : List (Nat × Nat)) (R : List (Nat × Blk)) (hp' : Hp) : Prop where
  row : ∀ p ∈ R, ∃ m k', asc ρ p.1 = some m ∧ fl ≤ m ∧ g5 m hp' = some k' ∧ rnB fl ρ p.2 k' = true
  inj : ∀ p ∈ R, ∀ q ∈ R, asc ρ p.1 = asc ρ q.1 → p.1 = q.1
  key : ∀ n m, asc ρ n = some m → ∃ p ∈ R, p.1 = n

section
variable {P : Program} {N : Nat} {G : Gh} {E E' : Env} {w w' : World} {hp hp' : Hp} {nx nx' wm wm' nxc : Nat} {ρ : List (Nat × Nat)} {R : List (Nat × Blk)}
def envM (E E' : Env) (fl : Nat) (ρ : List (Nat × Nat)) : Env := fun n => if n < fl then E n else match asc ρ n with
  | none => none
  | some m => E' m
theorem envM_nm (hE : ∀ n, n < nx → E' n = E n) : ∀ n m, nmR nx ρ n m = true → envM E E' nx ρ n = E' m := fun n m h => by
  unfold nmR at h
  unfold envM
  cases hb : Nat.blt n nx with
  | true =>
    rw [hb] at h
    have := Nat.eq_of_beq_eq_true h
    subst this
    rw [if_pos (Nat.blt_eq.mp hb), hE n (Nat.blt_eq.mp hb)]
  | false =>
    rw [hb] at h
    have hn : ¬ n < nx := fun hh => by rw [Nat.blt_eq.mpr hh] at hb; cases hb
    rw [if_neg hn]
    cases ha : asc ρ n with
    | none => rw [ha] at h; cases h
    | some k =>
      rw [ha] at h
      have := Nat.eq_of_beq_eq_true h
      subst this
      rfl
theorem post_merge (hr : Rel G E hp nx w) (wm : Nat) (h : Post G E hp nx nx w E' hp' nx' wm' w') (hwm : nx ≤ wm') (hR : ∀ p ∈ R, nx ≤ p.1 ∧ p.1 < nxc) (hc : nx ≤ nxc) (hc5 : nxc ≤ 32768) (ho : RnOk nx ρ R hp') :
    Post G E hp nx wm w (envM E E' nx ρ) (rowsH R hp) nxc wm w' := by
  have hb := hr.bound
  have hkeep : ∀ r, r < w.heap.size → w'.heap[r]? = w.heap[r]? := fun r hr => h.kept.blk r hr fun m x q e _ hm => by rw [hb m (by omega)] at e; cases e
  have hR5 : ∀ p ∈ R, p.1 < 32768 := fun p hp => by have := (hR p hp).2; omega
  have H := envM_nm (ρ := ρ) (E' := E') h.old
  have hold : ∀ n, n < nx → envM E E' nx ρ n = E n := fun n hn => if_pos hn
  have hnew : ∀ n x, nx ≤ n → envM E E' nx ρ n = some x → ∃ p ∈ R, p.1 = n ∧ ∃ m k', asc ρ n = some m ∧ E' m = some x ∧ g5 m hp' = some k' ∧ rnB nx ρ p.2 k' = true ∧ w.heap.size ≤ x.1 := fun n x hn e => by
    unfold envM at e
    rw [if_neg (by omega)] at e
    split at e
    · cases e
    · rename_i m hm
      obtain ⟨p, hp, rfl⟩ := ho.key n m hm
      obtain ⟨m', cs', h1, h2, h3, h4⟩ := ho.row p hp
      rw [hm] at h1; injection h1 with h1; subst h1
      refine ⟨p, hp, rfl, m, cs', hm, e, h3, h4, ?_⟩
      rcases h.fresh m x h2 e with hf | ⟨j, y, k, hj, ej, _⟩
      · exact hf
      · rw [hb j (by omega)] at ej; cases ej
  have live : ∀ n k x, g5 n (rowsH R hp) = some k → envM E E' nx ρ n = some x → (n < nx ∧ g5 n hp = some k ∧ E n = some x) ∨ (nx ≤ n) := fun n k x g e => by
    rcases g5_rowsH hR5 n k g with ⟨p, hp, rfl, _⟩ | ⟨_, g⟩
    · exact .inr (hR p hp).1
    · have := hr.lt_nx g
      exact .inl ⟨this, g, by rw [hold n this] at e; exact e⟩
  refine ⟨hold, ⟨fun n hn => ?_, fun n x e => ?_, fun n x k e g => ?_, fun n m x y k k' e1 e2 g1 g2 hxy => ?_, fun n m rw ks es cl st g => ?_, fun n hn => ?_⟩, hc, Nat.le_refl _, ⟨h.kept.size, fun r hr0 _ => hkeep r hr0, h.kept.io⟩, fun n hn hn' => ?_, fun n hn g => ?_, fun n x hn e => ?_⟩
  · unfold envM
    rw [if_neg (by omega)]
    split
    · rfl
    · rename_i m hm
      obtain ⟨p, hp, rfl⟩ := ho.key n m hm
      have := (hR p hp).2; omega
  · rcases Nat.lt_or_ge n nx with h1 | h1
    · rw [hold n h1] at e; exact Nat.lt_of_lt_of_le (hr.lt n x e) h.kept.size
    · obtain ⟨p, _, _, m, cs', _, e', _⟩ := hnew n x h1 e
      exact h.rel.lt m x e'
  · rcases g5_rowsH hR5 n k g with ⟨p, hp, rfl, rfl⟩ | ⟨_, g⟩
    · obtain ⟨p', hp', hpp, m, cs', h1, h2, h3, h4, _⟩ := hnew p.1 x (hR p hp).1 e
      obtain ⟨m2, cs2, q1, _, q3, q4⟩ := ho.row p hp
      rw [h1] at q1; injection q1 with q1; subst q1
      exact rnB_br H q4 (h.rel.blk m x _ h2 q3)
    · have hn := hr.lt_nx g
      rw [hold n hn] at e
      have hst := (Post.refl hr wm).stay h.kept.size hkeep h.kept.io
      exact (hst.rel.blk n x k e g).keep (fun j y ej => by
        rcases Nat.lt_or_ge j nx with h1 | h1
        · rw [hold j h1]; exact ej
        · rw [hb j h1] at ej; cases ej) rfl fun _ _ _ _ _ _ _ _ _ _ _ => rfl
  · rcases live n k x g1 e1 with ⟨a1, a2, a3⟩ | a1
    · rcases live m k' y g2 e2 with ⟨b1, b2, b3⟩ | b1
      · exact hr.inj n m x y k k' a3 b3 a2 b2 hxy
      · obtain ⟨_, _, _, _, _, _, _, _, _, hf⟩ := hnew m y b1 e2
        have := hr.lt n x a3; omega
    · obtain ⟨p, hp, rfl, j, cs', c1, c2, c3, _, hf⟩ := hnew n x a1 e1
      rcases live m k' y g2 e2 with ⟨b1, b2, b3⟩ | b1
      · have := hr.lt m y b3; omega
      · obtain ⟨q, hq, rfl, j', cs2, d1, d2, d3, _, _⟩ := hnew m y b1 e2
        have := h.rel.inj j j' x y _ _ c2 d2 c3 d3 hxy
        subst this
        exact ho.inj p hp q hq (c1.trans d1.symm)
  · rcases g5_rowsH hR5 n _ g with ⟨p, hp, _, hh⟩ | ⟨_, g⟩
    · obtain ⟨_, _, _, _, _, q4⟩ := ho.row p hp
      exact absurd hh.symm ((rnB_kind q4).1 _ _ _ _ _ _)
    · have key := hr.own _ _ _ _ _ _ _ g
      have := hr.lt_nx key
      rw [g5_rowsH_old hR5 m (g5_lt key) fun p hp => by have := (hR p hp).1; omega]
      exact key
  · rcases Nat.lt_or_ge n 32768 with h5 | h5
    · rw [g5_rowsH_old hR5 n h5 fun p hp => by have := (hR p hp).2; omega]; exact hr.top n (by omega)
    · exact g5_far _ _ (by omega)
  · rcases Nat.lt_or_ge n 32768 with h5 | h5
    · exact g5_rowsH_old hR5 n h5 fun p hp => by have := (hR p hp).1; omega
    · rw [g5_far _ _ (by omega), g5_far _ _ (by omega)]
  · rcases Nat.lt_or_ge n 32768 with h5 | h5
    · rw [g5_rowsH_old hR5 n h5 fun p hp => by have := (hR p hp).1; omega]; exact g
    · exact g5_far _ _ (by omega)
  · obtain ⟨_, _, _, _, _, _, _, _, _, hf⟩ := hnew n x hn e
    exact .inl hf
theorem prv_merge {pv : List (Nat × Obj)} (hr : Rel G E hp nx w) (h : Post G E hp nx nx w E' hp' nx' wm' w') (hwm : nx ≤ wm') (hR : ∀ p ∈ R, nx ≤ p.1 ∧ p.1 < nxc) (hc5 : nxc ≤ 32768) (ho : RnOk nx ρ R hp') (hp0 : Prv E' hp' w' pv) : Prv (envM E E' nx ρ) (rowsH R hp) w' pv := fun q hq => by
  obtain ⟨h1, h2⟩ := hp0 q hq
  have hR5 : ∀ p ∈ R, p.1 < 32768 := fun p hp => by have := (hR p hp).2; omega
  refine ⟨h1, fun n x k e g => ?_⟩
  rcases g5_rowsH hR5 n k g with ⟨p, hp, rfl, rfl⟩ | ⟨_, g⟩
  · obtain ⟨m, cs', q1, _, q3, _⟩ := ho.row p hp
    unfold envM at e
    rw [if_neg (by have := (hR p hp).1; omega), q1] at e
    exact h2 m x _ e q3
  · have hn := hr.lt_nx g
    unfold envM at e
    rw [if_pos hn] at e
    exact h2 n x k ((h.old n hn).trans e) ((h.log n (by omega) hn).trans g)
end
end
end Go.Proofs.YtdgllpcfmkjfhaaGreat
/- A function whose ways all give the same, and write to nothing old. Over any program. -/
namespace Go.Proofs.YtdgllpcfmkjfhaaGreat
open Go.RowKit
set_option linter.unusedVariables false
noncomputable section
variable {P : Program}
theorem LR.blwL {E E' : Env} {n : Nat} (hE : ∀ m, m < n → E' m = E m) : ∀ {l l' : List Value}, LR E' l l' → (∀ v ∈ l, blw n v = true) → LR E l l'
  | _, _, .nil, _ => .nil
  | _, _, .cons h h', hb => .cons (h.blw hE (hb _ (List.mem_cons_self ..))) (h'.blwL hE fun v hv => hb v (List.mem_cons_of_mem _ hv))
theorem resOne_blw {E E' : Env} {n : Nat} (hE : ∀ m, m < n → E' m = E m) {vs : List Value} {v' : Value} (h : VR E' (resOne vs) v') (hb : ∀ v ∈ vs, blw n v = true) : VR E (resOne vs) v' := by
  match vs, h, hb with
  | [v], h, hb => exact VR.blw hE h (hb v (List.mem_cons_self ..))
  | [], h, hb => cases (show VR E' (.tuple ⟨[]⟩) v' from h) with | tup hh => exact .tup (hh.blwL hE hb)
  | a :: b :: l, h, hb => cases (show VR E' (.tuple ⟨a :: b :: l⟩) v' from h) with | tup hh => exact .tup (hh.blwL hE hb)
theorem SimF.funcSeg {f : FuncId} {fn : Func} (hf : P.funcs[f]? = some fn) {c : Code} (hb : fn.body = some c) (hname : fn.name ≠ "runtime.NumGoroutine") {args : List Value} {hp : Hp} {nx wm : Nat} (hN : args.length ≤ fn.ntmps) (h5 : args.length ≤ 512)
    {outs : List (Option Ex × St)} (h : SimC P fn.ntmps c ⟨regOf args 0 (t3 Value), hp, nx, nx⟩ outs) {vs : List Value} (hvs : ∀ v ∈ vs, blw nx v = true)
    (ho : ∀ o ∈ outs, (o.1 = none ∨ o.1 = some .ret) ∧ nx ≤ o.2.wm ∧ resV P o.2.rg o.2.hp fn.results.toList = some vs) : SimF P (.func f) args hp nx wm ⟨resOne vs, hp, nx, wm⟩ := by
  refine ⟨⟨fn, hf, by rw [hb]; rfl, hname⟩, fun G E w args' ro n R hr hl hR => calls_wd ?_⟩
  refine callsIn_of_wp_marks hf hb trivial ?_
  have hla := hl.length
  refine h G E [] _ w none n _ ⟨hr, regOf_rr hl h5, ?_, (fun _ hp0 => nomatch hp0), ⟨[], rfl, List.nodup_nil, (fun _ h => nomatch h)⟩⟩ (fun _ h => nomatch h) fun o hmem E' pv' a' w' hok hpo hpv => ?_
  · simp; omega
  · obtain ⟨he, hwm, hres⟩ := ho o hmem
    have key : LeavesInM (Wd none) n P fn a'.tmps R a'.defers .returning w' := by
      obtain ⟨Ds, hds, hnd, hD⟩ := hok.dfr
      rw [hds]
      refine leaves_marks Ds w' hnd (fun D h => (hok.prv _ (hD D h)).1) fun w'' hs hw hio => ?_
      have hp2 : Post G E hp nx nx w E' o.2.hp o.2.nx o.2.wm w'' := hpo.priv hs fun r hr => hw r fun hrD => by
        obtain ⟨h1, h2⟩ := hok.prv _ (hD r hrD)
        rcases hr with hr | ⟨m, x, k, e, g, ex⟩
        · rcases hpv.new _ (hD r hrD) with h | h
          · cases h
          · simp only at h; omega
        · exact h2 m x k e g ex
      obtain ⟨v', h1, h2⟩ := results_run hp2.rel hok.rr hres
      have hkeep : ∀ r, r < w.heap.size → w''.heap[r]? = w.heap[r]? := fun r hr0 => hp2.kept.blk r hr0 fun m x q e _ hm => by rw [hr.bound m (by omega)] at e; cases e
      exact ⟨v', h1, hR E v' w'' (resOne_blw hp2.old h2 hvs) ((Post.refl hr wm).stay hp2.kept.size hkeep hp2.kept.io)⟩
    rcases he with he | he <;> (rw [he]; exact key)
end
end Go.Proofs.YtdgllpcfmkjfhaaGreat
/- Runs of codes one after another; where their ways come together up to names; functions likewise. Over any program. -/
namespace Go.Proofs.YtdgllpcfmkjfhaaGreat
open Go.RowKit
set_option linter.unusedVariables false
noncomputable section
variable {P : Program} {N : Nat} {s : St} {O : Option Ex → St → Prop}

def seqs : List Code → Code → Code
  | [], r => r
  | a :: l, r => .seq a (seqs l r)
def SimL (P : Program) (N : Nat) (l : List Code) (s : St) (O : Option Ex → St → Prop) : Prop :=
  ∀ (rest : Code) (G : Gh) (E : Env) (pv : List (Nat × Obj)) (a : Act) (w : World) (ro : Option Nat) (n : Nat) (Q : Exit → Act → World → Prop),
    Ok G E N s pv a w → Rnd ro pv →
    (∀ s', O none s' → ∀ E' pv' a' w', Ok G E' N s' pv' a' w' → Post G E s.hp s.nx s.wm w E' s'.hp s'.nx s'.wm w' → Pvs pv w pv' → rest.wpIn (Wd ro) n P Q a' w') →
    (∀ x s', O (some x) s' → ∀ E' pv' a' w', Ok G E' N s' pv' a' w' → Post G E s.hp s.nx s.wm w E' s'.hp s'.nx s'.wm w' → Pvs pv w pv' → Q (toX (some x)) a' w') → (seqs l rest).wpIn (Wd ro) n P Q a w
theorem SimL.nil (h : O none s) : SimL P N [] s O := fun rest G E pv a w ro n Q hok _ h1 _ => h1 s h E pv a w hok (Post.refl hok.rel _) (Pvs.refl _ _)
theorem SimL.cons {c : Code} {l : List Code} (h : SimP P N c s fun e s' => match e with | none => SimL P N l s' O | some x => O (some x) s') : SimL P N (c :: l) s O :=
  fun rest G E pv a w ro n Q hok hro h1 h2 => wpIn_seq (h G E pv a w ro n _ hok hro fun e s' ho E' pv' a' w' hok' hp hpv => by
    have k1 : ∀ s2, O none s2 → ∀ E2 pv2 a2 w2, Ok G E2 N s2 pv2 a2 w2 → Post G E' s'.hp s'.nx s'.wm w' E2 s2.hp s2.nx s2.wm w2 → Pvs pv' w' pv2 → rest.wpIn (Wd ro) n P Q a2 w2 :=
      fun s2 ho2 E2 pv2 a2 w2 hok2 hp2 hpv2 => h1 s2 ho2 E2 pv2 a2 w2 hok2 (hp.trans hp2) (hpv.trans hpv2 hp.kept.size)
    have k2 : ∀ x s2, O (some x) s2 → ∀ E2 pv2 a2 w2, Ok G E2 N s2 pv2 a2 w2 → Post G E' s'.hp s'.nx s'.wm w' E2 s2.hp s2.nx s2.wm w2 → Pvs pv' w' pv2 → Q (toX (some x)) a2 w2 :=
      fun x s2 ho2 E2 pv2 a2 w2 hok2 hp2 hpv2 => h2 x s2 ho2 E2 pv2 a2 w2 hok2 (hp.trans hp2) (hpv.trans hpv2 hp.kept.size)
    cases e with
    | none => exact ho rest G E' pv' a' w' ro n Q hok' (hro.mono hpv.sub) k1 k2
    | some x =>
      have := h2 x s' ho E' pv' a' w' hok' hp hpv
      cases x <;> exact this)
theorem SimL.toP {l : List Code} {rest : Code} (h : SimL P N l s fun e s' => match e with | none => SimP P N rest s' O | some x => O (some x) s') : SimP P N (seqs l rest) s O :=
  fun G E pv a w ro n Q hok hro hQ => h rest G E pv a w ro n Q hok hro
    (fun s' ho E' pv' a' w' hok' hp hpv => ho G E' pv' a' w' ro n Q hok' (hro.mono hpv.sub) fun e2 s2 ho2 E2 pv2 a2 w2 hok2 hp2 hpv2 => hQ e2 s2 ho2 E2 pv2 a2 w2 hok2 (hp.trans hp2) (hpv.trans hpv2 hp.kept.size))
    (fun x s' ho E' pv' a' w' hok' hp hpv => hQ (some x) s' ho E' pv' a' w' hok' hp hpv)
theorem SimL.mono {l : List Code} {O' : Option Ex → St → Prop} (h : SimL P N l s O') (ho : ∀ e s', O' e s' → O e s') : SimL P N l s O :=
  fun rest G E pv a w ro n Q hok hro h1 h2 => h rest G E pv a w ro n Q hok hro (fun s' hs => h1 s' (ho none s' hs)) (fun x s' hs => h2 x s' (ho (some x) s' hs))
theorem SimL.merge {l : List Code} {rgK : Reg} {R : List (Nat × Blk)} {nxc : Nat} (hR : ∀ p ∈ R, s.nx ≤ p.1 ∧ p.1 < nxc) (hc : s.nx ≤ nxc) (hc5 : nxc ≤ 32768)
    (h : SimL P N l ⟨s.rg, s.hp, s.nx, s.nx⟩ fun e s' => e = none ∧ s.nx ≤ s'.wm ∧ ∃ ρ, RnOk s.nx ρ R s'.hp ∧ ∀ t v, g3 t rgK = some v → ∃ v', g3 t s'.rg = some v' ∧ rn2 s.nx ρ v v' = true)
    (hO : O none ⟨rgK, rowsH R s.hp, nxc, s.wm⟩) : SimL P N l s O := by
  intro rest G E pv a w ro n Q hok hro h1 h2
  refine h rest G E pv a w ro n Q ⟨hok.rel, hok.rr, hok.size, hok.prv, hok.dfr⟩ hro (fun s' ho E' pv' a' w' hok' hp hpv => ?_) (fun x s' ho => nomatch ho.1)
  obtain ⟨_, hwm, ρ, hρ, hrg⟩ := ho
  have hP := post_merge hok.rel s.wm hp hwm hR hc hc5 hρ
  refine h1 _ hO _ pv' a' w' ⟨hP.rel, fun t v hv => ?_, hok'.size, prv_merge hok.rel hp hwm hR hc5 hρ hok'.prv, hok'.dfr⟩ hP hpv
  obtain ⟨v', q1, q2⟩ := hrg t v hv
  obtain ⟨u, q3, q4⟩ := hok'.rr t v' q1
  exact ⟨u, q3, rn2_vr (envM_nm hp.old) q2 q4⟩

theorem resOne_rn {fl : Nat} {ρ : List (Nat × Nat)} {Ec Ei : Env} (H : ∀ n m, nmR fl ρ n m = true → Ec n = Ei m) {vs us : List Value} {v' : Value} (hl : rn2L fl ρ vs us = true) (h : VR Ei (resOne us) v') : VR Ec (resOne vs) v' := by
  have hlen := rn2L_len hl
  match vs, us, hl, h, hlen with
  | [a], [b], hl, h, _ =>
    replace hl : (Bool.rec false (rn2L fl ρ [] []) (rn2 fl ρ a b) : Bool) = true := hl
    cases hb : rn2 fl ρ a b with
    | false => rw [hb] at hl; cases hl
    | true => exact rn2_vr H hb h
  | [], [], _, h, _ => cases (show VR Ei (.tuple ⟨[]⟩) v' from h) with | tup hh => cases hh; exact .tup .nil
  | a :: b :: l, c :: d :: m, hl, h, _ => cases (show VR Ei (.tuple ⟨c :: d :: m⟩) v' from h) with | tup hh => exact .tup (rn2L_vr H hl hh)
theorem SimF.funcMerge {f : FuncId} {fn : Func} (hf : P.funcs[f]? = some fn) {c : Code} (hb : fn.body = some c) (hname : fn.name ≠ "runtime.NumGoroutine") {args : List Value} {hp : Hp} {nx wm : Nat} (hN : args.length ≤ fn.ntmps) (h5 : args.length ≤ 512)
    {outs : List (Option Ex × St)} (h : SimC P fn.ntmps c ⟨regOf args 0 (t3 Value), hp, nx, nx⟩ outs) {vs : List Value} {R : List (Nat × Blk)} {nxc : Nat} (hR : ∀ p ∈ R, nx ≤ p.1 ∧ p.1 < nxc) (hc : nx ≤ nxc) (hc5 : nxc ≤ 32768)
    (ho : ∀ o ∈ outs, (o.1 = none ∨ o.1 = some .ret) ∧ nx ≤ o.2.wm ∧ ∃ ρ us, RnOk nx ρ R o.2.hp ∧ resV P o.2.rg o.2.hp fn.results.toList = some us ∧ rn2L nx ρ vs us = true) : SimF P (.func f) args hp nx wm ⟨resOne vs, rowsH R hp, nxc, wm⟩ := by
  refine ⟨⟨fn, hf, by rw [hb]; rfl, hname⟩, fun G E w args' ro n K hr hl hK => calls_wd ?_⟩
  refine callsIn_of_wp_marks hf hb trivial ?_
  have hla := hl.length
  refine h G E [] _ w none n _ ⟨hr, regOf_rr hl h5, ?_, (fun _ hp0 => nomatch hp0), ⟨[], rfl, List.nodup_nil, (fun _ h => nomatch h)⟩⟩ (fun _ h => nomatch h) fun o hmem E' pv' a' w' hok hpo hpv => ?_
  · simp; omega
  · obtain ⟨he, hwm, ρ, us, hρ, hres, hrn⟩ := ho o hmem
    have key : LeavesInM (Wd none) n P fn a'.tmps K a'.defers .returning w' := by
      obtain ⟨Ds, hds, hnd, hD⟩ := hok.dfr
      rw [hds]
      refine leaves_marks Ds w' hnd (fun D h => (hok.prv _ (hD D h)).1) fun w'' hs hw hio => ?_
      have hp2 : Post G E hp nx nx w E' o.2.hp o.2.nx o.2.wm w'' := hpo.priv hs fun r hr => hw r fun hrD => by
        obtain ⟨h1, h2⟩ := hok.prv _ (hD r hrD)
        rcases hr with hr | ⟨m, x, k, e, g, ex⟩
        · rcases hpv.new _ (hD r hrD) with h | h
          · cases h
          · simp only at h; omega
        · exact h2 m x k e g ex
      obtain ⟨v', h1, h2⟩ := results_run hp2.rel hok.rr hres
      exact ⟨v', h1, hK _ v' w'' (resOne_rn (envM_nm hp2.old) hrn h2) (post_merge hr wm hp2 hwm hR hc hc5 hρ)⟩
    rcases he with he | he <;> (rw [he]; exact key)
end
end Go.Proofs.YtdgllpcfmkjfhaaGreat
/- The quick evaluator's look at ways that come together up to names. Over any program. -/
namespace Go.Proofs.YtdgllpcfmkjfhaaGreat
open Go.RowKit
set_option linter.unusedVariables false
noncomputable section
def ns1 (v : Value) (acc : List Nat) : List Nat := match v with
  | .pointer (some a) => a.block :: acc
  | .slice (some a) _ _ => a.block :: acc
  | .map (some n) => n :: acc
  | .func (.yield n) _ _ => n :: acc
  | _ => acc
def ns1L (l : List Value) (acc : List Nat) : List Nat := List.rec acc (fun v _ ih => ns1 v ih) l
def ns2 (v : Value) (acc : List Nat) : List Nat := match v with
  | .agg ⟨l⟩ => ns1L l acc
  | .func (.func _) ⟨l⟩ ⟨m⟩ => ns1L l (ns1L m acc)
  | v => ns1 v acc
def nsL (l : List Value) (acc : List Nat) : List Nat := List.rec acc (fun v _ ih => ns2 v ih) l
def memN (n : Nat) (l : List Nat) : Bool := List.rec false (fun m _ ih => Bool.rec ih true (Nat.beq m n)) l
def nsB (b : Blk) : List Nat := match b with
  | .row cs => nsL cs []
  | .mp _ _ es _ => List.rec [] (fun e _ ih => ns2 e.val ih) es
  | _ => []
def bfs (fl : Nat) (hp : Hp) (fuel : Nat) : List Nat → List Nat → List Nat := Nat.rec (fun _ s => s) (fun _ ih q s => List.rec s (fun n q _ => Bool.rec (match g5 n hp with
  | some b => ih (app q (nsB b)) (app s [n])
  | _ => ih q s) (ih q s) (or (Nat.blt n fl) (memN n s))) q) fuel
def rowsOf (l : List Nat) (hp : Hp) : Option (List (Nat × Blk)) := List.rec (some []) (fun n _ ih => match g5 n hp with
  | some b => (match ih with | some l => some ((n, b) :: l) | none => none)
  | _ => none) l
def zipR (l : List Nat) : List Nat → List (Nat × Nat) := List.rec (fun _ => []) (fun n _ ih m => List.rec [] (fun k m _ => (n, k) :: ih m) m) l
def oeqN (a b : Option Nat) : Bool := Option.rec (Option.rec true (fun _ => false) b) (fun n => Option.rec false (fun m => Nat.beq n m) b) a
theorem oeqN_refl (a : Option Nat) : oeqN a a = true := by cases a with | none => rfl | some n => exact Nat.beq_refl n
def okR (fl : Nat) (ρ : List (Nat × Nat)) (R : List (Nat × Blk)) (hp' : Hp) : Bool := and (allB (fun p => Option.rec false (fun m => and (Nat.ble fl m) (match g5 m hp' with
  | some k' => rnB fl ρ p.2 k'
  | _ => false)) (asc ρ p.1)) R) (and (allB (fun p => allB (fun q => impB (oeqN (asc ρ p.1) (asc ρ q.1)) (Nat.beq p.1 q.1)) R) R) (allB (fun e => List.rec false (fun p _ ih => Bool.rec ih true (Nat.beq p.1 e.1)) R) ρ))
theorem asc_mem {ρ : List (Nat × Nat)} {n m : Nat} (h : asc ρ n = some m) : ∃ e ∈ ρ, e.1 = n := by
  induction ρ with
  | nil => cases h
  | cons e ρ ih =>
    replace h : (Bool.rec (asc ρ n) (some e.2) (Nat.beq e.1 n) : Option Nat) = some m := h
    cases hb : Nat.beq e.1 n with
    | true => exact ⟨e, List.mem_cons_self .., Nat.eq_of_beq_eq_true hb⟩
    | false => rw [hb] at h; obtain ⟨e', h1, h2⟩ := ih h; exact ⟨e', List.mem_cons_of_mem _ h1, h2⟩
theorem okR_ok {fl : Nat} {ρ : List (Nat × Nat)} {R : List (Nat × Blk)} {hp' : Hp} (h : okR fl ρ R hp' = true) : RnOk fl ρ R hp' := by
  unfold okR at h
  simp only [Bool.and_eq_true] at h
  obtain ⟨h1, h2, h3⟩ := h
  refine ⟨fun p hp => ?_, fun p hp q hq e => ?_, fun n m hm => ?_⟩
  · have := allB_inv h1 p hp
    cases ha : asc ρ p.1 with
    | none => rw [ha] at this; cases this
    | some m =>
      rw [ha] at this
      simp only [Bool.and_eq_true] at this
      obtain ⟨q1, q2⟩ := this
      split at q2
      · rename_i cs' hg
        exact ⟨m, cs', rfl, Nat.le_of_ble_eq_true q1, hg, q2⟩
      · cases q2
  · have := impB_inv (allB_inv (allB_inv h2 p hp) q hq) (by rw [e]; exact oeqN_refl _)
    exact Nat.eq_of_beq_eq_true this
  · obtain ⟨e, he, rfl⟩ := asc_mem hm
    have := allB_inv h3 e he
    have key : ∀ R : List (Nat × Blk), (List.rec false (fun p _ ih => Bool.rec ih true (Nat.beq p.1 e.1)) R : Bool) = true → ∃ p ∈ R, p.1 = e.1 := by
      intro R
      induction R with
      | nil => intro h; cases h
      | cons p R ih =>
        intro h
        replace h : (Bool.rec (List.rec false (fun p _ ih => Bool.rec ih true (Nat.beq p.1 e.1)) R) true (Nat.beq p.1 e.1) : Bool) = true := h
        cases hb : Nat.beq p.1 e.1 with
        | true => exact ⟨p, List.mem_cons_self .., Nat.eq_of_beq_eq_true hb⟩
        | false => rw [hb] at h; obtain ⟨q, h1, h2⟩ := ih h; exact ⟨q, List.mem_cons_of_mem _ h1, h2⟩
    exact key R this
def bdR (nx nxc : Nat) (R : List (Nat × Blk)) : Bool := and (Nat.ble nx nxc) (and (Nat.ble nxc 32768) (allB (fun p => and (Nat.ble nx p.1) (Nat.blt p.1 nxc)) R))
theorem bdR_ok {nx nxc : Nat} {R : List (Nat × Blk)} (h : bdR nx nxc R = true) : nx ≤ nxc ∧ nxc ≤ 32768 ∧ ∀ p ∈ R, nx ≤ p.1 ∧ p.1 < nxc := by
  unfold bdR at h
  simp only [Bool.and_eq_true] at h
  refine ⟨Nat.le_of_ble_eq_true h.1, Nat.le_of_ble_eq_true h.2.1, fun p hp => ?_⟩
  have := allB_inv h.2.2 p hp
  simp only [Bool.and_eq_true] at this
  exact ⟨Nat.le_of_ble_eq_true this.1, Nat.blt_eq.mp this.2⟩
def rowsK (β : Type) (R : List (Nat × Blk)) (hp : Hp) (k : Hp → β) : β := List.rec (motive := fun _ => (Hp → β) → β) (fun k => k hp) (fun p _ ih k => ih fun h => (s5B β p.1).get (some p.2) h k) R k
theorem rowsK_eq (β : Type) (hp : Hp) : ∀ (R : List (Nat × Blk)) (k : Hp → β), rowsK β R hp k = k (rowsH R hp)
  | [], k => rfl
  | p :: R, k => by
    have h : rowsK β (p :: R) hp k = rowsK β R hp fun h => (s5B β p.1).get (some p.2) h k := rfl
    rw [h, rowsK_eq β hp R, s5_on]; rfl
def rgsV (ks : List Nat) (rg : Reg) : List Value := List.rec [] (fun t _ ih => match g3 t rg with | some v => v :: ih | none => ih) ks
def okG (fl : Nat) (ρ : List (Nat × Nat)) (ks : List Nat) (rg0 rg : Reg) : Bool := allB (fun t => Option.rec true (fun v => Option.rec false (fun v' => rn2 fl ρ v v') (g3 t rg)) (g3 t rg0)) ks
theorem okG_inv {fl : Nat} {ρ : List (Nat × Nat)} {ks : List Nat} {rg0 rg : Reg} (h : okG fl ρ ks rg0 rg = true) {t : Nat} (ht : t ∈ ks) {v : Value} (hv : g3 t rg0 = some v) : ∃ v', g3 t rg = some v' ∧ rn2 fl ρ v v' = true := by
  have := allB_inv h t ht
  rw [hv] at this
  cases hg : g3 t rg with
  | none => rw [hg] at this; cases this
  | some v' => rw [hg] at this; exact ⟨v', rfl, this⟩
end
end Go.Proofs.YtdgllpcfmkjfhaaGreat
/- The quick evaluator's code. Over any program. -/
namespace Go.Proofs.YtdgllpcfmkjfhaaGreat
open Go.RowKit
set_option linter.unusedVariables false
noncomputable section
variable {P : Program} {cx : Cx}

abbrev CC := Call → Reg → Hp → Nat → Nat → KS → (Ex → KS) → An
def kE (kn : KS) (kx : Ex → KS) (e : Option Ex) : KS := match e with | none => kn | some x => kx x
def SndK (P : Program) (N : Nat) (c : Code) (f : Reg → Hp → Nat → Nat → KS → (Ex → KS) → An) : Prop :=
  ∀ rg hp nx wm kn kx r, f rg hp nx wm kn kx = some r → SimP P N c ⟨rg, hp, nx, wm⟩ fun e s' => ∃ l, kE kn kx e s'.rg s'.hp s'.nx s'.wm = some l ∧ ∀ q ∈ l, q ∈ r

def iterB (f : CC) (call : Call) (kx : Ex → KS) (n : Nat) : KS := Nat.rec (fun _ _ _ _ => none) (fun _ ih rg hp nx wm => f call rg hp nx wm ih kx) n
def kxB (id : Nat) (kn : KS) (kx : Ex → KS) (e : Ex) : KS := Ex.rec (fun i rg hp nx wm => Bool.rec (kx (.exit i) rg hp nx wm) (kn rg hp nx wm) (Nat.beq i id)) (fun rg hp nx wm => kx .ret rg hp nx wm) e
def rfB (N : Nat) (ps : List Nat) (asg body : Code) (g : Reg → Option Value) : CC := fun call rg hp nx wm kn kx => kO (g rg) fun v => kFun v fun f first cap => match f with
  | .func q => kIf (Nat.blt nx 32768) (sH nx (.lp N rg ps asg body none) hp fun hp => kO (call (.func q) (app first (.func (.yield nx) ⟨[]⟩ ⟨[]⟩ :: cap)) hp (Nat.succ nx) wm) fun c => kO (g5 nx c.hp) fun b => match b with
    | .lp _ _ _ _ _ pend => kO (exOf pend) fun e => nH nx c.hp fun hp => kMin c.wm nx fun wm => kE kn kx e rg hp c.nx wm
    | _ => none)
  | _ => none
def kn0 : KS := fun rg hp nx wm => some [(none, ⟨rg, hp, nx, wm⟩)]
def kx0 (e : Ex) : KS := fun rg hp nx wm => some [(some e, ⟨rg, hp, nx, wm⟩)]
def blF (id : Nat) (f : CC) : CC := fun call rg hp nx wm kn kx => f call rg hp nx wm kn (kxB id kn kx)
def thru (nx : Nat) (o : Option Ex × St) : Bool := match o.1 with | none => Nat.ble nx o.2.wm | some _ => false
def segK (f : CC) (ks : List Nat) : CC := fun call rg hp nx wm kn kx => kO (f call rg hp nx nx kn0 kx0) fun l => kIf (and (allB (fun t => Nat.blt t 512) ks) (allB (thru nx) l)) (kn (keepR nx l ks) hp nx wm)
theorem segK_snd {N : Nat} {c : Code} {f : CC} {call : Call} (h : SndK P N c (f call)) (ks : List Nat) : SndK P N c (segK f ks call) := by
  intro rg hp nx wm kn kx r e
  obtain ⟨l, hl, e1⟩ := kO_inv e
  obtain ⟨c1, e2⟩ := kIf_inv e1
  simp only [Bool.and_eq_true] at c1
  refine SimP.seg (s := ⟨rg, hp, nx, wm⟩) (rgK := keepR nx l ks) ((h rg hp nx nx kn0 kx0 l hl).mono fun e' s' ⟨l', h1, h2⟩ => ?_) ⟨r, e2, fun _ h => h⟩
  have hm : (e', s') ∈ l := by
    refine h2 _ ?_
    cases e' with
    | none => rw [← Option.some.inj h1]; exact List.mem_singleton_self _
    | some x => rw [← Option.some.inj h1]; exact List.mem_singleton_self _
  have ht := allB_inv c1.2 _ hm
  cases e' with
  | some x => cases ht
  | none =>
    refine ⟨rfl, Nat.le_of_ble_eq_true ht, fun t v hv => ?_⟩
    obtain ⟨q1, q2⟩ := agree_inv (keepR_inv (fun u hu => Nat.blt_eq.mp (allB_inv c1.1 u hu)) hv)
    exact ⟨q2 _ hm, q1⟩
def thruI (n : Nat) (o : Option Ex × St) : Bool := match o.1 with | none => Nat.ble n o.2.wm | some _ => false
def isIt (b : Blk) : Bool := match b with | .it _ _ _ => true | _ => false
def segI (f : CC) (ks : List Nat) (ti : Nat) : CC := fun call rg hp nx wm kn kx => kO (g3 ti rg) fun v => kPtr v fun n _ => kO (g5 n hp) fun b => kIf (and (isIt b) (Nat.beq (Nat.succ n) nx)) (kO (f call rg hp nx nx kn0 kx0) fun l =>
  kIf (and (allB (fun t => Nat.blt t 512) ks) (allB (thruI n) l)) (nH n hp fun hp' => kMin wm n fun wm' => kn (keepR n l ks) hp' nx wm'))
theorem segI_snd {N : Nat} {c : Code} {f : CC} {call : Call} (h : SndK P N c (f call)) (ks : List Nat) (ti : Nat) : SndK P N c (segI f ks ti call) := by
  intro rg hp nx wm kn kx r e
  obtain ⟨v, _, e⟩ := kO_inv e
  obtain ⟨n, _, _, e⟩ := kPtr_inv e
  obtain ⟨b, hb, e⟩ := kO_inv e
  obtain ⟨c0, e⟩ := kIf_inv e
  obtain ⟨l, hl, e1⟩ := kO_inv e
  obtain ⟨c1, e2⟩ := kIf_inv e1
  simp only [Bool.and_eq_true] at c0 c1
  rw [nH_eq, kMin_eq] at e2
  refine SimP.segI (s := ⟨rg, hp, nx, wm⟩) (rgK := keepR n l ks) (Nat.eq_of_beq_eq_true c0.2) hb (fun i h => by rw [h] at c0; cases c0.1) ((h rg hp nx nx kn0 kx0 l hl).mono fun e' s' ⟨l', h1, h2⟩ => ?_) ⟨r, e2, fun _ h => h⟩
  have hm : (e', s') ∈ l := by
    refine h2 _ ?_
    cases e' with
    | none => rw [← Option.some.inj h1]; exact List.mem_singleton_self _
    | some x => rw [← Option.some.inj h1]; exact List.mem_singleton_self _
  have ht := allB_inv c1.2 _ hm
  cases e' with
  | some x => cases ht
  | none =>
    refine ⟨rfl, Nat.le_of_ble_eq_true ht, fun t v hv => ?_⟩
    obtain ⟨q1, q2⟩ := agree_inv (keepR_inv (fun u hu => Nat.blt_eq.mp (allB_inv c1.1 u hu)) hv)
    exact ⟨q2 _ hm, q1⟩
def segB (f : CC) (p : List Nat × Option Nat) : CC := match p.2 with
  | none => segK f p.1
  | some ti => segI f p.1 ti
theorem segB_snd {N : Nat} {c : Code} {f : CC} {call : Call} (h : SndK P N c (f call)) (p : List Nat × Option Nat) : SndK P N c (segB f p call) := by
  obtain ⟨ks, ti⟩ := p
  cases ti with
  | none => exact segK_snd h _
  | some ti => exact segI_snd h _ _
/-! ### Loops that delete entries of the map that they go over -/
def regsB (rgL : Reg) (ts : List Nat) (o : Option Ex × St) : Bool := allB (fun t => match g3 t rgL with | none => true | some v => match g3 t o.2.rg with | none => false | some v' => sameV v v') ts
theorem regsB_inv {rgL : Reg} {ts : List Nat} {o : Option Ex × St} (h : regsB rgL ts o = true) {t : Nat} (ht : t ∈ ts) {v : Value} (hv : g3 t rgL = some v) : g3 t o.2.rg = some v := by
  have := allB_inv h t ht
  simp only [hv] at this
  split at this
  · cases this
  · rename_i v' h'
    rw [h', sameV_eq this]
def goneL (nx : Nat) (l : List (Option Ex × St)) (k : List Nat → An) : An := List.rec (fun k => k []) (fun o _ ih k => ih fun m => match g5 nx o.2.hp with
  | some (.fit _ _ _ _ _ (.gone b)) => k (b :: m)
  | _ => k m) l k
theorem goneL_inv {nx : Nat} : ∀ {l : List (Option Ex × St)} {k : List Nat → An} {r}, goneL nx l k = some r → ∃ D, k D = some r
  | [], k, r, h => ⟨_, h⟩
  | o :: l, k, r, h => by
    obtain ⟨D, h1⟩ := goneL_inv (l := l) (show goneL nx l (fun m => match g5 nx o.2.hp with
      | some (.fit _ _ _ _ _ (.gone b)) => k (b :: m)
      | _ => k m) = some r from h)
    split at h1
    · exact ⟨_, h1⟩
    · exact ⟨_, h1⟩
def anyN (D : List Nat) (b : Nat) : Bool := List.rec false (fun d _ ih => Bool.rec ih true (Nat.beq d b)) D
def rd1 (nx nx1 : Nat) (rgL : Reg) (ts D : List Nat) (o : Option Ex × St) : Bool := and (match o.1 with | none => true | some _ => false) (and (Nat.ble nx o.2.wm) (and (regsB rgL ts o) (match g5 nx o.2.hp with
  | some (.fit mm _ _ _ _ st) => and (Nat.beq mm nx1) (match st with | .cur b => not (anyN D b) | .gone b => anyN D b | _ => false)
  | _ => false)))
def rd2 (nx nx1 : Nat) (rgL : Reg) (ts : List Nat) (o : Option Ex × St) : Bool := and (Nat.ble nx o.2.wm) (and (regsB rgL ts o) (match g5 nx o.2.hp with
  | some (.fit mm _ _ _ _ st) => and (Nat.beq mm nx1) (match st with | .fin => true | _ => false)
  | _ => false))
def fE (D : List Nat) (es : List MapEntry) (k : List MapEntry → An) : An := List.rec (motive := fun _ => (List MapEntry → An) → An) (fun k => k []) (fun e _ ih k => ih fun l => Bool.rec (k (e :: l)) (k l) (anyN D e.born)) es k
theorem fE_eq (D : List Nat) : ∀ (es : List MapEntry) (k : List MapEntry → An), fE D es k = k (es.filter fun e => !anyN D e.born)
  | [], k => rfl
  | e :: es, k => by
    have h : fE D (e :: es) k = fE D es fun l => Bool.rec (k (e :: l)) (k l) (anyN D e.born) := rfl
    rw [h, fE_eq D es, List.filter_cons]
    cases anyN D e.born <;> rfl
def flt1 (f : CC) (call : Call) (rgL : Reg) (h2 : Hp) (nx nx1 nx2 : Nat) (rw : Bool) (mks : List Tk) (es : List MapEntry) (cl : Nat) (st : Fs) : An :=
  sH nx (.fit nx1 rw mks es cl st) h2 fun h3 => sH nx1 (.fmp nx) h3 fun h4 => f call rgL h4 nx2 nx2 kn0 kx0
def kIM (bi bm : Blk) (k : Nat → Nat → Bool → List Tk → List MapEntry → Nat → An) : An := match bi, bm with
  | .it m' since [], .mp rw mks es cl => k m' since rw mks es cl
  | _, _ => none
theorem kIM_inv {bi bm : Blk} {k : Nat → Nat → Bool → List Tk → List MapEntry → Nat → An} {r} (h : kIM bi bm k = some r) : ∃ m' since rw mks es cl, bi = .it m' since [] ∧ bm = .mp rw mks es cl ∧ k m' since rw mks es cl = some r := by
  unfold kIM at h
  split at h
  · exact ⟨_, _, _, _, _, _, rfl, rfl, h⟩
  · cases h
def kX1 (l : List (Option Ex × St)) (k : Ex → St → An) : An := match l with
  | [(some x, s')] => k x s'
  | _ => none
theorem kX1_inv {l : List (Option Ex × St)} {k : Ex → St → An} {r} (h : kX1 l k = some r) : ∃ x s', l = [(some x, s')] ∧ k x s' = some r := by
  unfold kX1 at h
  split at h
  · exact ⟨_, _, rfl, h⟩
  · cases h
def rgLf (ks : List Nat) (ti tm : Nat) (rg : Reg) (nx nx1 : Nat) : Reg := s3 ti (some (.pointer (some ⟨nx, 0, none⟩))) (s3 tm (some (.map (some nx1))) (restr ks rg))
def bxH (tb : Option Nat) (rg : Reg) (m nx1 : Nat) (hp : Hp) (k : Hp → An) : An := match tb with
  | none => k hp
  | some t => kO (g3 t rg) fun v => kPtr v fun nb o => kO (g5 nb hp) fun b => match b with
    | .row cs => kO (nth cs o) fun u => kMap u none fun m' => kIf (Nat.beq m' m) (sH nb (.row (setN (.map (some nx1)) cs o)) hp k)
    | _ => none
theorem bxH_inv {tb : Option Nat} {rg : Reg} {m nx1 : Nat} {hp : Hp} {k : Hp → An} {r} (h : bxH tb rg m nx1 hp k = some r) : ∃ hpB, HpB m nx1 hp hpB ∧ k hpB = some r := by
  cases tb with
  | none => exact ⟨hp, HpB.refl _ _ _, h⟩
  | some t =>
    obtain ⟨v, _, h1⟩ := kO_inv (show kO (g3 t rg) _ = some r from h)
    obtain ⟨nb, o, _, h2⟩ := kPtr_inv h1
    obtain ⟨b, hb, h3⟩ := kO_inv h2
    cases b with
    | row cs =>
      obtain ⟨u, hu, h4⟩ := kO_inv (show kO (nth cs o) _ = some r from h3)
      rcases kMap_inv h4 with ⟨_, h5⟩ | ⟨m', rfl, h5⟩
      · cases h5
      obtain ⟨c1, h6⟩ := kIf_inv h5
      have := Nat.eq_of_beq_eq_true c1
      subst this
      rw [sH_eq, setN_eq] at h6
      rw [nth_eq] at hu
      refine ⟨_, fun j hj => ?_, h6⟩
      rw [g5_s5 _ _ _ _ hj (g5_lt hb)]
      by_cases hjn : j = nb
      · subst hjn; rw [if_pos rfl]; exact .inr ⟨cs, o, hb, hu, rfl⟩
      · rw [if_neg hjn]; exact .inl rfl
    | _ => cases h3
def fltK (f : CC) (ks : List Nat) (ti tm : Nat) (tb : Option Nat) : CC := fun call rg hp nx wm kn kx => kO (g3 ti rg) fun vi => kPtr vi fun n q => k0 q (kO (g3 tm rg) fun vm => kMap vm none fun m => kO (g5 n hp) fun bi => kO (g5 m hp) fun bm => kIM bi bm fun m' since rw mks es cl =>
  kIf (and (Nat.beq m' m) (and (Nat.beq since cl) (and (Nat.blt ti 512) (and (Nat.blt tm 512) (and (not (Nat.beq ti tm)) (allB (fun t => and (Nat.blt t 512) (and (not (Nat.beq t ti)) (not (Nat.beq t tm)))) ks))))))
      (fN (Nat.succ nx) fun nx1 => fN (Nat.succ nx1) fun nx2 => kIf (Nat.ble nx2 32768) (bxH tb rg m nx1 hp fun hpB => nH m hpB fun h1 => nH n h1 fun h2 => nH n hp fun h1' =>
        kO (flt1 f call (rgLf ks ti tm rg nx nx1) h2 nx nx1 nx2 rw mks es cl .fin) fun l2 =>
        kO (List.rec (some []) (fun _ _ _ => flt1 f call (rgLf ks ti tm rg nx nx1) h2 nx nx1 nx2 rw mks es cl .idle) es) fun l1 =>
        goneL nx l1 fun D => kIf (allB (rd1 nx nx1 (rgLf ks ti tm rg nx nx1) (ti :: tm :: ks) D) l1) (kX1 l2 fun x s' => kIf (rd2 nx nx1 (rgLf ks ti tm rg nx nx1) (ti :: tm :: ks) (some x, s'))
              (fE D es fun es' => sH m (.mp rw mks es' cl) h1' fun h5 => kMin n m fun nm => kMin wm nm fun wm' => kx x (s3 tm (some (.map (some m))) (restr ks rg)) h5 nx wm')))))
theorem kn0_mem {e' : Option Ex} {s' : St} {l l' : List (Option Ex × St)} (h1 : kE kn0 kx0 e' s'.rg s'.hp s'.nx s'.wm = some l') (h2 : ∀ q ∈ l', q ∈ l) : (e', s') ∈ l := by
  refine h2 _ ?_
  cases e' with
  | none => rw [← Option.some.inj h1]; exact List.mem_singleton_self _
  | some x => rw [← Option.some.inj h1]; exact List.mem_singleton_self _
theorem flt1_snd {N : Nat} {c : Code} {f : CC} {call : Call} (h : SndK P N c (f call)) {rgL : Reg} {hp : Hp} {n m nx : Nat} {rw : Bool} {mks : List Tk} {es : List MapEntry} {cl : Nat} {st : Fs} {l}
    (e : flt1 f call rgL (s5 n none (s5 m none hp)) nx (nx + 1) (nx + 2) rw mks es cl st = some l) : SimP P N c ⟨rgL, hpF hp n m nx rw mks es cl st, nx + 2, nx + 2⟩ fun e s' => (e, s') ∈ l := by
  unfold flt1 at e
  rw [sH_eq, sH_eq] at e
  exact (h rgL (hpF hp n m nx rw mks es cl st) (nx + 2) (nx + 2) kn0 kx0 l e).mono fun e' s' ⟨l', h1, h2⟩ => kn0_mem h1 h2
theorem fltK_snd {N : Nat} {c : Code} {f : CC} {call : Call} (h : SndK P N c (f call)) (ks : List Nat) (ti tm : Nat) (tb : Option Nat) : SndK P N (.loop c) (fltK f ks ti tm tb call) := by
  intro rg hp nx wm kn kx r e
  obtain ⟨vi, hvi, e1⟩ := kO_inv e
  obtain ⟨n, q, rfl, e2⟩ := kPtr_inv e1
  obtain ⟨rfl, e3⟩ := k0_inv e2
  obtain ⟨vm, hvm, e4⟩ := kO_inv e3
  rcases kMap_inv e4 with ⟨rfl, e5⟩ | ⟨m, rfl, e5⟩
  · cases e5
  obtain ⟨bi, gn, e6⟩ := kO_inv e5
  obtain ⟨bm, gm, e6'⟩ := kO_inv e6
  obtain ⟨m1, since, rw, mks, es, cl, rfl, rfl, e7⟩ := kIM_inv e6'
  clear e e1 e2 e3 e4 e5 e6 e6'
  obtain ⟨c1, e8⟩ := kIf_inv e7
  clear e7
  simp only [Bool.and_eq_true, Bool.not_eq_true'] at c1
  obtain ⟨d1, d2, d3, d4, d5, d6⟩ := c1
  have hm1 := Nat.eq_of_beq_eq_true d1
  have hcl := Nat.eq_of_beq_eq_true d2
  subst hm1; subst hcl
  have d3 := Nat.blt_eq.mp d3
  have d4 := Nat.blt_eq.mp d4
  have d5 := Nat.ne_of_beq_eq_false d5
  have hks : ∀ t ∈ ks, t < 512 ∧ t ≠ ti ∧ t ≠ tm := fun t ht => by
    have := allB_inv d6 t ht
    simp only [Bool.and_eq_true, Bool.not_eq_true'] at this
    exact ⟨Nat.blt_eq.mp this.1, Nat.ne_of_beq_eq_false this.2.1, Nat.ne_of_beq_eq_false this.2.2⟩
  rw [fN_eq, fN_eq] at e8
  obtain ⟨c2, e9⟩ := kIf_inv e8
  have hx : nx + 2 ≤ 32768 := Nat.le_of_ble_eq_true c2
  obtain ⟨hpB, hB, e9⟩ := bxH_inv e9
  rw [nH_eq, nH_eq, nH_eq] at e9
  obtain ⟨rgL, hrgL⟩ : ∃ rgL, rgLf ks ti tm rg nx (Nat.succ nx) = rgL := ⟨_, rfl⟩
  rw [hrgL] at e9
  obtain ⟨l2, hl2, e10⟩ := kO_inv e9
  obtain ⟨l1, hl1, e11⟩ := kO_inv e10
  clear e8 e9 e10
  obtain ⟨D, e12⟩ := goneL_inv e11
  obtain ⟨c3, e13⟩ := kIf_inv e12
  clear e11 e12
  obtain ⟨x, s2, rfl, e13⟩ := kX1_inv e13
  obtain ⟨c4, e14⟩ := kIf_inv e13
  clear e13
  rw [fE_eq, sH_eq, kMin_eq, kMin_eq] at e14
  unfold rd2 at c4
  simp only [Bool.and_eq_true] at c4
  obtain ⟨f1, f2, f3⟩ := c4
  have hgL : ∀ t v, g3 t rgL = some v → t ∈ ti :: tm :: ks ∧ ((t = ti ∧ v = .pointer (some ⟨nx, 0, none⟩)) ∨ (t = tm ∧ v = .map (some (nx + 1))) ∨ g3 t rg = some v) := fun t v hv => by
    rw [← hrgL] at hv
    unfold rgLf at hv
    by_cases h5 : t < 512
    · rw [g3_s3 _ _ _ _ h5 d3] at hv
      by_cases h6 : t = ti
      · rw [if_pos h6] at hv; injection hv with hv; exact ⟨by simp [h6], .inl ⟨h6, hv.symm⟩⟩
      rw [if_neg h6, g3_s3 _ _ _ _ h5 d4] at hv
      by_cases h7 : t = tm
      · rw [if_pos h7] at hv; injection hv with hv; exact ⟨by simp [h7], .inr (.inl ⟨h7, hv.symm⟩)⟩
      rw [if_neg h7] at hv
      obtain ⟨h8, h9⟩ := g3_restr_some (fun u hu => (hks u hu).1) hv
      exact ⟨by simp [h8], .inr (.inr h9)⟩
    · rw [g3_far _ _ h5] at hv; cases hv
  have hgE : ∀ t v, g3 t (s3 tm (some (.map (some m1))) (restr ks rg)) = some v → (v = .map (some m1) ∧ g3 t rgL = some (.map (some (nx + 1)))) ∨ (g3 t rgL = some v ∧ g3 t rg = some v) := fun t v hv => by
    by_cases h5 : t < 512
    · rw [g3_s3 _ _ _ _ h5 d4] at hv
      by_cases h7 : t = tm
      · rw [if_pos h7] at hv; injection hv with hv
        refine .inl ⟨hv.symm, ?_⟩
        rw [← hrgL, rgLf, g3_s3 _ _ _ _ h5 d3, if_neg (by rw [h7]; exact Ne.symm d5), g3_s3 _ _ _ _ h5 d4, if_pos h7]
      rw [if_neg h7] at hv
      obtain ⟨h8, h9⟩ := g3_restr_some (fun u hu => (hks u hu).1) hv
      refine .inr ⟨?_, h9⟩
      rw [← hrgL, rgLf, g3_s3 _ _ _ _ h5 d3, if_neg (hks t h8).2.1, g3_s3 _ _ _ _ h5 d4, if_neg (hks t h8).2.2]
      exact hv
    · rw [g3_far _ _ h5] at hv; cases hv
  refine SimP.loopF (s := ⟨rg, hp, nx, wm⟩) (rgL := rgL) (rgE := s3 tm (some (.map (some m1))) (restr ks rg)) hx hvi hvm gn gm hB (fun t v hv => (hgL t v hv).2) hgE (anyN D) (fun hne => ?_) ?_
  · cases es with
    | nil => exact absurd rfl hne
    | cons e0 es0 =>
      refine (flt1_snd h (show flt1 f call rgL (s5 n none (s5 m1 none hpB)) nx (nx + 1) (nx + 2) rw mks (e0 :: es0) since .idle = some l1 from hl1)).mono fun e' s' hm => ?_
      have hq := allB_inv c3 _ hm
      unfold rd1 at hq
      simp only [Bool.and_eq_true] at hq
      obtain ⟨q1, q2, q3, q4⟩ := hq
      refine ⟨(by cases e' <;> first | rfl | cases q1), Nat.le_of_ble_eq_true q2, fun t v hv => regsB_inv q3 (hgL t v hv).1 hv, ?_⟩
      split at q4
      · rename_i mm rw' ks' es' cl' st hg
        simp only [Bool.and_eq_true] at q4
        obtain ⟨q5, q6⟩ := q4
        have := Nat.eq_of_beq_eq_true q5
        subst this
        split at q6
        · rename_i b
          exact ⟨_, _, _, _, _, b, hg, .inl ⟨rfl, by simpa using q6⟩⟩
        · rename_i b
          exact ⟨_, _, _, _, _, b, hg, .inr ⟨rfl, q6⟩⟩
        · cases q6
      · cases q4
  · refine (flt1_snd h (show flt1 f call rgL (s5 n none (s5 m1 none hpB)) nx (nx + 1) (nx + 2) rw mks es since .fin = some _ from hl2)).mono fun e' s' hm => ?_
    simp only [List.mem_singleton, Prod.mk.injEq] at hm
    obtain ⟨rfl, rfl⟩ := hm
    refine ⟨Nat.le_of_ble_eq_true f1, fun t v hv => regsB_inv f2 (hgL t v hv).1 hv, ?_, x, rfl, r, ?_, fun _ h => h⟩
    · split at f3
      · rename_i mm rw' ks' es' cl' st hg
        simp only [Bool.and_eq_true] at f3
        obtain ⟨q5, q6⟩ := f3
        have := Nat.eq_of_beq_eq_true q5
        subst this
        split at q6
        · exact ⟨_, _, _, _, hg⟩
        · cases q6
      · cases f3
    · exact e14
/-! ### Loops that look for an entry, and delete another one -/
def exB (a b : Ex) : Bool := match a, b with
  | .exit i, .exit j => Nat.beq i j
  | .ret, .ret => true
  | _, _ => false
theorem exB_eq {a b : Ex} (h : exB a b = true) : a = b := by
  cases a <;> cases b <;> first | rfl | cases h | rw [Nat.eq_of_beq_eq_true h]
def curL (nx : Nat) (l : List (Option Ex × St)) : List Nat := List.rec [] (fun o _ ih => match o.1, g5 nx o.2.hp with
  | none, some (.fit _ _ _ _ _ (.curA b)) => b :: ih
  | _, _ => ih) l
def brkE (nx : Nat) (l : List (Option Ex × St)) : Option (Ex × Nat) := List.rec none (fun o _ ih => match o.1, g5 nx o.2.hp with
  | some x, some (.fit _ _ _ _ _ (.brk _ e)) => some (x, e)
  | _, _ => ih) l
def fndN (D : List Nat) (es : List MapEntry) : Option Nat := List.rec none (fun e _ ih => Bool.rec (some e.born) ih (anyN D e.born)) es
theorem fndN_inv {D : List Nat} {b : Nat} : ∀ {es : List MapEntry}, fndN D es = some b → b ∈ borns es ∧ anyN D b = false
  | [], h => by cases h
  | e :: es, h => by
    replace h : (Bool.rec (some e.born) (fndN D es) (anyN D e.born) : Option Nat) = some b := h
    cases hb : anyN D e.born with
    | false =>
      rw [hb] at h
      have := Option.some.inj h
      subst this
      exact ⟨List.mem_cons_self .., hb⟩
    | true =>
      rw [hb] at h
      obtain ⟨h1, h2⟩ := fndN_inv h
      exact ⟨List.mem_cons_of_mem _ h1, h2⟩
def rdA (nx nx1 : Nat) (rgL : Reg) (ts NS : List Nat) (x : Ex) (e0 : Nat) (o : Option Ex × St) : Bool := and (Nat.ble nx o.2.wm) (and (regsB rgL ts o) (match g5 nx o.2.hp with
  | some (.fit mm _ _ _ _ st) => and (Nat.beq mm nx1) (match o.1, st with
    | none, .curA b => anyN NS b
    | some y, .brk _ e => and (exB y x) (Nat.beq e e0)
    | _, _ => false)
  | _ => false))
def anyK (f : CC) (ks : List Nat) (ti tm : Nat) (tb : Option Nat) : CC := fun call rg hp nx wm kn kx => kO (g3 ti rg) fun vi => kPtr vi fun n q => k0 q (kO (g3 tm rg) fun vm => kMap vm none fun m => kO (g5 n hp) fun bi => kO (g5 m hp) fun bm => kIM bi bm fun m' since rw mks es cl =>
  kIf (and (Nat.beq m' m) (and (Nat.beq since cl) (and (Nat.blt ti 512) (and (Nat.blt tm 512) (and (not (Nat.beq ti tm)) (allB (fun t => and (Nat.blt t 512) (and (not (Nat.beq t ti)) (not (Nat.beq t tm)))) ks))))))
      (fN (Nat.succ nx) fun nx1 => fN (Nat.succ nx1) fun nx2 => kIf (Nat.ble nx2 32768) (bxH tb rg m nx1 hp fun hpB => nH m hpB fun h1 => nH n h1 fun h2 => nH n hp fun h1' =>
        kO (flt1 f call (rgLf ks ti tm rg nx nx1) h2 nx nx1 nx2 rw mks es cl .idleA) fun l1 => Option.rec (fltK f ks ti tm tb call rg hp nx wm kn kx)
          (fun p => kO (fndN (curL nx l1) es) fun b0 => kIf (allB (rdA nx nx1 (rgLf ks ti tm rg nx nx1) (ti :: tm :: ks) (curL nx l1) p.1 p.2) l1)
              (fE [p.2] es fun es' => sH m (.mp rw mks es' cl) h1' fun h5 => kMin n m fun nm => kMin wm nm fun wm' => kx p.1 (s3 tm (some (.map (some m))) (restr ks rg)) h5 nx wm')) (brkE nx l1))))
theorem anyK_snd {N : Nat} {c : Code} {f : CC} {call : Call} (h : SndK P N c (f call)) (ks : List Nat) (ti tm : Nat) (tb : Option Nat) : SndK P N (.loop c) (anyK f ks ti tm tb call) := by
  intro rg hp nx wm kn kx r e
  obtain ⟨vi, hvi, e1⟩ := kO_inv e
  obtain ⟨n, q, rfl, e2⟩ := kPtr_inv e1
  obtain ⟨rfl, e3⟩ := k0_inv e2
  obtain ⟨vm, hvm, e4⟩ := kO_inv e3
  rcases kMap_inv e4 with ⟨rfl, e5⟩ | ⟨m, rfl, e5⟩
  · cases e5
  obtain ⟨bi, gn, e6⟩ := kO_inv e5
  obtain ⟨bm, gm, e6'⟩ := kO_inv e6
  obtain ⟨m1, since, rw, mks, es, cl, rfl, rfl, e7⟩ := kIM_inv e6'
  clear e e1 e2 e3 e4 e5 e6 e6'
  obtain ⟨c1, e8⟩ := kIf_inv e7
  clear e7
  simp only [Bool.and_eq_true, Bool.not_eq_true'] at c1
  obtain ⟨d1, d2, d3, d4, d5, d6⟩ := c1
  have hm1 := Nat.eq_of_beq_eq_true d1
  have hcl := Nat.eq_of_beq_eq_true d2
  subst hm1; subst hcl
  have d3 := Nat.blt_eq.mp d3
  have d4 := Nat.blt_eq.mp d4
  have d5 := Nat.ne_of_beq_eq_false d5
  have hks : ∀ t ∈ ks, t < 512 ∧ t ≠ ti ∧ t ≠ tm := fun t ht => by
    have := allB_inv d6 t ht
    simp only [Bool.and_eq_true, Bool.not_eq_true'] at this
    exact ⟨Nat.blt_eq.mp this.1, Nat.ne_of_beq_eq_false this.2.1, Nat.ne_of_beq_eq_false this.2.2⟩
  rw [fN_eq, fN_eq] at e8
  obtain ⟨c2, e9⟩ := kIf_inv e8
  have hx : nx + 2 ≤ 32768 := Nat.le_of_ble_eq_true c2
  obtain ⟨hpB, hB, e9⟩ := bxH_inv e9
  rw [nH_eq, nH_eq, nH_eq] at e9
  obtain ⟨rgL, hrgL⟩ : ∃ rgL, rgLf ks ti tm rg nx (Nat.succ nx) = rgL := ⟨_, rfl⟩
  rw [hrgL] at e9
  obtain ⟨l1, hl1, e10⟩ := kO_inv e9
  clear e8 e9
  cases hbrk : brkE nx l1 with
  | none => rw [hbrk] at e10; exact fltK_snd h ks ti tm tb rg hp nx wm kn kx r e10
  | some p =>
    rw [hbrk] at e10
    obtain ⟨b0, hb0, e11⟩ := kO_inv (show kO (fndN (curL nx l1) es) _ = some r from e10)
    obtain ⟨c3, e14⟩ := kIf_inv e11
    rw [fE_eq, sH_eq, kMin_eq, kMin_eq] at e14
    obtain ⟨f1, f2⟩ := fndN_inv hb0
    have hgL : ∀ t v, g3 t rgL = some v → t ∈ ti :: tm :: ks ∧ ((t = ti ∧ v = .pointer (some ⟨nx, 0, none⟩)) ∨ (t = tm ∧ v = .map (some (nx + 1))) ∨ g3 t rg = some v) := fun t v hv => by
      rw [← hrgL] at hv
      unfold rgLf at hv
      by_cases h5 : t < 512
      · rw [g3_s3 _ _ _ _ h5 d3] at hv
        by_cases h6 : t = ti
        · rw [if_pos h6] at hv; injection hv with hv; exact ⟨by simp [h6], .inl ⟨h6, hv.symm⟩⟩
        rw [if_neg h6, g3_s3 _ _ _ _ h5 d4] at hv
        by_cases h7 : t = tm
        · rw [if_pos h7] at hv; injection hv with hv; exact ⟨by simp [h7], .inr (.inl ⟨h7, hv.symm⟩)⟩
        rw [if_neg h7] at hv
        obtain ⟨h8, h9⟩ := g3_restr_some (fun u hu => (hks u hu).1) hv
        exact ⟨by simp [h8], .inr (.inr h9)⟩
      · rw [g3_far _ _ h5] at hv; cases hv
    have hgE : ∀ t v, g3 t (s3 tm (some (.map (some m1))) (restr ks rg)) = some v → (v = .map (some m1) ∧ g3 t rgL = some (.map (some (nx + 1)))) ∨ (g3 t rgL = some v ∧ g3 t rg = some v) := fun t v hv => by
      by_cases h5 : t < 512
      · rw [g3_s3 _ _ _ _ h5 d4] at hv
        by_cases h7 : t = tm
        · rw [if_pos h7] at hv; injection hv with hv
          refine .inl ⟨hv.symm, ?_⟩
          rw [← hrgL, rgLf, g3_s3 _ _ _ _ h5 d3, if_neg (by rw [h7]; exact Ne.symm d5), g3_s3 _ _ _ _ h5 d4, if_pos h7]
        rw [if_neg h7] at hv
        obtain ⟨h8, h9⟩ := g3_restr_some (fun u hu => (hks u hu).1) hv
        refine .inr ⟨?_, h9⟩
        rw [← hrgL, rgLf, g3_s3 _ _ _ _ h5 d3, if_neg (hks t h8).2.1, g3_s3 _ _ _ _ h5 d4, if_neg (hks t h8).2.2]
        exact hv
      · rw [g3_far _ _ h5] at hv; cases hv
    refine SimP.loopA (s := ⟨rg, hp, nx, wm⟩) (rgL := rgL) (rgE := s3 tm (some (.map (some m1))) (restr ks rg)) hx hvi hvm gn gm hB (fun t v hv => (hgL t v hv).2) hgE f1 (NS := anyN (curL nx l1)) f2 (e0 := p.2) ?_
    refine (flt1_snd h (show flt1 f call rgL (s5 n none (s5 m1 none hpB)) nx (nx + 1) (nx + 2) rw mks es since .idleA = some l1 from hl1)).mono fun e' s' hm => ?_
    have hq := allB_inv c3 _ hm
    unfold rdA at hq
    simp only [Bool.and_eq_true] at hq
    obtain ⟨q2, q3, q4⟩ := hq
    refine ⟨Nat.le_of_ble_eq_true q2, fun t v hv => regsB_inv q3 (hgL t v hv).1 hv, ?_⟩
    split at q4
    · rename_i mm rw' ks' es' cl' st hg
      simp only [Bool.and_eq_true] at q4
      obtain ⟨q5, q6⟩ := q4
      have := Nat.eq_of_beq_eq_true q5
      subst this
      split at q6
      · rename_i b
        exact ⟨_, _, _, _, _, b, hg, .inl ⟨rfl, rfl, q6⟩⟩
      · rename_i y b d
        simp only [Bool.and_eq_true] at q6
        have h1 := exB_eq q6.1
        have h2 := Nat.eq_of_beq_eq_true q6.2
        subst h1; subst h2
        refine ⟨_, _, _, _, _, b, hg, .inr ⟨_, rfl, rfl, r, ?_, fun _ h => h⟩⟩
        have hfil : (es.filter fun e => !(e.born == p.2)) = es.filter fun e => !anyN [p.2] e.born := List.filter_congr fun e _ => by
          have : anyN [p.2] e.born = (e.born == p.2) := by
            show (Bool.rec false true (Nat.beq p.2 e.born) : Bool) = _
            rw [Bool.eq_iff_iff]
            constructor
            · intro hh
              cases hb : Nat.beq p.2 e.born with
              | false => rw [hb] at hh; cases hh
              | true => simpa using (Nat.eq_of_beq_eq_true hb).symm
            · intro hh
              have : e.born = p.2 := by simpa using hh
              rw [this, Nat.beq_refl]
          rw [this]
        have hE2 : hpE hp n m1 rw mks es since (fun d => d == p.2) = s5 m1 (some (.mp rw mks (es.filter fun e => !anyN [p.2] e.born) since)) (s5 n none hp) := by unfold hpE; rw [hfil]
        show kx p.1 (s3 tm (some (.map (some m1))) (restr ks rg)) (hpE hp n m1 rw mks es since (fun d => d == p.2)) nx (min wm (min n m1)) = some r
        rw [hE2]
        exact e14
      · cases q6
    · cases q4
/-! ### Iterators whose keys nobody looks at -/
def cntK (f : CC) (ti : Nat) : CC := fun call rg hp nx wm kn kx => kO (g3 ti rg) fun v => kPtr v fun n q => k0 q (kO (g5 n hp) fun b => match b with
  | .it m since [] => sH n (.cit m since 0) hp fun hp' => kMin wm n fun wm' => iterB f call kx 100000 rg hp' nx wm'
  | _ => none)
theorem iterB_snd {N : Nat} {c : Code} {f : CC} {call : Call} (h : SndK P N c (f call)) {rg : Reg} {hp : Hp} {nx wm n : Nat} {kn : KS} {kx : Ex → KS} {r} (e : iterB f call kx n rg hp nx wm = some r) : SimP P N (.loop c) ⟨rg, hp, nx, wm⟩ fun e s' => ∃ l, kE kn kx e s'.rg s'.hp s'.nx s'.wm = some l ∧ ∀ q ∈ l, q ∈ r := by
  refine SimP.loop (fun n s => ∃ l, iterB f call kx n s.rg s.hp s.nx s.wm = some l ∧ ∀ q ∈ l, q ∈ r) (fun n s ⟨l, h1, h2⟩ => ?_) (k := n) ⟨r, e, fun _ h => h⟩
  cases n with
  | zero => cases h1
  | succ n =>
    refine (h s.rg s.hp s.nx s.wm _ kx l h1).mono fun e' s' ⟨l', h3, h4⟩ => ?_
    cases e' with
    | none => exact ⟨n, Nat.lt_succ_self n, l', h3, fun q hq => h2 q (h4 q hq)⟩
    | some x => exact ⟨l', h3, fun q hq => h2 q (h4 q hq)⟩
theorem cntK_snd {N : Nat} {c : Code} {f : CC} {call : Call} (h : SndK P N c (f call)) (ti : Nat) : SndK P N (.loop c) (cntK f ti call) := by
  intro rg hp nx wm kn kx r e
  obtain ⟨v, hv, e⟩ := kO_inv e
  obtain ⟨n, q, rfl, e⟩ := kPtr_inv e
  obtain ⟨rfl, e⟩ := k0_inv e
  obtain ⟨b, hb, e⟩ := kO_inv e
  cases b with
  | it m since seen =>
    cases seen with
    | cons _ _ => cases e
    | nil =>
      replace e := (sH_eq _ _ _ _).symm.trans e
      rw [kMin_eq] at e
      exact SimP.count (s := ⟨rg, hp, nx, wm⟩) ⟨ti, hv⟩ hb (iterB_snd h e)
  | _ => cases e
def isNx (N : Nat) (l : List Oper) : Option (Operand × Nat × Nat) := match l with
  | [⟨some d1, .next x false, _, _, _, none⟩, ⟨some d2, .extract (.tmp d) 0, _, _, _, none⟩] => Bool.rec none (some (x, d1, d2)) (and (Nat.beq d d1) (and (Nat.blt d1 N) (and (Nat.blt d1 512) (and (Nat.blt d2 N) (Nat.blt d2 512)))))
  | _ => none
theorem isNx_inv {N : Nat} {l : List Oper} {x : Operand} {d1 d2 : Nat} (h : isNx N l = some (x, d1, d2)) : ∃ o1 o2, l = [o1, o2] ∧ o1.op = .next x false ∧ o2.op = .extract (.tmp d1) 0 ∧ o1.guard = none ∧ o2.guard = none ∧ o1.dst = some d1 ∧ o2.dst = some d2 ∧ (d1 < N ∧ d1 < 512) ∧ (d2 < N ∧ d2 < 512) := by
  unfold isNx at h
  split at h
  · rename_i e1 x' _ _ _ e2 d _ _ _
    cases hb : and (Nat.beq d e1) (and (Nat.blt e1 N) (and (Nat.blt e1 512) (and (Nat.blt e2 N) (Nat.blt e2 512)))) with
    | false => rw [hb] at h; cases h
    | true =>
      rw [hb] at h
      have h := Option.some.inj h
      injection h with h1 h2
      injection h2 with h2 h3
      subst h1; subst h2; subst h3
      simp only [Bool.and_eq_true] at hb
      have := Nat.eq_of_beq_eq_true hb.1
      subst this
      exact ⟨_, _, rfl, rfl, rfl, rfl, rfl, rfl, rfl, ⟨Nat.blt_eq.mp hb.2.1, Nat.blt_eq.mp hb.2.2.1⟩, Nat.blt_eq.mp hb.2.2.2.1, Nat.blt_eq.mp hb.2.2.2.2⟩
  · cases h
def cxR (p : Operand × Nat × Nat) (f : RgF) : RgF := fun call rg hp nx wm k => kO ((gO p.1).get rg) fun v => kPtr v fun n q => kO (g5 n hp) fun b => match b with
  | .cit m since j => k0 q (kO (g5 m hp) fun bm => match bm with
    | .mp _ _ es cl => kIf (Nat.beq cl since) (Bool.rec (List.rec ((s3B An p.2.1).get none rg fun rg => (s3B An p.2.2).get (some (.bool false)) rg fun rg => k rg hp nx wm) (fun _ _ _ => none) es)
        (fN (Nat.succ j) fun j' => sH n (.cit m since j') hp fun hp => kMin wm n fun wm => (s3B An p.2.1).get none rg fun rg => (s3B An p.2.2).get (some (.bool true)) rg fun rg => k rg hp nx wm) (Nat.blt j (len es)))
    | _ => none)
  | _ => f call rg hp nx wm k
theorem cxR_snd {N : Nat} {ops : Array Oper} {l : List Oper} {f : RgF} {call : Call} (h : SndR P N ops l (f call)) {p : Operand × Nat × Nat} (hp : isNx N l = some p) : SndR P N ops l (cxR p f call) := by
  obtain ⟨x, d1, d2⟩ := p
  obtain ⟨o1, o2, rfl, h1, h2, g1, g2, e1, e2, hd1, hd2⟩ := isNx_inv hp
  intro rg hp nx wm k r e
  obtain ⟨v, hv, e3⟩ := kO_inv e
  obtain ⟨n, q, rfl, e4⟩ := kPtr_inv e3
  obtain ⟨b, hb, e5⟩ := kO_inv e4
  clear e e3 e4
  cases b with
  | cit m since j =>
    obtain ⟨rfl, e6⟩ := k0_inv (show k0 q _ = some r from e5)
    obtain ⟨bm, hbm, e7⟩ := kO_inv e6
    clear e5 e6
    cases bm with
    | mp rw' ks es cl =>
      obtain ⟨c1, e8⟩ := kIf_inv (show kIf _ _ = some r from e7)
      have := Nat.eq_of_beq_eq_true c1
      subst this
      rw [gO_eq] at hv
      refine SimRP.counted (s := ⟨rg, hp, nx, wm⟩) h1 h2 g1 g2 e1 e2 hd1 hd2 hv hb hbm (fun hlt => ?_) (fun hn => ?_)
      · rw [← len_eq] at hlt
        rw [Nat.blt_eq.mpr hlt] at e8
        replace e8 := (fN_eq _ _).symm.trans e8
        rw [sH_eq, kMin_eq] at e8
        replace e8 := (s3_on An _ _ _ _).symm.trans e8
        replace e8 := (s3_on An _ _ _ _).symm.trans e8
        exact ⟨r, e8, fun _ h => h⟩
      · rw [← len_eq] at hn
        have : Nat.blt j (len es) = false := by
          cases hb : Nat.blt j (len es) with
          | false => rfl
          | true => exact absurd (Nat.blt_eq.mp hb) hn
        rw [this] at e8
        cases es with
        | cons _ _ => cases e8
        | nil =>
          replace e8 := (s3_on An _ _ _ _).symm.trans e8
          replace e8 := (s3_on An _ _ _ _).symm.trans e8
          exact ⟨rfl, r, e8, fun _ h => h⟩
    | _ => cases e7
  | _ => exact h rg hp nx wm k r e5
def cxO (N : Nat) (l : List Oper) (f : RgF) : RgF := Option.rec f (fun p => cxR p f) (isNx N l)
theorem cxO_snd {N : Nat} {ops : Array Oper} {l : List Oper} {f : RgF} {call : Call} (h : SndR P N ops l (f call)) : SndR P N ops l (cxO N l f call) := by
  unfold cxO
  cases hp : isNx N l with
  | none => exact h
  | some p => exact cxR_snd h hp
inductive LH where
  | flt (ks : List Nat) (ti tm : Nat) (tb : Option Nat)
  | cnt (ti : Nat)
  | any (ks : List Nat) (ti tm : Nat) (tb : Option Nat)
def loopH (f : CC) (h : LH) : CC := match h with
  | .flt ks ti tm tb => fltK f ks ti tm tb
  | .cnt ti => cntK f ti
  | .any ks ti tm tb => anyK f ks ti tm tb
theorem loopH_snd {N : Nat} {c : Code} {f : CC} {call : Call} (h : SndK P N c (f call)) (p : LH) : SndK P N (.loop c) (loopH f p call) := by
  cases p with
  | flt ks ti tm tb => exact fltK_snd h ks ti tm tb
  | cnt ti => exact cntK_snd h ti
  | any ks ti tm tb => exact anyK_snd h ks ti tm tb
structure Ht where
  fs : Nat
  sg : Nat → Option (List Nat × Option Nat)
  lf : Nat → Option LH
  fr : Nat → Bool
  sq : Nat → Option (Nat × List Nat)
def ht0 : Ht := ⟨0, fun _ => none, fun _ => none, fun _ => false, fun _ => none⟩
def fid (c : Code) : Nat := Code.rec (motive := fun _ => Nat) 0 (fun id _ _ => id) (fun _ _ a _ => a) (fun _ _ _ a _ => a) (fun _ _ a => a) (fun _ a => a) (fun _ _ _ _ a _ => a) (fun _ => 0) (fun _ a => a) (fun _ => 0) (fun _ => 0) 0 (fun _ => 0) c
/-! ### Where codes one after another come together -/
def rowsKA (R : List (Nat × Blk)) (hp : Hp) (k : Hp → An) : An := rowsK An R hp k
def okM (nx : Nat) (ks reach : List Nat) (R : List (Nat × Blk)) (rg0 : Reg) (o : Option Ex × St) : Bool := and (match o.1 with | none => true | some _ => false) (and (Nat.ble nx o.2.wm) (and (okR nx (zipR reach (bfs nx o.2.hp 1000 (nsL (rgsV ks o.2.rg) []) [])) R o.2.hp) (okG nx (zipR reach (bfs nx o.2.hp 1000 (nsL (rgsV ks o.2.rg) []) [])) ks rg0 o.2.rg)))
def mgL (ks : List Nat) (hp : Hp) (nx wm : Nat) (kn : KS) (l : List (Option Ex × St)) : An := List.rec none (fun o0 _ _ => kO (rowsOf (bfs nx o0.2.hp 1000 (nsL (rgsV ks o0.2.rg) []) []) o0.2.hp) fun R =>
  kIf (and (bdR nx o0.2.nx R) (and (allB (fun t => Nat.blt t 512) ks) (allB (okM nx ks (bfs nx o0.2.hp 1000 (nsL (rgsV ks o0.2.rg) []) []) R o0.2.rg) l))) (rowsKA R hp fun hp => kn (restr ks o0.2.rg) hp o0.2.nx wm)) l
def mgK (f : CC) (ks : List Nat) : CC := fun call rg hp nx wm kn kx => kO (f call rg hp nx nx kn0 kx0) (mgL ks hp nx wm kn)
def SndL (P : Program) (N : Nat) (l : List Code) (f : Reg → Hp → Nat → Nat → KS → (Ex → KS) → An) : Prop :=
  ∀ rg hp nx wm kn kx r, f rg hp nx wm kn kx = some r → SimL P N l ⟨rg, hp, nx, wm⟩ fun e s' => ∃ l, kE kn kx e s'.rg s'.hp s'.nx s'.wm = some l ∧ ∀ q ∈ l, q ∈ r
theorem mgK_snd {N : Nat} {l : List Code} {f : CC} {call : Call} (h : SndL P N l (f call)) (ks : List Nat) : SndL P N l (mgK f ks call) := by
  intro rg hp nx wm kn kx r e
  obtain ⟨os, hos, e1⟩ := kO_inv e
  cases os with
  | nil => cases e1
  | cons o0 m =>
    obtain ⟨R, hR, e2⟩ := kO_inv (show kO (rowsOf (bfs nx o0.2.hp 1000 (nsL (rgsV ks o0.2.rg) []) []) o0.2.hp) _ = some r from e1)
    obtain ⟨c1, e3⟩ := kIf_inv e2
    simp only [Bool.and_eq_true] at c1
    obtain ⟨c1, c2, c3⟩ := c1
    obtain ⟨b1, b2, b3⟩ := bdR_ok c1
    rw [rowsKA, rowsK_eq] at e3
    refine SimL.merge (s := ⟨rg, hp, nx, wm⟩) (R := R) (nxc := o0.2.nx) (rgK := restr ks o0.2.rg) b3 b1 b2 ((h rg hp nx nx kn0 kx0 _ hos).mono fun e' s' ⟨l', h1, h2⟩ => ?_) ⟨r, e3, fun _ h => h⟩
    have hm := kn0_mem h1 h2
    have hq := allB_inv c3 _ hm
    unfold okM at hq
    simp only [Bool.and_eq_true] at hq
    obtain ⟨q1, q2, q3, q4⟩ := hq
    refine ⟨(by cases e' <;> first | rfl | cases q1), Nat.le_of_ble_eq_true q2, _, okR_ok q3, fun t v hv => ?_⟩
    obtain ⟨g1, g2⟩ := g3_restr_some (fun u hu => Nat.blt_eq.mp (allB_inv c2 u hu)) hv
    exact okG_inv q4 g1 g2

structure SP where
  full : Bx CC
  spl : Nat → Bx CC × Bx CC
def skCC : Bx CC := Bx.mk fun _ rg hp nx wm kn _ => kn rg hp nx wm
def sqCC (a b : Bx CC) : Bx CC := a.on fun fa => b.on fun fb => Bx.mk fun call rg hp nx wm kn kx => fa call rg hp nx wm (fun rg hp nx wm => fb call rg hp nx wm kn kx) kx
def oneS (f : Bx CC) : SP := ⟨f, fun _ => (skCC, f)⟩
def splS (A B : SP) (k : Nat) : Bx CC × Bx CC := Nat.rec (skCC, sqCC A.full B.full) (fun k _ => (sqCC A.full (B.spl k).1, (B.spl k).2)) k
def mgB (ks : List Nat) (p : Bx CC × Bx CC) : Bx CC := sqCC (p.1.on fun f => Bx.mk (mgK f ks)) p.2
def sqS (h : Option (Nat × List Nat)) (A B : SP) : SP := ⟨Option.rec (sqCC A.full B.full) (fun p => mgB p.2 (splS A B p.1)) h, splS A B⟩
def codeS (cx : Cx) (sg : Ht) (N : Nat) (c : Code) : SP :=
  Code.rec (motive := fun _ => SP)
    (oneS (Bx.mk fun _ rg hp nx wm kn _ => kn rg hp nx wm))
    (fun id ops dr => oneS (Bool.rec ((opsB cx N ops.toList ops.toList).on fun f => Bx.mk fun call rg hp nx wm kn _ => cxO N ops.toList f call rg hp nx wm kn) ((drB (sg.fr id) cx N ops.toList (msks ops.toList []) (rks ops.toList)).on fun f => Bx.mk fun call rg hp nx wm kn _ => f call rg hp nx wm kn) dr))
    (fun a _ iha ihb => sqS (sg.sq (fid a)) iha ihb)
    (fun c _ _ iha ihb => oneS ((gO c).on fun g => iha.full.on fun fa => ihb.full.on fun fb => Bx.mk fun call rg hp nx wm kn kx => kO (g rg) fun v => kBool v fun t => Bool.rec (fb call rg hp nx wm kn kx) (fa call rg hp nx wm kn kx) t))
    (fun id _ ih => oneS (ih.full.on fun f => Option.rec (Bx.mk (blF id f)) (fun ks => Bx.mk (segB (blF id f) ks)) (sg.sg id)))
    (fun c ih => oneS (ih.full.on fun f => Option.rec (Bx.mk fun call rg hp nx wm _ kx => iterB f call kx 100000 rg hp nx wm) (fun p => Bx.mk (loopH f p)) (sg.lf (fid c))))
    (fun fo ps asg body _ _ => oneS ((gO fo).on fun g => Bx.mk (rfB N ps.toList asg body g)))
    (fun id => oneS (Bx.mk fun _ rg hp nx wm _ kx => kx (.exit id) rg hp nx wm))
    (fun _ ih => oneS ih.full)
    (fun _ => oneS (Bx.mk fun _ rg hp nx wm kn _ => kn rg hp nx wm))
    (fun _ => oneS (Bx.mk fun _ _ _ _ _ _ _ => none))
    (oneS (Bx.mk fun _ rg hp nx wm _ kx => kx .ret rg hp nx wm))
    (fun _ => oneS (Bx.mk fun _ _ _ _ _ _ _ => none))
    c
def codeB (cx : Cx) (sg : Ht) (N : Nat) (c : Code) : Bx CC := (codeS cx sg N c).full
def preC : Nat → Code → List Code
  | k + 1, .seq a b => a :: preC k b
  | _, _ => []
def resC : Nat → Code → Code
  | k + 1, .seq _ b => resC k b
  | _, c => c
theorem seqs_pre : ∀ (k : Nat) (c : Code), seqs (preC k c) (resC k c) = c
  | 0, _ => rfl
  | k + 1, .seq a b => congrArg (Code.seq a) (seqs_pre k b)
  | _ + 1, .skip | _ + 1, .region _ _ _ | _ + 1, .cond _ _ _ | _ + 1, .block _ _ | _ + 1, .loop _ | _ + 1, .rangeFunc _ _ _ _ | _ + 1, .exit _ | _ + 1, .scope _ | _ + 1, .label _ | _ + 1, .goto _ | _ + 1, .ret | _ + 1, .refuse _ => rfl
theorem skCC_snd {N : Nat} {call : Call} : SndL P N [] (skCC.get call) := fun rg hp nx wm kn kx r e => SimL.nil ⟨r, e, fun _ h => h⟩
theorem sqCC_snd {N : Nat} {a b : Code} {A B : Bx CC} {call : Call} (ha : SndK P N a (A.get call)) (hb : SndK P N b (B.get call)) : SndK P N (.seq a b) ((sqCC A B).get call) := by
  intro rg hp nx wm kn kx r e
  unfold sqCC at e
  rw [Bx.on_eq, Bx.on_eq] at e
  refine .seq ((ha rg hp nx wm _ kx r e).mono fun e' s' ⟨l, h1, h2⟩ => ?_)
  cases e' with
  | none => exact (hb _ _ _ _ kn kx l h1).mono fun e2 s2 ⟨l2, h3, h4⟩ => ⟨l2, h3, fun q hq => h2 q (h4 q hq)⟩
  | some x => exact ⟨l, h1, h2⟩
theorem sqCC_sndL {N : Nat} {a : Code} {l : List Code} {A B : Bx CC} {call : Call} (ha : SndK P N a (A.get call)) (hb : SndL P N l (B.get call)) : SndL P N (a :: l) ((sqCC A B).get call) := by
  intro rg hp nx wm kn kx r e
  unfold sqCC at e
  rw [Bx.on_eq, Bx.on_eq] at e
  refine .cons ((ha rg hp nx wm _ kx r e).mono fun e' s' ⟨l, h1, h2⟩ => ?_)
  cases e' with
  | none => exact (hb _ _ _ _ kn kx l h1).mono fun e2 s2 ⟨l2, h3, h4⟩ => ⟨l2, h3, fun q hq => h2 q (h4 q hq)⟩
  | some x => exact ⟨l, h1, h2⟩
theorem sqCC_sndR {N : Nat} {l : List Code} {c : Code} {A B : Bx CC} {call : Call} (ha : SndL P N l (A.get call)) (hb : SndK P N c (B.get call)) : SndK P N (seqs l c) ((sqCC A B).get call) := by
  intro rg hp nx wm kn kx r e
  unfold sqCC at e
  rw [Bx.on_eq, Bx.on_eq] at e
  refine SimL.toP ((ha rg hp nx wm _ kx r e).mono fun e' s' ⟨l, h1, h2⟩ => ?_)
  cases e' with
  | none => exact (hb _ _ _ _ kn kx l h1).mono fun e2 s2 ⟨l2, h3, h4⟩ => ⟨l2, h3, fun q hq => h2 q (h4 q hq)⟩
  | some x => exact ⟨l, h1, h2⟩
def SndS (P : Program) (N : Nat) (c : Code) (S : SP) (call : Call) : Prop := SndK P N c (S.full.get call) ∧ ∀ k, SndL P N (preC k c) ((S.spl k).1.get call) ∧ SndK P N (resC k c) ((S.spl k).2.get call)
theorem oneS_snd {N : Nat} {c : Code} {f : Bx CC} {call : Call} (h : SndK P N c (f.get call)) (h1 : ∀ k, preC k c = []) (h2 : ∀ k, resC k c = c) : SndS P N c (oneS f) call := ⟨h, fun k => by rw [h1, h2]; exact ⟨skCC_snd, h⟩⟩
theorem splS_snd {N : Nat} {a b : Code} {A B : SP} {call : Call} (ha : SndS P N a A call) (hb : SndS P N b B call) (k : Nat) : SndL P N (preC k (.seq a b)) ((splS A B k).1.get call) ∧ SndK P N (resC k (.seq a b)) ((splS A B k).2.get call) := by
  cases k with
  | zero => exact ⟨skCC_snd, sqCC_snd ha.1 hb.1⟩
  | succ k => exact ⟨sqCC_sndL ha.1 (hb.2 k).1, (hb.2 k).2⟩
theorem sqS_snd {N : Nat} {a b : Code} {A B : SP} {call : Call} (h : Option (Nat × List Nat)) (ha : SndS P N a A call) (hb : SndS P N b B call) : SndS P N (.seq a b) (sqS h A B) call := by
  refine ⟨?_, splS_snd ha hb⟩
  cases h with
  | none => exact sqCC_snd ha.1 hb.1
  | some p =>
    obtain ⟨h1, h2⟩ := splS_snd ha hb p.1
    have h3 : SndL P N (preC p.1 (.seq a b)) (((splS A B p.1).1.on fun f => Bx.mk (mgK f p.2)).get call) := by
      rw [Bx.on_eq]; exact mgK_snd h1 p.2
    have := sqCC_sndR h3 h2
    rw [seqs_pre] at this
    exact this

theorem codeS_snd (hc : CxOk P cx) {call : Call} (hcall : CallOk P call) {sg : Ht} {N : Nat} (c : Code) : SndS P N c (codeS cx sg N c) call := by
  induction c with
  | skip => exact oneS_snd (fun rg hp nx wm kn kx r e => .skip ⟨r, e, fun _ h => h⟩) (fun k => by cases k <;> rfl) (fun k => by cases k <;> rfl)
  | region id ops dr =>
    refine oneS_snd ?_ (fun k => by cases k <;> rfl) (fun k => by cases k <;> rfl)
    intro rg hp nx wm kn kx r e
    cases dr with
    | false =>
      replace e : ((opsB cx N ops.toList ops.toList).on fun f => Bx.mk fun call rg hp nx wm kn (_ : Ex → KS) => cxO N ops.toList f call rg hp nx wm kn).get call rg hp nx wm kn kx = some r := e
      rw [Bx.on_eq] at e
      exact .region ((cxO_snd (opsB_snd hc hcall ops.toList) rg hp nx wm kn r e).mono fun s' h => h)
    | true =>
      replace e : ((drB (sg.fr id) cx N ops.toList (msks ops.toList []) (rks ops.toList)).on fun f => Bx.mk fun call rg hp nx wm kn (_ : Ex → KS) => f call rg hp nx wm kn).get call rg hp nx wm kn kx = some r := e
      rw [Bx.on_eq] at e
      exact (drB_snd hc hcall e).mono fun e' s' ⟨h1, h2⟩ => by subst h1; exact h2
  | seq a b iha ihb => exact sqS_snd _ iha ihb
  | cond o a b iha ihb =>
    refine oneS_snd ?_ (fun k => by cases k <;> rfl) (fun k => by cases k <;> rfl)
    intro rg hp nx wm kn kx r e
    replace e : ((gO o).on fun g => (codeB cx sg N a).on fun fa => (codeB cx sg N b).on fun fb => Bx.mk fun call rg hp nx wm kn kx => kO (g rg) fun v => kBool v fun t => (Bool.rec (fb call rg hp nx wm kn kx) (fa call rg hp nx wm kn kx) t : An)).get call rg hp nx wm kn kx = some r := e
    rw [Bx.on_eq, Bx.on_eq, Bx.on_eq] at e
    obtain ⟨v, hv, e1⟩ := kO_inv (show kO ((gO o).get rg) _ = some r from e)
    rw [gO_eq] at hv
    obtain ⟨t, rfl, e2⟩ := kBool_inv e1
    refine .cond hv ?_
    cases t with
    | true => exact iha.1 rg hp nx wm kn kx r e2
    | false => exact ihb.1 rg hp nx wm kn kx r e2
  | block id a ih =>
    refine oneS_snd ?_ (fun k => by cases k <;> rfl) (fun k => by cases k <;> rfl)
    replace ih := ih.1
    have key : SndK P N (.block id a) (blF id (codeB cx sg N a).get call) := by
      intro rg hp nx wm kn kx r e
      refine .block ((ih rg hp nx wm kn (kxB id kn kx) r e).mono fun e' s' ⟨l, h1, h2⟩ => ?_)
      match e', h1 with
      | none, h1 => exact ⟨l, h1, h2⟩
      | some .ret, h1 => exact ⟨l, h1, h2⟩
      | some (.exit i), h1 =>
        replace h1 : (Bool.rec (kx (.exit i) s'.rg s'.hp s'.nx s'.wm) (kn s'.rg s'.hp s'.nx s'.wm) (Nat.beq i id) : An) = some l := h1
        show if i = id then _ else _
        cases hb : Nat.beq i id with
        | true => rw [hb] at h1; rw [if_pos (Nat.eq_of_beq_eq_true hb)]; exact ⟨l, h1, h2⟩
        | false => rw [hb] at h1; rw [if_neg (Nat.ne_of_beq_eq_false hb)]; exact ⟨l, h1, h2⟩
    have hE : (codeB cx sg N (.block id a)).get = (Option.rec (Bx.mk (blF id (codeB cx sg N a).get)) (fun ks => Bx.mk (segB (blF id (codeB cx sg N a).get) ks)) (sg.sg id) : Bx CC).get := by
      show ((codeB cx sg N a).on fun f => (Option.rec (Bx.mk (blF id f)) (fun ks => Bx.mk (segB (blF id f) ks)) (sg.sg id) : Bx CC)).get = _
      rw [Bx.on_eq]
    show SndK P N (.block id a) ((codeB cx sg N (.block id a)).get call)
    rw [hE]
    cases sg.sg id with
    | none => exact key
    | some ks => exact segB_snd key ks
  | loop a ih =>
    refine oneS_snd ?_ (fun k => by cases k <;> rfl) (fun k => by cases k <;> rfl)
    replace ih := ih.1
    intro rg hp nx wm kn kx r e
    replace e : ((codeB cx sg N a).on fun f => (Option.rec (Bx.mk fun call rg hp nx wm (_ : KS) kx => iterB f call kx 100000 rg hp nx wm) (fun p => Bx.mk (loopH f p)) (sg.lf (fid a)) : Bx CC)).get call rg hp nx wm kn kx = some r := e
    rw [Bx.on_eq] at e
    cases hlf : sg.lf (fid a) with
    | some p => rw [hlf] at e; exact loopH_snd ih p rg hp nx wm kn kx r e
    | none =>
    rw [hlf] at e
    replace e : iterB (codeB cx sg N a).get call kx 100000 rg hp nx wm = some r := e
    refine SimP.loop (fun n s => ∃ l, iterB (codeB cx sg N a).get call kx n s.rg s.hp s.nx s.wm = some l ∧ ∀ q ∈ l, q ∈ r) (fun n s ⟨l, h1, h2⟩ => ?_) (k := 100000) ⟨r, e, fun _ h => h⟩
    cases n with
    | zero => cases h1
    | succ n =>
      refine (ih s.rg s.hp s.nx s.wm _ kx l h1).mono fun e' s' ⟨l', h3, h4⟩ => ?_
      cases e' with
      | none => exact ⟨n, Nat.lt_succ_self n, l', h3, fun q hq => h2 q (h4 q hq)⟩
      | some x => exact ⟨l', h3, fun q hq => h2 q (h4 q hq)⟩
  | rangeFunc fo ps asg body _ _ =>
    refine oneS_snd ?_ (fun k => by cases k <;> rfl) (fun k => by cases k <;> rfl)
    intro rg hp nx wm kn kx r e
    replace e : ((gO fo).on fun g => Bx.mk (rfB N ps.toList asg body g)).get call rg hp nx wm kn kx = some r := e
    rw [Bx.on_eq] at e
    obtain ⟨v, hv, e1⟩ := kO_inv (show kO ((gO fo).get rg) _ = some r from e)
    rw [gO_eq] at hv
    obtain ⟨f, first, cap, rfl, e2⟩ := kFun_inv e1
    cases f with
    | func q =>
      obtain ⟨hn, e3⟩ := kIf_inv (show kIf _ _ = some r from e2)
      rw [sH_eq] at e3
      obtain ⟨c, hcc, e4⟩ := kO_inv e3
      obtain ⟨b, hb, e5⟩ := kO_inv e4
      cases b with
      | lp n' rg' ps' asg' body' pend =>
        obtain ⟨ex, hex, e6⟩ := kO_inv (show kO (exOf pend) _ = some r from e5)
        rw [nH_eq, kMin_eq] at e6
        have hF := hcall _ _ _ _ _ _ hcc
        rw [app_eq] at hF
        refine (SimC.rangeFunc (s := ⟨rg, hp, nx, wm⟩) hv (Nat.blt_eq.mp hn) hF hb hex).toP fun e' s' hmem => ?_
        simp only [List.mem_singleton, Prod.mk.injEq] at hmem
        obtain ⟨rfl, rfl⟩ := hmem
        exact ⟨r, e6, fun _ h => h⟩
      | _ => cases e5
    | _ => cases e2
  | exit id => exact oneS_snd (fun rg hp nx wm kn kx r e => .exit ⟨r, e, fun _ h => h⟩) (fun k => by cases k <;> rfl) (fun k => by cases k <;> rfl)
  | scope a ih => exact oneS_snd (fun rg hp nx wm kn kx r e => .scope (ih.1 rg hp nx wm kn kx r e)) (fun k => by cases k <;> rfl) (fun k => by cases k <;> rfl)
  | label l => exact oneS_snd (fun rg hp nx wm kn kx r e => .label ⟨r, e, fun _ h => h⟩) (fun k => by cases k <;> rfl) (fun k => by cases k <;> rfl)
  | ret => exact oneS_snd (fun rg hp nx wm kn kx r e => .ret ⟨r, e, fun _ h => h⟩) (fun k => by cases k <;> rfl) (fun k => by cases k <;> rfl)
  | _ => exact oneS_snd (fun rg hp nx wm kn kx r e => by cases e) (fun k => by cases k <;> rfl) (fun k => by cases k <;> rfl)
theorem codeB_snd (hc : CxOk P cx) {call : Call} (hcall : CallOk P call) {sg : Ht} {N : Nat} (c : Code) : SndK P N c ((codeB cx sg N c).get call) := (codeS_snd hc hcall c).1
end
end Go.Proofs.YtdgllpcfmkjfhaaGreat
