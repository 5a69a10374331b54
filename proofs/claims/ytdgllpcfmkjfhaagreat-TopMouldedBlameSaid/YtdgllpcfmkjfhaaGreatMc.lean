/- Texts of the proof, laid together by program. -/
import Derived.Test.YtdgllpcfmkjfhaaGreatMb
set_option linter.unusedSimpArgs false
set_option linter.unusedVariables false
/- Regions that draw their order: the text's order does for all. Over any program. -/
namespace Go.Proofs.YtdgllpcfmkjfhaaGreat
open Go.RowKit
set_option linter.unusedVariables false
noncomputable section

inductive Kd where
  | pure | quiet | free

def dstAt (ops : Array Oper) (k : Nat) : Option Tmp := (ops[k]?).bind (·.dst)
theorem dstAt_eq {ops : Array Oper} {k : Nat} {o : Oper} (h : ops[k]? = some o) : dstAt ops k = o.dst := by simp [dstAt, h]

structure Drawn (P : Program) (N : Nat) (ops : Array Oper) (rg0 : Reg) (hp : Nat → Hp) (nx wm : Nat → Nat) (val : Nat → Value) (rgS : Nat → Reg) (wn : Nat → Bool) (kd : Nat → Kd) (bef : Nat → Nat → Bool) (fx : Nat → Option (Nat × List Value)) : Prop where
  wanted : ∀ i o, ops[i]? = some o → wantedV ops.toList (rgS i) o = some (wn i)
  not : ∀ i o, ops[i]? = some o → wn i = false → val i = .tuple ⟨[]⟩ ∧ kd i = .pure
  pure : ∀ i o, ops[i]? = some o → kd i = .pure → nx (i + 1) = nx i ∧ hp (i + 1) = hp i ∧ wm (i + 1) = wm i ∧ (wn i = true → ∀ h n u, (∀ nb cs, fx i = some (nb, cs) → g5 nb h = some (.row cs)) → SimO P o ⟨rgS i, h, n, u⟩ [⟨val i, h, n, u⟩])
  fxd : ∀ i nb cs, fx i = some (nb, cs) → ∀ p, p ≤ ops.size → g5 nb (hp p) = some (.row cs)
  quiet : ∀ i o, ops[i]? = some o → kd i = .quiet → wm (i + 1) = wm i ∧ ∃ u, nx i ≤ u ∧ SimO P o ⟨rgS i, hp i, nx i, nx i⟩ [⟨val i, hp (i + 1), nx (i + 1), u⟩]
  free : ∀ i o, ops[i]? = some o → kd i = .free → SimO P o ⟨rgS i, hp i, nx i, wm i⟩ [⟨val i, hp (i + 1), nx (i + 1), wm (i + 1)⟩]
  ordL : ∀ i j, i < ops.size → j < ops.size → kd i = .free → kd j ≠ .pure → j < i → bef i j = true
  ordR : ∀ i j, i < ops.size → j < ops.size → kd i = .free → kd j ≠ .pure → i < j → bef j i = true
  befE : ∀ i o, ops[i]? = some o → ∀ j, bef i j = true → ∃ e ∈ o.after, Region.binds .any e = true ∧ (e.on = j ∨ bef e.on j = true)
  text : ∀ md : Region.Mode, ∃ rk : Nat → Nat, ∀ (i : Nat) (o : Oper), ops[i]? = some o → ∀ e ∈ o.after, Region.binds md e = true → e.on < ops.size ∧ rk e.on < rk i
  regs : ∀ i o, ops[i]? = some o → ∀ t v, g3 t (rgS i) = some v → (∃ j, j < i ∧ bef i j = true ∧ dstAt ops j = some t ∧ v = val j) ∨ ((∀ j, j < ops.size → dstAt ops j = some t → i < j ∧ bef j i = true) ∧ g3 t rg0 = some v)
  dst : ∀ i, dOk N (dstAt ops i)
  dist : ∀ i j t, dstAt ops i = some t → dstAt ops j = some t → i = j

theorem Post.any {G : Gh} {E E' : Env} {w w' : World} {hp hp' : Hp} {nx nx' wm u : Nat} (h : Post G E hp nx wm w E' hp' nx' u w') (hu : nx ≤ u) (hb : ∀ n, nx ≤ n → E n = none) (v : Nat) : Post G E hp nx v w E' hp' nx' v w' :=
  ⟨h.old, h.rel, h.nxle, Nat.le_refl _, ⟨h.kept.size, fun r hr hx => h.kept.blk r hr fun n x k e g hn => (by rw [hb n (by omega)] at e; cases e), h.kept.io⟩, fun n hn hn' => h.log n (by omega) hn', h.dead,
    fun n x hn e => by
      rcases h.fresh n x hn e with hf | ⟨m, y, k, hm, em, gm, ey⟩
      · exact .inl hf
      · rw [hb m (by omega)] at em; cases em⟩

theorem put_get {a : Act} {N : Nat} {d : Option Nat} {v : Value} (hs : a.tmps.size = N) (hd : dOk N d) : (∀ t, d = some t → (a.put d v).tmps[t]? = some v) ∧ (∀ t, d ≠ some t → (a.put d v).tmps[t]? = a.tmps[t]?) ∧ (a.put d v).tmps.size = N ∧ (a.put d v).defers = a.defers := by
  cases d with
  | none => exact ⟨(fun _ h => nomatch h), (fun _ _ => rfl), hs, rfl⟩
  | some t =>
    obtain ⟨h1, h2⟩ := hd t rfl
    refine ⟨fun u h => ?_, fun u h => ?_, by simp [Act.put, hs], rfl⟩
    · injection h with h; subst h; simp [Act.put, hs, h1]
    · simp only [Act.put]
      rw [Array.getElem?_setIfInBounds_ne]
      intro e; subst e; exact h rfl

section
variable {P : Program} {N : Nat} {ops : Array Oper} {rg0 : Reg} {hp : Nat → Hp} {nx wm : Nat → Nat} {val : Nat → Value} {rgS : Nat → Reg} {wn : Nat → Bool} {kd : Nat → Kd} {bef : Nat → Nat → Bool} {fx : Nat → Option (Nat × List Value)}

theorem Drawn.rr (d : Drawn P N ops rg0 hp nx wm val rgS wn kd bef fx) {E : Env} {a : Act} {i : Nat} {o : Oper} (ho : ops[i]? = some o) (h1 : ∀ j, j < i → bef i j = true → ∀ t, dstAt ops j = some t → ∃ v', a.tmps[t]? = some v' ∧ VR E (val j) v')
    (h2 : ∀ t v, (∀ j, j < ops.size → dstAt ops j = some t → i < j ∧ bef j i = true) → g3 t rg0 = some v → ∃ v', a.tmps[t]? = some v' ∧ VR E v v') : RR E (rgS i) a.tmps := fun t v hv => by
  rcases d.regs i o ho t v hv with ⟨j, hj, hb, hd, rfl⟩ | ⟨hn, hg⟩
  · exact h1 j hj hb t hd
  · exact h2 t v hn hg

theorem Drawn.next (d : Drawn P N ops rg0 hp nx wm val rgS wn kd bef fx) {G : Gh} {E : Env} {a : Act} {w : World} {pv : List (Nat × Obj)} {ro : Option Nat} {i : Nat} {o : Oper} (ho : ops[i]? = some o) (hr : Rel G E (hp i) (nx i) w) (hg : RR E (rgS i) a.tmps) (hp0 : Prv E (hp i) w pv) (hro : Rnd ro pv) :
    ∃ E' v' w', VR E' (val i) v' ∧ Post G E (hp i) (nx i) (wm i) w E' (hp (i + 1)) (nx (i + 1)) (wm (i + 1)) w' ∧ (kd i ≠ .free → ∀ n, n < nx i → g5 n (hp (i + 1)) = g5 n (hp i)) := by
  cases hk : kd i with
  | pure =>
    obtain ⟨e1, e2, e3, hs⟩ := d.pure i o ho hk
    rw [e1, e2, e3]
    cases hw : wn i with
    | false =>
      rw [(d.not i o ho hw).1]
      exact ⟨E, .tuple ⟨[]⟩, w, .tup .nil, Post.refl hr _, fun _ _ _ => rfl⟩
    | true =>
      obtain ⟨E', v', w', h1, h2⟩ := (hs hw (hp i) (nx i) (wm i) fun nb cs h => d.fxd i nb cs h i (Nat.le_of_lt (Array.getElem?_eq_some_iff.1 ho).1)).get hr hg hp0 hro
      exact ⟨E', v', w', h1, h2, fun _ _ _ => rfl⟩
  | quiet =>
    obtain ⟨e1, u, hu, hs⟩ := d.quiet i o ho hk
    obtain ⟨E', v', w', h1, h2⟩ := hs.get hr hg hp0 hro
    rw [e1]
    refine ⟨E', v', w', h1, ?_, fun _ n hn => h2.log n (by simp only; omega) hn⟩
    exact Post.any h2 hu hr.bound (wm i)
  | free =>
    obtain ⟨E', v', w', h1, h2⟩ := (d.free i o ho hk).get hr hg hp0 hro
    exact ⟨E', v', w', h1, h2, fun h => absurd rfl h⟩

theorem Drawn.chain (d : Drawn P N ops rg0 hp nx wm val rgS wn kd bef fx) {G : Gh} {E0 : Env} {a0 : Act} {w0 : World} {pv : List (Nat × Obj)} {ro : Option Nat} (hok : Ok G E0 N ⟨rg0, hp 0, nx 0, wm 0⟩ pv a0 w0) (hro : Rnd ro pv) :
    ∀ i, i ≤ ops.size → ∃ (E : Env) (a : Act) (w : World), Post G E0 (hp 0) (nx 0) (wm 0) w0 E (hp i) (nx i) (wm i) w ∧ (∀ j, j < i → ∀ t, dstAt ops j = some t → ∃ v', a.tmps[t]? = some v' ∧ VR E (val j) v') ∧
      (∀ t v, (∀ j, j < i → dstAt ops j ≠ some t) → g3 t rg0 = some v → ∃ v', a.tmps[t]? = some v' ∧ VR E v v') ∧ a.tmps.size = N
  | 0, _ => ⟨E0, a0, w0, Post.refl hok.rel _, fun _ h => by omega, fun t v _ hv => hok.rr t v hv, hok.size⟩
  | i + 1, hi => by
    obtain ⟨E, a, w, h1, h2, h3, h4⟩ := d.chain hok hro i (by omega)
    obtain ⟨o, ho⟩ : ∃ o, ops[i]? = some o := ⟨_, Array.getElem?_eq_getElem (by omega)⟩
    obtain ⟨E', v', w', h5, h6, _⟩ := d.next ho h1.rel (d.rr ho (fun j hj _ => h2 j hj) fun t v hn hg => h3 t v (fun j hj he => by have := (hn j (by omega) he).1; omega) hg) (hok.prv.post h1) hro
    obtain ⟨p1, p2, p3, _⟩ := put_get (v := v') h4 (d.dst i)
    have hx := h6.ext h1.rel
    refine ⟨E', a.put (dstAt ops i) v', w', h1.trans h6, fun j hj t ht => ?_, fun t v hn hv => ?_, p3⟩
    · by_cases hji : j = i
      · subst hji; exact ⟨v', p1 t ht, h5⟩
      · obtain ⟨u, q1, q2⟩ := h2 j (by omega) t ht
        exact ⟨u, (p2 t fun h => hji (d.dist j i t ht h)).trans q1, q2.mono hx⟩
    · obtain ⟨u, q1, q2⟩ := h3 t v (fun j hj => hn j (by omega)) hv
      exact ⟨u, (p2 t (hn i (by omega))).trans q1, q2.mono hx⟩

theorem Drawn.facts (d : Drawn P N ops rg0 hp nx wm val rgS wn kd bef fx) {G : Gh} {E0 : Env} {a0 : Act} {w0 : World} {pv : List (Nat × Obj)} {ro : Option Nat} (hok : Ok G E0 N ⟨rg0, hp 0, nx 0, wm 0⟩ pv a0 w0) (hro : Rnd ro pv) :
    (∀ i, i < ops.size → nx i ≤ nx (i + 1) ∧ (kd i ≠ .free → wm (i + 1) = wm i ∧ ∀ n, n < nx i → g5 n (hp (i + 1)) = g5 n (hp i))) ∧
    (∀ i, i ≤ ops.size → (∀ n, nx i ≤ n → g5 n (hp i) = none) ∧ ∀ n m rw ks es cl st, g5 n (hp i) = some (.fit m rw ks es cl st) → g5 m (hp i) = some (.fmp n)) := by
  refine ⟨fun i hi => ?_, fun i hi => ?_⟩
  · obtain ⟨E, a, w, h1, h2, h3, h4⟩ := d.chain hok hro i (by omega)
    obtain ⟨o, ho⟩ : ∃ o, ops[i]? = some o := ⟨_, Array.getElem?_eq_getElem (by omega)⟩
    obtain ⟨E', v', w', h5, h6, h7⟩ := d.next ho h1.rel (d.rr ho (fun j hj _ => h2 j hj) fun t v hn hg => h3 t v (fun j hj he => by have := (hn j (by omega) he).1; omega) hg) (hok.prv.post h1) hro
    refine ⟨h6.nxle, fun hk => ⟨?_, h7 hk⟩⟩
    cases hk' : kd i with
    | pure => exact (d.pure i o ho hk').2.2.1
    | quiet => exact (d.quiet i o ho hk').1
    | free => exact absurd hk' hk
  · obtain ⟨E, a, w, h1, _⟩ := d.chain hok hro i hi
    exact ⟨h1.rel.top, h1.rel.own⟩

theorem nx_mono {nx : Nat → Nat} {m : Nat} (h : ∀ i, i < m → nx i ≤ nx (i + 1)) : ∀ {i j : Nat}, i ≤ j → j ≤ m → nx i ≤ nx j := by
  intro i j hij hj
  induction j with
  | zero => have : i = 0 := by omega
            subst this; exact Nat.le_refl _
  | succ j ih =>
    rcases Nat.lt_or_ge i (j + 1) with h' | h'
    · exact Nat.le_trans (ih (by omega) (by omega)) (h j (by omega))
    · have : i = j + 1 := by omega
      subst this; exact Nat.le_refl _
end

theorem goes_of {hp : Nat → Hp} {nx wm : Nat → Nat} {kd : Nat → Kd} {m : Nat} (h1 : ∀ i, i < m → nx i ≤ nx (i + 1) ∧ (kd i ≠ .free → wm (i + 1) = wm i ∧ ∀ n, n < nx i → g5 n (hp (i + 1)) = g5 n (hp i)))
    (h2 : ∀ i, i ≤ m → (∀ n, nx i ≤ n → g5 n (hp i) = none) ∧ ∀ n m rw ks es cl st, g5 n (hp i) = some (.fit m rw ks es cl st) → g5 m (hp i) = some (.fmp n)) {i : Nat} :
    ∀ {p : Nat}, i ≤ p → p ≤ m → (∀ j, i ≤ j → j < p → kd j ≠ .free) → Goes (hp i) (nx i) (hp p) (nx p) ∧ wm p = wm i := by
  intro p hip hp' hk
  induction p with
  | zero => have : i = 0 := by omega
            subst this; exact ⟨⟨Nat.le_refl _, fun _ _ => rfl, (h2 0 (by omega)).1, (h2 0 (by omega)).2⟩, rfl⟩
  | succ p ih =>
    rcases Nat.lt_or_ge i (p + 1) with h | h
    · obtain ⟨g, e⟩ := ih (by omega) (by omega) fun j a b => hk j a (by omega)
      obtain ⟨q1, q2⟩ := h1 p (by omega)
      obtain ⟨q3, q4⟩ := q2 (hk p (by omega) (by omega))
      exact ⟨⟨Nat.le_trans g.le q1, fun n hn => (q4 n (Nat.lt_of_lt_of_le hn g.le)).trans (g.same n hn), (h2 _ hp').1, (h2 _ hp').2⟩, q3.trans e⟩
    · have : i = p + 1 := by omega
      subst this; exact ⟨⟨Nat.le_refl _, fun _ _ => rfl, (h2 _ hp').1, (h2 _ hp').2⟩, rfl⟩
end
end Go.Proofs.YtdgllpcfmkjfhaaGreat
/- Regions that draw their order: the text's order does for all. Over any program. (The law.) -/
namespace Go.Proofs.YtdgllpcfmkjfhaaGreat
open Go.RowKit
set_option linter.unusedVariables false
noncomputable section
section
variable {P : Program} {N : Nat} {ops : Array Oper} {rg0 : Reg} {hp : Nat → Hp} {nx wm : Nat → Nat} {val : Nat → Value} {rgS : Nat → Reg} {wn : Nat → Bool} {kd : Nat → Kd} {bef : Nat → Nat → Bool} {fx : Nat → Option (Nat × List Value)}

def Ls (listed : Array Bool) (i : Nat) : Prop := listed.getD i false = true
theorem Ls_set {listed : Array Bool} {k : Nat} (hk : k < listed.size) (i : Nat) : Ls (listed.setIfInBounds k true) i ↔ i = k ∨ Ls listed i := by
  unfold Ls
  by_cases h : i = k
  · subst h; simp [Array.getD, hk]
  · by_cases hi : i < listed.size
    · simp [Array.getD, hi, h, Array.getElem_setIfInBounds, Ne.symm h]
    · simp [Array.getD, hi, h]

def Cur (kd : Nat → Kd) (m : Nat) (listed : Array Bool) (p : Nat) : Prop := ∀ j, j < m → kd j = .free → (Ls listed j ↔ j < p)

structure Inv (G : Gh) (E0 : Env) (a0 : Act) (w0 : World) (N : Nat) (ops : Array Oper) (rg0 : Reg) (hp : Nat → Hp) (nx wm : Nat → Nat) (val : Nat → Value) (kd : Nat → Kd) (bef : Nat → Nat → Bool) (listed : Array Bool) (E : Env) (a : Act) (w : World) : Prop where
  size : listed.size = ops.size
  cl : ∀ i j, Ls listed i → bef i j = true → Ls listed j
  ph : ∀ p, p ≤ ops.size → Cur kd ops.size listed p → Post G E0 (hp 0) (nx 0) (wm 0) w0 (E.upto (nx p)) (hp p) (nx p) (wm p) w
  dom : ∀ n x, nx 0 ≤ n → E n = some x → ∃ j, Ls listed j ∧ nx j ≤ n ∧ n < nx (j + 1)
  regs : ∀ j, Ls listed j → ∀ t, dstAt ops j = some t → ∃ v', a.tmps[t]? = some v' ∧ VR (E.upto (nx (j + 1))) (val j) v'
  base : ∀ t v, (∀ j, Ls listed j → dstAt ops j ≠ some t) → g3 t rg0 = some v → ∃ v', a.tmps[t]? = some v' ∧ VR E0 v v'
  old : ∀ n, n < nx 0 → E n = E0 n
  tsize : a.tmps.size = N
  dfr : a.defers = a0.defers

theorem Ls.lt {listed : Array Bool} {i : Nat} (h : Ls listed i) : i < listed.size := by
  unfold Ls Array.getD at h
  split at h
  · assumption
  · cases h

variable {G : Gh} {E0 : Env} {a0 : Act} {w0 : World} {pv : List (Nat × Obj)} {ro : Option Nat} {listed : Array Bool} {E : Env} {a : Act} {w : World}

theorem Inv.last (d : Drawn P N ops rg0 hp nx wm val rgS wn kd bef fx) (hmono : ∀ i, i < ops.size → nx i ≤ nx (i + 1)) (hpure : ∀ i, i < ops.size → kd i = .pure → nx (i + 1) = nx i) (h : Inv G E0 a0 w0 N ops rg0 hp nx wm val kd bef listed E a w) :
    ∃ p, p ≤ ops.size ∧ Cur kd ops.size listed p ∧ ∀ n, nx p ≤ n → E n = none := by
  have key : ∃ p, p ≤ ops.size ∧ (∀ j, j < p → kd j = .free → Ls listed j) ∧ (p < ops.size → kd p = .free ∧ ¬ Ls listed p) := by
    have aux : ∀ m, m ≤ ops.size → (∃ p, p < m ∧ (∀ j, j < p → kd j = .free → Ls listed j) ∧ kd p = .free ∧ ¬ Ls listed p) ∨ ∀ j, j < m → kd j = .free → Ls listed j := by
      intro m hm
      induction m with
      | zero => exact .inr fun j hj => by omega
      | succ m ih =>
        rcases ih (by omega) with ⟨p, h1, h2, h3⟩ | h1
        · exact .inl ⟨p, by omega, h2, h3⟩
        · by_cases hf : kd m = .free ∧ ¬ Ls listed m
          · exact .inl ⟨m, by omega, h1, hf⟩
          · refine .inr fun j hj hk => ?_
            by_cases hjm : j = m
            · subst hjm
              exact Classical.byContradiction fun hn => hf ⟨hk, hn⟩
            · exact h1 j (by omega) hk
    rcases aux ops.size (Nat.le_refl _) with ⟨p, h1, h2, h3⟩ | h1
    · exact ⟨p, by omega, h2, fun _ => h3⟩
    · exact ⟨ops.size, Nat.le_refl _, h1, fun hh => by omega⟩
  obtain ⟨p, h1, h2, h3⟩ := key
  refine ⟨p, h1, fun j hj hk => ⟨fun hl => ?_, fun hjp => h2 j hjp hk⟩, fun n hn => ?_⟩
  · refine Classical.byContradiction fun hjp => ?_
    have hp' : p < ops.size := by omega
    obtain ⟨q1, q2⟩ := h3 hp'
    by_cases hjp' : j = p
    · subst hjp'; exact q2 hl
    · exact q2 (h.cl j p hl (d.ordL j p hj hp' hk (by rw [q1]; nofun) (by omega)))
  · cases he : E n with
    | none => rfl
    | some x =>
      exfalso
      have h0 : nx 0 ≤ nx p := nx_mono hmono (Nat.zero_le _) h1
      obtain ⟨j, hl, hj1, hj2⟩ := h.dom n x (by omega) he
      have hjs : j < ops.size := by rw [← h.size]; exact hl.lt
      have hnp : kd j ≠ .pure := fun hk => by have := hpure j hjs hk; omega
      rcases Nat.lt_or_ge j p with hjp | hjp
      · have : nx (j + 1) ≤ nx p := nx_mono hmono (by omega) h1
        omega
      · have hp' : p < ops.size := by omega
        obtain ⟨q1, q2⟩ := h3 hp'
        by_cases hjp' : j = p
        · subst hjp'; exact q2 hl
        · exact q2 (h.cl j p hl (d.ordR p j hp' hjs q1 hnp (by omega)))

theorem Inv.quiet (d : Drawn P N ops rg0 hp nx wm val rgS wn kd bef fx) (hmono : ∀ i, i < ops.size → nx i ≤ nx (i + 1)) (hpure : ∀ i, i < ops.size → kd i = .pure → nx (i + 1) = nx i)
    (hgo : ∀ i p, i ≤ p → p ≤ ops.size → (∀ j, i ≤ j → j < p → kd j ≠ .free) → Goes (hp i) (nx i) (hp p) (nx p) ∧ wm p = wm i)
    (h : Inv G E0 a0 w0 N ops rg0 hp nx wm val kd bef listed E a w) {k : Nat} (hk : k < ops.size) (hkl : ¬ Ls listed k) (hkd : kd k ≠ .free) (hpre : ∀ j, bef k j = true → Ls listed j)
    {hX hX' : Hp} {u : Nat} {E' : Env} {v' : Value} {w' : World} (hR : Post G (E.upto (nx k)) hX (nx k) (nx k) w E' hX' (nx (k + 1)) u w') (hu : nx k ≤ u) (hq : kd k = .quiet → hX' = hp (k + 1)) (hv : VR E' (val k) v') :
    ∃ Es, Inv G E0 a0 w0 N ops rg0 hp nx wm val kd bef (listed.setIfInBounds k true) Es (a.put (dstAt ops k) v') w' := by
  have hks : k < listed.size := by rw [h.size]; exact hk
  have h0k : nx 0 ≤ nx k := nx_mono hmono (Nat.zero_le _) (by omega)
  have hno : ∀ n, nx k ≤ n → n < nx (k + 1) → E n = none := fun n h1 h2 => by
    cases he : E n with
    | none => rfl
    | some x =>
      exfalso
      obtain ⟨j, hl, hj1, hj2⟩ := h.dom n x (by omega) he
      have hjs : j < ops.size := by rw [← h.size]; exact hl.lt
      have hjk : j ≠ k := fun e => hkl (e ▸ hl)
      rcases Nat.lt_or_ge j k with h' | h'
      · have : nx (j + 1) ≤ nx k := nx_mono hmono (by omega) (by omega); omega
      · have : nx (k + 1) ≤ nx j := nx_mono hmono (by omega) (by omega); omega
  have hkeep : ∀ r, r < w.heap.size → w'.heap[r]? = w.heap[r]? := fun r hr => hR.kept.blk r hr fun n x q e _ hn => by rw [Env.upto_ge (by omega)] at e; cases e
  obtain ⟨Es, hEs⟩ : ∃ Es : Env, (fun n => if nx k ≤ n ∧ n < nx (k + 1) then E' n else E n) = Es := ⟨_, rfl⟩
  refine ⟨Es, ?_⟩
  have s1 : ∀ n, nx k ≤ n → n < nx (k + 1) → Es n = E' n := fun n h1 h2 => by rw [← hEs]; exact if_pos ⟨h1, h2⟩
  have s2 : ∀ n, ¬ (nx k ≤ n ∧ n < nx (k + 1)) → Es n = E n := fun n h1 => by rw [← hEs]; exact if_neg h1
  have hext : Ext E Es := fun n x e => by
    by_cases h1 : nx k ≤ n ∧ n < nx (k + 1)
    · rw [hno n h1.1 h1.2] at e; cases e
    · rw [s2 n h1]; exact e
  have hextu : ∀ m, Ext (E.upto m) (Es.upto m) := fun m n x e => by
    rcases Nat.lt_or_ge n m with h' | h'
    · rw [Env.upto_lt h'] at e ⊢; exact hext n x e
    · rw [Env.upto_ge h'] at e; cases e
  have hext' : Ext E' (Es.upto (nx (k + 1))) := fun n x e => by
    rcases Nat.lt_or_ge n (nx (k + 1)) with h' | h'
    · rw [Env.upto_lt h']
      rcases Nat.lt_or_ge n (nx k) with h1 | h1
      · rw [s2 n (by omega)]
        rw [hR.old n h1, Env.upto_lt h1] at e; exact e
      · rw [s1 n h1 h']; exact e
    · rw [hR.rel.bound n h'] at e; cases e
  obtain ⟨p1, p2, p3, p4⟩ := put_get (v := v') h.tsize (d.dst k)
  refine ⟨by simp [h.size], fun i j hi hb => ?_, fun p hp' hc => ?_, fun n x hn e => ?_, fun j hj t ht => ?_, fun t v hn hg => ?_, fun n hn => ?_, p3, p4.trans h.dfr⟩
  · rw [Ls_set hks] at hi ⊢
    rcases hi with rfl | hi
    · exact .inr (hpre j hb)
    · exact .inr (h.cl i j hi hb)
  · have hc' : Cur kd ops.size listed p := fun j hj hf => by
      have := hc j hj hf
      rw [Ls_set hks] at this
      have hjk : j ≠ k := fun e => hkd (e ▸ hf)
      simpa [hjk] using this
    have hP := h.ph p hp' hc'
    have hsame : (∀ n, n < nx p → ¬ (nx k ≤ n ∧ n < nx (k + 1))) → Post G E0 (hp 0) (nx 0) (wm 0) w0 (Es.upto (nx p)) (hp p) (nx p) (wm p) w' := fun hh => by
      have : Es.upto (nx p) = E.upto (nx p) := funext fun n => by
        rcases Nat.lt_or_ge n (nx p) with h' | h'
        · rw [Env.upto_lt h', Env.upto_lt h', s2 n (hh n h')]
        · rw [Env.upto_ge h', Env.upto_ge h']
      rw [this]
      exact hP.stay hR.kept.size hkeep hR.kept.io
    rcases Nat.lt_or_ge k p with hkp | hkp
    · by_cases hpu : kd k = .pure
      · have := hpure k hk hpu
        exact hsame fun n _ => by omega
      · have hkq : kd k = .quiet := by
          cases hh : kd k with
          | pure => exact absurd hh hpu
          | quiet => rfl
          | free => exact absurd hh hkd
        have hmp : nx (k + 1) ≤ nx p := nx_mono hmono (by omega) hp'
        have hG := (hgo (k + 1) p (by omega) hp' fun j hj1 hj2 hjf => hkl (h.cl j k ((hc' j (by omega) hjf).2 hj2) (d.ordL j k (by omega) hk hjf (by rw [hkq]; nofun) (by omega)))).1
        refine hP.join hR hu (fun n hn => Env.upto_ge hn) (fun n hn => ?_) h0k hmp (fun n hn => ?_) (fun n h1 h2 => ?_) (fun n h1 h2 => ?_) (fun n h1 => ?_)
        · have : nx k ≤ nx p := nx_mono hmono (by omega) hp'
          rw [Env.upto_lt hn, Env.upto_lt (by omega)]
        · rw [hG.same n hn, hq hkq]
        · rw [Env.upto_lt (by omega)]; exact hno n h1 h2
        · rw [Env.upto_lt (by omega)]; exact s1 n h1 h2
        · rcases Nat.lt_or_ge n (nx p) with h' | h'
          · rw [Env.upto_lt h', Env.upto_lt h']; exact s2 n h1
          · rw [Env.upto_ge h', Env.upto_ge h']
    · have : nx p ≤ nx k := nx_mono hmono hkp (by omega)
      exact hsame fun n hn => by omega
  · by_cases h1 : nx k ≤ n ∧ n < nx (k + 1)
    · exact ⟨k, (Ls_set hks k).2 (.inl rfl), h1.1, h1.2⟩
    · rw [s2 n h1] at e
      obtain ⟨j, hl, q⟩ := h.dom n x hn e
      exact ⟨j, (Ls_set hks j).2 (.inr hl), q⟩
  · by_cases hjk : j = k
    · subst hjk
      exact ⟨v', p1 t ht, hv.mono hext'⟩
    · rw [Ls_set hks] at hj
      rcases hj with hj | hj
      · exact absurd hj hjk
      · obtain ⟨q, q1, q2⟩ := h.regs j hj t ht
        exact ⟨q, (p2 t fun hh => hjk (d.dist j k t ht hh)).trans q1, q2.mono (hextu _)⟩
  · obtain ⟨q, q1, q2⟩ := h.base t v (fun j hj => hn j ((Ls_set hks j).2 (.inr hj))) hg
    exact ⟨q, (p2 t (hn k ((Ls_set hks k).2 (.inl rfl)))).trans q1, q2⟩
  · rw [s2 n (by omega)]; exact h.old n hn

theorem Inv.free (d : Drawn P N ops rg0 hp nx wm val rgS wn kd bef fx) (hmono : ∀ i, i < ops.size → nx i ≤ nx (i + 1)) (hpure : ∀ i, i < ops.size → kd i = .pure → nx (i + 1) = nx i)
    (hgo : ∀ i p, i ≤ p → p ≤ ops.size → (∀ j, i ≤ j → j < p → kd j ≠ .free) → Goes (hp i) (nx i) (hp p) (nx p) ∧ wm p = wm i)
    (h : Inv G E0 a0 w0 N ops rg0 hp nx wm val kd bef listed E a w) {k : Nat} (hk : k < ops.size) (hkl : ¬ Ls listed k) (hkd : kd k = .free) (hpre : ∀ j, bef k j = true → Ls listed j)
    {E' : Env} {v' : Value} {w' : World} (hR : Post G E (hp k) (nx k) (wm k) w E' (hp (k + 1)) (nx (k + 1)) (wm (k + 1)) w') (hE : ∀ n, nx k ≤ n → E n = none) (hP : Post G E0 (hp 0) (nx 0) (wm 0) w0 E (hp k) (nx k) (wm k) w) (hv : VR E' (val k) v') :
    Inv G E0 a0 w0 N ops rg0 hp nx wm val kd bef (listed.setIfInBounds k true) E' (a.put (dstAt ops k) v') w' := by
  have hks : k < listed.size := by rw [h.size]; exact hk
  have h0k : nx 0 ≤ nx k := nx_mono hmono (Nat.zero_le _) (by omega)
  have hext : Ext E E' := hR.ext hP.rel
  have hextu : ∀ m, Ext (E.upto m) (E'.upto m) := fun m n x e => by
    rcases Nat.lt_or_ge n m with h' | h'
    · rw [Env.upto_lt h'] at e ⊢; exact hext n x e
    · rw [Env.upto_ge h'] at e; cases e
  obtain ⟨p1, p2, p3, p4⟩ := put_get (v := v') h.tsize (d.dst k)
  refine ⟨by simp [h.size], fun i j hi hb => ?_, fun p hp' hc => ?_, fun n x hn e => ?_, fun j hj t ht => ?_, fun t v hn hg => ?_, fun n hn => ?_, p3, p4.trans h.dfr⟩
  · rw [Ls_set hks] at hi ⊢
    rcases hi with rfl | hi
    · exact .inr (hpre j hb)
    · exact .inr (h.cl i j hi hb)
  · have hkp : k < p := (hc k hk hkd).1 ((Ls_set hks k).2 (.inl rfl))
    obtain ⟨g1, g2⟩ := hgo (k + 1) p (by omega) hp' fun j hj1 hj2 hjf => by
      have := (hc j (by omega) hjf).2 hj2
      rw [Ls_set hks] at this
      rcases this with h1 | h1
      · omega
      · exact hkl (h.cl j k h1 (d.ordL j k (by omega) hk hjf (by rw [hkd]; nofun) (by omega)))
    rw [g2, Env.upto_self fun n hn => hR.rel.bound n (Nat.le_trans g1.le hn)]
    exact (hP.trans hR).later g1
  · rcases Nat.lt_or_ge n (nx k) with h' | h'
    · rw [hR.old n h'] at e
      obtain ⟨j, hl, q⟩ := h.dom n x hn e
      exact ⟨j, (Ls_set hks j).2 (.inr hl), q⟩
    · refine ⟨k, (Ls_set hks k).2 (.inl rfl), h', ?_⟩
      rcases Nat.lt_or_ge n (nx (k + 1)) with h2 | h2
      · exact h2
      · rw [hR.rel.bound n h2] at e; cases e
  · by_cases hjk : j = k
    · subst hjk
      refine ⟨v', p1 t ht, ?_⟩
      rw [Env.upto_self fun n hn => hR.rel.bound n hn]; exact hv
    · rw [Ls_set hks] at hj
      rcases hj with hj | hj
      · exact absurd hj hjk
      · obtain ⟨q, q1, q2⟩ := h.regs j hj t ht
        exact ⟨q, (p2 t fun hh => hjk (d.dist j k t ht hh)).trans q1, q2.mono (hextu _)⟩
  · obtain ⟨q, q1, q2⟩ := h.base t v (fun j hj => hn j ((Ls_set hks j).2 (.inr hj))) hg
    exact ⟨q, (p2 t (hn k ((Ls_set hks k).2 (.inl rfl)))).trans q1, q2⟩
  · rw [hR.old n (by omega)]; exact h.old n hn
end
end
end Go.Proofs.YtdgllpcfmkjfhaaGreat
/- Regions that draw their order: the text's order does for all. Over any program. (The end.) -/
namespace Go.Proofs.YtdgllpcfmkjfhaaGreat
open Go.RowKit
set_option linter.unusedVariables false
noncomputable section
section
variable {P : Program} {N : Nat} {ops : Array Oper} {rg0 : Reg} {hp : Nat → Hp} {nx wm : Nat → Nat} {val : Nat → Value} {rgS : Nat → Reg} {wn : Nat → Bool} {kd : Nat → Kd} {bef : Nat → Nat → Bool} {fx : Nat → Option (Nat × List Value)}

def leftF (ops : Array Oper) (listed : Array Bool) : List Nat := (List.range ops.size).filter fun i => !listed.getD i true
theorem mem_leftF {listed : Array Bool} {i : Nat} : i ∈ leftF ops listed ↔ i < ops.size ∧ listed.getD i true = false := by
  unfold leftF; simp
theorem leftF_nodup (listed : Array Bool) : (leftF ops listed).Nodup := List.Pairwise.sublist List.filter_sublist List.nodup_range
theorem leftF_set {listed : Array Bool} {k : Nat} (hsz : listed.size = ops.size) (hk : k ∈ leftF ops listed) : leftF ops (listed.setIfInBounds k true) = (leftF ops listed).erase k := by
  rw [(leftF_nodup listed).erase_eq_filter]
  unfold leftF
  rw [List.filter_filter]
  apply List.filter_congr
  intro i hi
  have hkl := (mem_leftF.1 hk).1
  have hil : i < ops.size := List.mem_range.1 hi
  by_cases h : i = k
  · subst h
    simp [Array.getD, hsz, hil]
  · simp [Array.getD, hsz, hil, h, Array.getElem_setIfInBounds, Ne.symm h]
theorem Ls_iff {listed : Array Bool} (hsz : listed.size = ops.size) {i : Nat} (hi : i < ops.size) : Ls listed i ↔ i ∉ leftF ops listed := by
  rw [mem_leftF]
  unfold Ls
  simp [Array.getD, hsz, hi]

theorem binds_any {md : Region.Mode} {e : Edge} (h : Region.binds .any e = true) : Region.binds md e = true := by
  unfold Region.binds at h ⊢
  split <;> simp_all
theorem ready_nil {md : Region.Mode} (hT : ∃ rk : Nat → Nat, ∀ (i : Nat) (o : Oper), ops[i]? = some o → ∀ e ∈ o.after, Region.binds md e = true → e.on < ops.size ∧ rk e.on < rk i) {listed : Array Bool} (hsz : listed.size = ops.size) (hr : Region.ready md ops listed = []) : ∀ i, i < ops.size → Ls listed i := by
  obtain ⟨rk, hT⟩ := hT
  have key : ∀ n i, rk i = n → i < ops.size → Ls listed i := by
    intro n
    induction n using Nat.strongRecOn with
    | _ n ih =>
      intro i hn hi
      refine Classical.byContradiction fun hc => ?_
      have ho : ops[i]? = some ops[i] := Array.getElem?_eq_getElem hi
      have : i ∈ Region.ready md ops listed := mem_ready.2 ⟨(mem_leftF (ops := ops).1 (Classical.byContradiction fun h => hc ((Ls_iff hsz hi).2 h))).2, _, ho, fun e he hb => by
        obtain ⟨h1, h2⟩ := hT i _ ho e he hb
        exact ih (rk e.on) (by omega) e.on rfl h1⟩
      rw [hr] at this; cases this
  exact fun i hi => key _ i rfl hi

theorem Drawn.any {md : Region.Mode} (d : Drawn P N ops rg0 hp nx wm val rgS wn kd bef fx) {G : Gh} {E0 : Env} {a0 : Act} {w0 : World} {pv : List (Nat × Obj)} {ro : Option Nat} {n : Nat} {Q : Exit → Act → World → Prop} (hok : Ok G E0 N ⟨rg0, hp 0, nx 0, wm 0⟩ pv a0 w0) (hro : Rnd ro pv)
    (hQ : ∀ E a w, Post G E0 (hp 0) (nx 0) (wm 0) w0 E (hp ops.size) (nx ops.size) (wm ops.size) w → (∀ j, j < ops.size → ∀ t, dstAt ops j = some t → ∃ v', a.tmps[t]? = some v' ∧ VR E (val j) v') →
      (∀ t v, (∀ j, j < ops.size → dstAt ops j ≠ some t) → g3 t rg0 = some v → ∃ v', a.tmps[t]? = some v' ∧ VR E v v') → a.tmps.size = N → a.defers = a0.defers → Q .normal a w)
    (hmono : ∀ i, i < ops.size → nx i ≤ nx (i + 1)) (hpure : ∀ i, i < ops.size → kd i = .pure → nx (i + 1) = nx i)
    (hgo : ∀ i p, i ≤ p → p ≤ ops.size → (∀ j, i ≤ j → j < p → kd j ≠ .free) → Goes (hp i) (nx i) (hp p) (nx p) ∧ wm p = wm i) :
    ∀ (f : Nat) (listed : Array Bool) (E : Env) (a : Act) (w : World), f = (leftF ops listed).length → Inv G E0 a0 w0 N ops rg0 hp nx wm val kd bef listed E a w → wpAnyIn (Wd ro) n P md ops Q f listed a w := by
  have fin : ∀ (listed : Array Bool) (E : Env) (a : Act) (w : World), (∀ i, i < ops.size → Ls listed i) → Inv G E0 a0 w0 N ops rg0 hp nx wm val kd bef listed E a w → Q .normal a w := fun listed E a w hall h => by
    have hP := h.ph ops.size (Nat.le_refl _) fun j hj _ => ⟨fun _ => hj, fun _ => hall j hj⟩
    have hx := hP.ext hok.rel
    refine hQ _ a w hP (fun j hj t ht => ?_) (fun t v hn hg => ?_) h.tsize h.dfr
    · obtain ⟨v', q1, q2⟩ := h.regs j (hall j hj) t ht
      exact ⟨v', q1, q2.mono (Env.upto_ext (nx_mono hmono (by omega) (Nat.le_refl _)))⟩
    · obtain ⟨v', q1, q2⟩ := h.base t v (fun j hj => hn j (by rw [← h.size]; exact hj.lt)) hg
      exact ⟨v', q1, q2.mono hx⟩
  intro f
  induction f with
  | zero =>
    intro listed E a w hf h
    have hl : leftF ops listed = [] := List.eq_nil_of_length_eq_zero hf.symm
    have hall : ∀ i, i < ops.size → Ls listed i := fun i hi => (Ls_iff h.size hi).2 (by rw [hl]; simp)
    refine ⟨List.eq_nil_iff_forall_not_mem.2 fun k hk => ?_, fin listed E a w hall h⟩
    obtain ⟨h1, o, ho, -⟩ := mem_ready.1 hk
    have := mem_leftF.2 ⟨(Array.getElem?_eq_some_iff.1 ho).1, h1⟩
    rw [hl] at this; cases this
  | succ f ih =>
    intro listed E a w hf h
    refine ⟨fun hr => fin listed E a w (ready_nil (d.text md) h.size hr) h, fun k hk => ?_⟩
    obtain ⟨hku, o, ho, haf⟩ := mem_ready.1 hk
    have hkl : k < ops.size := (Array.getElem?_eq_some_iff.1 ho).1
    have hkleft : k ∈ leftF ops listed := mem_leftF.2 ⟨hkl, hku⟩
    have hnk : ¬ Ls listed k := fun hh => (Ls_iff h.size hkl).1 hh hkleft
    have hlen : f = (leftF ops (listed.setIfInBounds k true)).length := by
      rw [leftF_set h.size hkleft, List.length_erase_of_mem hkleft]; omega
    have hpre : ∀ j, bef k j = true → Ls listed j := fun j hb => by
      obtain ⟨e, he, hbd, hj⟩ := d.befE k o ho j hb
      have hle : Ls listed e.on := haf e he (binds_any hbd)
      rcases hj with rfl | hj
      · exact hle
      · exact h.cl _ _ hle hj
    have hmn : nx 0 ≤ nx k := nx_mono hmono (Nat.zero_le _) (by omega)
    obtain ⟨pl, hpl1, hpl2, hpl3⟩ := h.last d hmono hpure
    have hPl := h.ph pl hpl1 hpl2
    have hEl : E.upto (nx pl) = E := Env.upto_self hpl3
    rw [hEl] at hPl
    have hdst := dstAt_eq ho
    have hregs : ∀ j, j < k → bef k j = true → ∀ t, dstAt ops j = some t → ∃ v', a.tmps[t]? = some v' ∧ VR (E.upto (nx k)) (val j) v' := fun j hj hb t ht => by
      obtain ⟨v', q1, q2⟩ := h.regs j (hpre j hb) t ht
      exact ⟨v', q1, q2.mono (Env.upto_ext (nx_mono hmono (by omega) (by omega)))⟩
    have hbase : ∀ t v, (∀ j, j < ops.size → dstAt ops j = some t → k < j ∧ bef j k = true) → g3 t rg0 = some v → ∃ v', a.tmps[t]? = some v' ∧ VR (E.upto (nx k)) v v' := fun t v hn hg => by
      obtain ⟨v', q1, q2⟩ := h.base t v (fun j hj he => hnk (h.cl j k hj (hn j (by rw [← h.size]; exact hj.lt) he).2)) hg
      refine ⟨v', q1, q2.mono fun m x e => ?_⟩
      have hm : m < nx 0 := by
        rcases Nat.lt_or_ge m (nx 0) with h' | h'
        · exact h'
        · rw [hok.rel.bound m h'] at e; cases e
      rw [Env.upto_lt (by omega), h.old m hm]; exact e
    have hrr := d.rr ho hregs hbase
    -- nothing is known of the heap
    have hrel0 : Rel G (E.upto (nx k)) (t5 Blk) (nx k) w := by
      refine ⟨fun m hm => Env.upto_ge hm, fun m x e => ?_, fun m x q e g => ?_, fun m m' x y q q' e1 e2 g1 g2 => ?_, fun m m' rw ks es cl st g => ?_, fun m _ => g5_t5 m⟩
      · rcases Nat.lt_or_ge m (nx k) with h' | h'
        · rw [Env.upto_lt h'] at e; exact hPl.rel.lt m x e
        · rw [Env.upto_ge h'] at e; cases e
      · rw [g5_t5] at g; cases g
      · rw [g5_t5] at g1; cases g1
      · rw [g5_t5] at g; cases g
    have hprv0 : Prv (E.upto (nx k)) (t5 Blk) w pv := fun p hp' => by
      refine ⟨((hok.prv.post hPl) p hp').1, fun m x q e g => ?_⟩
      rw [g5_t5] at g; cases g
    show wpOpIn _ _ _ _ _ _ _ _ _
    unfold wpOpIn
    simp only [ho]
    rw [wanted_eq hrr (d.wanted k o ho)]
    cases hw : wn k with
    | false =>
      rw [if_neg (by simp)]
      obtain ⟨hval, hkd⟩ := d.not k o ho hw
      refine ⟨fun f _ => trivial, ?_⟩
      have hnx := hpure k hkl hkd
      obtain ⟨Es, hinv⟩ := h.quiet d hmono hpure hgo hkl hnk (by rw [hkd]; nofun) hpre (hX := t5 Blk) (hX' := t5 Blk) (u := nx k) (E' := E.upto (nx k)) (v' := undef) (w' := w) (by rw [hnx]; exact Post.refl hrel0 _) (Nat.le_refl _) (by rw [hkd]; nofun) (by rw [hval]; exact .tup .nil)
      rw [← hdst]
      exact ih _ _ _ _ hlen hinv
    | true =>
      rw [if_pos rfl]
      cases hkd : kd k with
      | pure =>
        obtain ⟨hX, hrelX, hprvX, hfx⟩ : ∃ hX, Rel G (E.upto (nx k)) hX (nx k) w ∧ Prv (E.upto (nx k)) hX w pv ∧ ∀ nb cs, fx k = some (nb, cs) → g5 nb hX = some (.row cs) := by
          cases hfk : fx k with
          | none => exact ⟨t5 Blk, hrel0, hprv0, fun _ _ h => nomatch h⟩
          | some q =>
            obtain ⟨nb, cs⟩ := q
            have g0 := d.fxd k nb cs hfk 0 (Nat.zero_le _)
            have gl := d.fxd k nb cs hfk pl hpl1
            have hnb0 : nb < nx 0 := hok.rel.lt_nx g0
            have hnb5 := g5_lt g0
            have get : ∀ m q, g5 m (s5 nb (some (.row cs)) (t5 Blk)) = some q → m = nb ∧ q = .row cs := fun m q g => by
              have hm := g5_lt g
              rw [g5_s5 _ _ _ _ hm hnb5] at g
              by_cases h1 : m = nb
              · rw [if_pos h1] at g; injection g with g; exact ⟨h1, g.symm⟩
              · rw [if_neg h1, g5_t5] at g; cases g
            have hEX : Ext E0 (E.upto (nx k)) := fun m x e => by
              have hm : m < nx 0 := by
                rcases Nat.lt_or_ge m (nx 0) with h' | h'
                · exact h'
                · rw [hok.rel.bound m h'] at e; cases e
              rw [Env.upto_lt (by omega), h.old m hm]; exact e
            refine ⟨s5 nb (some (.row cs)) (t5 Blk), ⟨hrel0.bound, hrel0.lt, fun m x q e g => ?_, fun m m' x y q q' e1 e2 g1 g2 _ => (get m q g1).1.trans (get m' q' g2).1.symm, fun m m' rw ks es cl st g => ?_, fun m hm => ?_⟩, fun p hp' => ⟨(hprv0 p hp').1, fun m x q e g => ?_⟩, fun nb' cs' he => ?_⟩
            · obtain ⟨rfl, rfl⟩ := get m q g
              rw [Env.upto_lt (by omega)] at e
              have e0 : E0 m = some x := by rw [← h.old m hnb0]; exact e
              obtain ⟨c0, f0, _, _, _, _, l0⟩ := hok.rel.blk m x _ e0 g0
              obtain ⟨c1, f1, q1, q2, q3, q4, l1⟩ := hPl.rel.blk m x _ e gl
              exact ⟨c1, f1, q1, q2, q3, q4, (LR.back (hPl.ext hok.rel) l0 l1).mono hEX⟩
            · have := (get m _ g).2; cases this
            · rcases Nat.lt_or_ge m 32768 with h5 | h5
              · rw [g5_s5 _ _ _ _ h5 hnb5, if_neg (by omega), g5_t5]
              · exact g5_far _ _ (by omega)
            · obtain ⟨rfl, rfl⟩ := get m q g
              rw [Env.upto_lt (by omega)] at e
              exact ((hok.prv.post hPl) p hp').2 m x _ e gl
            · injection he with he; injection he with h1 h2; subst h1; subst h2
              rw [g5_s5 _ _ _ _ hnb5 hnb5, if_pos rfl]
        refine (d.pure k o ho hkd).2.2.2 hw hX (nx k) (nx k) hfx G _ pv a w ro n _ Q hrelX hrr hprvX hro fun c hc E' v' w' hv hp' => ?_
        simp only [List.mem_singleton] at hc; subst hc
        obtain ⟨Es, hinv⟩ := h.quiet d hmono hpure hgo hkl hnk (by rw [hkd]; nofun) hpre (by rw [hpure k hkl hkd]; exact hp') (Nat.le_refl _) (by rw [hkd]; nofun) hv
        rw [← hdst]
        exact ih _ _ _ _ hlen hinv
      | quiet =>
        obtain ⟨-, u, hu, hs⟩ := d.quiet k o ho hkd
        have hcur : Cur kd ops.size listed k := fun j hj hf => ⟨fun hl => by
            refine Classical.byContradiction fun hjk => ?_
            by_cases hjk' : j = k
            · subst hjk'; exact hnk hl
            · exact hnk (h.cl j k hl (d.ordL j k hj hkl hf (by rw [hkd]; nofun) (by omega))), fun hjk => hpre j (d.ordR j k hj hkl hf (by rw [hkd]; nofun) hjk)⟩
        have hPk := h.ph k (by omega) hcur
        refine hs G _ pv a w ro n _ Q hPk.rel hrr (hok.prv.post hPk) hro fun c hc E' v' w' hv hp' => ?_
        simp only [List.mem_singleton] at hc; subst hc
        obtain ⟨Es, hinv⟩ := h.quiet d hmono hpure hgo hkl hnk (by rw [hkd]; nofun) hpre hp' hu (fun _ => rfl) hv
        rw [← hdst]
        exact ih _ _ _ _ hlen hinv
      | free =>
        have hjl : ∀ j, j < ops.size → kd j ≠ .pure → Ls listed j → j < k := fun j hj hjp hl => by
          refine Classical.byContradiction fun hjk => ?_
          by_cases hjk' : j = k
          · subst hjk'; exact hnk hl
          · exact hnk (h.cl j k hl (d.ordR k j hkl hj hkd hjp (by omega)))
        have hcur : Cur kd ops.size listed k := fun j hj hf => ⟨fun hl => hjl j hj (by rw [hf]; nofun) hl, fun hjk => hpre j (d.ordL k j hkl hj hkd (by rw [hf]; nofun) hjk)⟩
        have hPk := h.ph k (by omega) hcur
        have hEk : ∀ m, nx k ≤ m → E m = none := fun m hm => by
          cases he : E m with
          | none => rfl
          | some x =>
            exfalso
            obtain ⟨j, hl, hj1, hj2⟩ := h.dom m x (by omega) he
            have hjs : j < ops.size := by rw [← h.size]; exact hl.lt
            have hjk := hjl j hjs (fun hp' => by have := hpure j hjs hp'; omega) hl
            have : nx (j + 1) ≤ nx k := nx_mono hmono (by omega) (by omega)
            omega
        have hEE : E.upto (nx k) = E := Env.upto_self hEk
        rw [hEE] at hPk hrr
        refine d.free k o ho hkd G _ pv a w ro n _ Q hPk.rel hrr (hok.prv.post hPk) hro fun c hc E' v' w' hv hp' => ?_
        simp only [List.mem_singleton] at hc; subst hc
        rw [← hdst]
        exact ih _ _ _ _ hlen (h.free d hmono hpure hgo hkl hnk hkd hpre hp' hEk hPk hv)

theorem SimC.drawn {id : Nat} {s : St} (d : Drawn P N ops s.rg hp nx wm val rgS wn kd bef fx) (h1 : hp 0 = s.hp) (h2 : nx 0 = s.nx) (h3 : wm 0 = s.wm) {rgF : Reg}
    (hF : ∀ t v, g3 t rgF = some v → (∃ j, j < ops.size ∧ dstAt ops j = some t ∧ v = val j) ∨ ((∀ j, j < ops.size → dstAt ops j ≠ some t) ∧ g3 t s.rg = some v)) :
    SimC P N (.region id ops true) s [(none, ⟨rgF, hp ops.size, nx ops.size, wm ops.size⟩)] := by
  intro G E pv a w ro n Q hok hro hQ
  have hok1 : Ok G E N ⟨s.rg, hp 0, nx 0, wm 0⟩ pv a { w with drawn := w.drawn + 1 } := ⟨by rw [h1, h2]; exact hok.rel.congr rfl, hok.rr, hok.size, by rw [h1]; exact hok.prv, hok.dfr⟩
  obtain ⟨f1, f2⟩ := d.facts hok1 hro
  have hpure : ∀ i, i < ops.size → kd i = .pure → nx (i + 1) = nx i := fun i hi hk => (d.pure i _ (Array.getElem?_eq_getElem hi) hk).1
  have hgo := fun i p (hip : i ≤ p) (hp' : p ≤ ops.size) hk => goes_of (m := ops.size) f1 f2 (i := i) (p := p) hip hp' hk
  suffices key : ∀ md, wpAnyIn (Wd ro) n P md ops Q ops.size (Array.replicate ops.size false) a { w with drawn := w.drawn + 1 } from wpIn_region_draw fun t => by
    unfold Region.schedule
    split
    · exact wpAnyIn_sound ops.size t _ a _ (key .any)
    · exact wpAnyIn_sound ops.size _ _ a _ (key _)
  intro md
  refine d.any hok1 hro (fun E' a' w' hP hr hb hs hd => ?_) (fun i hi => (f1 i hi).1) hpure hgo ops.size (Array.replicate ops.size false) E a _ ?_ ⟨by simp, fun i j hi _ => ?_, fun p hp' hc => ?_, fun m x hm e => ?_, fun j hj => ?_, fun t v _ hg => hok.rr t v hg, fun _ _ => rfl, hok.size, rfl⟩
  · have hP' : Post G E s.hp s.nx s.wm w E' (hp ops.size) (nx ops.size) (wm ops.size) w' := by
      have := (Post.congr (w' := { w with drawn := w.drawn + 1 }) hok.rel s.wm rfl).trans (h1 ▸ h2 ▸ h3 ▸ hP)
      exact this
    refine hQ _ (List.mem_singleton_self _) E' pv a' w' ⟨hP'.rel, fun t v hv => ?_, hs, hok.prv.post hP', by rw [hd]; exact hok.dfr⟩ hP' (Pvs.refl _ _)
    rcases hF t v hv with ⟨j, hj, ht, rfl⟩ | ⟨hn, hg⟩
    · exact hr j hj t ht
    · exact hb t v hn hg
  · have : leftF ops (Array.replicate ops.size false) = List.range ops.size := List.filter_eq_self.2 fun i hi => by simp [Array.getD, List.mem_range.1 hi]
    rw [this, List.length_range]
  · unfold Ls at hi
    simp [Array.getD] at hi
  · have hcz : ∀ j, 0 ≤ j → j < p → kd j ≠ .free := fun j _ hj hk => by
      have := (hc j (by omega) hk).2 hj
      unfold Ls at this
      simp [Array.getD] at this
    obtain ⟨g1, g2⟩ := hgo 0 p (Nat.zero_le _) hp' hcz
    rw [g2, Env.upto_self fun m hm => hok1.rel.bound m (Nat.le_trans g1.le hm)]
    exact (Post.refl hok1.rel _).later g1
  · rw [hok1.rel.bound m hm] at e; cases e
  · unfold Ls at hj
    simp [Array.getD] at hj
end
end
end Go.Proofs.YtdgllpcfmkjfhaaGreat
/- Code, by what its ways out are: rules for continuations. Over any program. -/
namespace Go.Proofs.YtdgllpcfmkjfhaaGreat
open Go.RowKit
set_option linter.unusedVariables false
noncomputable section
section
variable {P : Program} {N : Nat}

def SimOP (P : Program) (o : Oper) (s : St) (O : Oc → Prop) : Prop := ∃ ocs, SimO P o s ocs ∧ ∀ c ∈ ocs, O c
theorem SimO.one {o : Oper} {s : St} {c : Oc} {O : Oc → Prop} (h : SimO P o s [c]) (hc : O c) : SimOP P o s O := ⟨[c], h, fun d hd => by simp only [List.mem_singleton] at hd; subst hd; exact hc⟩

def SimRP (P : Program) (N : Nat) (ops : Array Oper) (l : List Oper) (s : St) (O : St → Prop) : Prop :=
  ∀ (G : Gh) (E : Env) (pv : List (Nat × Obj)) (a : Act) (w : World) (ro : Option Nat) (n : Nat) (Q : Exit → Act → World → Prop),
    Ok G E N s pv a w → Rnd ro pv → (∀ s', O s' → ∀ E' a' w', Ok G E' N s' pv a' w' → Post G E s.hp s.nx s.wm w E' s'.hp s'.nx s'.wm w' → Q .normal a' w') → wpListIn (Wd ro) n P ops Q l a w

theorem SimRP.nil {ops : Array Oper} {s : St} {O : St → Prop} (h : O s) : SimRP P N ops [] s O := fun G E pv a w ro n Q hok _ hQ => wpListIn_nil (hQ s h E a w hok (Post.refl hok.rel _))
theorem SimRP.run {ops : Array Oper} {l : List Oper} {s : St} {O : St → Prop} {o : Oper} (hw : wantedV ops.toList s.rg o = some true) (hd : dOk N o.dst)
    (h : SimOP P o s fun c => SimRP P N ops l ⟨setD o.dst c.v s.rg, c.hp, c.nx, c.wm⟩ O) : SimRP P N ops (o :: l) s O := by
  obtain ⟨ocs, ho, hc⟩ := h
  intro G E pv a w ro n Q hok hro hQ
  refine wpListIn_step fun K hK => ?_
  rw [wanted_eq hok.rr hw, if_pos rfl]
  refine ho G E pv a w ro n K Q hok.rel hok.rr hok.prv hro fun c hcm E' v' w' hv hp => hK _ _ ?_
  have hx := hp.ext hok.rel
  obtain ⟨r1, r2, r3⟩ := (hok.rr.mono hx).put hok.size hd hv
  exact hc c hcm G E' pv _ w' ro n Q ⟨hp.rel, r1, r2, hok.prv.post hp, by rw [r3]; exact hok.dfr⟩ hro fun s' hs' E2 a2 w2 hok2 hp2 => hQ s' hs' E2 a2 w2 hok2 (hp.trans hp2)
theorem SimRP.skip {ops : Array Oper} {l : List Oper} {s : St} {O : St → Prop} {o : Oper} (hw : wantedV ops.toList s.rg o = some false) (hd : dOk N o.dst)
    (h : SimRP P N ops l ⟨setD o.dst (.tuple ⟨[]⟩) s.rg, s.hp, s.nx, s.wm⟩ O) : SimRP P N ops (o :: l) s O := by
  intro G E pv a w ro n Q hok hro hQ
  refine wpListIn_step fun K hK => ?_
  rw [wanted_eq hok.rr hw, if_neg (by simp)]
  obtain ⟨r1, r2, r3⟩ := hok.rr.put hok.size hd (v := .tuple ⟨[]⟩) (v' := undef) (.tup .nil)
  exact ⟨fun f _ => trivial, hK _ _ (h G E pv _ w ro n Q ⟨hok.rel, r1, r2, hok.prv, by rw [r3]; exact hok.dfr⟩ hro hQ)⟩

def SimP (P : Program) (N : Nat) (c : Code) (s : St) (O : Option Ex → St → Prop) : Prop :=
  ∀ (G : Gh) (E : Env) (pv : List (Nat × Obj)) (a : Act) (w : World) (ro : Option Nat) (n : Nat) (Q : Exit → Act → World → Prop),
    Ok G E N s pv a w → Rnd ro pv →
    (∀ e s', O e s' → ∀ E' pv' a' w', Ok G E' N s' pv' a' w' → Post G E s.hp s.nx s.wm w E' s'.hp s'.nx s'.wm w' → Pvs pv w pv' → Q (toX e) a' w') → c.wpIn (Wd ro) n P Q a w

variable {s : St} {O : Option Ex → St → Prop}
theorem SimP.toC {c : Code} {outs : List (Option Ex × St)} (h : SimP P N c s O) (ho : ∀ e s', O e s' → (e, s') ∈ outs) : SimC P N c s outs :=
  fun G E pv a w ro n Q hok hro hQ => h G E pv a w ro n Q hok hro fun e s' he => hQ (e, s') (ho e s' he)
theorem SimC.toP {c : Code} {outs : List (Option Ex × St)} (h : SimC P N c s outs) (ho : ∀ e s', (e, s') ∈ outs → O e s') : SimP P N c s O :=
  fun G E pv a w ro n Q hok hro hQ => h G E pv a w ro n Q hok hro fun o hm => hQ o.1 o.2 (ho o.1 o.2 hm)
theorem SimP.mono {c : Code} {O' : Option Ex → St → Prop} (h : SimP P N c s O') (ho : ∀ e s', O' e s' → O e s') : SimP P N c s O :=
  fun G E pv a w ro n Q hok hro hQ => h G E pv a w ro n Q hok hro fun e s' he => hQ e s' (ho e s' he)
theorem SimP.skip (h : O none s) : SimP P N .skip s O := SimC.skip.toP fun e s' hm => by
  simp only [List.mem_singleton, Prod.mk.injEq] at hm; obtain ⟨rfl, rfl⟩ := hm; exact h
theorem SimP.label {l : Nat} (h : O none s) : SimP P N (.label l) s O := SimC.label.toP fun e s' hm => by
  simp only [List.mem_singleton, Prod.mk.injEq] at hm; obtain ⟨rfl, rfl⟩ := hm; exact h
theorem SimP.ret (h : O (some .ret) s) : SimP P N .ret s O := SimC.ret.toP fun e s' hm => by
  simp only [List.mem_singleton, Prod.mk.injEq] at hm; obtain ⟨rfl, rfl⟩ := hm; exact h
theorem SimP.exit {id : Nat} (h : O (some (.exit id)) s) : SimP P N (.exit id) s O := SimC.exit.toP fun e s' hm => by
  simp only [List.mem_singleton, Prod.mk.injEq] at hm; obtain ⟨rfl, rfl⟩ := hm; exact h
theorem SimP.region {id : Nat} {ops : Array Oper} (h : SimRP P N ops ops.toList s fun s' => O none s') : SimP P N (.region id ops false) s O :=
  fun G E pv a w ro n Q hok hro hQ => wpIn_region_list (h G E pv a w ro n Q hok hro fun s' hs' E' a' w' hok' hp => hQ none s' hs' E' pv a' w' hok' hp (Pvs.refl _ _))
theorem SimP.seq {x y : Code} (hx : SimP P N x s fun e s' => match e with | none => SimP P N y s' O | some e => O (some e) s') : SimP P N (.seq x y) s O :=
  fun G E pv a w ro n Q hok hro hQ => wpIn_seq (hx G E pv a w ro n _ hok hro fun e s' ho E' pv' a' w' hok' hp hpv => by
    cases e with
    | none => exact ho G E' pv' a' w' ro n Q hok' (hro.mono hpv.sub) fun e2 s2 ho2 E2 pv2 a2 w2 hok2 hp2 hpv2 => hQ e2 s2 ho2 E2 pv2 a2 w2 hok2 (hp.trans hp2) (hpv.trans hpv2 hp.kept.size)
    | some e =>
      have := hQ (some e) s' ho E' pv' a' w' hok' hp hpv
      cases e <;> exact this)
theorem SimP.cond {c : Operand} {x y : Code} {t : Bool} (hc : opv s.rg c = some (.bool t)) (h : SimP P N (if t then x else y) s O) : SimP P N (.cond c x y) s O :=
  fun G E pv a w ro n Q hok hro hQ => wpIn_cond ((opv_eval hok.rr hc).bool_inv) (h G E pv a w ro n Q hok hro hQ)
theorem SimP.block {id : Nat} {c : Code} (h : SimP P N c s fun e s' => match e with | none => O none s' | some .ret => O (some .ret) s' | some (.exit i) => if i = id then O none s' else O (some (.exit i)) s') : SimP P N (.block id c) s O :=
  fun G E pv a w ro n Q hok hro hQ => wpIn_block (h G E pv a w ro n _ hok hro fun e s' ho E' pv' a' w' hok' hp hpv => by
    match e, ho with
    | none, ho => exact hQ none s' ho E' pv' a' w' hok' hp hpv
    | some .ret, ho => exact hQ (some .ret) s' ho E' pv' a' w' hok' hp hpv
    | some (.exit i), ho =>
      show Exit.inBlock id Q (.exit i) a' w'
      simp only [Exit.inBlock]
      replace ho : if i = id then O none s' else O (some (.exit i)) s' := ho
      by_cases hi : i = id
      · rw [if_pos hi] at ho
        rw [if_pos hi]
        exact hQ none s' ho E' pv' a' w' hok' hp hpv
      · rw [if_neg hi] at ho
        rw [if_neg hi]
        exact hQ (some (.exit i)) s' ho E' pv' a' w' hok' hp hpv)
theorem SimP.scope {c : Code} (h : SimP P N c s O) : SimP P N (.scope c) s O :=
  fun G E pv a w ro n Q hok hro hQ => wpIn_scope (h G E pv a w ro n _ hok hro fun e s' ho E' pv' a' w' hok' hp hpv => by
    have := hQ e s' ho E' pv' a' w' hok' hp hpv
    cases e with
    | none => exact this
    | some e => cases e <;> exact this)
theorem SimP.loop {c : Code} (D : Nat → St → Prop) (hD : ∀ k s, D k s → SimP P N c s fun e s' => match e with | none => ∃ i, i < k ∧ D i s' | some e => O (some e) s') {k : Nat} (h : D k s) : SimP P N (.loop c) s O := by
  intro G E pv a w ro n Q hok hro hQ
  refine wpIn_loop_iter (fun k a' w' => ∃ s' E' pv', D k s' ∧ Ok G E' N s' pv' a' w' ∧ Post G E s.hp s.nx s.wm w E' s'.hp s'.nx s'.wm w' ∧ Pvs pv w pv') (fun k a' w' hk => ?_) (k := k) ⟨s, E, pv, h, hok, Post.refl hok.rel _, Pvs.refl _ _⟩
  obtain ⟨s', E', pv', hd, hok', hp, hpv⟩ := hk
  refine hD k s' hd G E' pv' a' w' ro n _ hok' (hro.mono hpv.sub) fun e s2 ho E2 pv2 a2 w2 hok2 hp2 hpv2 => ?_
  cases e with
  | none =>
    obtain ⟨i, hi, hdi⟩ := ho
    exact ⟨i, hi, s2, E2, pv2, hdi, hok2, hp.trans hp2, hpv.trans hpv2 hp.kept.size⟩
  | some e =>
    have := hQ (some e) s2 ho E2 pv2 a2 w2 hok2 (hp.trans hp2) (hpv.trans hpv2 hp.kept.size)
    cases e <;> exact this

/-! ### Ways that come together -/
def blw1 (n : Nat) (v : Value) : Bool := match v with
  | .bool _ | .int _ _ | .string _ | .pointer none | .slice none _ _ | .map none | .nilFunc | .nilIface => true
  | .pointer (some a) => Nat.blt a.block n
  | .slice (some a) _ _ => Nat.blt a.block n
  | .map (some m) => Nat.blt m n
  | _ => false
def blw (n : Nat) (v : Value) : Bool := match v with
  | .agg l => l.toList.all (blw1 n)
  | .tuple l => l.toList.all (blw1 n)
  | v => blw1 n v
theorem VR.blw1 {E E' : Env} {n : Nat} (hE : ∀ m, m < n → E' m = E m) {v v' : Value} (h : VR E' v v') (hb : blw1 n v = true) : VR E v v' := by
  cases h with
  | bool b => exact .bool b
  | int k j => exact .int k j
  | str s => exact .str s
  | nilp => exact .nilp
  | ptr o h => exact .ptr o ((hE _ (by simpa [Go.Proofs.YtdgllpcfmkjfhaaGreat.blw1] using hb)).symm.trans h)
  | nils l c => exact .nils l c
  | slc o l c h hc => exact .slc o l c ((hE _ (by simpa [Go.Proofs.YtdgllpcfmkjfhaaGreat.blw1] using hb)).symm.trans h) hc
  | opn o l c s c' h hc hs hle hf => exact .opn o l c s c' ((hE _ (by simpa [Go.Proofs.YtdgllpcfmkjfhaaGreat.blw1] using hb)).symm.trans h) hc hs hle hf
  | vag a a' c' => exact .vag a a' c'
  | nilm => exact .nilm
  | map h => exact .map ((hE _ (by simpa [Go.Proofs.YtdgllpcfmkjfhaaGreat.blw1] using hb)).symm.trans h)
  | func f h h' => cases hb
  | yld h => cases hb
  | nilf => exact .nilf
  | nili => exact .nili
  | agg h h1 => cases hb
  | tup h => cases hb
theorem LR.blw1 {E E' : Env} {n : Nat} (hE : ∀ m, m < n → E' m = E m) : ∀ {l l' : List Value}, LR E' l l' → l.all (Go.Proofs.YtdgllpcfmkjfhaaGreat.blw1 n) = true → LR E l l'
  | _, _, .nil, _ => .nil
  | _, _, .cons h h', hb => by
    simp only [List.all_cons, Bool.and_eq_true] at hb
    exact .cons (h.blw1 hE hb.1) (h'.blw1 hE hb.2)
theorem VR.blw {E E' : Env} {n : Nat} (hE : ∀ m, m < n → E' m = E m) {v v' : Value} (h : VR E' v v') (hb : blw n v = true) : VR E v v' := by
  cases v with
  | agg l => cases h with | agg h h1 => exact .agg (h.blw1 hE hb) h1
  | tuple l => cases h with | tup h => exact .tup (h.blw1 hE hb)
  | _ => exact h.blw1 hE hb

theorem SimP.seg {c : Code} {rgK : Reg} (h : SimP P N c ⟨s.rg, s.hp, s.nx, s.nx⟩ fun e s' => e = none ∧ s.nx ≤ s'.wm ∧ ∀ t v, g3 t rgK = some v → g3 t s'.rg = some v ∧ blw s.nx v = true)
    (hO : O none ⟨rgK, s.hp, s.nx, s.wm⟩) : SimP P N c s O := by
  intro G E pv a w ro n Q hok hro hQ
  refine h G E pv a w ro n Q ⟨hok.rel, hok.rr, hok.size, hok.prv, hok.dfr⟩ hro fun e s' ⟨he, hwm, hk⟩ E' pv' a' w' hok' hp hpv => ?_
  subst he
  have hb := hok.rel.bound
  have hkeep : ∀ r, r < w.heap.size → w'.heap[r]? = w.heap[r]? := fun r hr => hp.kept.blk r hr fun m x q e _ hm => by rw [hb m (by omega)] at e; cases e
  have hP := (Post.refl hok.rel s.wm).stay hp.kept.size hkeep hp.kept.io
  refine hQ none _ hO E pv' a' w' ⟨hP.rel, fun t v hv => ?_, hok'.size, fun p hp' => ?_, hok'.dfr⟩ hP hpv
  · obtain ⟨h1, h2⟩ := hk t v hv
    obtain ⟨v', h3, h4⟩ := hok'.rr t v h1
    exact ⟨v', h3, h4.blw hp.old h2⟩
  · obtain ⟨h1, h2⟩ := hok'.prv p hp'
    refine ⟨h1, fun m x q e g => h2 m x q ?_ ?_⟩
    · have hm : m < s.nx := by
        rcases Nat.lt_or_ge m s.nx with h' | h'
        · exact h'
        · rw [hb m h'] at e; cases e
      exact (hp.old m hm).trans e
    · have hm := hok.rel.lt_nx g
      exact (hp.log m (by omega) hm).trans g
end
end
end Go.Proofs.YtdgllpcfmkjfhaaGreat
/- The quick evaluator's operations: what it is to be sound; operands, registers, cases. Over any program. -/
namespace Go.Proofs.YtdgllpcfmkjfhaaGreat
open Go.RowKit
set_option linter.unusedVariables false
noncomputable section

abbrev An := Option (List (Option Ex × St))
abbrev KV := Value → Hp → Nat → Nat → An
abbrev KS := Reg → Hp → Nat → Nat → An

/-! ### Cases, with continuations -/
/-! Views: their cases hold nothing of what follows, so that nothing is copied. -/
inductive VS where
  | no
  | nil (l c : Nat)
  | at (b o l c : Nat)
inductive VF where
  | no
  | fn (f : Fn) (a c : List Value)
def vInt (v : Value) : Option (IntKind × Int) := @Value.rec (fun _ => Option (IntKind × Int)) (fun _ => PUnit) (fun _ => PUnit) (fun _ => none) (fun q n => some (q, n)) (fun _ _ => none) (fun _ _ _ => none) (fun _ => none) (fun _ => none) (fun _ _ _ => none) (fun _ => none) (fun _ => none) (fun _ _ _ _ _ => none) none (fun _ _ _ => none) none (fun _ _ => none) (fun _ _ => none) (fun _ _ => ⟨⟩) ⟨⟩ (fun _ _ _ _ => ⟨⟩) v
def vBool (v : Value) : Option Bool := @Value.rec (fun _ => Option Bool) (fun _ => PUnit) (fun _ => PUnit) (fun b => some b) (fun _ _ => none) (fun _ _ => none) (fun _ _ _ => none) (fun _ => none) (fun _ => none) (fun _ _ _ => none) (fun _ => none) (fun _ => none) (fun _ _ _ _ _ => none) none (fun _ _ _ => none) none (fun _ _ => none) (fun _ _ => none) (fun _ _ => ⟨⟩) ⟨⟩ (fun _ _ _ _ => ⟨⟩) v
def vPtr (v : Value) : Option (Nat × Nat) := @Value.rec (fun _ => Option (Nat × Nat)) (fun _ => PUnit) (fun _ => PUnit) (fun _ => none) (fun _ _ => none) (fun _ _ => none) (fun _ _ _ => none) (fun _ => none) (fun p => Option.rec none (fun a => Addr.rec (fun b o m => Option.rec (some (b, o)) (fun _ => none) m) a) p) (fun _ _ _ => none) (fun _ => none) (fun _ => none) (fun _ _ _ _ _ => none) none (fun _ _ _ => none) none (fun _ _ => none) (fun _ _ => none) (fun _ _ => ⟨⟩) ⟨⟩ (fun _ _ _ _ => ⟨⟩) v
def vSlc (v : Value) : VS := @Value.rec (fun _ => VS) (fun _ => PUnit) (fun _ => PUnit) (fun _ => .no) (fun _ _ => .no) (fun _ _ => .no) (fun _ _ _ => .no) (fun _ => .no) (fun _ => .no) (fun p l c => Option.rec (.nil l c) (fun a => Addr.rec (fun b o m => Option.rec (.at b o l c) (fun _ => .no) m) a) p) (fun _ => .no) (fun _ => .no) (fun _ _ _ _ _ => .no) .no (fun _ _ _ => .no) .no (fun _ _ => .no) (fun _ _ => .no) (fun _ _ => ⟨⟩) ⟨⟩ (fun _ _ _ _ => ⟨⟩) v
def vStr (v : Value) : Option ByteArray := @Value.rec (fun _ => Option ByteArray) (fun _ => PUnit) (fun _ => PUnit) (fun _ => none) (fun _ _ => none) (fun _ _ => none) (fun _ _ _ => none) (fun s => some s) (fun _ => none) (fun _ _ _ => none) (fun _ => none) (fun _ => none) (fun _ _ _ _ _ => none) none (fun _ _ _ => none) none (fun _ _ => none) (fun _ _ => none) (fun _ _ => ⟨⟩) ⟨⟩ (fun _ _ _ _ => ⟨⟩) v
def vMap (v : Value) : Option (Option Nat) := @Value.rec (fun _ => Option (Option Nat)) (fun _ => PUnit) (fun _ => PUnit) (fun _ => none) (fun _ _ => none) (fun _ _ => none) (fun _ _ _ => none) (fun _ => none) (fun _ => none) (fun _ _ _ => none) (fun m => some m) (fun _ => none) (fun _ _ _ _ _ => none) none (fun _ _ _ => none) none (fun _ _ => none) (fun _ _ => none) (fun _ _ => ⟨⟩) ⟨⟩ (fun _ _ _ _ => ⟨⟩) v
def vAgg (v : Value) : Option (List Value) := @Value.rec (fun _ => Option (List Value)) (fun _ => PUnit) (fun _ => PUnit) (fun _ => none) (fun _ _ => none) (fun _ _ => none) (fun _ _ _ => none) (fun _ => none) (fun _ => none) (fun _ _ _ => none) (fun _ => none) (fun _ => none) (fun _ _ _ _ _ => none) none (fun _ _ _ => none) none (fun l _ => Array.rec (fun l => some l) l) (fun _ _ => none) (fun _ _ => ⟨⟩) ⟨⟩ (fun _ _ _ _ => ⟨⟩) v
def vTup (v : Value) : Option (List Value) := @Value.rec (fun _ => Option (List Value)) (fun _ => PUnit) (fun _ => PUnit) (fun _ => none) (fun _ _ => none) (fun _ _ => none) (fun _ _ _ => none) (fun _ => none) (fun _ => none) (fun _ _ _ => none) (fun _ => none) (fun _ => none) (fun _ _ _ _ _ => none) none (fun _ _ _ => none) none (fun _ _ => none) (fun l _ => Array.rec (fun l => some l) l) (fun _ _ => ⟨⟩) ⟨⟩ (fun _ _ _ _ => ⟨⟩) v
def vFun (v : Value) : VF := @Value.rec (fun _ => VF) (fun _ => PUnit) (fun _ => PUnit) (fun _ => .no) (fun _ _ => .no) (fun _ _ => .no) (fun _ _ _ => .no) (fun _ => .no) (fun _ => .no) (fun _ _ _ => .no) (fun _ => .no) (fun _ => .no) (fun f a c _ _ => Array.rec (fun a => Array.rec (fun c => .fn f a c) c) a) .no (fun _ _ _ => .no) .no (fun _ _ => .no) (fun _ _ => .no) (fun _ _ => ⟨⟩) ⟨⟩ (fun _ _ _ _ => ⟨⟩) v
section
variable {β : Type}
def kInt (v : Value) (k : IntKind → Int → Option β) : Option β := Option.rec none (fun p => Prod.rec k p) (vInt v)
def kBool (v : Value) (k : Bool → Option β) : Option β := Option.rec none k (vBool v)
def kPtr (v : Value) (k : Nat → Nat → Option β) : Option β := Option.rec none (fun p => Prod.rec k p) (vPtr v)
def kSlc (v : Value) (k0 : Nat → Nat → Option β) (k : Nat → Nat → Nat → Nat → Option β) : Option β := VS.rec none k0 k (vSlc v)
def kStr (v : Value) (k : ByteArray → Option β) : Option β := Option.rec none k (vStr v)
def kMap (v : Value) (k0 : Option β) (k : Nat → Option β) : Option β := Option.rec none (fun m => Option.rec k0 k m) (vMap v)
def kAgg (v : Value) (k : List Value → Option β) : Option β := Option.rec none k (vAgg v)
def kTup (v : Value) (k : List Value → Option β) : Option β := Option.rec none k (vTup v)
def kFun (v : Value) (k : Fn → List Value → List Value → Option β) : Option β := VF.rec none k (vFun v)
def kNat (v : Value) (k : Nat → Option β) : Option β := kInt v fun _ n => Int.rec (fun m => k m) (fun _ => none) n
def kO {α : Type} (x : Option α) (k : α → Option β) : Option β := Option.rec none k x
def kIf (b : Bool) (x : Option β) : Option β := Bool.rec none x b
variable {r : β}
theorem kInt_inv {v : Value} {k : IntKind → Int → Option β} (h : kInt v k = some r) : ∃ q n, v = .int q n ∧ k q n = some r := by cases v <;> first | exact ⟨_, _, rfl, h⟩ | cases h
theorem kBool_inv {v : Value} {k : Bool → Option β} (h : kBool v k = some r) : ∃ b, v = .bool b ∧ k b = some r := by cases v <;> first | exact ⟨_, rfl, h⟩ | cases h
theorem kPtr_inv {v : Value} {k : Nat → Nat → Option β} (h : kPtr v k = some r) : ∃ n o, v = .pointer (some ⟨n, o, none⟩) ∧ k n o = some r := by
  cases v with
  | pointer p => match p, h with
    | some ⟨b, o, none⟩, h => exact ⟨b, o, rfl, h⟩
  | _ => cases h
theorem kSlc_inv {v : Value} {k0 : Nat → Nat → Option β} {k : Nat → Nat → Nat → Nat → Option β} (h : kSlc v k0 k = some r) : (∃ l c, v = .slice none l c ∧ k0 l c = some r) ∨ ∃ n o l c, v = .slice (some ⟨n, o, none⟩) l c ∧ k n o l c = some r := by
  cases v with
  | slice p l c => match p, h with
    | none, h => exact .inl ⟨l, c, rfl, h⟩
    | some ⟨b, o, none⟩, h => exact .inr ⟨b, o, l, c, rfl, h⟩
  | _ => cases h
theorem kStr_inv {v : Value} {k : ByteArray → Option β} (h : kStr v k = some r) : ∃ s, v = .string s ∧ k s = some r := by cases v <;> first | exact ⟨_, rfl, h⟩ | cases h
theorem kMap_inv {v : Value} {k0 : Option β} {k : Nat → Option β} (h : kMap v k0 k = some r) : (v = .map none ∧ k0 = some r) ∨ ∃ n, v = .map (some n) ∧ k n = some r := by
  cases v with
  | map m => cases m with
    | none => exact .inl ⟨rfl, h⟩
    | some n => exact .inr ⟨n, rfl, h⟩
  | _ => cases h
theorem kAgg_inv {v : Value} {k : List Value → Option β} (h : kAgg v k = some r) : ∃ l, v = .agg ⟨l⟩ ∧ k l = some r := by
  cases v with
  | agg l => exact ⟨l.toList, rfl, h⟩
  | _ => cases h
theorem kTup_inv {v : Value} {k : List Value → Option β} (h : kTup v k = some r) : ∃ l, v = .tuple ⟨l⟩ ∧ k l = some r := by
  cases v with
  | tuple l => exact ⟨l.toList, rfl, h⟩
  | _ => cases h
theorem kFun_inv {v : Value} {k : Fn → List Value → List Value → Option β} (h : kFun v k = some r) : ∃ f a c, v = .func f ⟨a⟩ ⟨c⟩ ∧ k f a c = some r := by
  cases v with
  | func f a c => exact ⟨f, a.toList, c.toList, rfl, h⟩
  | _ => cases h
theorem kNat_inv {v : Value} {k : Nat → Option β} (h : kNat v k = some r) : ∃ q n, v = .int q (.ofNat n) ∧ k n = some r := by
  obtain ⟨q, n, rfl, h⟩ := kInt_inv h
  cases n with
  | ofNat n => exact ⟨q, n, rfl, h⟩
  | negSucc n => cases h
theorem kO_inv {α : Type} {x : Option α} {k : α → Option β} (h : kO x k = some r) : ∃ a, x = some a ∧ k a = some r := by cases x <;> first | exact ⟨_, rfl, h⟩ | cases h
theorem kIf_inv {b : Bool} {x : Option β} (h : kIf b x = some r) : b = true ∧ x = some r := by cases b <;> first | exact ⟨rfl, h⟩ | cases h
end

def fN {β : Type} (n : Nat) (k : Nat → β) : β := Nat.rec (k 0) (fun m _ => k (Nat.succ m)) n
theorem fN_eq {β : Type} (n : Nat) (k : Nat → β) : fN n k = k n := by cases n <;> rfl
def fI {β : Type} (n : Int) (k : Int → β) : β := Int.rec (fun m => Nat.rec (k (.ofNat 0)) (fun j _ => k (.ofNat (Nat.succ j))) m) (fun m => Nat.rec (k (.negSucc 0)) (fun j _ => k (.negSucc (Nat.succ j))) m) n
theorem fI_eq {β : Type} (n : Int) (k : Int → β) : fI n k = k n := by
  cases n with
  | ofNat m => cases m <;> rfl
  | negSucc m => cases m <;> rfl

/-! ### Operands -/
def gO (x : Operand) : Bx (Reg → Option Value) := Operand.rec (fun t => g3B t) (fun v => Bool.rec (Bx.mk fun _ => none) (Bx.mk fun _ => some v) (cstB v)) (fun _ => Bx.mk fun _ => none) (fun f => Bx.mk fun _ => some (.func (.func f) ⟨[]⟩ ⟨[]⟩)) x
theorem gO_eq (x : Operand) (rg : Reg) : (gO x).get rg = opv rg x := by
  cases x with
  | tmp t => rfl
  | const v => simp only [gO, opv]; cases cstB v <;> rfl
  | global g => rfl
  | func f => rfl
def ovs (rg : Reg) (l : List Operand) : Option (List Value) := List.rec (some []) (fun x _ ih => match opv rg x with | none => none | some v => match ih with | none => none | some vs => some (v :: vs)) l
theorem ovs_cons (rg : Reg) (x : Operand) (l : List Operand) : ovs rg (x :: l) = (match opv rg x with | none => none | some v => match ovs rg l with | none => none | some vs => some (v :: vs)) := rfl
theorem ovs_mapM (rg : Reg) : ∀ (l : List Operand), ovs rg l = l.mapM (opv rg)
  | [] => rfl
  | x :: l => by
    rw [ovs_cons, List.mapM_cons, ovs_mapM rg l]
    cases opv rg x with
    | none => rfl
    | some v => cases h : l.mapM (opv rg) <;> simp [h]
def gL (l : List Operand) : Bx (Reg → (List Value → An) → An) :=
  List.rec (Bx.mk fun _ k => k []) (fun x _ ih => (gO x).on fun g => ih.on fun gs => Bx.mk fun rg k => Option.rec none (fun v => gs rg fun vs => k (v :: vs)) (g rg)) l
theorem gL_eq (rg : Reg) : ∀ (l : List Operand) (k : List Value → An), (gL l).get rg k = kO (ovs rg l) k
  | [], k => rfl
  | x :: l, k => by
    have h : (gL (x :: l)).get rg k = Option.rec none (fun v => (gL l).get rg fun vs => k (v :: vs)) ((gO x).get rg) := by
      show ((gO x).on fun g => (gL l).on fun gs => Bx.mk fun rg (k : List Value → An) => (Option.rec none (fun v => gs rg fun vs => k (v :: vs)) (g rg) : An)).get rg k = _
      simp only [Bx.on_eq]; rfl
    rw [h, gO_eq, ovs_cons]
    cases opv rg x with
    | none => rfl
    | some v =>
      show (gL l).get rg (fun vs => k (v :: vs)) = _
      rw [gL_eq rg l]
      cases ovs rg l <;> rfl

/-! ### Operations, compiled -/
inductive OpC where
  | p1 (x : Operand) (h : Value → (Value → An) → An)
  | p2 (x y : Operand) (h : Value → Value → (Value → An) → An)
  | pl (l : List Operand) (h : List Value → (Value → An) → An)
  | m0 (h : Hp → Nat → Nat → KV → An)
  | m1 (x : Operand) (h : Value → Hp → Nat → Nat → KV → An)
  | m2 (x y : Operand) (h : Value → Value → Hp → Nat → Nat → KV → An)
  | ml (l : List Operand) (h : List Value → Hp → Nat → Nat → KV → An)
  | n1 (x : Operand) (h : Value → Hp → Nat → Nat → KV → An)
  | cv (x : Operand) (l : List Operand)
  | bad

def PV (P : Program) (o : Oper) (rg : Reg) (h : (Value → An) → An) : Prop := ∀ k r, h k = some r → ∃ v, (∀ hp nx wm, Does P o rg hp nx wm v hp nx wm) ∧ k v = some r
def MV (P : Program) (o : Oper) (rg : Reg) (h : Hp → Nat → Nat → KV → An) : Prop := ∀ hp nx wm k r, h hp nx wm k = some r → ∃ c, SimO P o ⟨rg, hp, nx, wm⟩ [c] ∧ k c.v c.hp c.nx c.wm = some r
def NV (P : Program) (o : Oper) (rg : Reg) (h : Hp → Nat → Nat → KV → An) : Prop := ∀ hp nx wm k r, h hp nx wm k = some r → SimOP P o ⟨rg, hp, nx, wm⟩ fun c => ∃ l, k c.v c.hp c.nx c.wm = some l ∧ ∀ q ∈ l, q ∈ r

def SndC (P : Program) (o : Oper) : OpC → Prop
  | .p1 x h => ∀ rg a, opv rg x = some a → PV P o rg (h a)
  | .p2 x y h => ∀ rg a b, opv rg x = some a → opv rg y = some b → PV P o rg (h a b)
  | .pl l h => ∀ rg vs, ovs rg l = some vs → PV P o rg (h vs)
  | .m0 h => ∀ rg, MV P o rg h
  | .m1 x h => ∀ rg a, opv rg x = some a → MV P o rg (h a)
  | .m2 x y h => ∀ rg a b, opv rg x = some a → opv rg y = some b → MV P o rg (h a b)
  | .ml l h => ∀ rg vs, ovs rg l = some vs → MV P o rg (h vs)
  | .n1 x h => ∀ rg a, opv rg x = some a → NV P o rg (h a)
  | .cv x l => ∃ c, o.op = .call c ∧ c.callee = .value x ∧ c.args.toList = l
  | .bad => True

section
variable {P : Program} {o : Oper} {rg : Reg}
theorem PV.mv {h : (Value → An) → An} (hh : PV P o rg h) : MV P o rg fun hp nx wm k => h fun v => k v hp nx wm := fun hp nx wm k r e => by
  obtain ⟨v, h1, h2⟩ := hh _ r e
  exact ⟨⟨v, hp, nx, wm⟩, (h1 hp nx wm).sim, h2⟩
theorem MV.nv {h : Hp → Nat → Nat → KV → An} (hh : MV P o rg h) : NV P o rg h := fun hp nx wm k r e => by
  obtain ⟨c, h1, h2⟩ := hh hp nx wm k r e
  exact h1.one ⟨r, h2, fun _ h => h⟩

abbrev Call := Fn → List Value → Hp → Nat → Nat → Option Oc
def CallOk (P : Program) (call : Call) : Prop := ∀ fn args hp nx wm oc, call fn args hp nx wm = some oc → SimF P fn args hp nx wm oc
theorem ovs_lr {E : Env} {a : Act} (hg : RR E rg a.tmps) : ∀ {l : List Operand} {vs : List Value}, ovs rg l = some vs → LR E vs (l.map a.eval)
  | [], vs, h => by injection h with h; subst h; exact .nil
  | x :: l, vs, h => by
    rw [ovs_cons] at h
    split at h
    · cases h
    · rename_i v hv
      split at h
      · cases h
      · rename_i us hu
        injection h with h; subst h
        exact .cons (opv_eval hg hv) (ovs_lr hg hu)
def hCv (call : Call) (v : Value) (vs : List Value) (hp : Hp) (nx wm : Nat) (k : KV) : An := kFun v fun f first cap => kO (call f (app first (app vs cap)) hp nx wm) fun c => k c.v c.hp c.nx c.wm
theorem hCv_snd {call : Call} (hcall : CallOk P call) {x : Operand} {c : Go.Call} {l : List Operand} (ho : o.op = .call c) (hx : c.callee = .value x) (hl : c.args.toList = l) {v : Value} (hv : opv rg x = some v) {vs : List Value} (hvs : ovs rg l = some vs) : MV P o rg (hCv call v vs) := by
  intro hp nx wm k r e
  obtain ⟨f, first, cap, rfl, e1⟩ := kFun_inv e
  obtain ⟨oc, hoc, e2⟩ := kO_inv e1
  have := hcall _ _ _ _ _ _ hoc
  rw [app_eq, app_eq] at this
  exact ⟨oc, SimF.sim (s := ⟨rg, hp, nx, wm⟩) ho hx hv (fun E a hg => by rw [hl]; exact ovs_lr hg hvs) this, e2⟩

abbrev OpF := Call → Reg → Hp → Nat → Nat → KV → An
def runC (c : OpC) : Bx OpF := OpC.rec
  (fun x h => (gO x).on fun g => Bx.mk fun _ rg hp nx wm k => Option.rec none (fun a => h a fun v => k v hp nx wm) (g rg))
  (fun x y h => (gO x).on fun g => (gO y).on fun g' => Bx.mk fun _ rg hp nx wm k => Option.rec none (fun a => Option.rec none (fun b => h a b fun v => k v hp nx wm) (g' rg)) (g rg))
  (fun l h => (gL l).on fun g => Bx.mk fun _ rg hp nx wm k => g rg fun vs => h vs fun v => k v hp nx wm)
  (fun h => Bx.mk fun _ _ hp nx wm k => h hp nx wm k)
  (fun x h => (gO x).on fun g => Bx.mk fun _ rg hp nx wm k => Option.rec none (fun a => h a hp nx wm k) (g rg))
  (fun x y h => (gO x).on fun g => (gO y).on fun g' => Bx.mk fun _ rg hp nx wm k => Option.rec none (fun a => Option.rec none (fun b => h a b hp nx wm k) (g' rg)) (g rg))
  (fun l h => (gL l).on fun g => Bx.mk fun _ rg hp nx wm k => g rg fun vs => h vs hp nx wm k)
  (fun x h => (gO x).on fun g => Bx.mk fun _ rg hp nx wm k => Option.rec none (fun a => h a hp nx wm k) (g rg))
  (fun x l => (gO x).on fun g => (gL l).on fun gl => Bx.mk fun call rg hp nx wm k => Option.rec none (fun v => gl rg fun vs => hCv call v vs hp nx wm k) (g rg))
  (Bx.mk fun _ _ _ _ _ _ => none) c

def opsC (c : OpC) : List Operand := match c with
  | .p1 x _ => [x]
  | .p2 x y _ => [x, y]
  | .pl l _ => l
  | .m0 _ => []
  | .m1 x _ => [x]
  | .m2 x y _ => [x, y]
  | .ml l _ => l
  | .n1 x _ => [x]
  | .cv x l => x :: l
  | .bad => []
theorem ovs_congr {rg rg' : Reg} : ∀ {l : List Operand}, (∀ x ∈ l, opv rg x = opv rg' x) → ovs rg l = ovs rg' l
  | [], _ => rfl
  | x :: l, h => by rw [ovs_cons, ovs_cons, h x (List.mem_cons_self ..), ovs_congr fun y hy => h y (List.mem_cons_of_mem _ hy)]
theorem gO_loc {x : Operand} {rg rg' : Reg} (h : opv rg x = opv rg' x) : (gO x).get rg = (gO x).get rg' := (gO_eq x rg).trans (h.trans (gO_eq x rg').symm)
theorem gL_loc {l : List Operand} {rg rg' : Reg} (h : ∀ x ∈ l, opv rg x = opv rg' x) (k : List Value → An) : (gL l).get rg k = (gL l).get rg' k := by rw [gL_eq, gL_eq, ovs_congr h]
theorem runC_loc {c : OpC} {rg rg' : Reg} (h : ∀ x ∈ opsC c, opv rg x = opv rg' x) (call : Call) : (runC c).get call rg = (runC c).get call rg' := by
  funext hp nx wm k
  cases c with
  | p1 x f =>
    simp only [runC, Bx.on_eq]
    exact congrArg (fun t : Option Value => (Option.rec none (fun a => f a fun v => k v hp nx wm) t : An)) (gO_loc (h x (by simp [opsC])))
  | p2 x y f =>
    simp only [runC, Bx.on_eq]
    exact (congrArg (fun t : Option Value => (Option.rec none (fun a => Option.rec none (fun b => f a b fun v => k v hp nx wm) ((gO y).get rg)) t : An)) (gO_loc (h x (by simp [opsC])))).trans (congrArg (fun t : Option Value => (Option.rec none (fun a => Option.rec none (fun b => f a b fun v => k v hp nx wm) t) ((gO x).get rg') : An)) (gO_loc (h y (by simp [opsC]))))
  | pl l f =>
    simp only [runC, Bx.on_eq]
    exact gL_loc (l := l) h _
  | m0 f => rfl
  | m1 x f =>
    simp only [runC, Bx.on_eq]
    exact congrArg (fun t : Option Value => (Option.rec none (fun a => f a hp nx wm k) t : An)) (gO_loc (h x (by simp [opsC])))
  | m2 x y f =>
    simp only [runC, Bx.on_eq]
    exact (congrArg (fun t : Option Value => (Option.rec none (fun a => Option.rec none (fun b => f a b hp nx wm k) ((gO y).get rg)) t : An)) (gO_loc (h x (by simp [opsC])))).trans (congrArg (fun t : Option Value => (Option.rec none (fun a => Option.rec none (fun b => f a b hp nx wm k) t) ((gO x).get rg') : An)) (gO_loc (h y (by simp [opsC]))))
  | ml l f =>
    simp only [runC, Bx.on_eq]
    exact gL_loc (l := l) h _
  | n1 x f =>
    simp only [runC, Bx.on_eq]
    exact congrArg (fun t : Option Value => (Option.rec none (fun a => f a hp nx wm k) t : An)) (gO_loc (h x (by simp [opsC])))
  | cv x l =>
    simp only [runC, Bx.on_eq]
    refine (congrArg (fun t : Option Value => (Option.rec none (fun v => (gL l).get rg fun vs => hCv call v vs hp nx wm k) t : An)) (gO_loc (h x (by simp [opsC])))).trans ?_
    show _ = (Option.rec none (fun v => (gL l).get rg' fun vs => hCv call v vs hp nx wm k) ((gO x).get rg') : An)
    cases (gO x).get rg' with
    | none => rfl
    | some v => exact gL_loc (fun y hy => h y (List.mem_cons_of_mem _ hy)) _
  | bad => rfl

def isP (c : OpC) : Bool := match c with
  | .p1 _ _ | .p2 _ _ _ | .pl _ _ => true
  | _ => false
def isD (c : OpC) : Bool := match c with
  | .n1 _ _ | .bad => false
  | _ => true
theorem runC_mv {c : OpC} (h : SndC P o c) (hd : isD c = true) {call : Call} (hcall : CallOk P call) : MV P o rg ((runC c).get call rg) := by
  intro hp nx wm k r e
  cases c with
  | p1 x f =>
    simp only [runC, Bx.on_eq, Bx.get] at e
    obtain ⟨a, h1, h2⟩ := kO_inv e
    exact (h rg a ((gO_eq x rg).symm.trans h1)).mv hp nx wm k r h2
  | p2 x y f =>
    simp only [runC, Bx.on_eq, Bx.get] at e
    obtain ⟨a, h1, h2⟩ := kO_inv e
    obtain ⟨b, h3, h4⟩ := kO_inv h2
    exact (h rg a b ((gO_eq x rg).symm.trans h1) ((gO_eq y rg).symm.trans h3)).mv hp nx wm k r h4
  | pl l f =>
    simp only [runC, Bx.on_eq] at e
    replace e := (gL_eq rg l _).symm.trans e
    obtain ⟨vs, h1, h2⟩ := kO_inv e
    exact (h rg vs h1).mv hp nx wm k r h2
  | m0 f => exact h rg hp nx wm k r e
  | m1 x f =>
    simp only [runC, Bx.on_eq, Bx.get] at e
    obtain ⟨a, h1, h2⟩ := kO_inv e
    exact h rg a ((gO_eq x rg).symm.trans h1) hp nx wm k r h2
  | m2 x y f =>
    simp only [runC, Bx.on_eq, Bx.get] at e
    obtain ⟨a, h1, h2⟩ := kO_inv e
    obtain ⟨b, h3, h4⟩ := kO_inv h2
    exact h rg a b ((gO_eq x rg).symm.trans h1) ((gO_eq y rg).symm.trans h3) hp nx wm k r h4
  | ml l f =>
    simp only [runC, Bx.on_eq] at e
    replace e := (gL_eq rg l _).symm.trans e
    obtain ⟨vs, h1, h2⟩ := kO_inv e
    exact h rg vs h1 hp nx wm k r h2
  | n1 x f => cases hd
  | cv x l =>
    simp only [runC, Bx.on_eq] at e
    obtain ⟨v, h1, h2⟩ := kO_inv (show kO ((gO x).get rg) (fun v => (gL l).get rg fun vs => hCv call v vs hp nx wm k) = some r from e)
    rw [gL_eq] at h2
    obtain ⟨vs, h3, h4⟩ := kO_inv h2
    rw [gO_eq] at h1
    obtain ⟨c, q1, q2, q3⟩ := h
    exact hCv_snd hcall q1 q2 q3 h1 h3 hp nx wm k r h4
  | bad => cases hd
theorem runC_snd {c : OpC} (h : SndC P o c) {call : Call} (hcall : CallOk P call) : NV P o rg ((runC c).get call rg) := by
  cases hd : isD c with
  | true => exact (runC_mv h hd hcall).nv
  | false =>
    intro hp nx wm k r e
    cases c with
    | n1 x f =>
      simp only [runC, Bx.on_eq, Bx.get] at e
      obtain ⟨a, h1, h2⟩ := kO_inv e
      exact h rg a ((gO_eq x rg).symm.trans h1) hp nx wm k r h2
    | bad => cases e
    | _ => cases hd
theorem runC_pv {c : OpC} (h : SndC P o c) (hd : isP c = true) {call : Call} {hp : Hp} {nx wm : Nat} {k : KV} {r} (e : (runC c).get call rg hp nx wm k = some r) : ∃ v, (∀ hp nx wm, Does P o rg hp nx wm v hp nx wm) ∧ k v hp nx wm = some r := by
  cases c with
  | p1 x f =>
    simp only [runC, Bx.on_eq, Bx.get] at e
    obtain ⟨a, h1, h2⟩ := kO_inv e
    exact h rg a ((gO_eq x rg).symm.trans h1) _ r h2
  | p2 x y f =>
    simp only [runC, Bx.on_eq, Bx.get] at e
    obtain ⟨a, h1, h2⟩ := kO_inv e
    obtain ⟨b, h3, h4⟩ := kO_inv h2
    exact h rg a b ((gO_eq x rg).symm.trans h1) ((gO_eq y rg).symm.trans h3) _ r h4
  | pl l f =>
    simp only [runC, Bx.on_eq] at e
    replace e := (gL_eq rg l _).symm.trans e
    obtain ⟨vs, h1, h2⟩ := kO_inv e
    exact h rg vs h1 _ r h2
  | _ => cases hd
end
end
end Go.Proofs.YtdgllpcfmkjfhaaGreat
/- The quick evaluator's operations that look at no memory. Over any program. -/
namespace Go.Proofs.YtdgllpcfmkjfhaaGreat
open Go.RowKit
set_option linter.unusedVariables false
noncomputable section

structure Cx where
  ti : T5 TypeInfo
  fn : T5 Func
  ks : T5 (Bool × List Tk)
structure CxOk (P : Program) (cx : Cx) : Prop where
  ti : ∀ t i, g5 t cx.ti = some i → P.info? t = some i
  fn : ∀ f x, g5 f cx.fn = some x → P.funcs[f]? = some x ∧ x.name ≠ "runtime.NumGoroutine"
  ks : ∀ t p, g5 t cx.ks = some p → KeyT P t p.1 p.2 ∧ P.eqGuardType P.depth t = false
def undD (cx : Cx) (d : TypeDesc) : Option TypeDesc := match d with
  | .named _ u => (match g5 u cx.ti with | none => none | some j => some j.desc)
  | d => some d
def undX (cx : Cx) (t : Nat) : Option TypeDesc := match g5 t cx.ti with
  | none => none
  | some i => undD cx i.desc
variable {P : Program} {cx : Cx} {o : Oper} {rg : Reg}
theorem undX_ok (hc : CxOk P cx) {t : Nat} {d : TypeDesc} (h : undX cx t = some d) : P.underlying t = some d := by
  unfold undX at h
  split at h
  · cases h
  · rename_i i hi
    have h1 := hc.ti t i hi
    unfold Program.underlying
    rw [h1]
    unfold undD at h
    split at h
    · rename_i s u hd
      split at h
      · cases h
      · rename_i j hj
        injection h with h; subst h
        obtain ⟨desc, _⟩ := i
        simp only at hd
        subst hd
        simp only [hc.ti u j hj, Option.map_some]
    · rename_i hn
      injection h with h; subst h
      obtain ⟨desc, _⟩ := i
      cases desc <;> first | rfl | exact absurd rfl (hn _ _)

def kB (b : Bool) (k : Value → An) : An := Bool.rec (k (.bool false)) (k (.bool true)) b
theorem kB_eq (b : Bool) (k : Value → An) : kB b k = k (.bool b) := by cases b <;> rfl
def fV (v : Value) (k : Value → An) : An := match v with
  | .int q n => fI n fun n => k (.int q n)
  | v => k v
theorem fV_eq (v : Value) (k : Value → An) : fV v k = k v := by
  cases v with
  | int q n => exact fI_eq n fun n => k (.int q n)
  | _ => rfl

theorem PV.ret {h : (Value → An) → An} {v : Value} (hd : ∀ hp nx wm, Does P o rg hp nx wm v hp nx wm) (he : ∀ k, h k = k v) : PV P o rg h := fun k r e => ⟨v, hd, (he k).symm.trans e⟩

/-! ### Moves -/
def cMove (x : Operand) : OpC := .p1 x fun a k => k a
theorem cMove_snd {x : Operand} (ho : o.op = .move x ∨ o.op = .assign x) : SndC P o (cMove x) := fun rg a ha => .ret (v := a) (fun hp nx wm => does_move ho ha) fun k => rfl
def cPick (c x y : Operand) : OpC := .pl [c, x, y] fun vs k => match vs with
  | [c, a, b] => kBool c fun t => Bool.rec (k b) (k a) t
  | _ => none
theorem ovs3 {rg : Reg} {x y z : Operand} {vs : List Value} (h : ovs rg [x, y, z] = some vs) : ∃ a b c, vs = [a, b, c] ∧ opv rg x = some a ∧ opv rg y = some b ∧ opv rg z = some c := by
  simp only [ovs] at h
  cases hx : opv rg x <;> simp only [hx, reduceCtorEq] at h
  cases hy : opv rg y <;> simp only [hy, reduceCtorEq] at h
  cases hz : opv rg z <;> simp only [hz, reduceCtorEq, Option.some.injEq] at h
  exact ⟨_, _, _, h.symm, rfl, rfl, rfl⟩
theorem cPick_snd {c x y : Operand} (ho : o.op = .pick c x y) : SndC P o (cPick c x y) := by
  intro rg vs hvs k r e
  obtain ⟨a, b, d, rfl, h1, h2, h3⟩ := ovs3 hvs
  obtain ⟨t, rfl, e1⟩ := kBool_inv e
  cases t with
  | true => exact ⟨b, fun hp nx wm => does_pick ho h1 h2, e1⟩
  | false => exact ⟨d, fun hp nx wm => does_pick ho h1 h3, e1⟩

/-! ### Numbers -/
def hAr (f : Int → Int → Int) (a b : Value) (k : Value → An) : An := kInt a fun q m => kInt b fun j n => kIf (keq q j) (fI (wrp q (f m n)) fun r => k (.int q r))
def hCmp (f : Int → Int → Bool) (a b : Value) (k : Value → An) : An := kInt a fun q m => kInt b fun j n => kIf (keq q j) (kB (f m n) k)
def hIop (op : BinOp) (a b : Value) (k : Value → An) : An := kInt a fun q m => kInt b fun j n => kIf (keq q j) (kO (iop op q m n) fun v => fV v k)
def hBop (op : BinOp) (a b : Value) (k : Value → An) : An := kInt a fun q m => kInt b fun j n => kIf (keq q j) (Int.rec (fun m => Int.rec (fun n => kO (bop op q m n) fun v => fV v k) (fun _ => none) n) (fun _ => none) m)
def hShop (op : BinOp) (a b : Value) (k : Value → An) : An := kInt a fun q m => kNat b fun n => kO (shop op q m n) fun v => fV v k
section
variable {op : BinOp} {t u : TypeId} {x y : Operand}
theorem hAr_snd (ho : o.op = .binOp op t x y u) {f : Int → Int → Int} (hf : ∀ q m n, iop op q m n = some (.int q (wrp q (f m n)))) : SndC P o (.p2 x y (hAr f)) := by
  intro rg a b ha hb k r e
  obtain ⟨q, m, rfl, e1⟩ := kInt_inv e
  obtain ⟨j, n, rfl, e2⟩ := kInt_inv e1
  obtain ⟨hj, e3⟩ := kIf_inv e2
  obtain rfl := keq_eq hj
  rw [fI_eq] at e3
  exact ⟨_, fun hp nx wm => does_iop ho ha hb (hf q m n), e3⟩
theorem hCmp_snd (ho : o.op = .binOp op t x y u) {f : Int → Int → Bool} (hf : ∀ q m n, iop op q m n = some (.bool (f m n))) : SndC P o (.p2 x y (hCmp f)) := by
  intro rg a b ha hb k r e
  obtain ⟨q, m, rfl, e1⟩ := kInt_inv e
  obtain ⟨j, n, rfl, e2⟩ := kInt_inv e1
  obtain ⟨hj, e3⟩ := kIf_inv e2
  obtain rfl := keq_eq hj
  rw [kB_eq] at e3
  exact ⟨_, fun hp nx wm => does_iop ho ha hb (hf q m n), e3⟩
theorem hIop_snd (ho : o.op = .binOp op t x y u) : SndC P o (.p2 x y (hIop op)) := by
  intro rg a b ha hb k r e
  obtain ⟨q, m, rfl, e1⟩ := kInt_inv e
  obtain ⟨j, n, rfl, e2⟩ := kInt_inv e1
  obtain ⟨hj, e3⟩ := kIf_inv e2
  obtain rfl := keq_eq hj
  obtain ⟨v, hv, e4⟩ := kO_inv e3
  rw [fV_eq] at e4
  exact ⟨_, fun hp nx wm => does_iop ho ha hb hv, e4⟩
theorem hBop_snd (ho : o.op = .binOp op t x y u) : SndC P o (.p2 x y (hBop op)) := by
  intro rg a b ha hb k r e
  obtain ⟨q, m, rfl, e1⟩ := kInt_inv e
  obtain ⟨j, n, rfl, e2⟩ := kInt_inv e1
  obtain ⟨hj, e3⟩ := kIf_inv e2
  obtain rfl := keq_eq hj
  cases m with
  | negSucc m => cases e3
  | ofNat m => cases n with
    | negSucc n => cases e3
    | ofNat n =>
      obtain ⟨v, hv, e4⟩ := kO_inv e3
      rw [fV_eq] at e4
      exact ⟨_, fun hp nx wm => does_bop ho ha hb hv, e4⟩
theorem hShop_snd (ho : o.op = .binOp op t x y u) : SndC P o (.p2 x y (hShop op)) := by
  intro rg a b ha hb k r e
  obtain ⟨q, m, rfl, e1⟩ := kInt_inv e
  obtain ⟨j, n, rfl, e2⟩ := kNat_inv e1
  obtain ⟨v, hv, e3⟩ := kO_inv e2
  rw [fV_eq] at e3
  exact ⟨_, fun hp nx wm => does_shop ho ha hb hv, e3⟩

/-! ### '==' -/
def neqB (op : BinOp) : Bool := match op with | .neq => true | _ => false
def hOeq (td : TypeDesc) (op : BinOp) (a b : Value) (k : Value → An) : An := kIf (okT td a) (kIf (okT td b) (kO (oeq a b) fun t => kB (Bool.rec t (not t) (neqB op)) k))
theorem hOeq_snd (ho : o.op = .binOp op t x y u) (hop : op = .eql ∨ op = .neq) {td : TypeDesc} (ht : P.underlying t = some td) : SndC P o (.p2 x y (hOeq td op)) := by
  intro rg a b ha hb k r e
  obtain ⟨h1, e1⟩ := kIf_inv e
  obtain ⟨h2, e2⟩ := kIf_inv e1
  obtain ⟨v, hv, e3⟩ := kO_inv e2
  rw [kB_eq] at e3
  rcases hop with rfl | rfl
  · exact ⟨_, fun hp nx wm => does_oeq ho (.inl rfl) ht ha hb h1 h2 hv, e3⟩
  · exact ⟨_, fun hp nx wm => does_oeq ho (.inr rfl) ht ha hb h1 h2 hv, e3⟩
def hAeq (ks : List Tk) (op : BinOp) (a b : Value) (k : Value → An) : An := kAgg a fun l => kAgg b fun m => kIf (cellsOk ks l) (kIf (cellsOk ks m) (kB (Bool.rec (cellsEq l m) (not (cellsEq l m)) (neqB op)) k))
theorem hAeq_snd (hc : CxOk P cx) (ho : o.op = .binOp op t x y u) (hop : op = .eql ∨ op = .neq) {ks : List Tk} (hk : g5 t cx.ks = some (true, ks)) : SndC P o (.p2 x y (hAeq ks op)) := by
  intro rg a b ha hb k r e
  obtain ⟨l, rfl, e1⟩ := kAgg_inv e
  obtain ⟨m, rfl, e2⟩ := kAgg_inv e1
  obtain ⟨h1, e3⟩ := kIf_inv e2
  obtain ⟨h2, e4⟩ := kIf_inv e3
  rw [kB_eq] at e4
  obtain ⟨hkt, hg⟩ := hc.ks t _ hk
  obtain ⟨m', hm, hf⟩ := hkt.flat
  rcases hop with rfl | rfl
  · exact ⟨_, fun hp nx wm => does_eqAgg ho (.inl rfl) hm hf hkt.row.symm hg ha hb h1 h2, e4⟩
  · exact ⟨_, fun hp nx wm => does_eqAgg ho (.inr rfl) hm hf hkt.row.symm hg ha hb h1 h2, e4⟩

def cEq (cx : Cx) (op : BinOp) (t : TypeId) (x y : Operand) : OpC := match undX cx t with
  | some (.int _) => .p2 x y (match op with | .eql => hCmp ieq | _ => hCmp fun a b => not (ieq a b))
  | some (.array _ _) => (match g5 t cx.ks with | some (true, ks) => .p2 x y (hAeq ks op) | _ => .bad)
  | some (.struct _) => (match g5 t cx.ks with | some (true, ks) => .p2 x y (hAeq ks op) | _ => .bad)
  | some d => .p2 x y (hOeq d op)
  | none => .bad
theorem cEq_snd (hc : CxOk P cx) (ho : o.op = .binOp op t x y u) (hop : op = .eql ∨ op = .neq) : SndC P o (cEq cx op t x y) := by
  unfold cEq
  split
  · rcases hop with rfl | rfl
    · exact hCmp_snd ho fun _ _ _ => rfl
    · exact hCmp_snd ho fun _ _ _ => rfl
  · split
    · rename_i hk; exact hAeq_snd hc ho hop hk
    · trivial
  · split
    · rename_i hk; exact hAeq_snd hc ho hop hk
    · trivial
  · rename_i h; exact hOeq_snd ho hop (undX_ok hc h)
  · trivial
def cBin (cx : Cx) (op : BinOp) (t : TypeId) (x y : Operand) : OpC := match op with
  | .add => .p2 x y (hAr addI)
  | .sub => .p2 x y (hAr subI)
  | .mul => .p2 x y (hAr mulI)
  | .lss => .p2 x y (hCmp ilt)
  | .leq => .p2 x y (hCmp fun a b => not (ilt b a))
  | .gtr => .p2 x y (hCmp fun a b => ilt b a)
  | .geq => .p2 x y (hCmp fun a b => not (ilt a b))
  | .quo => .p2 x y (hIop .quo)
  | .rem => .p2 x y (hIop .rem)
  | .shl => .p2 x y (hShop .shl)
  | .shr => .p2 x y (hShop .shr)
  | .eql => cEq cx .eql t x y
  | .neq => cEq cx .neq t x y
  | op => .p2 x y (hBop op)
theorem cBin_snd (hc : CxOk P cx) (ho : o.op = .binOp op t x y u) : SndC P o (cBin cx op t x y) := by
  cases op
  case add => exact hAr_snd ho fun _ _ _ => by rw [addI_eq]; rfl
  case sub => exact hAr_snd ho fun _ _ _ => by rw [subI_eq]; rfl
  case mul => exact hAr_snd ho fun _ _ _ => by rw [mulI_eq]; rfl
  case lss => exact hCmp_snd ho fun _ _ _ => rfl
  case leq => exact hCmp_snd ho fun _ _ _ => rfl
  case gtr => exact hCmp_snd ho fun _ _ _ => rfl
  case geq => exact hCmp_snd ho fun _ _ _ => rfl
  case quo => exact hIop_snd ho
  case rem => exact hIop_snd ho
  case shl => exact hShop_snd ho
  case shr => exact hShop_snd ho
  case eql => exact cEq_snd hc ho (.inl rfl)
  case neq => exact cEq_snd hc ho (.inr rfl)
  all_goals exact hBop_snd ho
end
end
end Go.Proofs.YtdgllpcfmkjfhaaGreat
/- The quick evaluator's operations that look at no memory: parts, addresses, slices, sizes. Over any program. -/
namespace Go.Proofs.YtdgllpcfmkjfhaaGreat
open Go.RowKit
set_option linter.unusedVariables false
noncomputable section
variable {P : Program} {cx : Cx} {o : Oper} {rg : Reg}

def cUn (op : UnOp) (x : Operand) : OpC := .p1 x fun a k => kO (unV op a) fun v => fV v k
theorem cUn_snd {op : UnOp} {t : TypeId} {x : Operand} (ho : o.op = .unOp op t x) : SndC P o (cUn op x) := by
  intro rg a ha k r e
  obtain ⟨v, hv, e1⟩ := kO_inv e
  rw [fV_eq] at e1
  exact ⟨_, fun hp nx wm => does_un ho ha hv, e1⟩
def hNil (a : Value) (k : Value → An) : An := match a with
  | .pointer (some ⟨n, o, none⟩) => k (.pointer (some ⟨n, o, none⟩))
  | .func f x c => k (.func f x c)
  | _ => none
def cNil (x : Operand) : OpC := .p1 x hNil
theorem cNil_snd {x : Operand} (ho : o.op = .nilCheck x) : SndC P o (cNil x) := by
  intro rg a ha k r e
  unfold hNil at e
  split at e
  · exact ⟨_, fun hp nx wm => does_nilCheck ho ha, e⟩
  · exact ⟨_, fun hp nx wm => does_nilCheckF ho ha, e⟩
  · cases e
def cExt (x : Operand) (i : Nat) : OpC := fN i fun i => .p1 x fun a k => kTup a fun l => kO (nth l i) k
theorem cExt_snd {x : Operand} {i : Nat} (ho : o.op = .extract x i) : SndC P o (cExt x i) := by
  unfold cExt; rw [fN_eq]
  intro rg a ha k r e
  obtain ⟨l, rfl, e1⟩ := kTup_inv e
  obtain ⟨v, hv, e2⟩ := kO_inv e1
  exact ⟨_, fun hp nx wm => does_extract ho ha hv, e2⟩

/-! ### Parts -/
def hP1 (off : Nat) (a : Value) (k : Value → An) : An := kAgg a fun l => kO (nth l off) k
def hPN (off sz : Nat) (a : Value) (k : Value → An) : An := kAgg a fun l => k (.agg ⟨takeN (dropN l off) sz⟩)
theorem arr_nth {α : Type} {a : Array α} {i : Nat} {v : α} (h : nth a.toList i = some v) : a[i]? = some v := by rw [nth_eq] at h; simpa using h
def cField (cx : Cx) (t : TypeId) (x : Operand) (f : Nat) : OpC := match undX cx t with
  | some (.struct fs) => match nth fs.toList f with
    | some fl => match undX cx fl.type, g5 fl.type cx.ti with
      | some d, some i => fN fl.offset fun off => fN i.size fun sz => Bool.rec (.p1 x (hP1 off)) (.p1 x (hPN off sz)) d.isRow
      | _, _ => .bad
    | none => .bad
  | _ => .bad
theorem cField_snd (hc : CxOk P cx) {t : TypeId} {x : Operand} {f : Nat} (ho : o.op = .field t x f) : SndC P o (cField cx t x f) := by
  unfold cField
  split
  · rename_i fs ht
    split
    · rename_i fl hf
      split
      · rename_i d i hd hi
        rw [fN_eq, fN_eq]
        cases hr : d.isRow with
        | true =>
          intro rg a ha k r e
          obtain ⟨l, rfl, e1⟩ := kAgg_inv e
          exact ⟨_, fun hp nx wm => does_fieldN ho (undX_ok hc ht) (arr_nth hf) (undX_ok hc hd) hr (hc.ti _ _ hi) ha, e1⟩
        | false =>
          intro rg a ha k r e1
          obtain ⟨l, rfl, e2⟩ := kAgg_inv e1
          obtain ⟨v, hv, e3⟩ := kO_inv e2
          exact ⟨_, fun hp nx wm => does_field1 ho (undX_ok hc ht) (arr_nth hf) (undX_ok hc hd) hr ha hv, e3⟩
      · trivial
    · trivial
  · trivial
def hI1 (len sz : Nat) (a j : Value) (k : Value → An) : An := kAgg a fun l => kNat j fun j => kIf (Nat.blt j len) (kO (nth l (Nat.mul j sz)) k)
def hIN (len sz : Nat) (a j : Value) (k : Value → An) : An := kAgg a fun l => kNat j fun j => kIf (Nat.blt j len) (k (.agg ⟨takeN (dropN l (Nat.mul j sz)) sz⟩))
def hIS (a j : Value) (k : Value → An) : An := kStr a fun s => kNat j fun j => kO (nth s.data.toList j) fun c => fN c.toNat fun m => k (.int .u8 (.ofNat m))
def cIndex (cx : Cx) (t : TypeId) (x ix : Operand) : OpC := match undX cx t with
  | some (.array len el) => match undX cx el, g5 el cx.ti with
    | some d, some i => fN len fun len => fN i.size fun sz => Bool.rec (.p2 x ix (hI1 len sz)) (.p2 x ix (hIN len sz)) d.isRow
    | _, _ => .bad
  | some .string => .p2 x ix hIS
  | _ => .bad
theorem cIndex_snd (hc : CxOk P cx) {t : TypeId} {x ix : Operand} (ho : o.op = .index t x ix) : SndC P o (cIndex cx t x ix) := by
  unfold cIndex
  split
  · rename_i len el ht
    split
    · rename_i d i hd hi
      rw [fN_eq, fN_eq]
      cases hr : d.isRow with
      | true =>
        intro rg a j ha hj k r e
        obtain ⟨l, rfl, e1⟩ := kAgg_inv e
        obtain ⟨q, n, rfl, e2⟩ := kNat_inv e1
        obtain ⟨hl, e3⟩ := kIf_inv e2
        exact ⟨_, fun hp nx wm => does_indexAN ho (undX_ok hc ht) (hc.ti _ _ hi) (undX_ok hc hd) hr ha hj (Nat.blt_eq.mp hl), e3⟩
      | false =>
        intro rg a j ha hj k r e3
        obtain ⟨l, rfl, e4⟩ := kAgg_inv e3
        obtain ⟨q, n, rfl, e5⟩ := kNat_inv e4
        obtain ⟨hl, e6⟩ := kIf_inv e5
        obtain ⟨v, hv, e7⟩ := kO_inv e6
        exact ⟨_, fun hp nx wm => does_indexA1 ho (undX_ok hc ht) (hc.ti _ _ hi) (undX_ok hc hd) hr ha hj (Nat.blt_eq.mp hl) hv, e7⟩
    · trivial
  · rename_i ht
    intro rg a j ha hj k r e7
    obtain ⟨s, rfl, e8⟩ := kStr_inv e7
    obtain ⟨q, n, rfl, e9⟩ := kNat_inv e8
    obtain ⟨c, hcc, e10⟩ := kO_inv e9
    rw [fN_eq] at e10
    exact ⟨_, fun hp nx wm => does_indexS ho (undX_ok hc ht) ha hj hcc, e10⟩
  · trivial

/-! ### Functions, conversions -/
def cMkF (f : FuncId) (fs cs : List Operand) : OpC := fN (len fs) fun n => .pl (app fs cs) fun vs k => k (.func (.func f) ⟨takeN vs n⟩ ⟨dropN vs n⟩)
theorem ovs_app {rg : Reg} : ∀ {l m : List Operand} {vs : List Value}, ovs rg (app l m) = some vs → ovs rg l = some (takeN vs (len l)) ∧ ovs rg m = some (dropN vs (len l))
  | [], m, vs, h => ⟨by cases vs <;> rfl, by rw [dropN_eq]; exact h⟩
  | x :: l, m, vs, h => by
    replace h : ovs rg (x :: app l m) = some vs := h
    rw [ovs_cons] at h ⊢
    split at h
    · cases h
    · rename_i v hv
      split at h
      · cases h
      · rename_i us hu
        injection h with h; subst h
        obtain ⟨h1, h2⟩ := ovs_app hu
        rw [h1]
        exact ⟨rfl, h2⟩
theorem cMkF_snd {f : FuncId} {fs cs : Array Operand} (ho : o.op = .makeFunc (.func f) fs cs) : SndC P o (cMkF f fs.toList cs.toList) := by
  unfold cMkF; rw [fN_eq]
  intro rg vs hvs k r e
  obtain ⟨h1, h2⟩ := ovs_app hvs
  rw [ovs_mapM] at h1 h2
  exact ⟨_, fun hp nx wm => does_makeFunc ho h1 h2, e⟩
def hConv (k : IntKind) (a : Value) (f : Value → An) : An := kInt a fun q n => fI (wrp k n) fun n => f (.int k n)
def cConv (cx : Cx) (s d : TypeId) (x : Operand) : OpC := match undX cx s, undX cx d with
  | some sd, some (.int k) => .p1 x (hConv k)
  | some .string, some .string => .p1 x fun a k => kStr a fun b => k (.string b)
  | _, _ => .bad
theorem cConv_snd (hc : CxOk P cx) {s d : TypeId} {x : Operand} (ho : o.op = .convert s d x) : SndC P o (cConv cx s d x) := by
  unfold cConv
  split
  · rename_i hs hd
    intro rg a ha k r e
    obtain ⟨q, n, rfl, e1⟩ := kInt_inv e
    rw [fI_eq] at e1
    exact ⟨_, fun hp nx wm => does_convInt ho (undX_ok hc hs) (undX_ok hc hd) ha, e1⟩
  · rename_i hs hd
    intro rg a ha k r e1
    obtain ⟨b, rfl, e2⟩ := kStr_inv e1
    exact ⟨_, fun hp nx wm => does_convStr ho (undX_ok hc hs) (undX_ok hc hd) ha, e2⟩
  · trivial

/-! ### Addresses -/
def hFA (off : Nat) (a : Value) (k : Value → An) : An := kPtr a fun n q => fN (Nat.add q off) fun q => k (.pointer (some ⟨n, q, none⟩))
def cFA (cx : Cx) (s : TypeId) (x : Operand) (f : Nat) : OpC := match undX cx s with
  | some (.struct fs) => match nth fs.toList f with
    | some fl => match g5 fl.type cx.ti with
      | some i => fN fl.offset fun off => Bool.rec (.p1 x (hFA off)) .bad (Nat.beq i.size 0)
      | none => .bad
    | none => .bad
  | _ => .bad
theorem cFA_snd (hc : CxOk P cx) {s : TypeId} {x : Operand} {f : Nat} (ho : o.op = .fieldAddr s x f) : SndC P o (cFA cx s x f) := by
  unfold cFA
  split
  · rename_i fs hs
    split
    · rename_i fl hf
      split
      · rename_i i hi
        rw [fN_eq]
        cases hz : Nat.beq i.size 0 with
        | true => trivial
        | false =>
          intro rg a ha k r e
          obtain ⟨n, q, rfl, e1⟩ := kPtr_inv e
          rw [fN_eq] at e1
          exact ⟨_, fun hp nx wm => does_fieldAddr ho (undX_ok hc hs) (arr_nth hf) (hc.ti _ _ hi) (fun h0 => by rw [h0] at hz; cases hz) ha, e1⟩
      · trivial
    · trivial
  · trivial
def hIAa (len sz : Nat) (a j : Value) (k : Value → An) : An := kPtr a fun n q => kNat j fun j => kIf (Nat.blt j len) (fN (Nat.add q (Nat.mul j sz)) fun q => k (.pointer (some ⟨n, q, none⟩)))
def hIAs (sz : Nat) (a j : Value) (k : Value → An) : An := kSlc a (fun _ _ => none) fun n q l c => kNat j fun j => kIf (Nat.blt j l) (fN (Nat.add q (Nat.mul j sz)) fun q => k (.pointer (some ⟨n, q, none⟩)))
def cIA (cx : Cx) (t : TypeId) (x ix : Operand) : OpC := match undX cx t with
  | some (.array len el) => (match g5 el cx.ti with | some i => fN len fun len => fN i.size fun sz => .p2 x ix (hIAa len sz) | none => .bad)
  | some (.slice el) => (match g5 el cx.ti with | some i => fN i.size fun sz => .p2 x ix (hIAs sz) | none => .bad)
  | _ => .bad
theorem cIA_snd (hc : CxOk P cx) {t : TypeId} {x ix : Operand} (ho : o.op = .indexAddr t x ix) : SndC P o (cIA cx t x ix) := by
  unfold cIA
  split
  · rename_i len el ht
    split
    · rename_i i hi
      rw [fN_eq, fN_eq]
      intro rg a j ha hj k r e
      obtain ⟨n, q, rfl, e1⟩ := kPtr_inv e
      obtain ⟨q', m, rfl, e2⟩ := kNat_inv e1
      obtain ⟨hl, e3⟩ := kIf_inv e2
      rw [fN_eq] at e3
      exact ⟨_, fun hp nx wm => does_indexArr ho (undX_ok hc ht) (hc.ti _ _ hi) ha hj (Nat.blt_eq.mp hl), e3⟩
    · trivial
  · rename_i el ht
    split
    · rename_i i hi
      rw [fN_eq]
      intro rg a j ha hj k r e3
      rcases kSlc_inv e3 with ⟨l, c, rfl, e1⟩ | ⟨n, q, l, c, rfl, e1⟩
      · cases e1
      · obtain ⟨q', m, rfl, e2⟩ := kNat_inv e1
        obtain ⟨hl, e3⟩ := kIf_inv e2
        rw [fN_eq] at e3
        exact ⟨_, fun hp nx wm => does_indexSlc ho (undX_ok hc ht) (hc.ti _ _ hi) ha hj (Nat.blt_eq.mp hl), e3⟩
    · trivial
  · trivial

/-! ### Sizes -/
def kI (n : Nat) (k : Value → An) : An := fN n fun n => k (.int .i64 (.ofNat n))
theorem kI_eq (n : Nat) (k : Value → An) : kI n k = k (.int .i64 (.ofNat n)) := fN_eq n _
def cLen (cx : Cx) (t : TypeId) (x : Operand) : OpC := match undX cx t with
  | some (.slice _) => .p1 x fun a k => kSlc a (fun l _ => kI l k) fun _ _ l _ => kI l k
  | some .string => .p1 x fun a k => kStr a fun s => kI s.size k
  | some (.array n _) => .p1 x fun _ k => kI n k
  | some (.pointer u) => (match undX cx u with | some (.array n _) => .p1 x fun _ k => kI n k | _ => .bad)
  | some (.map _ _) => .m1 x fun a hp nx wm k => kMap a none fun n => kO (g5 n hp) fun b => match b with
    | .mp _ _ es _ => kI (len es) fun v => k v hp nx wm
    | _ => none
  | _ => .bad
theorem cLen_snd (hc : CxOk P cx) {t : TypeId} {x : Operand} (ho : o.op = .call ⟨.builtin .len, ⟨[x]⟩, ⟨[t]⟩⟩) : SndC P o (cLen cx t x) := by
  unfold cLen
  split
  · rename_i ht
    intro rg a ha k r e
    rcases kSlc_inv e with ⟨l, c, rfl, e1⟩ | ⟨n, q, l, c, rfl, e1⟩
    · rw [kI_eq] at e1; exact ⟨_, fun hp nx wm => does_lenSlc ho (undX_ok hc ht) ha, e1⟩
    · rw [kI_eq] at e1; exact ⟨_, fun hp nx wm => does_lenSlc ho (undX_ok hc ht) ha, e1⟩
  · rename_i ht
    intro rg a ha k r e
    obtain ⟨s, rfl, e1⟩ := kStr_inv e
    rw [kI_eq] at e1
    exact ⟨_, fun hp nx wm => does_lenStr ho (undX_ok hc ht) ha, e1⟩
  · rename_i ht
    intro rg a ha k r e0
    exact ⟨_, fun hp nx wm => does_lenArr ho (undX_ok hc ht) ha, (kI_eq _ k).symm.trans e0⟩
  · rename_i ht
    split
    · rename_i hu
      intro rg a ha k r e0
      exact ⟨_, fun hp nx wm => does_lenPtr ho (undX_ok hc ht) (undX_ok hc hu) ha, (kI_eq _ k).symm.trans e0⟩
    · trivial
  · rename_i ht
    intro rg a ha hp nx wm k r e1
    rcases kMap_inv e1 with ⟨rfl, e1⟩ | ⟨n, rfl, e1⟩
    · cases e1
    · obtain ⟨b, hb, e2⟩ := kO_inv e1
      split at e2
      · rw [kI_eq] at e2
        exact ⟨_, (does_lenMap ho (undX_ok hc ht) ha hb).sim, e2⟩
      · cases e2
  · trivial
def cCap (cx : Cx) (t : TypeId) (x : Operand) : OpC := match undX cx t with
  | some (.slice _) => .p1 x fun a k => kSlc a (fun _ c => kIf (Nat.blt c OM) (kI c k)) fun _ _ _ c => kIf (Nat.blt c OM) (kI c k)
  | _ => .bad
theorem cCap_snd (hc : CxOk P cx) {t : TypeId} {x : Operand} (ho : o.op = .call ⟨.builtin .cap, ⟨[x]⟩, ⟨[t]⟩⟩) : SndC P o (cCap cx t x) := by
  unfold cCap
  split
  · rename_i ht
    intro rg a ha k r e
    rcases kSlc_inv e with ⟨l, c, rfl, e1⟩ | ⟨n, q, l, c, rfl, e1⟩
    · obtain ⟨hlt, e2⟩ := kIf_inv e1
      rw [kI_eq] at e2; exact ⟨_, fun hp nx wm => does_cap ho (undX_ok hc ht) ha (Nat.blt_eq.mp hlt), e2⟩
    · obtain ⟨hlt, e2⟩ := kIf_inv e1
      rw [kI_eq] at e2; exact ⟨_, fun hp nx wm => does_cap ho (undX_ok hc ht) ha (Nat.blt_eq.mp hlt), e2⟩
  · trivial
def cMax (x y : Operand) : OpC := .p2 x y fun a b k => kInt a fun q m => kInt b fun _ n => Bool.rec (k (.int q m)) (k (.int q n)) (ilt m n)
theorem cMax_snd {x y : Operand} {t u : TypeId} (ho : o.op = .call ⟨.builtin .max, ⟨[x, y]⟩, ⟨[t, u]⟩⟩) : SndC P o (cMax x y) := by
  intro rg a b ha hb k r e
  obtain ⟨q, m, rfl, e1⟩ := kInt_inv e
  obtain ⟨j, n, rfl, e2⟩ := kInt_inv e1
  refine ⟨_, fun hp nx wm => does_max ho ha hb, ?_⟩
  revert e2
  cases ilt m n <;> exact fun h => h
def cMin (x y : Operand) : OpC := .p2 x y fun a b k => kInt a fun q m => kInt b fun _ n => Bool.rec (k (.int q m)) (k (.int q n)) (ilt n m)
theorem cMin_snd {x y : Operand} {t u : TypeId} (ho : o.op = .call ⟨.builtin .min, ⟨[x, y]⟩, ⟨[t, u]⟩⟩) : SndC P o (cMin x y) := by
  intro rg a b ha hb k r e
  obtain ⟨q, m, rfl, e1⟩ := kInt_inv e
  obtain ⟨j, n, rfl, e2⟩ := kInt_inv e1
  refine ⟨_, fun hp nx wm => does_min ho ha hb, ?_⟩
  revert e2
  cases ilt n m <;> exact fun h => h
end
end Go.Proofs.YtdgllpcfmkjfhaaGreat
/- The quick evaluator's slices of slices, and built values. Over any program. -/
namespace Go.Proofs.YtdgllpcfmkjfhaaGreat
open Go.RowKit
set_option linter.unusedVariables false
noncomputable section
variable {P : Program} {cx : Cx} {o : Oper} {rg : Reg}

def ol (p : Option Operand) (l : List Operand) : List Operand := match p with | none => l | some x => x :: l
def bV (p : Option Operand) (vs : List Value) (k : Option Nat → List Value → An) : An := match p with
  | none => k none vs
  | some _ => match vs with
    | v :: vs => kNat v fun n => k (some n) vs
    | [] => none
theorem bV_inv {p : Option Operand} {l : List Operand} {vs : List Value} {k : Option Nat → List Value → An} {r} (h : ovs rg (ol p l) = some vs) (e : bV p vs k = some r) : ∃ b us, opn rg p = some b ∧ ovs rg l = some us ∧ k b us = some r := by
  cases p with
  | none => exact ⟨none, vs, rfl, h, e⟩
  | some x =>
    replace h : ovs rg (x :: l) = some vs := h
    rw [ovs_cons] at h
    split at h
    · cases h
    · rename_i v hv
      split at h
      · cases h
      · rename_i us hu
        injection h with h; subst h
        obtain ⟨q, n, hn, e1⟩ := kNat_inv (show kNat v (fun n => k (some n) us) = some r from e)
        refine ⟨some n, us, ?_, hu, e1⟩
        simp only [opn, hv, hn]
def bnds (lo hi mx : Option Operand) (vs : List Value) (k : Option Nat → Option Nat → Option Nat → An) : An := bV lo vs fun l vs => bV hi vs fun h vs => bV mx vs fun m _ => k l h m
theorem bnds_inv {lo hi mx : Option Operand} {vs : List Value} {k : Option Nat → Option Nat → Option Nat → An} {r} (h : ovs rg (ol lo (ol hi (ol mx []))) = some vs) (e : bnds lo hi mx vs k = some r) :
    ∃ l g m, opn rg lo = some l ∧ opn rg hi = some g ∧ opn rg mx = some m ∧ k l g m = some r := by
  obtain ⟨l, u1, h1, h2, e1⟩ := bV_inv h e
  obtain ⟨g, u2, h3, h4, e2⟩ := bV_inv h2 e1
  obtain ⟨m, u3, h5, h6, e3⟩ := bV_inv h4 e2
  exact ⟨l, g, m, h1, h3, h5, e3⟩
def od (p : Option Nat) (d : Nat) : Nat := match p with | none => d | some n => n
theorem od_eq (p : Option Nat) (d : Nat) : od p d = p.getD d := by cases p <;> rfl
def mkS (n q l c : Nat) (k : Value → An) : An := fN q fun q => fN l fun l => fN c fun c => k (.slice (some ⟨n, q, none⟩) l c)
theorem mkS_eq (n q l c : Nat) (k : Value → An) : mkS n q l c k = k (.slice (some ⟨n, q, none⟩) l c) := by unfold mkS; rw [fN_eq, fN_eq, fN_eq]

def hSlN (l g m : Option Nat) (len c : Nat) (k : Value → An) : An :=
  kIf (Nat.ble (od l 0) (od g len)) (kIf (Nat.ble (od g len) (od m c)) (kIf (match m with | none => true | some y => and (Nat.ble y c) (match g with | none => false | some _ => true)) (k (.slice none (Nat.sub (od g len) (od l 0)) (Nat.sub (od m c) (od l 0))))))
def hSlM (sz : Nat) (l g : Option Nat) (y n q len c : Nat) (k : Value → An) : An :=
  kIf (Nat.ble (od l 0) (od g len)) (kIf (Nat.ble (od g len) y) (kIf (match g with | none => false | some _ => true) (kIf (Bool.rec (and (Nat.blt c VG) (Nat.ble y (Nat.mod c OM))) (Nat.ble y c) (Nat.blt c OM))
    (mkS n (Bool.rec (Nat.add q (Nat.mul (od l 0) sz)) q (Nat.beq y (od l 0))) (Nat.sub (od g len) (od l 0)) (Nat.sub y (od l 0)) k))))
def hSlX (sz : Nat) (l g : Option Nat) (n q len c : Nat) (k : Value → An) : An :=
  kIf (Nat.ble (od l 0) (od g len)) (kIf (Nat.ble (od g len) c)
    (mkS n (Bool.rec (Nat.add q (Nat.mul (od l 0) sz)) q (Nat.beq c (od l 0))) (Nat.sub (od g len) (od l 0)) (Nat.sub c (od l 0)) k))
def hSlO (sz : Nat) (l g : Option Nat) (n q len c : Nat) (k : Value → An) : An :=
  kIf (Nat.beq (Nat.div c OM) (Nat.succ sz)) (kIf (Nat.ble (od l 0) (od g len)) (kIf (Nat.ble (od g len) (Nat.mod c OM))
    (Bool.rec (Bool.rec (kIf (Nat.blt (od l 0) (Nat.mod c OM)) (mkS n (Nat.add q (Nat.mul (od l 0) sz)) (Nat.sub (od g len) (od l 0)) (Nat.sub c (od l 0)) k)) (k (.slice (some ⟨n, q, none⟩) 0 VG)) (Nat.beq (Nat.mod c OM) (od l 0)))
      (mkS n q (od g len) c k) (Nat.beq (od l 0) 0))))
def hSl (sz : Nat) (lo hi mx : Option Operand) (vs : List Value) (k : Value → An) : An := match vs with
  | v :: vs => bnds lo hi mx vs fun l g m => kSlc v (fun len c => hSlN l g m len c k) fun n q len c => match m with
    | some y => hSlM sz l g y n q len c k
    | none => Bool.rec (hSlO sz l g n q len c k) (hSlX sz l g n q len c k) (Nat.blt c OM)
  | [] => none
theorem getD_ge {p : Option Nat} {d b : Nat} (h : p.getD d ≤ b) : ∀ y, p = some y → y ≤ b := fun y hy => by subst hy; exact h
theorem ovsc {x : Operand} {l : List Operand} {vs : List Value} (h : ovs rg (x :: l) = some vs) : ∃ v us, vs = v :: us ∧ opv rg x = some v ∧ ovs rg l = some us := by
  rw [ovs_cons] at h
  split at h
  · cases h
  · rename_i v hv
    split at h
    · cases h
    · rename_i us hu
      injection h with h; exact ⟨v, us, h.symm, hv, hu⟩
theorem hSl_snd {t : TypeId} {x : Operand} {lo hi mx : Option Operand} (ho : o.op = .slice t x lo hi mx) {el : TypeId} (ht : P.underlying t = some (.slice el)) {i : TypeInfo} (hi' : P.info? el = some i) (hsz : i.size + 1 < OM) :
    SndC P o (.pl (x :: ol lo (ol hi (ol mx []))) (hSl i.size lo hi mx)) := by
  intro rg vs hvs k r e
  obtain ⟨v, us, rfl, hv, hu⟩ := ovsc hvs
  obtain ⟨l, g, m, hl, hg, hm, e1⟩ := bnds_inv hu e
  rcases kSlc_inv e1 with ⟨len, c, rfl, e2⟩ | ⟨n, q, len, c, rfl, e2⟩
  · obtain ⟨c1, e3⟩ := kIf_inv e2
    obtain ⟨c2, e4⟩ := kIf_inv e3
    obtain ⟨c3, e5⟩ := kIf_inv e4
    rw [od_eq, od_eq] at c1 c2 e5
    rw [od_eq] at e5
    refine ⟨_, fun hp nx wm => does_slice_nil ho ht hi' hv hl hg hm (fun y hy => ?_) (getD_ge (Nat.le_of_ble_eq_true c2)) (getD_ge (Nat.le_of_ble_eq_true c1)), e5⟩
    subst hy
    simp only [Bool.and_eq_true] at c3
    refine ⟨Nat.le_of_ble_eq_true c3.1, ?_⟩
    cases g with
    | none => exact absurd c3.2 (by simp)
    | some _ => rfl
  · cases m with
    | some y =>
      obtain ⟨c1, e3⟩ := kIf_inv (show hSlM i.size l g y n q len c k = some r from e2)
      obtain ⟨c2, e4⟩ := kIf_inv e3
      obtain ⟨c3, e5⟩ := kIf_inv e4
      obtain ⟨c4, e6⟩ := kIf_inv e5
      rw [mkS_eq] at e6
      rw [od_eq, od_eq] at c1 e6
      rw [od_eq] at c2
      have hcap : (c < OM ∧ y ≤ c) ∨ (OM ≤ c ∧ c < VG ∧ y ≤ c % OM) := by
        cases hb : Nat.blt c OM with
        | true => rw [hb] at c4; exact .inl ⟨Nat.blt_eq.mp hb, Nat.le_of_ble_eq_true c4⟩
        | false =>
          rw [hb] at c4
          simp only [Bool.and_eq_true] at c4
          refine .inr ⟨?_, Nat.blt_eq.mp c4.1, Nat.le_of_ble_eq_true c4.2⟩
          refine Nat.le_of_not_lt fun h => ?_
          rw [Nat.blt_eq.mpr h] at hb; cases hb
      have hsm : g.isSome = true := by cases g with
        | none => exact absurd c3 (by simp)
        | some _ => rfl
      have := fun hp nx wm => does_slice (hp := hp) (nx := nx) (wm := wm) ho ht hi' hv hl hg hm (getD_ge (by simpa using Nat.le_of_ble_eq_true c2)) (getD_ge (Nat.le_of_ble_eq_true c1)) (.inr ⟨y, rfl, hsm, hcap⟩)
      refine ⟨_, this, ?_⟩
      rw [← e6]
      simp only [Option.getD_some]
      cases hb : Nat.beq y (l.getD 0) with
      | true => rw [if_pos (Nat.eq_of_beq_eq_true hb)]; rfl
      | false => rw [if_neg (Nat.ne_of_beq_eq_false hb)]; rfl
    | none =>
      replace e2 : (Bool.rec (hSlO i.size l g n q len c k) (hSlX i.size l g n q len c k) (Nat.blt c OM) : An) = some r := e2
      cases hb : Nat.blt c OM with
      | true =>
        rw [hb] at e2
        obtain ⟨c1, e3⟩ := kIf_inv (show hSlX i.size l g n q len c k = some r from e2)
        obtain ⟨c2, e4⟩ := kIf_inv e3
        rw [mkS_eq] at e4
        rw [od_eq, od_eq] at c1 e4
        rw [od_eq] at c2
        refine ⟨_, fun hp nx wm => does_slice ho ht hi' hv hl hg hm (getD_ge (Nat.le_of_ble_eq_true c2)) (getD_ge (Nat.le_of_ble_eq_true c1)) (.inl ⟨rfl, Nat.blt_eq.mp hb⟩), ?_⟩
        rw [← e4]
        simp only [Option.getD_none]
        cases hb : Nat.beq c (l.getD 0) with
        | true => rw [if_pos (Nat.eq_of_beq_eq_true hb)]; rfl
        | false => rw [if_neg (Nat.ne_of_beq_eq_false hb)]; rfl
      | false =>
        rw [hb] at e2
        obtain ⟨c0, e3⟩ := kIf_inv (show hSlO i.size l g n q len c k = some r from e2)
        obtain ⟨c1, e4⟩ := kIf_inv e3
        obtain ⟨c2, e5⟩ := kIf_inv e4
        rw [od_eq, od_eq] at c1
        rw [od_eq] at c2
        have hmx : mx = none := by
          cases mx with
          | none => rfl
          | some z =>
            simp only [opn] at hm
            split at hm
            · injection hm with hm; cases hm
            · cases hm
        subst hmx
        have hOM : OM ≤ c := Nat.le_of_not_lt fun h => by rw [Nat.blt_eq.mpr h] at hb; cases hb
        have key := fun hp nx wm => does_slice_open (hp := hp) (nx := nx) (wm := wm) ho ht hi' hv hl hg hOM (Nat.eq_of_beq_eq_true c0) hsz (Nat.le_of_ble_eq_true c2) (Nat.le_of_ble_eq_true c1)
        rw [od_eq, od_eq] at e5
        cases hz : Nat.beq (l.getD 0) 0 with
        | true =>
          rw [hz] at e5
          have h0 : l.getD 0 = 0 := Nat.eq_of_beq_eq_true hz
          replace e5 := (mkS_eq _ _ _ _ _).symm.trans e5
          refine ⟨_, fun hp nx wm => (key hp nx wm).2 (.inl h0), ?_⟩
          rw [h0]; simpa using e5
        | false =>
          rw [hz] at e5
          have h0 : l.getD 0 ≠ 0 := Nat.ne_of_beq_eq_false hz
          cases hv' : Nat.beq (Nat.mod c OM) (l.getD 0) with
          | true =>
            rw [hv'] at e5
            exact ⟨_, fun hp nx wm => (key hp nx wm).1 h0 (Nat.eq_of_beq_eq_true hv'), e5⟩
          | false =>
            rw [hv'] at e5
            obtain ⟨c5, e6⟩ := kIf_inv (show kIf _ _ = some r from e5)
            rw [mkS_eq] at e6
            exact ⟨_, fun hp nx wm => (key hp nx wm).2 (.inr (Nat.blt_eq.mp c5)), e6⟩
end
end Go.Proofs.YtdgllpcfmkjfhaaGreat
/- The quick evaluator's slices of arrays and strings, and built values. Over any program. -/
namespace Go.Proofs.YtdgllpcfmkjfhaaGreat
open Go.RowKit
set_option linter.unusedVariables false
noncomputable section
variable {P : Program} {cx : Cx} {o : Oper} {rg : Reg}

def hSlA (len sz : Nat) (lo hi mx : Option Operand) (vs : List Value) (k : Value → An) : An := match vs with
  | v :: vs => bnds lo hi mx vs fun l g m => kPtr v fun n q =>
    kIf (Nat.ble (od l 0) (od g len)) (kIf (Nat.ble (od g len) (od m len)) (kIf (match m with | none => true | some y => and (Nat.ble y len) (match g with | none => false | some _ => true))
      (mkS n (Bool.rec (Nat.add q (Nat.mul (od l 0) sz)) q (Nat.beq (od m len) (od l 0))) (Nat.sub (od g len) (od l 0)) (Nat.sub (od m len) (od l 0)) k)))
  | [] => none
theorem hSlA_snd {t : TypeId} {x : Operand} {lo hi mx : Option Operand} (ho : o.op = .slice t x lo hi mx) {el : TypeId} {len : Nat} (ht : P.underlying t = some (.array len el)) {i : TypeInfo} (hi' : P.info? el = some i) (hlen : len < OM) :
    SndC P o (.pl (x :: ol lo (ol hi (ol mx []))) (hSlA len i.size lo hi mx)) := by
  intro rg vs hvs k r e
  obtain ⟨v, us, rfl, hv, hu⟩ := ovsc hvs
  obtain ⟨l, g, m, hl, hg, hm, e1⟩ := bnds_inv hu e
  obtain ⟨n, q, rfl, e2⟩ := kPtr_inv e1
  obtain ⟨c1, e3⟩ := kIf_inv e2
  obtain ⟨c2, e4⟩ := kIf_inv e3
  obtain ⟨c3, e5⟩ := kIf_inv e4
  rw [mkS_eq] at e5
  rw [od_eq, od_eq] at c1
  rw [od_eq, od_eq] at c2
  rw [od_eq, od_eq, od_eq] at e5
  refine ⟨_, fun hp nx wm => does_slice_arr ho ht hi' hv hl hg hm hlen (fun y hy => ?_) (getD_ge (Nat.le_of_ble_eq_true c2)) (getD_ge (Nat.le_of_ble_eq_true c1)), ?_⟩
  · subst hy
    simp only [Bool.and_eq_true] at c3
    refine ⟨Nat.le_of_ble_eq_true c3.1, ?_⟩
    cases g with
    | none => exact absurd c3.2 (by simp)
    | some _ => rfl
  · rw [← e5]
    cases hb : Nat.beq (m.getD len) (l.getD 0) with
    | true => rw [if_pos (Nat.eq_of_beq_eq_true hb)]; rfl
    | false => rw [if_neg (Nat.ne_of_beq_eq_false hb)]; rfl
def hSlS (lo hi : Option Operand) (vs : List Value) (k : Value → An) : An := match vs with
  | v :: vs => bnds lo hi none vs fun l g _ => kStr v fun s => kIf (Nat.ble (od l 0) (od g s.size)) (kIf (Nat.ble (od g s.size) s.size) (k (.string (s.extract (od l 0) (od g s.size)))))
  | [] => none
theorem hSlS_snd {t : TypeId} {x : Operand} {lo hi : Option Operand} (ho : o.op = .slice t x lo hi none) (ht : P.underlying t = some .string) : SndC P o (.pl (x :: ol lo (ol hi [])) (hSlS lo hi)) := by
  intro rg vs hvs k r e
  obtain ⟨v, us, rfl, hv, hu⟩ := ovsc hvs
  obtain ⟨l, g, m, hl, hg, hm, e1⟩ := bnds_inv (mx := none) hu e
  obtain ⟨s, rfl, e2⟩ := kStr_inv e1
  obtain ⟨c1, e3⟩ := kIf_inv e2
  obtain ⟨c2, e4⟩ := kIf_inv e3
  rw [od_eq, od_eq] at c1 e4
  rw [od_eq] at c2
  exact ⟨_, fun hp nx wm => does_slice_str ho ht hv hl hg (getD_ge (Nat.le_of_ble_eq_true c2)) (getD_ge (Nat.le_of_ble_eq_true c1)), e4⟩
def cSlice (cx : Cx) (t : TypeId) (x : Operand) (lo hi mx : Option Operand) : OpC := match undX cx t with
  | some (.slice el) => (match g5 el cx.ti with
    | some i => fN i.size fun sz => Bool.rec .bad (.pl (x :: ol lo (ol hi (ol mx []))) (hSl sz lo hi mx)) (Nat.blt (Nat.succ sz) OM)
    | none => .bad)
  | some (.array len el) => (match g5 el cx.ti with
    | some i => fN i.size fun sz => fN len fun len => Bool.rec .bad (.pl (x :: ol lo (ol hi (ol mx []))) (hSlA len sz lo hi mx)) (Nat.blt len OM)
    | none => .bad)
  | some .string => (match mx with
    | none => .pl (x :: ol lo (ol hi [])) (hSlS lo hi)
    | some _ => .bad)
  | _ => .bad
theorem cSlice_snd (hc : CxOk P cx) {t : TypeId} {x : Operand} {lo hi mx : Option Operand} (ho : o.op = .slice t x lo hi mx) : SndC P o (cSlice cx t x lo hi mx) := by
  unfold cSlice
  split
  · rename_i el ht
    split
    · rename_i i hi'
      rw [fN_eq]
      cases hb : Nat.blt (Nat.succ i.size) OM with
      | false => trivial
      | true => exact hSl_snd ho (undX_ok hc ht) (hc.ti _ _ hi') (Nat.blt_eq.mp hb)
    · trivial
  · rename_i len el ht
    split
    · rename_i i hi'
      rw [fN_eq, fN_eq]
      cases hb : Nat.blt len OM with
      | false => trivial
      | true => exact hSlA_snd ho (undX_ok hc ht) (hc.ti _ _ hi') (Nat.blt_eq.mp hb)
    · trivial
  · rename_i ht
    split
    · exact hSlS_snd ho (undX_ok hc ht)
    · trivial
  · trivial

/-! ### Built values -/
def offs (cx : Cx) : List Field → Option (List (Nat × Nat))
  | [] => some []
  | f :: l => match g5 f.type cx.ti with
    | none => none
    | some i => match offs cx l with
      | none => none
      | some r => some ((f.offset, i.size) :: r)
theorem offs_eq (hc : CxOk P cx) : ∀ {l : List Field} {r : List (Nat × Nat)}, offs cx l = some r → l.mapM (fun f => (P.info? f.type).map fun i => (f.offset, i.size)) = some r
  | [], r, h => by injection h with h; subst h; rfl
  | f :: l, r, h => by
    simp only [offs] at h
    split at h
    · cases h
    · rename_i i hi
      split at h
      · cases h
      · rename_i q hq
        injection h with h; subst h
        rw [List.mapM_cons, hc.ti _ _ hi, offs_eq hc hq]
        rfl
def placesX (cx : Cx) (t : TypeId) : Option (Nat → Option (Nat × Nat)) := match undX cx t with
  | some (.array _ e) => (match g5 e cx.ti with | none => none | some ie => some fun i => some (i * ie.size, ie.size))
  | some (.struct fs) => (match offs cx fs.toList with | none => none | some l => some fun i => nth l i)
  | _ => none
theorem placesX_ok (hc : CxOk P cx) {t : TypeId} {pl : Nat → Option (Nat × Nat)} (h : placesX cx t = some pl) : placesOf P t = some pl := by
  unfold placesX at h
  unfold placesOf
  split at h
  · rename_i e ht
    rw [undX_ok hc ht]
    split at h
    · cases h
    · rename_i ie hi
      injection h with h; subst h
      simp only [hc.ti _ _ hi, Option.map_some]
  · rename_i fs ht
    rw [undX_ok hc ht]
    split at h
    · cases h
    · rename_i l hl
      injection h with h; subst h
      simp only [offs_eq hc hl, Option.map_some]
      congr 1
      funext i
      rw [nth_eq]; simp
  · cases h
def xsOf (l : List (Nat × Nat × Operand)) : List Operand := List.rec [] (fun p _ ih => p.2.2 :: ih) l
def zipV (l : List (Nat × Nat × Operand)) : List Value → List (Nat × Nat × Value) := List.rec (fun _ => []) (fun p _ ih vs => List.rec [] (fun v vs _ => (p.1, p.2.1, v) :: ih vs) vs) l
theorem pvals_zip {rg : Reg} : ∀ {l : List (Nat × Nat × Operand)} {vs : List Value}, ovs rg (xsOf l) = some vs → pvals rg l = some (zipV l vs)
  | [], vs, h => rfl
  | p :: l, vs, h => by
    obtain ⟨v, us, rfl, hv, hu⟩ := ovsc (show ovs rg (p.2.2 :: xsOf l) = some vs from h)
    have := pvals_zip hu
    show (match opv rg p.2.2 with | none => none | some v => match pvals rg l with | none => none | some l => some ((p.1, p.2.1, v) :: l)) = _
    rw [hv, this]; rfl
def allSc (l : List Value) : Bool := List.rec true (fun v _ ih => Bool.rec false ih (scB v)) l
theorem allSc_eq : ∀ (l : List Value), allSc l = l.all scB
  | [] => rfl
  | v :: l => by
    show (Bool.rec false (allSc l) (scB v) : Bool) = _
    rw [List.all_cons, allSc_eq l]
    cases scB v <;> rfl
def kZero (i : TypeInfo) (k : List Value → OpC) : OpC := match i.zero with
  | some z => Bool.rec .bad (k (lcells z)) (allSc (lcells z))
  | none => .bad
theorem kZero_snd {i : TypeInfo} {k : List Value → OpC} (h : ∀ z, i.zero = some z → (lcells z).all scB = true → SndC P o (k (lcells z))) : SndC P o (kZero i k) := by
  unfold kZero
  split
  · rename_i z hz
    cases hb : allSc (lcells z) with
    | false => trivial
    | true => exact h z hz (by rw [← allSc_eq]; exact hb)
  · trivial
def hBuild (N : Nat) (z : List Value) (qs : List (Nat × Nat × Operand)) (vs : List Value) (k : Value → An) : An := kO (fillV N (zipV qs vs) z) fun cs => k (.agg ⟨cs⟩)
def cBuild (cx : Cx) (t : TypeId) (parts : List (Nat × Operand)) : OpC := match g5 t cx.ti, placesX cx t with
  | some it, some pl => (match plc pl parts with
    | some qs => kZero it fun z => fN (len z) fun n => .pl (xsOf qs) (hBuild n z qs)
    | none => .bad)
  | _, _ => .bad
theorem cBuild_snd (hc : CxOk P cx) {t : TypeId} {parts : Array (Nat × Operand)} (ho : o.op = .build t parts) : SndC P o (cBuild cx t parts.toList) := by
  unfold cBuild
  split
  · rename_i it pl hi hpl
    split
    · rename_i qs hq
      refine kZero_snd fun z hz hzc => ?_
      rw [fN_eq]
      intro rg vs hvs k r e
      obtain ⟨cs, hcs, e1⟩ := kO_inv e
      exact ⟨_, fun hp nx wm => does_build ho (hc.ti _ _ hi) hz hzc (len_eq _).symm (placesX_ok hc hpl) hq (pvals_zip hvs) hcs, e1⟩
    · trivial
  · trivial
end
end Go.Proofs.YtdgllpcfmkjfhaaGreat
/- The quick evaluator's operations on memory: rows. Over any program. -/
namespace Go.Proofs.YtdgllpcfmkjfhaaGreat
open Go.RowKit
set_option linter.unusedVariables false
noncomputable section
variable {P : Program} {cx : Cx} {o : Oper} {rg : Reg}

def hasN {α : Type} (l : List α) : Nat → Bool := List.rec (fun n => Nat.rec true (fun _ _ => false) n) (fun _ _ ih n => Nat.rec true (fun k _ => ih k) n) l
theorem hasN_le {α : Type} : ∀ {l : List α} {n : Nat}, hasN l n = true → n ≤ l.length
  | [], 0, _ => Nat.le_refl _
  | [], n + 1, h => by cases h
  | a :: l, 0, _ => Nat.zero_le _
  | a :: l, n + 1, h => Nat.succ_le_succ (hasN_le (l := l) (n := n) h)
def bRow (b : Blk) : Option (List Value) := Blk.rec (fun cs => some cs) (fun _ _ _ _ => none) (fun _ _ _ => none) (fun _ _ => none) (fun _ _ _ _ _ _ => none) (fun _ _ _ => none) (fun _ _ _ _ _ _ => none) (fun _ => none) b
def kRow (n : Nat) (hp : Hp) (k : List Value → An) : An := kO (g5 n hp) fun b => kO (bRow b) k
theorem kRow_inv {n : Nat} {hp : Hp} {k : List Value → An} {r} (e : kRow n hp k = some r) : ∃ cs, g5 n hp = some (.row cs) ∧ k cs = some r := by
  obtain ⟨b, hb, e1⟩ := kO_inv e
  cases b with
  | row cs => exact ⟨cs, hb, e1⟩
  | _ => cases e1
def sH (n : Nat) (b : Blk) (hp : Hp) (k : Hp → An) : An := (s5B An n).get (some b) hp k
theorem sH_eq (n : Nat) (b : Blk) (hp : Hp) (k : Hp → An) : sH n b hp k = k (s5 n (some b) hp) := s5_on An n (some b) hp k
def nH (n : Nat) (hp : Hp) (k : Hp → An) : An := (s5B An n).get none hp k
theorem nH_eq (n : Nat) (hp : Hp) (k : Hp → An) : nH n hp k = k (s5 n none hp) := s5_on An n none hp k
def kMin (a b : Nat) (k : Nat → An) : An := Bool.rec (k b) (k a) (Nat.ble a b)
theorem kMin_eq (a b : Nat) (k : Nat → An) : kMin a b k = k (min a b) := by
  unfold kMin
  cases h : Nat.ble a b with
  | true => rw [Nat.min_eq_left (Nat.le_of_ble_eq_true h)]
  | false => rw [Nat.min_eq_right (by
      refine Nat.le_of_lt (Nat.lt_of_not_le fun hh => ?_)
      rw [Nat.ble_eq_true_of_le hh] at h; cases h)]
def nwH (b : Blk) (hp : Hp) (nx wm : Nat) (v : Nat → Value) (k : KV) : An := kIf (Nat.blt nx 32768) (sH nx b hp fun hp => fN nx fun nx => k (v nx) hp (Nat.succ nx) wm)
theorem nwH_inv {b : Blk} {hp : Hp} {nx wm : Nat} {v : Nat → Value} {k : KV} {r} (e : nwH b hp nx wm v k = some r) : nx < 32768 ∧ k (v nx) (s5 nx (some b) hp) (nx + 1) wm = some r := by
  obtain ⟨h, e1⟩ := kIf_inv e
  rw [sH_eq, fN_eq] at e1
  exact ⟨Nat.blt_eq.mp h, e1⟩
def pN (n : Nat) : Value := .pointer (some ⟨n, 0, none⟩)

theorem Does.mv {h : Hp → Nat → Nat → KV → An} (H : ∀ hp nx wm k r, h hp nx wm k = some r → ∃ v hp' nx' wm', Does P o rg hp nx wm v hp' nx' wm' ∧ k v hp' nx' wm' = some r) : MV P o rg h := fun hp nx wm k r e => by
  obtain ⟨v, hp', nx', wm', hd, e1⟩ := H hp nx wm k r e
  exact ⟨⟨v, hp', nx', wm'⟩, hd.sim, e1⟩

/-! ### Loads, stores -/
def hL1 (a : Value) (hp : Hp) (nx wm : Nat) (k : KV) : An := kPtr a fun n q => kRow n hp fun cs => kO (nth cs q) fun v => k v hp nx wm
def hLN (sz : Nat) (a : Value) (hp : Hp) (nx wm : Nat) (k : KV) : An := kPtr a fun n q => kRow n hp fun cs => kIf (hasN cs (Nat.add q sz)) (k (.agg ⟨takeN (dropN cs q) sz⟩) hp nx wm)
def cLoad (cx : Cx) (t : TypeId) (x : Operand) : OpC := match undX cx t, g5 t cx.ti with
  | some d, some i => fN i.size fun sz => Bool.rec (.m1 x hL1) (.m1 x (hLN sz)) d.isRow
  | _, _ => .bad
theorem cLoad_snd (hc : CxOk P cx) {t : TypeId} {x : Operand} (ho : o.op = .load t x) : SndC P o (cLoad cx t x) := by
  unfold cLoad
  split
  · rename_i d i hd hi
    rw [fN_eq]
    cases hr : d.isRow with
    | true =>
      refine fun rg a ha => Does.mv fun hp nx wm k r e => ?_
      obtain ⟨n, q, rfl, e1⟩ := kPtr_inv e
      obtain ⟨cs, hcs, e2⟩ := kRow_inv e1
      obtain ⟨hl, e3⟩ := kIf_inv e2
      exact ⟨_, _, _, _, does_loadN ho (undX_ok hc hd) hr (hc.ti _ _ hi) ha hcs (hasN_le hl), e3⟩
    | false =>
      refine fun rg a ha => Does.mv fun hp nx wm k r e => ?_
      obtain ⟨n, q, rfl, e1⟩ := kPtr_inv e
      obtain ⟨cs, hcs, e2⟩ := kRow_inv e1
      obtain ⟨v, hv, e3⟩ := kO_inv e2
      exact ⟨_, _, _, _, does_load1 ho (undX_ok hc hd) hr ha hcs hv, e3⟩
  · trivial
def hSt (sz : Nat) (a v : Value) (hp : Hp) (nx wm : Nat) (k : KV) : An := kPtr a fun n q => kRow n hp fun cs =>
  kIf (noTup v) (kIf (Nat.beq (len (lcells v)) sz) (kIf (hasN cs (Nat.add q sz)) (sH n (.row (putAt (lcells v) cs q)) hp fun hp => kMin wm n fun wm => k (.tuple ⟨[]⟩) hp nx wm)))
def cStore (cx : Cx) (t : TypeId) (x y : Operand) : OpC := match g5 t cx.ti with
  | some i => fN i.size fun sz => .m2 x y (hSt sz)
  | none => .bad
theorem cStore_snd (hc : CxOk P cx) {t : TypeId} {x y : Operand} (ho : o.op = .store t x y) : SndC P o (cStore cx t x y) := by
  unfold cStore
  split
  · rename_i i hi
    rw [fN_eq]
    refine fun rg a v ha hv => Does.mv fun hp nx wm k r e => ?_
    obtain ⟨n, q, rfl, e1⟩ := kPtr_inv e
    obtain ⟨cs, hcs, e2⟩ := kRow_inv e1
    obtain ⟨c1, e3⟩ := kIf_inv e2
    obtain ⟨c2, e4⟩ := kIf_inv e3
    obtain ⟨c3, e5⟩ := kIf_inv e4
    rw [sH_eq, kMin_eq] at e5
    have hs : (lcells v).length = i.size := by rw [← len_eq]; exact Nat.eq_of_beq_eq_true c2
    exact ⟨_, _, _, _, does_store ho (hc.ti _ _ hi) ha hv c1 hcs hs (by rw [hs]; exact hasN_le c3), e5⟩
  · trivial

/-! ### New rows -/
def cAlloc (cx : Cx) (t : TypeId) : OpC := match g5 t cx.ti with
  | some i => kZero i fun z => .m0 fun hp nx wm k => nwH (.row z) hp nx wm pN k
  | none => .bad
theorem cAlloc_snd (hc : CxOk P cx) {t : TypeId} (ho : o.op = .alloc t) : SndC P o (cAlloc cx t) := by
  unfold cAlloc
  split
  · rename_i i hi
    refine kZero_snd fun z hz hzc => fun rg => Does.mv fun hp nx wm k r e => ?_
    obtain ⟨hn, e1⟩ := nwH_inv e
    exact ⟨_, _, _, _, does_alloc hn ho (hc.ti _ _ hi) hz hzc, e1⟩
  · trivial
def hBox (v : Value) (hp : Hp) (nx wm : Nat) (k : KV) : An := kIf (noTup v) (nwH (.row (lcells v)) hp nx wm pN k)
theorem hBox_snd {t : TypeId} {x : Operand} (ho : o.op = .box t x) : SndC P o (.m1 x hBox) := by
  refine fun rg a ha => Does.mv fun hp nx wm k r e => ?_
  obtain ⟨h1, e1⟩ := kIf_inv e
  obtain ⟨hn, e2⟩ := nwH_inv e1
  exact ⟨_, _, _, _, does_box hn ho ha h1, e2⟩
def sN (l c n : Nat) : Value := .slice (some ⟨n, 0, none⟩) l c
theorem does_buildSlice0 {hp : Hp} {nx wm : Nat} (hn : nx < 32768) {t el : TypeId} (ho : o.op = .buildSlice t 0 #[]) (ht : P.underlying t = some (.slice el)) {it : TypeInfo} (hit : P.info? el = some it) :
    Does P o rg hp nx wm (.slice (some ⟨nx, 0, none⟩) 0 0) (s5 nx (some (.row [])) hp) (nx + 1) wm :=
  does_rows hn (cs := []) (t := el) 0 0 (by simp [OM]) rfl fun G E a w hr hg => ⟨#[], .nil, by
    simp [execOp, ho, Instr.buildSlice, run_underlying ht, sizeOf, typeInfo, hit, Instr.fill, newRow]
    rw [show (Array.range 0) = #[] from Array.ext' (by simp)]; simp⟩
def cBuildS0 (cx : Cx) (t : TypeId) : OpC := match undX cx t with
  | some (.slice el) => (match g5 el cx.ti with
    | some _ => .m0 fun hp nx wm k => nwH (.row []) hp nx wm (sN 0 0) k
    | none => .bad)
  | _ => .bad
theorem cBuildS0_snd (hc : CxOk P cx) {t : TypeId} (ho : o.op = .buildSlice t 0 #[]) : SndC P o (cBuildS0 cx t) := by
  unfold cBuildS0
  split
  · rename_i el ht
    split
    · rename_i it hi
      refine fun rg => Does.mv fun hp nx wm k r e => ?_
      obtain ⟨hn, e1⟩ := nwH_inv e
      exact ⟨_, _, _, _, does_buildSlice0 hn ho (undX_ok hc ht) (hc.ti _ _ hi), e1⟩
    · trivial
  · trivial
def cBuildS (cx : Cx) (t : TypeId) (n : Nat) (parts : List (Nat × Operand)) : OpC := match undX cx t with
  | some (.slice el) => (match g5 el cx.ti with
    | some it => kZero it fun z => fN it.size fun sz => fN n fun n => (match plc (fun i => some (i * sz, sz)) parts with
      | some qs => Bool.rec .bad (.ml (xsOf qs) fun vs hp nx wm k => kO (fillV (Nat.mul n sz) (zipV qs vs) (rep z n)) fun cs => nwH (.row cs) hp nx wm (sN n n) k)
          (and (Nat.beq (len z) sz) (and (Nat.ble (Nat.mul n sz) 16777216) (Nat.blt 0 (Nat.mul n sz))))
      | none => .bad)
    | none => .bad)
  | _ => .bad
theorem cBuildS_snd (hc : CxOk P cx) {t : TypeId} {n : Nat} {parts : Array (Nat × Operand)} (ho : o.op = .buildSlice t n parts) : SndC P o (cBuildS cx t n parts.toList) := by
  unfold cBuildS
  split
  · rename_i el ht
    split
    · rename_i it hi
      refine kZero_snd fun z hz hzc => ?_
      rw [fN_eq, fN_eq]
      split
      · rename_i qs hq
        cases hb : and (Nat.beq (len (lcells z)) it.size) (and (Nat.ble (Nat.mul n it.size) 16777216) (Nat.blt 0 (Nat.mul n it.size))) with
        | false => trivial
        | true =>
          simp only [Bool.and_eq_true] at hb
          refine fun rg vs hvs => Does.mv fun hp nx wm k r e => ?_
          obtain ⟨cs, hcs, e1⟩ := kO_inv e
          obtain ⟨hn, e2⟩ := nwH_inv e1
          exact ⟨_, _, _, _, does_buildSlice hn ho (undX_ok hc ht) (hc.ti _ _ hi) hz hzc (by rw [← len_eq]; exact Nat.eq_of_beq_eq_true hb.1) (Nat.le_of_ble_eq_true hb.2.1) (Nat.blt_eq.mp hb.2.2) hq (pvals_zip hvs) hcs, e2⟩
      · trivial
    · trivial
  · trivial
def cMakeS (cx : Cx) (t : TypeId) (x y : Operand) : OpC := match undX cx t with
  | some (.slice el) => (match g5 el cx.ti with
    | some it => kZero it fun z => fN it.bytes fun by_ => Bool.rec .bad (.m2 x y fun a b hp nx wm k => kNat a fun l => kNat b fun c =>
        kIf (Nat.ble l c) (kIf (Nat.ble (Nat.mul by_ c) 281474976710656) (kIf (Nat.ble c 9223372036854775807) (nwH (.row (rep z c)) hp nx wm (sN l c) k)))) (Nat.beq (len z) it.size)
    | none => .bad)
  | _ => .bad
theorem cMakeS_snd (hc : CxOk P cx) {t : TypeId} {x y : Operand} (ho : o.op = .makeSlice t x y) : SndC P o (cMakeS cx t x y) := by
  unfold cMakeS
  split
  · rename_i el ht
    split
    · rename_i it hi
      refine kZero_snd fun z hz hzc => ?_
      rw [fN_eq]
      cases hb : Nat.beq (len (lcells z)) it.size with
      | false => trivial
      | true =>
        refine fun rg a b ha hb' => Does.mv fun hp nx wm k r e => ?_
        obtain ⟨q, l, rfl, e1⟩ := kNat_inv e
        obtain ⟨q', c, rfl, e2⟩ := kNat_inv e1
        obtain ⟨c1, e3⟩ := kIf_inv e2
        obtain ⟨c2, e4⟩ := kIf_inv e3
        obtain ⟨c3, e5⟩ := kIf_inv e4
        obtain ⟨hn, e6⟩ := nwH_inv e5
        exact ⟨_, _, _, _, does_makeSlice hn ho (undX_ok hc ht) (hc.ti _ _ hi) hz hzc (by rw [← len_eq]; exact Nat.eq_of_beq_eq_true hb) ha hb' (Nat.le_of_ble_eq_true c1) (Nat.le_of_ble_eq_true c2) (Nat.le_of_ble_eq_true c3), e6⟩
    · trivial
  · trivial

/-! ### copy, clear -/
def hCopy (sz : Nat) (a b : Value) (hp : Hp) (nx wm : Nat) (k : KV) : An :=
  kSlc a (fun l c => kIf (Nat.beq l 0) (kSlc b (fun _ _ => k (.int .i64 (.ofNat 0)) hp nx wm) fun _ _ _ _ => k (.int .i64 (.ofNat 0)) hp nx wm)) fun n q l c =>
  kSlc b (fun l' c' => kIf (Nat.beq l' 0) (k (.int .i64 (.ofNat 0)) hp nx wm)) fun n' q' l' c' =>
    kMin l' l fun m => Bool.rec (kRow n hp fun cs => kRow n' hp fun cs' => kIf (hasN cs' (Nat.add q' (Nat.mul m sz))) (kIf (hasN cs (Nat.add q (Nat.mul m sz)))
      (sH n (.row (putAt (takeN (dropN cs' q') (Nat.mul m sz)) cs q)) hp fun hp => kMin wm n fun wm => fN m fun m => k (.int .i64 (.ofNat m)) hp nx wm))) (k (.int .i64 (.ofNat 0)) hp nx wm) (Nat.beq m 0)
def cCopy (cx : Cx) (t : TypeId) (x y : Operand) : OpC := match undX cx t with
  | some (.slice el) => (match g5 el cx.ti with | some i => fN i.size fun sz => .m2 x y (hCopy sz) | none => .bad)
  | _ => .bad
theorem cCopy_snd (hc : CxOk P cx) {t u : TypeId} {x y : Operand} (ho : o.op = .call ⟨.builtin .copy, ⟨[x, y]⟩, ⟨[t, u]⟩⟩) : SndC P o (cCopy cx t x y) := by
  unfold cCopy
  split
  · rename_i el ht
    split
    · rename_i i hi
      rw [fN_eq]
      refine fun rg a b ha hb => Does.mv fun hp nx wm k r e => ?_
      rcases kSlc_inv e with ⟨l, c, rfl, e1⟩ | ⟨n, q, l, c, rfl, e1⟩
      · obtain ⟨c1, e2⟩ := kIf_inv e1
        rcases kSlc_inv e2 with ⟨l', c', rfl, e3⟩ | ⟨n', q', l', c', rfl, e3⟩
        · exact ⟨_, _, _, _, does_copy0 ho (undX_ok hc ht) (hc.ti _ _ hi) ha hb (.inl (Nat.eq_of_beq_eq_true c1)), e3⟩
        · exact ⟨_, _, _, _, does_copy0 ho (undX_ok hc ht) (hc.ti _ _ hi) ha hb (.inl (Nat.eq_of_beq_eq_true c1)), e3⟩
      · rcases kSlc_inv e1 with ⟨l', c', rfl, e3⟩ | ⟨n', q', l', c', rfl, e3⟩
        · obtain ⟨c1, e2⟩ := kIf_inv e3
          exact ⟨_, _, _, _, does_copy0 ho (undX_ok hc ht) (hc.ti _ _ hi) ha hb (.inr (Nat.eq_of_beq_eq_true c1)), e2⟩
        · rw [kMin_eq] at e3
          cases hz : Nat.beq (min l' l) 0 with
          | true =>
            rw [hz] at e3
            have := Nat.eq_of_beq_eq_true hz
            exact ⟨_, _, _, _, does_copy0 ho (undX_ok hc ht) (hc.ti _ _ hi) ha hb (by omega), e3⟩
          | false =>
            rw [hz] at e3
            obtain ⟨cs, hcs, e4⟩ := kRow_inv e3
            obtain ⟨cs', hcs', e5⟩ := kRow_inv e4
            obtain ⟨c2, e6⟩ := kIf_inv e5
            obtain ⟨c3, e7⟩ := kIf_inv e6
            rw [sH_eq, kMin_eq, fN_eq] at e7
            have := Nat.ne_of_beq_eq_false hz
            exact ⟨_, _, _, _, does_copy ho (undX_ok hc ht) (hc.ti _ _ hi) ha hcs hb hcs' rfl (by omega) (hasN_le c2) (hasN_le c3), e7⟩
    · trivial
  · trivial
def cClear (cx : Cx) (t : TypeId) (x : Operand) : OpC := match undX cx t with
  | some (.slice el) => (match g5 el cx.ti with
    | some i => kZero i fun z => fN i.size fun sz => Bool.rec .bad (.m1 x fun a hp nx wm k => kSlc a (fun l c => kIf (Nat.beq l 0) (k (.tuple ⟨[]⟩) hp nx wm)) fun n q l c =>
        Bool.rec (kRow n hp fun cs => kIf (hasN cs (Nat.add q (Nat.mul l sz))) (sH n (.row (putAt (rep z l) cs q)) hp fun hp => kMin wm n fun wm => k (.tuple ⟨[]⟩) hp nx wm)) (k (.tuple ⟨[]⟩) hp nx wm) (Nat.beq l 0)) (Nat.beq (len z) sz)
    | none => .bad)
  | _ => .bad
theorem cClear_snd (hc : CxOk P cx) {t : TypeId} {x : Operand} (ho : o.op = .call ⟨.builtin .clear, ⟨[x]⟩, ⟨[t]⟩⟩) : SndC P o (cClear cx t x) := by
  unfold cClear
  split
  · rename_i el ht
    split
    · rename_i i hi
      refine kZero_snd fun z hz hzc => ?_
      rw [fN_eq]
      cases hb : Nat.beq (len (lcells z)) i.size with
      | false => trivial
      | true =>
        refine fun rg a ha => Does.mv fun hp nx wm k r e => ?_
        rcases kSlc_inv e with ⟨l, c, rfl, e1⟩ | ⟨n, q, l, c, rfl, e1⟩
        · obtain ⟨c1, e2⟩ := kIf_inv e1
          have := Nat.eq_of_beq_eq_true c1
          subst this
          exact ⟨_, _, _, _, does_clear0 ho (undX_ok hc ht) ha, e2⟩
        · cases hl : Nat.beq l 0 with
          | true =>
            rw [hl] at e1
            have := Nat.eq_of_beq_eq_true hl
            subst this
            exact ⟨_, _, _, _, does_clear0 ho (undX_ok hc ht) ha, e1⟩
          | false =>
            rw [hl] at e1
            obtain ⟨cs, hcs, e2⟩ := kRow_inv e1
            obtain ⟨c2, e3⟩ := kIf_inv e2
            rw [sH_eq, kMin_eq] at e3
            exact ⟨_, _, _, _, does_clear ho (undX_ok hc ht) (hc.ti _ _ hi) hz hzc (by rw [← len_eq]; exact Nat.eq_of_beq_eq_true hb) ha hcs (Nat.pos_of_ne_zero (Nat.ne_of_beq_eq_false hl)) (hasN_le c2), e3⟩
    · trivial
  · trivial
end
end Go.Proofs.YtdgllpcfmkjfhaaGreat
/- The quick evaluator's operations on memory: append. Over any program. -/
namespace Go.Proofs.YtdgllpcfmkjfhaaGreat
open Go.RowKit
set_option linter.unusedVariables false
noncomputable section
variable {P : Program} {cx : Cx} {o : Oper} {rg : Reg}

def srcS (sz : Nat) (y : Value) (hp : Hp) (k : Nat → List Value → An) : An := kSlc y (fun l _ => kIf (Nat.beq l 0) (k 0 [])) fun n q l _ =>
  Bool.rec (kRow n hp fun cs => kIf (hasN cs (Nat.add q (Nat.mul l sz))) (k l (takeN (dropN cs q) (Nat.mul l sz)))) (k 0 []) (Nat.beq l 0)
def srcT (y : Value) (hp : Hp) (k : Nat → List Value → An) : An := kStr y fun s => fN s.size fun n => k n (byteCells s)
theorem srcS_inv {u e' el : TypeId} {i : TypeInfo} (hu : P.underlying u = some (.slice e')) {y : Value} {hp : Hp} {k : Nat → List Value → An} {r} (e : srcS i.size y hp k = some r) : ∃ m new, SrcL P hp el i u y m new ∧ k m new = some r := by
  rcases kSlc_inv e with ⟨l, c, rfl, e1⟩ | ⟨n, q, l, c, rfl, e1⟩
  · obtain ⟨c1, e2⟩ := kIf_inv e1
    have := Nat.eq_of_beq_eq_true c1
    subst this
    exact ⟨_, _, .nil hu c, e2⟩
  · cases hl : Nat.beq l 0 with
    | true =>
      rw [hl] at e1
      have := Nat.eq_of_beq_eq_true hl
      subst this
      exact ⟨_, _, .emp hu _ c, e1⟩
    | false =>
      rw [hl] at e1
      obtain ⟨cs, hcs, e2⟩ := kRow_inv e1
      obtain ⟨c2, e3⟩ := kIf_inv e2
      exact ⟨_, _, .slc hu n q l c hcs (Nat.pos_of_ne_zero (Nat.ne_of_beq_eq_false hl)) (hasN_le c2), e3⟩
theorem srcT_inv {u el : TypeId} {i : TypeInfo} (hu : P.underlying u = some .string) (h1 : i.size = 1) {y : Value} {hp : Hp} {k : Nat → List Value → An} {r} (e : srcT y hp k = some r) : ∃ m new, SrcL P hp el i u y m new ∧ k m new = some r := by
  obtain ⟨s, rfl, e1⟩ := kStr_inv e
  rw [fN_eq] at e1
  exact ⟨_, _, .str hu h1 s, e1⟩

def opC2 (c sz : Nat) : Nat := Nat.add c (Nat.mul OM (Nat.succ sz))
def apN (sz by_ m : Nat) (new : List Value) (x : Value) (hp : Hp) (nx wm : Nat) (k : KV) : An := Bool.rec
  (kIf (Nat.ble (Nat.mul m by_) 140737488355328) (kIf (Nat.ble m 9223372036854775807) (nwH (.row new) hp nx wm (fun n => .slice (some ⟨n, 0, none⟩) m (opC2 m sz)) k)))
  (k (.slice none 0 0) hp nx wm) (Nat.beq m 0)
def apR (sz n q l m c : Nat) (new cs : List Value) (hp : Hp) (nx wm : Nat) (k : KV) : An :=
  kIf (hasN cs (Nat.add (Nat.add q (Nat.mul l sz)) (len new))) (sH n (.row (putAt new cs (Nat.add q (Nat.mul l sz)))) hp fun hp => kMin wm n fun wm => fN (Nat.add l m) fun l => k (.slice (some ⟨n, q, none⟩) l c) hp nx wm)
def apG (sz by_ n q l m : Nat) (opn : Bool) (new cs : List Value) (hp : Hp) (nx wm : Nat) (k : KV) : An :=
  fN (Nat.add l m) fun lm => kIf (hasN cs (Nat.add q (Nat.mul l sz))) (kIf (Nat.ble (Nat.mul lm by_) 140737488355328) (kIf (Nat.ble lm 9223372036854775807)
    (Bool.rec (nwH (.row (app (takeN (dropN cs q) (Nat.mul l sz)) new)) hp nx wm (fun n => .slice (some ⟨n, 0, none⟩) lm (opC2 lm sz)) k)
      (nH n hp fun hp => kMin wm n fun wm => nwH (.row (app (takeN (dropN cs q) (Nat.mul l sz)) new)) hp nx wm (fun n => .slice (some ⟨n, 0, none⟩) lm (opC2 lm sz)) k) opn)))
def apX (sz by_ m : Nat) (new : List Value) (x : Value) (hp : Hp) (nx wm : Nat) (k : KV) : An :=
  kSlc x (fun l c => kIf (Nat.beq l 0) (kIf (Nat.beq c 0) (apN sz by_ m new x hp nx wm k))) fun n q l c => kRow n hp fun cs =>
    Bool.rec (kIf (Nat.beq (Nat.div c OM) (Nat.succ sz)) (Bool.rec (apG sz by_ n q l m true new cs hp nx wm k) (apR sz n q l m c new cs hp nx wm k) (Nat.ble (Nat.add l m) (Nat.mod c OM))))
      (Bool.rec (apG sz by_ n q l m false new cs hp nx wm k) (apR sz n q l m c new cs hp nx wm k) (Nat.ble (Nat.add l m) c)) (Nat.blt c OM)

theorem lt_of_ble {a b : Nat} (h : Nat.ble a b = false) : b < a := Nat.lt_of_not_le fun hh => by rw [Nat.ble_eq_true_of_le hh] at h; cases h
theorem le_of_blt {a b : Nat} (h : Nat.blt a b = false) : b ≤ a := Nat.le_of_not_lt fun hh => by rw [Nat.blt_eq.mpr hh] at h; cases h

theorem apX_inv {x y : Operand} {t u : TypeId} (ho : o.op = .call ⟨.builtin .append, ⟨[x, y]⟩, ⟨[t, u]⟩⟩) {el : TypeId} (ht : P.underlying t = some (.slice el)) {i : TypeInfo} (hi : P.info? el = some i) {z : Value} (hz : i.zero = some z) (hzs : z.cells.size = i.size) (hsz : i.size + 1 < OM)
    {xv yv : Value} (hx : opv rg x = some xv) (hy : opv rg y = some yv) {hp : Hp} {nx wm : Nat} {k : KV} {r} {m : Nat} {new : List Value} (hs : SrcL P hp el i u yv m new) (e : apX i.size i.bytes m new xv hp nx wm k = some r) :
    ∃ v hp' nx' wm', Does P o rg hp nx wm v hp' nx' wm' ∧ k v hp' nx' wm' = some r := by
  rcases kSlc_inv e with ⟨l, c, rfl, e1⟩ | ⟨n, q, l, c, rfl, e1⟩
  · obtain ⟨c1, e2⟩ := kIf_inv e1
    obtain ⟨c2, e3⟩ := kIf_inv e2
    have h1 := Nat.eq_of_beq_eq_true c1
    have h2 := Nat.eq_of_beq_eq_true c2
    subst h1; subst h2
    unfold apN at e3
    cases hm : Nat.beq m 0 with
    | true =>
      rw [hm] at e3
      have := Nat.eq_of_beq_eq_true hm
      subst this
      exact ⟨_, _, _, _, does_append_nil0 ho ht hi hx hy hs, e3⟩
    | false =>
      rw [hm] at e3
      obtain ⟨c3, e4⟩ := kIf_inv e3
      obtain ⟨c4, e5⟩ := kIf_inv e4
      obtain ⟨hn, e6⟩ := nwH_inv e5
      exact ⟨_, _, _, _, does_append_nil ho ht hi hz hzs hn hx hy hs hsz (Nat.le_of_ble_eq_true c3) (Nat.le_of_ble_eq_true c4) (Nat.pos_of_ne_zero (Nat.ne_of_beq_eq_false hm)), e6⟩
  · obtain ⟨cs, hcs, e2⟩ := kRow_inv e1
    have room : (c < OM ∧ l + m ≤ c) ∨ (OM ≤ c ∧ c / OM = i.size + 1 ∧ l + m ≤ c % OM) → apR i.size n q l m c new cs hp nx wm k = some r → ∃ v hp' nx' wm', Does P o rg hp nx wm v hp' nx' wm' ∧ k v hp' nx' wm' = some r := fun hc e => by
      obtain ⟨c1, e3⟩ := kIf_inv e
      rw [sH_eq, kMin_eq, fN_eq] at e3
      exact ⟨_, _, _, _, does_append_room ho ht hi hx hcs hy hs hsz hc (by rw [← len_eq new]; exact hasN_le c1), e3⟩
    have grow : ∀ op, apG i.size i.bytes n q l m op new cs hp nx wm k = some r → (op = false → c < OM ∧ c < l + m) → (op = true → OM ≤ c ∧ c / OM = i.size + 1) → ∃ v hp' nx' wm', Does P o rg hp nx wm v hp' nx' wm' ∧ k v hp' nx' wm' = some r := fun op e ho1 ho2 => by
      unfold apG at e
      rw [fN_eq] at e
      obtain ⟨c1, e3⟩ := kIf_inv e
      obtain ⟨c2, e4⟩ := kIf_inv e3
      obtain ⟨c3, e5⟩ := kIf_inv e4
      cases op with
      | false =>
        obtain ⟨hn, e6⟩ := nwH_inv e5
        rw [app_eq] at e6
        obtain ⟨q1, q2⟩ := ho1 rfl
        exact ⟨_, _, _, _, (does_append_grow ho ht hi hz hzs hn hx hcs hy hs hsz (hasN_le c1) (Nat.le_of_ble_eq_true c2) (Nat.le_of_ble_eq_true c3)).1 q1 q2, e6⟩
      | true =>
        replace e5 := (nH_eq n hp _).symm.trans e5
        rw [kMin_eq] at e5
        obtain ⟨hn, e6⟩ := nwH_inv e5
        rw [app_eq] at e6
        obtain ⟨q1, q2⟩ := ho2 rfl
        exact ⟨_, _, _, _, (does_append_grow ho ht hi hz hzs hn hx hcs hy hs hsz (hasN_le c1) (Nat.le_of_ble_eq_true c2) (Nat.le_of_ble_eq_true c3)).2 q1 q2, e6⟩
    cases hb : Nat.blt c OM with
    | true =>
      rw [hb] at e2
      have hcO := Nat.blt_eq.mp hb
      cases hr : Nat.ble (Nat.add l m) c with
      | true => rw [hr] at e2; exact room (.inl ⟨hcO, Nat.le_of_ble_eq_true hr⟩) e2
      | false => rw [hr] at e2; exact grow false e2 (fun _ => ⟨hcO, lt_of_ble hr⟩) nofun
    | false =>
      rw [hb] at e2
      have hcO := le_of_blt hb
      obtain ⟨c1, e3⟩ := kIf_inv (show kIf _ _ = some r from e2)
      have hd := Nat.eq_of_beq_eq_true c1
      cases hr : Nat.ble (Nat.add l m) (Nat.mod c OM) with
      | true => rw [hr] at e3; exact room (.inr ⟨hcO, hd, Nat.le_of_ble_eq_true hr⟩) e3
      | false => rw [hr] at e3; exact grow true e3 nofun fun _ => ⟨hcO, hd⟩

def apM (sz by_ : Nat) (z : List Value) (x y : Value) (hp : Hp) (nx wm : Nat) (k : KV) : An := kNat y fun m => kSlc x (fun l c => kIf (Nat.beq l 0) (kIf (Nat.beq c 0) (kIf (Nat.blt 0 m)
  (kIf (Nat.ble (Nat.mul m by_) 140737488355328) (kIf (Nat.ble m 9223372036854775807) (nwH (.row (rep z m)) hp nx wm (fun n => .slice (some ⟨n, 0, none⟩) m (opC2 m sz)) k)))))) fun _ _ _ _ => none
def cApp (cx : Cx) (t u : TypeId) (x y : Operand) : OpC := match undX cx t with
  | some (.slice el) => (match g5 el cx.ti with
    | some i => (match i.zero with
      | some z => fN i.size fun sz => fN i.bytes fun by_ => Bool.rec .bad (match undX cx u with
        | some (.slice _) => .m2 x y fun a b hp nx wm k => srcS sz b hp fun m new => apX sz by_ m new a hp nx wm k
        | some .string => Bool.rec .bad (.m2 x y fun a b hp nx wm k => srcT b hp fun m new => apX sz by_ m new a hp nx wm k) (Nat.beq sz 1)
        | some (.int _) => Bool.rec .bad (.m2 x y (apM sz by_ (lcells z))) (and (allSc (lcells z)) (Nat.blt 0 sz))
        | _ => .bad) (and (Nat.beq z.cells.size sz) (Nat.blt (Nat.succ sz) OM))
      | none => .bad)
    | none => .bad)
  | _ => .bad
theorem cApp_snd (hc : CxOk P cx) {x y : Operand} {t u : TypeId} (ho : o.op = .call ⟨.builtin .append, ⟨[x, y]⟩, ⟨[t, u]⟩⟩) : SndC P o (cApp cx t u x y) := by
  unfold cApp
  split
  · rename_i el ht
    split
    · rename_i i hi
      split
      · rename_i z hz
        rw [fN_eq, fN_eq]
        cases hb : and (Nat.beq z.cells.size i.size) (Nat.blt (Nat.succ i.size) OM) with
        | false => trivial
        | true =>
          simp only [Bool.and_eq_true] at hb
          have hzs := Nat.eq_of_beq_eq_true hb.1
          have hsz : i.size + 1 < OM := Nat.blt_eq.mp hb.2
          show SndC P o (match undX cx u with
            | some (.slice _) => .m2 x y fun a b hp nx wm k => srcS i.size b hp fun m new => apX i.size i.bytes m new a hp nx wm k
            | some .string => Bool.rec .bad (.m2 x y fun a b hp nx wm k => srcT b hp fun m new => apX i.size i.bytes m new a hp nx wm k) (Nat.beq i.size 1)
            | some (.int _) => Bool.rec .bad (.m2 x y (apM i.size i.bytes (lcells z))) (and (allSc (lcells z)) (Nat.blt 0 i.size))
            | _ => .bad)
          split
          · rename_i hu
            refine fun rg a b ha hb' => Does.mv fun hp nx wm k r e => ?_
            obtain ⟨m, new, hs, e1⟩ := srcS_inv (el := el) (undX_ok hc hu) e
            exact apX_inv ho (undX_ok hc ht) (hc.ti _ _ hi) hz hzs hsz ha hb' hs e1
          · rename_i hu
            cases h1 : Nat.beq i.size 1 with
            | false => trivial
            | true =>
              refine fun rg a b ha hb' => Does.mv fun hp nx wm k r e => ?_
              obtain ⟨m, new, hs, e1⟩ := srcT_inv (el := el) (undX_ok hc hu) (Nat.eq_of_beq_eq_true h1) e
              exact apX_inv ho (undX_ok hc ht) (hc.ti _ _ hi) hz hzs hsz ha hb' hs e1
          · rename_i hu
            cases h1 : and (allSc (lcells z)) (Nat.blt 0 i.size) with
            | false => trivial
            | true =>
              simp only [Bool.and_eq_true] at h1
              refine fun rg a b ha hb' => Does.mv fun hp nx wm k r e => ?_
              obtain ⟨q, m, rfl, e1⟩ := kNat_inv e
              rcases kSlc_inv e1 with ⟨l, c, rfl, e2⟩ | ⟨n, q, l, c, rfl, e2⟩
              · obtain ⟨c1, e3⟩ := kIf_inv e2
                obtain ⟨c2, e4⟩ := kIf_inv e3
                obtain ⟨c3, e5⟩ := kIf_inv e4
                obtain ⟨c4, e6⟩ := kIf_inv e5
                obtain ⟨c5, e7⟩ := kIf_inv e6
                obtain ⟨hn, e8⟩ := nwH_inv e7
                have q1 := Nat.eq_of_beq_eq_true c1
                have q2 := Nat.eq_of_beq_eq_true c2
                subst q1; subst q2
                exact ⟨_, _, _, _, does_append_make ho (undX_ok hc ht) (hc.ti _ _ hi) hz hzs (by rw [← allSc_eq]; exact h1.1) (undX_ok hc hu) hn ha hb' hsz (Nat.blt_eq.mp h1.2) (Nat.le_of_ble_eq_true c4) (Nat.le_of_ble_eq_true c5) (Nat.blt_eq.mp c3), e8⟩
              · cases e2
          · trivial
      · trivial
    · trivial
  · trivial
end
end Go.Proofs.YtdgllpcfmkjfhaaGreat
