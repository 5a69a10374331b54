/- Texts of the proof, laid together by program. -/
import Derived.Test.YtpgdfipikfbjeaaMd
set_option linter.unusedSimpArgs false
set_option linter.unusedVariables false
/- A law of regions that draw: each late operation leaves a value of which something is said that stays, whatever comes behind it; what is said of those it looks at is all it may lean on. Then the region may be walked in the order of the text. -/
namespace Go.Proofs.Ytpgdfipikfbjeaa.Sx
open Go
/-- What is said of a value. -/
abbrev Sp := Value → World → Prop
section
variable {P : Program} {ops : Array Oper} {md : Region.Mode} {S : World → Prop}
def RUpon (P : Program) (R : Value → World → Prop) : Result Next → Prop
  | .ok (.value u) W' => R u W'
  | .ok .skip W' => R undef W'
  | .ok (.enter f args) W' => Calls P f args W' fun e W'' => ∃ v, e = .returned v ∧ R v W''
  | _ => False
def ROp (P : Program) (ops : Array Oper) (S : World → Prop) (V : Sp) (o : Oper) (a : Act) (W : World) : Prop :=
  if Region.wanted o (yielded ops a.tmps) = true then RUpon P (fun v W' => S W' ∧ Ext W W' ∧ V v W') ((execOp a.eval o).run P W) else V undef W
theorem lOp_of_ROp {i : Nat} {o : Oper} {V : Sp} {a : Act} {W : World} {K : Act → World → Prop} (hi : ops[i]? = some o) (hS : S W) (h : ROp P ops S V o a W) (hK : ∀ v W', S W' → Ext W W' → V v W' → K (a.put o.dst v) W') : lOp P ops i K a W := by
  unfold lOp
  simp only [hi]
  unfold ROp at h
  split
  · rename_i hw
    simp only [hw, if_true] at h
    generalize (execOp a.eval o).run P W = r at h
    cases r with
    | ok n w' =>
      cases n <;> simp only [RUpon] at h <;> simp only [LUpon]
      case value u => exact hK _ _ h.1 h.2.1 h.2.2
      case skip => exact hK _ _ h.1 h.2.1 h.2.2
      case enter f args => exact h.mono fun e W'' ⟨v, he, h1, h2, h3⟩ => ⟨v, he, hK _ _ h1 h2 h3⟩
    | halt x w' => simp only [RUpon] at h
  · rename_i hw
    simp only [hw] at h
    exact hK _ _ hS (RowKit.Below.refl _ _) h
/-- Values put one after the other. -/
def puts (o : Nat → Oper) (vals : Nat → Value) : List Nat → Act → Act
  | [], a => a
  | k :: l, a => puts o vals l (a.put (o k).dst (vals k))
theorem puts_append (o : Nat → Oper) (vals : Nat → Value) : ∀ (l l' : List Nat) (a : Act), puts o vals (l ++ l') a = puts o vals l' (puts o vals l a)
  | [], _, _ => rfl
  | _ :: l, l', _ => puts_append o vals l l' _
theorem puts_perm {o : Nat → Oper} {vals : Nat → Value} {l l' : List Nat} (hp : l.Perm l') (hd : ∀ k ∈ l, ∀ k' ∈ l, k ≠ k' → ∀ d, (o k).dst = some d → (o k').dst ≠ some d) (a : Act) : puts o vals l a = puts o vals l' a := by
  induction hp generalizing a with
  | nil => rfl
  | cons x _ ih => exact ih (fun k hk k' hk' => hd k (List.mem_cons_of_mem _ hk) k' (List.mem_cons_of_mem _ hk')) _
  | swap x y l =>
    simp only [puts]
    by_cases hxy : x = y
    · subst hxy; rfl
    · rw [Act.put_comm a (vals y) (vals x) (hd y (by simp) x (by simp) (fun e => hxy e.symm))]
  | trans h1 _ ih1 ih2 =>
    rw [ih1 hd, ih2 (fun k hk k' hk' => hd k (h1.mem_iff.2 hk) k' (h1.mem_iff.2 hk'))]
theorem puts_congr {o : Nat → Oper} {vals vals' : Nat → Value} : ∀ {l : List Nat} (a : Act), (∀ k ∈ l, vals k = vals' k) → puts o vals l a = puts o vals' l a
  | [], _, _ => rfl
  | k :: l, a, h => by
    simp only [puts]
    rw [h k (by simp)]
    exact puts_congr _ (fun k hk => h k (List.mem_cons_of_mem _ hk))
theorem ROp_puts {o : Nat → Oper} {vals : Nat → Value} {V : Sp} {ok : Oper} (hs : ∀ cs b, ok.op ≠ .select cs b) {W : World} : ∀ (l : List Nat) (a : Act), (∀ k' ∈ l, ∀ d, (o k').dst = some d → d ∉ ok.looksAt ops) → (ROp P ops S V ok (puts o vals l a) W ↔ ROp P ops S V ok a W)
  | [], _, _ => Iff.rfl
  | k :: l, a, h => by
    simp only [puts]
    rw [ROp_puts hs l _ (fun k' hk' => h k' (List.mem_cons_of_mem _ hk'))]
    unfold ROp
    rw [execOp_put ok hs a _ _ (h k (by simp)), wanted_put ok a _ _ (h k (by simp))]
theorem count_nodup {x : Nat} : ∀ {l : List Nat}, l.Nodup → x ∈ l → l.count x = 1
  | y :: l, hn, hx => by
    rw [List.nodup_cons] at hn
    rw [List.count_cons]
    by_cases h : y = x
    · subst h
      rw [List.count_eq_zero.2 hn.1]; simp
    · rw [count_nodup hn.2 ((List.mem_cons.1 hx).resolve_left (fun e => h e.symm))]; simp [h]
theorem perm_parts {h D : List Nat} (hn : h.Nodup) (hD : D.Nodup) (hs : ∀ k ∈ D, k ∈ h) : h.Perm (D ++ h.filter (fun k => !D.contains k)) := by
  rw [List.perm_iff_count]
  intro x
  rw [List.count_append]
  by_cases hx : x ∈ D
  · have h1 : h.count x = 1 := count_nodup hn (hs x hx)
    have h2 : D.count x = 1 := count_nodup hD hx
    have h3 : (h.filter (fun k => !D.contains k)).count x = 0 := List.count_eq_zero.2 (by simp [hx])
    omega
  · have h2 : D.count x = 0 := List.count_eq_zero.2 hx
    have h3 : (h.filter (fun k => !D.contains k)).count x = h.count x := List.count_filter (by simp [hx])
    omega
/-- The numbers of what is late, as they come in the text. -/
structure Flat (P : Program) (ops : Array Oper) (md : Region.Mode) (S : World → Prop) (l0 : Array Bool) (a0 : Act) (Q : Act → World → Prop) (n : Nat) (ix : Nat → Nat) (o : Nat → Oper) (V : Nat → Sp) (dp : Nat → List Nat) : Prop where
  op : ∀ k, k < n → ops[ix k]? = some (o k)
  inj : ∀ k, k < n → ∀ k', k' < n → ix k = ix k' → k = k'
  yet : ∀ k, k < n → l0.getD (ix k) true = false
  cov : ∀ j oj, ops[j]? = some oj → l0.getD j true = false → ∃ k, k < n ∧ ix k = j
  sel : ∀ k, k < n → ∀ cs b, (o k).op ≠ .select cs b
  dst : ∀ k, k < n → ∀ k', k' < n → k ≠ k' → ∀ d, (o k).dst = some d → (o k').dst ≠ some d
  look : ∀ k, k < n → ∀ k', k' < n → k' ≠ k → k' ∉ dp k → ∀ d, (o k').dst = some d → d ∉ (o k).looksAt ops
  dep : ∀ k, k < n → ∀ k' ∈ dp k, k' < n ∧ ∃ e ∈ (o k).after, Region.binds md e = true ∧ e.on = ix k'
  fst : ∀ k, k < n → ∀ e ∈ (o k).after, Region.binds md e = true → l0.getD e.on false = true ∨ ∃ k', k' < k ∧ ix k' = e.on
  nd : ∀ k, k < n → (dp k).Nodup
  stb : ∀ k, k < n → ∀ v W W', S W → S W' → Ext W W' → V k v W → V k v W'
  ob : ∀ k, k < n → ∀ vals W, S W → (∀ k' ∈ dp k, V k' (vals k') W) → ROp P ops S (V k) (o k) (puts o vals (dp k) a0) W
  fin : ∀ vals W, S W → (∀ k, k < n → V k (vals k) W) → Q (puts o vals (List.range n) a0) W
theorem getD_setAll {d : Bool} : ∀ (l : List Nat) (listed : Array Bool) (j : Nat), j ∉ l → (setAll listed l).getD j d = listed.getD j d
  | [], _, _, _ => rfl
  | i :: l, listed, j, h => by
    rw [setAll, getD_setAll l _ j (fun hh => h (List.mem_cons_of_mem _ hh)), getD_set_ne d (fun e => h (by rw [e]; simp))]
theorem size_setAll : ∀ (l : List Nat) (listed : Array Bool), (setAll listed l).size = listed.size
  | [], _ => rfl
  | i :: l, listed => by rw [setAll, size_setAll l]; simp
theorem getD_setAll_mem {d : Bool} : ∀ (l : List Nat) (listed : Array Bool) (j : Nat), j ∈ l → j < listed.size → (setAll listed l).getD j d = true
  | i :: l, listed, j, h, hj => by
    rw [setAll]
    by_cases hl : j ∈ l
    · exact getD_setAll_mem l _ j hl (by simpa using hj)
    · obtain rfl : j = i := (List.mem_cons.1 h).resolve_right hl
      rw [getD_setAll l _ j hl]
      simp [Array.getD, hj]
theorem setAll_append : ∀ (l l' : List Nat) (listed : Array Bool), setAll listed (l ++ l') = setAll (setAll listed l) l'
  | [], _, _ => rfl
  | _ :: l, l', _ => setAll_append l l' _
theorem exists_first {p : Nat → Prop} {n : Nat} (h : ∃ k, k < n ∧ p k) : ∃ k, k < n ∧ p k ∧ ∀ j, j < k → ¬ p j := by
  induction n with
  | zero => obtain ⟨k, hk, _⟩ := h; omega
  | succ n ih =>
    by_cases hh : ∃ k, k < n ∧ p k
    · obtain ⟨k, h1, h2, h3⟩ := ih hh
      exact ⟨k, by omega, h2, h3⟩
    · obtain ⟨k, hk, hp⟩ := h
      obtain rfl : k = n := by
        rcases Nat.lt_or_ge k n with h | h
        · exact absurd ⟨k, h, hp⟩ hh
        · omega
      exact ⟨k, by omega, hp, fun j hj hpj => hh ⟨j, hj, hpj⟩⟩
theorem nodup_len {n : Nat} {h : List Nat} (hn : h.Nodup) (hl : ∀ k ∈ h, k < n) : h.length ≤ n ∧ (h.length = n → ∀ k, k < n → k ∈ h) := by
  have hp := perm_parts (h := List.range n) (D := h) List.nodup_range hn (fun k hk => List.mem_range.2 (hl k hk))
  have e := hp.length_eq
  rw [List.length_range, List.length_append] at e
  refine ⟨by omega, fun he k hk => ?_⟩
  have h0 : (List.range n).filter (fun k => !h.contains k) = [] := List.eq_nil_of_length_eq_zero (by omega)
  have h1 : k ∈ h ++ (List.range n).filter (fun k => !h.contains k) := hp.mem_iff.1 (List.mem_range.2 hk)
  rw [h0, List.append_nil] at h1
  exact h1
theorem wpM_flat {l0 : Array Bool} {a0 : Act} {Q : Act → World → Prop} {n : Nat} {ix : Nat → Nat} {o : Nat → Oper} {V : Nat → Sp} {dp : Nat → List Nat} (F : Flat P ops md S l0 a0 Q n ix o V dp) (hsz : l0.size = ops.size) :
    ∀ (f : Nat) (h : List Nat) (vals : Nat → Value) (W : World), h.Nodup → (∀ k ∈ h, k < n) → f + h.length = n → S W → (∀ k ∈ h, V k (vals k) W) → wpM P md ops S Q f (setAll l0 (h.map ix)) (puts o vals h a0) W := by
  have unl : ∀ (h : List Nat), (∀ k ∈ h, k < n) → ∀ k, k < n → k ∉ h → (setAll l0 (h.map ix)).getD (ix k) true = false := fun h hl k hk hkh => by
    rw [getD_setAll _ _ _ (fun hm => ?_), F.yet k hk]
    obtain ⟨k', hk', e⟩ := List.mem_map.1 hm
    exact hkh (F.inj _ (hl _ hk') _ hk e ▸ hk')
  have lst : ∀ (h : List Nat), (∀ k ∈ h, k < n) → ∀ k, k < n → (setAll l0 (h.map ix)).getD (ix k) false = true → k ∈ h := fun h hl k hk hg => by
    by_cases hm : k ∈ h
    · exact hm
    · have := unl h hl k hk hm
      rw [getD_both this] at hg; cases hg
  have ends : ∀ (h : List Nat) (vals : Nat → Value) (W : World), h.Nodup → (∀ k ∈ h, k < n) → h.length = n → S W → (∀ k ∈ h, V k (vals k) W) → Q (puts o vals h a0) W := fun h vals W hn hl he hS hV => by
    have hall := (nodup_len hn hl).2 he
    have hp : h.Perm (List.range n) := by
      have := perm_parts (h := List.range n) (D := h) List.nodup_range hn (fun k hk => List.mem_range.2 (hl k hk))
      have e := this.length_eq
      rw [List.length_range, List.length_append] at e
      rw [List.eq_nil_of_length_eq_zero (l := (List.range n).filter (fun k => !h.contains k)) (by omega), List.append_nil] at this
      exact this.symm
    rw [puts_perm hp (fun k hk k' hk' => F.dst k (hl k hk) k' (hl k' hk'))]
    exact F.fin vals W hS (fun k hk => hV k (hall k hk))
  have noneR : ∀ (h : List Nat), (∀ k ∈ h, k < n) → (∀ k, k < n → k ∈ h) → Region.ready md ops (setAll l0 (h.map ix)) = [] := fun h hl hall => by
    refine List.eq_nil_iff_forall_not_mem.2 fun j hj => ?_
    obtain ⟨hun, oj, hoj, _⟩ := mem_ready.1 hj
    by_cases hm : j ∈ h.map ix
    · rw [getD_setAll_mem _ _ _ hm (by rw [hsz]; exact (Array.getElem?_eq_some_iff.1 hoj).1)] at hun; cases hun
    · rw [getD_setAll _ _ _ hm] at hun
      obtain ⟨k, hk, rfl⟩ := F.cov j oj hoj hun
      exact hm (List.mem_map.2 ⟨k, hall k hk, rfl⟩)
  intro f
  induction f with
  | zero =>
    intro h vals W hn hl he hS hV
    have he' : h.length = n := by omega
    exact ⟨noneR h hl ((nodup_len hn hl).2 he'), fun W' h1 h2 => ends h vals W' hn hl he' h2 (fun k hk => F.stb k (hl k hk) _ _ _ hS h2 h1 (hV k hk))⟩
  | succ f ih =>
    intro h vals W hn hl he hS hV W' h1 h2
    have hV' : ∀ k ∈ h, V k (vals k) W' := fun k hk => F.stb k (hl k hk) _ _ _ hS h2 h1 (hV k hk)
    refine ⟨fun h0 => ?_, fun i hi => ?_⟩
    · have hex : ∃ k, k < n ∧ k ∉ h := by
        refine Classical.byContradiction fun hno => ?_
        have hall : ∀ k, k < n → k ∈ h := fun k hk => Classical.byContradiction fun hh => hno ⟨k, hk, hh⟩
        have hp := perm_parts (h := h) (D := List.range n) hn List.nodup_range (fun k hk => hall k (List.mem_range.1 hk))
        have e := hp.length_eq
        rw [List.length_append, List.length_range] at e
        omega
      obtain ⟨k, hk, hkh, hfst⟩ := exists_first hex
      have : ix k ∈ Region.ready md ops (setAll l0 (h.map ix)) := by
        refine mem_ready.2 ⟨unl h hl k hk hkh, o k, F.op k hk, fun e he' hb => ?_⟩
        by_cases hm : e.on ∈ h.map ix
        · obtain ⟨k', hk', e'⟩ := List.mem_map.1 hm
          rw [getD_setAll_mem _ _ _ hm (by rw [hsz, ← e']; exact (Array.getElem?_eq_some_iff.1 (F.op k' (hl k' hk'))).1)]
        · rw [getD_setAll _ _ _ hm]
          rcases F.fst k hk e he' hb with h | ⟨k', hk', e'⟩
          · exact h
          · have := Classical.byContradiction (hfst k' hk')
            exact absurd (List.mem_map.2 ⟨k', this, e'⟩) hm
      rw [h0] at this
      cases this
    · obtain ⟨hun, oi, hoi, hall⟩ := mem_ready.1 hi
      have him : i ∉ h.map ix := fun hm => by rw [getD_setAll_mem _ _ _ hm (by rw [hsz]; exact (Array.getElem?_eq_some_iff.1 hoi).1)] at hun; cases hun
      obtain ⟨k, hk, rfl⟩ := F.cov i oi hoi (by rw [getD_setAll _ _ _ him] at hun; exact hun)
      have hkh : k ∉ h := fun hm => him (List.mem_map.2 ⟨k, hm, rfl⟩)
      have hoe : oi = o k := by have := F.op k hk; rw [hoi] at this; exact Option.some.inj this
      subst hoe
      have hD : ∀ k' ∈ dp k, k' ∈ h := fun k' hk' => by
        obtain ⟨h3, e, h4, h5, h6⟩ := F.dep k hk k' hk'
        have := hall e h4 h5
        rw [h6] at this
        exact lst h hl k' h3 this
      have hp := perm_parts hn (F.nd k hk) hD
      have hob := F.ob k hk vals W' h2 (fun k' hk' => hV' k' (hD k' hk'))
      have hob' : ROp P ops S (V k) (o k) (puts o vals h a0) W' := by
        rw [puts_perm hp (fun k hk k' hk' => F.dst k (hl k hk) k' (hl k' hk')), puts_append]
        refine (ROp_puts (F.sel k hk) _ _ fun k' hk' => ?_).2 hob
        rw [List.mem_filter] at hk'
        exact F.look k hk k' (hl k' hk'.1) (fun e => hkh (e ▸ hk'.1)) (by simpa using hk'.2)
      refine lOp_of_ROp hoi h2 hob' fun v W'' h3 h4 h5 => ⟨h3, ?_⟩
      have hpe : (puts o vals h a0).put (o k).dst v = puts o (fun j => if j = k then v else vals j) (h ++ [k]) a0 := by
        rw [puts_append]
        simp only [puts, if_true]
        rw [puts_congr (vals := fun j => if j = k then v else vals j) (vals' := vals) a0 (fun k' hk' => if_neg (fun e => by subst e; exact hkh hk'))]
      have hse : (setAll l0 (h.map ix)).setIfInBounds (ix k) true = setAll l0 ((h ++ [k]).map ix) := by
        rw [List.map_append, setAll_append]; rfl
      rw [hpe, hse]
      refine ih (h ++ [k]) _ W'' ?_ ?_ ?_ h3 ?_
      · rw [List.nodup_append]
        exact ⟨hn, by simp, fun a ha b hb e => hkh (by rw [List.mem_singleton] at hb; rw [← hb, ← e]; exact ha)⟩
      · intro k' hk'
        rcases List.mem_append.1 hk' with h | h
        · exact hl _ h
        · rw [List.mem_singleton] at h; rw [h]; exact hk
      · rw [List.length_append]; simp; omega
      · intro k' hk'
        rcases List.mem_append.1 hk' with hh | hh
        · rw [if_neg (fun e => by subst e; exact hkh hh)]
          exact F.stb k' (hl _ hh) _ _ _ h2 h3 h4 (hV' k' hh)
        · rw [List.mem_singleton] at hh; subst hh; rw [if_pos rfl]; exact h5
/-- For all values of some, of which what is said holds. -/
def Wi (K : Act → (World → Prop) → Prop) : List (Oper × Sp) → Act → (World → Prop) → Prop
  | [], a, C => K a C
  | (o, V) :: l, a, C => ∀ v, Wi K l (a.put o.dst v) (fun W => C W ∧ V v W)
/-- The late operations, in the order of the text: what is said of each one's value, by what is said of those it looks at. -/
def Rel (P : Program) (ops : Array Oper) (S : World → Prop) (Q : Act → World → Prop) (a0 : Act) : List (Oper × Sp) → List (Oper × List Nat) → Prop
  | past, [] => Wi (fun a C => ∀ W, C W → Q a W) past a0 S
  | past, (o, ds) :: rest => ∃ V : Sp, (∀ v W W', S W → S W' → Ext W W' → V v W → V v W') ∧ Wi (fun a C => ∀ W, C W → ROp P ops S V o a W) (ds.filterMap fun k => past[k]?) a0 S ∧ Rel P ops S Q a0 (past ++ [(o, V)]) rest
def pickD (ops : Array Oper) : List (Nat × List Nat) → List (Oper × List Nat)
  | [] => []
  | (i, ds) :: l => match ops[i]? with
    | some o => (o, ds) :: pickD ops l
    | none => pickD ops l
def lIx (L : List (Nat × List Nat)) (k : Nat) : Nat := ((L[k]?).map (·.1)).getD 0
def lDp (L : List (Nat × List Nat)) (k : Nat) : List Nat := ((L[k]?).map (·.2)).getD []
def dstOff (o o' : Oper) : Bool := match o.dst with
  | none => true
  | some d => o'.dst != some d
def lookOff (ops : Array Oper) (o o' : Oper) : Bool := match o'.dst with
  | none => true
  | some d => !(o.looksAt ops).contains d
def relB (md : Region.Mode) (ops : Array Oper) (listed : Array Bool) (L : List (Nat × List Nat)) : Bool :=
  Region.noSelect ops && listed.size == ops.size && (List.range ops.size).all (fun j => listed.getD j true || (List.range L.length).any fun k => lIx L k == j) &&
  (List.range L.length).all fun k => match ops[lIx L k]? with
    | none => false
    | some o => !listed.getD (lIx L k) true && decide (lDp L k).Nodup &&
      (lDp L k).all (fun k' => decide (k' < k) && o.after.toList.any fun e => Region.binds md e && e.on == lIx L k') &&
      o.after.toList.all (fun e => !Region.binds md e || listed.getD e.on false || (List.range k).any fun k' => lIx L k' == e.on) &&
      (List.range L.length).all (fun k' => k' == k || (lIx L k' != lIx L k && match ops[lIx L k']? with
        | none => false
        | some o' => dstOff o o' && ((lDp L k).contains k' || lookOff ops o o')))
theorem Rel_full {Q : Act → World → Prop} {a0 : Act} : ∀ (rest : List (Oper × List Nat)) (past : List (Oper × Sp)), Rel P ops S Q a0 past rest → ∃ full : List (Oper × Sp), full.length = past.length + rest.length ∧ (∀ k, k < past.length → full[k]? = past[k]?) ∧
      (∀ j o ds, rest[j]? = some (o, ds) → ∃ V, full[past.length + j]? = some (o, V) ∧ (∀ v W W', S W → S W' → Ext W W' → V v W → V v W') ∧ ((∀ k ∈ ds, k < past.length + j) → Wi (fun a C => ∀ W, C W → ROp P ops S V o a W) (ds.filterMap fun k => full[k]?) a0 S)) ∧ Wi (fun a C => ∀ W, C W → Q a W) full a0 S
  | [], past, h => ⟨past, rfl, fun _ _ => rfl, fun j o ds hj => by simp at hj, h⟩
  | (o, ds) :: rest, past, ⟨V, h1, h2, h3⟩ => by
    obtain ⟨full, k1, k2, k3, k4⟩ := Rel_full rest _ h3
    simp only [List.length_append, List.length_cons, List.length_nil] at k1 k2 k3
    have k5 : ∀ k, k < past.length → full[k]? = past[k]? := fun k hk => by rw [k2 k (by omega), List.getElem?_append_left hk]
    refine ⟨full, by simp only [List.length_cons]; omega, k5, fun j o' ds' hj => ?_, k4⟩
    cases j with
    | zero =>
      simp only [List.getElem?_cons_zero, Option.some.injEq, Prod.mk.injEq] at hj
      obtain ⟨rfl, rfl⟩ := hj
      refine ⟨V, by rw [Nat.add_zero, k2 _ (by omega)]; simp, h1, fun hd => ?_⟩
      have : (ds.filterMap fun k => full[k]?) = ds.filterMap fun k => past[k]? := by
        clear h2 
        induction ds with
        | nil => rfl
        | cons d ds ih =>
          have e := ih (fun k hk => hd k (List.mem_cons_of_mem _ hk))
          simp only [List.filterMap_cons, k5 d (by have := hd d (by simp); omega), e]
      rw [this]; exact h2
    | succ j =>
      simp only [List.getElem?_cons_succ] at hj
      obtain ⟨V', h4, h5, h6⟩ := k3 j o' ds' hj
      exact ⟨V', by rw [← h4]; congr 1; omega, h5, fun hd => h6 (fun k hk => by have := hd k hk; omega)⟩
theorem Wi_use {X : Act → World → Prop} {full : List (Oper × Sp)} {o : Nat → Oper} {V : Nat → Sp} (hf : ∀ k p, full[k]? = some p → p = (o k, V k)) {vals : Nat → Value} {W : World} : ∀ (ds : List Nat) (a : Act) (C : World → Prop), (∀ k ∈ ds, k < full.length) →
    Wi (fun a C => ∀ W, C W → X a W) (ds.filterMap fun k => full[k]?) a C → C W → (∀ k ∈ ds, V k (vals k) W) → X (puts o vals ds a) W
  | [], a, C, _, h, hC, _ => h W hC
  | k :: ds, a, C, hl, h, hC, hV => by
    obtain ⟨p, hp⟩ : ∃ p, full[k]? = some p := ⟨_, List.getElem?_eq_getElem (hl k (by simp))⟩
    obtain rfl := hf k p hp
    simp only [List.filterMap_cons, hp, Wi] at h
    exact Wi_use hf ds _ _ (fun k hk => hl k (List.mem_cons_of_mem _ hk)) (h (vals k)) ⟨hC, hV k (by simp)⟩ (fun k hk => hV k (List.mem_cons_of_mem _ hk))
theorem filterMap_range {α : Type} (l : List α) : ∀ n, n ≤ l.length → (List.range n).filterMap (fun k => l[k]?) = l.take n
  | 0, _ => by simp
  | n + 1, h => by
    rw [List.range_succ, List.filterMap_append, filterMap_range l n (by omega), List.take_add_one]
    congr 1
theorem pickD_get : ∀ (L : List (Nat × List Nat)), (∀ k, k < L.length → ∃ o, ops[lIx L k]? = some o) → (pickD ops L).length = L.length ∧ ∀ k o, k < L.length → ops[lIx L k]? = some o → (pickD ops L)[k]? = some (o, lDp L k)
  | [], _ => ⟨rfl, fun k _ hk => by simp at hk⟩
  | (i, ds) :: L, h => by
    obtain ⟨o, ho⟩ := h 0 (by simp)
    have ho' : ops[i]? = some o := ho
    obtain ⟨h1, h2⟩ := pickD_get L (fun k hk => h (k + 1) (by simp; omega))
    simp only [pickD, ho', List.length_cons]
    refine ⟨by omega, fun k o1 hk ho1 => ?_⟩
    cases k with
    | zero =>
      have : ops[i]? = some o1 := ho1
      rw [ho'] at this
      obtain rfl := Option.some.inj this
      rfl
    | succ k => exact h2 k o1 (by omega) ho1
theorem wpM_rel {Q : Act → World → Prop} (L : List (Nat × List Nat)) {listed : Array Bool} {a : Act} {w : World} (hB : relB md ops listed L = true) (hS : S w) (h : Rel P ops S Q a [] (pickD ops L)) : wpM P md ops S Q L.length listed a w := by
  unfold relB at hB
  simp only [Bool.and_eq_true, List.all_eq_true, List.mem_range, beq_iff_eq] at hB
  obtain ⟨⟨⟨hsel, hsz⟩, hcov⟩, hall⟩ := hB
  have hops : ∀ k, k < L.length → ∃ o, ops[lIx L k]? = some o := fun k hk => by
    have := hall k hk
    cases ho : ops[lIx L k]? with
    | none => rw [ho] at this; cases this
    | some o => exact ⟨o, rfl⟩
  obtain ⟨hlen, hpk⟩ := pickD_get L hops
  obtain ⟨full, f1, _, f3, f4⟩ := Rel_full _ _ h
  simp only [List.length_nil, Nat.zero_add, hlen] at f1 f3
  cases hL : L with
  | nil =>
    subst hL
    have : full = [] := List.eq_nil_of_length_eq_zero f1
    subst this
    refine ⟨List.eq_nil_iff_forall_not_mem.2 fun j hj => ?_, fun W _ h2 => f4 W h2⟩
    obtain ⟨hun, oj, hoj, _⟩ := mem_ready.1 hj
    have := hcov j (Array.getElem?_eq_some_iff.1 hoj).1
    rw [hun] at this
    simp at this
  | cons x L' =>
    rw [← hL]
    obtain ⟨o0, ho0⟩ := hops 0 (by rw [hL]; simp)
    let o : Nat → Oper := fun k => ((full[k]?).map (·.1)).getD o0
    let V : Nat → Sp := fun k => ((full[k]?).map (·.2)).getD fun _ _ => True
    have hf : ∀ k p, full[k]? = some p → p = (o k, V k) := fun k p hp => by
      show p = (((full[k]?).map (·.1)).getD o0, ((full[k]?).map (·.2)).getD fun _ _ => True)
      rw [hp]; rfl
    have hev : ∀ k, k < L.length → ops[lIx L k]? = some (o k) ∧ (∀ v W W', S W → S W' → Ext W W' → V k v W → V k v W') ∧ ((∀ k' ∈ lDp L k, k' < k) → Wi (fun a C => ∀ W, C W → ROp P ops S (V k) (o k) a W) ((lDp L k).filterMap fun k => full[k]?) a S) := fun k hk => by
      obtain ⟨ok, hok⟩ := hops k hk
      obtain ⟨Vk, h1, h2, h3⟩ := f3 k ok _ (hpk k ok hk hok)
      have := hf _ _ h1
      simp only [Prod.mk.injEq] at this
      rw [← this.1, ← this.2]
      exact ⟨hok, h2, h3⟩
    have hall' : ∀ k, k < L.length → (listed.getD (lIx L k) true = false ∧ (lDp L k).Nodup ∧ (∀ k' ∈ lDp L k, k' < k ∧ ∃ e ∈ (o k).after, Region.binds md e = true ∧ e.on = lIx L k') ∧
        (∀ e ∈ (o k).after, Region.binds md e = true → listed.getD e.on false = true ∨ ∃ k', k' < k ∧ lIx L k' = e.on) ∧ ∀ k', k' < L.length → k' ≠ k → lIx L k' ≠ lIx L k ∧ (∀ d, (o k).dst = some d → (o k').dst ≠ some d) ∧ (k' ∉ lDp L k → ∀ d, (o k').dst = some d → d ∉ (o k).looksAt ops)) := fun k hk => by
      have := hall k hk
      rw [(hev k hk).1] at this
      simp only [Bool.and_eq_true, Bool.not_eq_true', decide_eq_true_eq, List.all_eq_true, List.any_eq_true, Bool.or_eq_true, List.mem_range, beq_iff_eq, Array.mem_toList_iff, bne_iff_ne, ne_eq] at this
      obtain ⟨⟨⟨⟨g1, g2⟩, g3⟩, g4⟩, g5⟩ := this
      refine ⟨g1, g2, fun k' hk' => ⟨(g3 k' hk').1, ?_⟩, fun e he hb => ?_, fun k' hk' hne => ?_⟩
      · obtain ⟨e, he1, he2, he3⟩ := (g3 k' hk').2
        exact ⟨e, he1, he2, he3⟩
      · rcases g4 e he with (h | h) | h
        · rw [hb] at h; cases h
        · exact .inl h
        · exact .inr h
      · rcases g5 k' hk' with h | h
        · exact absurd h hne
        · obtain ⟨h1, h2⟩ := h
          rw [(hev k' hk').1] at h2
          simp only [Bool.and_eq_true, Bool.or_eq_true, List.contains_iff_mem] at h2
          refine ⟨h1, fun d hd => ?_, fun hn d hd => ?_⟩
          · have := h2.1
            unfold dstOff at this
            rw [hd] at this
            simpa using this
          · have := h2.2.resolve_left hn
            unfold lookOff at this
            rw [hd] at this
            simpa using this
    have F : Flat P ops md S listed a Q L.length (lIx L) o V (lDp L) := {
      op := fun k hk => (hev k hk).1
      inj := fun k hk k' hk' e => Classical.byContradiction fun hne => ((hall' k hk).2.2.2.2 k' hk' (fun e => hne e.symm)).1 e.symm
      yet := fun k hk => (hall' k hk).1
      cov := fun j oj hj hun => by
        have := hcov j (Array.getElem?_eq_some_iff.1 hj).1
        rw [hun] at this
        simp only [Bool.false_or, List.any_eq_true, List.mem_range, beq_iff_eq] at this
        exact this
      sel := fun k hk cs b => Region.noSelect_spec hsel _ _ cs b (hev k hk).1
      dst := fun k hk k' hk' hne => ((hall' k hk).2.2.2.2 k' hk' (fun e => hne e.symm)).2.1
      look := fun k hk k' hk' hne => ((hall' k hk).2.2.2.2 k' hk' hne).2.2
      dep := fun k hk k' hk' => ⟨by have := ((hall' k hk).2.2.1 k' hk').1; omega, ((hall' k hk).2.2.1 k' hk').2⟩
      fst := fun k hk => (hall' k hk).2.2.2.1
      nd := fun k hk => (hall' k hk).2.1
      stb := fun k hk => (hev k hk).2.1
      ob := fun k hk vals W h1 h2 => Wi_use (X := fun a W => ROp P ops S (V k) (o k) a W) hf (lDp L k) a S (fun k' hk' => by have := ((hall' k hk).2.2.1 k' hk').1; omega) ((hev k hk).2.2 fun k' hk' => ((hall' k hk).2.2.1 k' hk').1) h1 h2
      fin := fun vals W h1 h2 => by
        have := filterMap_range full full.length (Nat.le_refl _)
        rw [List.take_length] at this
        rw [← this] at f4
        rw [f1] at f4
        exact Wi_use (X := Q) hf (List.range L.length) a S (fun k' hk' => by have := List.mem_range.1 hk'; omega) f4 h1 (fun k hk => h2 k (List.mem_range.1 hk)) }
    exact wpM_flat F hsz L.length [] (fun _ => undef) w List.nodup_nil (by simp) (by simp) hS (by simp)
/-- The law of a region with early and late operations. -/
theorem wp_region_rel (S : World → Prop) (hS : ∀ W W', S W → Ext W W' → S W') {id : Nat} {Q : Exit → Act → World → Prop} {a : Act} {w : World} {l : List Oper} (E : List Nat) (L : List (Nat × List Nat)) (hm : P.follows .mixedOrders = true)
    (hB : (Region.noSelect l.toArray && decide (E.length + L.length = l.length) && earlyB .any l.toArray E (Array.replicate l.length false)) = true) (hR : relB .any l.toArray (setAll (Array.replicate l.length false) E) L = true) (h0 : S w.drew)
    (h : wpE P l.toArray S (fun a' => Rel P l.toArray S (fun a W => wpList P l.toArray Q [] a W) a' [] (pickD l.toArray L)) (pick l.toArray E) a) : (Code.region id l.toArray true).wp P Q a w :=
  wp_region_el S hS E L.length hm hB h0 (wpE_mono (fun _ hk => wpM_rel L hR h0 hk) _ _ h)
/-- A late operation that leaves the same value everywhere. -/
theorem Rel_val {Q : Act → World → Prop} {a0 : Act} {past : List (Oper × Sp)} {o : Oper} {ds : List Nat} {rest : List (Oper × List Nat)} (v : Value) (h : Wi (fun a C => ∀ W, C W → ROp P ops S (fun u _ => u = v) o a W) (ds.filterMap fun k => past[k]?) a0 S) (hr : Rel P ops S Q a0 (past ++ [(o, fun u _ => u = v)]) rest) : Rel P ops S Q a0 past ((o, ds) :: rest) :=
  ⟨fun u _ => u = v, fun _ _ _ _ _ _ h => h, h, hr⟩
/-- It may be read off. -/
theorem ROp_val {V : Sp} {o : Oper} {a : Act} {W : World} (v : Value) (hw : Region.wanted o (yielded ops a.tmps) = true) (hr : (execOp a.eval o).run P W = .ok (.value v) W) (hS : S W) (hV : V v W) : ROp P ops S V o a W := by
  unfold ROp
  rw [hw, hr, if_pos rfl]
  exact ⟨hS, RowKit.Below.refl _ _, hV⟩
/-- A call that only makes memory. -/
theorem ROp_call {V : Sp} {o : Oper} {a : Act} {W : World} {f : FuncId} {args : Array Value} (hw : Region.wanted o (yielded ops a.tmps) = true) (hr : (execOp a.eval o).run P W = .ok (.enter f args) W) (hc : Calls P f args W fun e W' => ∃ v, e = .returned v ∧ S W' ∧ Ext W W' ∧ V v W') : ROp P ops S V o a W := by
  unfold ROp
  rw [hw, hr, if_pos rfl]
  exact hc
end
end Go.Proofs.Ytpgdfipikfbjeaa.Sx
/- Walks: marks that meet. -/
namespace Go.Proofs.Ytpgdfipikfbjeaa
open Go.RowKit
attribute [local go_sem] Oper.semAt_some
def meetAt (a b : List Int) (i : Nat) : Bool := has a (i : Int) && has b (i : Int)
theorem any_range_succ {p : Nat → Bool} {k : Nat} (h : (List.range k).any p = false) (hp : p k = false) : (List.range (k + 1)).any p = false := by
  rw [List.range_succ, List.any_append, h]; simp [hp]
theorem any_range_hit {p : Nat → Bool} {k n : Nat} (hk : k < n) (hp : p k = true) : (List.range n).any p = true :=
  List.any_eq_true.2 ⟨k, List.mem_range.2 hk, hp⟩
theorem has_iff {l : List Int} {x : Int} : has l x = true ↔ x ∈ l := by
  unfold has
  rw [List.any_eq_true]
  exact ⟨fun ⟨y, hy, he⟩ => by rw [← (beq_iff_eq.1 he)]; exact hy, fun h => ⟨x, h, by simp⟩⟩
theorem meet_marks {a b : List Int} (ha : ∀ x ∈ a, 0 ≤ x ∧ x < 8) : meet a b = (List.range 8).any (meetAt a b) := by
  rw [Bool.eq_iff_iff]
  unfold meet meetAt
  simp only [List.any_eq_true, List.mem_range, Bool.and_eq_true, has_iff]
  constructor
  · rintro ⟨x, hx, hb⟩
    obtain ⟨h0, h8⟩ := ha x hx
    refine ⟨x.toNat, by omega, ?_, ?_⟩ <;> rw [Int.toNat_of_nonneg h0] <;> assumption
  · rintro ⟨i, _, h1, h2⟩
    exact ⟨_, h1, h2⟩
theorem mkA_at {l : List Int} {k : Nat} (hk : k < 8) : (mkA l)[k]? = some (mk1 l k) := by
  have hc : k = 0 ∨ k = 1 ∨ k = 2 ∨ k = 3 ∨ k = 4 ∨ k = 5 ∨ k = 6 ∨ k = 7 := by omega
  rcases hc with rfl | rfl | rfl | rfl | rfl | rfl | rfl | rfl <;> rfl
theorem index_mk (l : List Int) {k : Nat} (hk : k < 8) (W : World) : (Instr.index 82 (.agg #[mk1 l 0, mk1 l 1, mk1 l 2, mk1 l 3, mk1 l 4, mk1 l 5, mk1 l 6, mk1 l 7]) (.int .i64 k)).run Try.prog W = .ok (.int .i64 (if has l (k : Int) then 1 else 0)) W := by
  have hc : k = 0 ∨ k = 1 ∨ k = 2 ∨ k = 3 ∨ k = 4 ∨ k = 5 ∨ k = 6 ∨ k = 7 := by omega
  rcases hc with rfl | rfl | rfl | rfl | rfl | rfl | rfl | rfl <;> first | (simp [Instr.index, mk1, go_sem]; done) | rfl
set_option maxRecDepth 10000 in
set_option maxHeartbeats 1600000 in
theorem meets_any (a b : List Int) (w : World) : Calls Try.prog 75 #[.agg (mkA a), .agg (mkA b)] w fun e w' => e = .returned (.bool ((List.range 8).any (meetAt a b))) ∧ Below w.heap.size w w' := by
  obtain ⟨W2, hW2⟩ : ∃ W2, (w.alloc (.cells (mkA a) 82)).alloc (.cells (mkA b) 82) = W2 := ⟨_, rfl⟩
  have b2 : Blk W2 w.heap.size 82 (mkA a) := by rw [← hW2]; exact (Blk.new' rfl).alloc _
  have b3 : Blk W2 (w.heap.size + 1) 82 (mkA b) := by rw [← hW2]; exact Blk.new' (by simp)
  have hb2 : Below w.heap.size w W2 := by rw [← hW2]; exact ((Below.refl _ _).alloc (Nat.le_refl _) _).alloc (by simp) _
  have l2 := b2.lt
  have l3 := b3.lt
  have d0 : W2.cell? ⟨w.heap.size, 0, none⟩ = some (mk1 a 0) := b2.cell 0
  have d1 : W2.cell? ⟨w.heap.size, 1, none⟩ = some (mk1 a 1) := b2.cell 1
  have d2 : W2.cell? ⟨w.heap.size, 2, none⟩ = some (mk1 a 2) := b2.cell 2
  have d3 : W2.cell? ⟨w.heap.size, 3, none⟩ = some (mk1 a 3) := b2.cell 3
  have d4 : W2.cell? ⟨w.heap.size, 4, none⟩ = some (mk1 a 4) := b2.cell 4
  have d5 : W2.cell? ⟨w.heap.size, 5, none⟩ = some (mk1 a 5) := b2.cell 5
  have d6 : W2.cell? ⟨w.heap.size, 6, none⟩ = some (mk1 a 6) := b2.cell 6
  have d7 : W2.cell? ⟨w.heap.size, 7, none⟩ = some (mk1 a 7) := b2.cell 7
  go_enter Try.func75, Try.ntmps75
  go_wp2_with (fail)
  clear d0 d1 d2 d3 d4 d5 d6 d7
  go_loopw [8] (fun i wr => ∃ k : Nat, k ≤ 8 ∧ i = .int .i64 k ∧ W2 = wr ∧ Hid ((List.range k).any (meetAt a b) = false)) (fun i _ => 8 - (intOf i).toNat)
  case atStart => exact ⟨0, by omega, rfl, rfl, hid rfl⟩
  case round =>
    obtain ⟨k, hk, rfl, rfl, hn⟩ := hrel
    by_cases hlt : k < 8
    · have hlti : (k : Int) < 8 := by omega
      have ga := index_mk a hlt W2
      have c0 := (b3.cell k).trans (mkA_at hlt)
      unfold mk1 at c0
      obtain ⟨u, hu⟩ : ∃ u, has a (k : Int) = u := ⟨_, rfl⟩
      obtain ⟨v, hv⟩ : ∃ v, has b (k : Int) = v := ⟨_, rfl⟩
      have hm : Hid (meetAt a b k = (u && v)) := hid (by unfold meetAt; rw [hu, hv])
      rw [hu] at ga
      rw [hv] at c0
      clear hu hv
      cases u
      · have hnx := hid (any_range_succ hn.out hm.out)
        cases v
        · simp only [Bool.false_eq_true, if_false] at ga c0
          go_wp2
          exact ⟨⟨k + 1, by omega, by go_num, trivial, hnx⟩, by simp [intOf]; omega⟩
        · simp only [Bool.false_eq_true, if_false, if_true] at ga c0
          go_wp2
          exact ⟨⟨k + 1, by omega, by go_num, trivial, hnx⟩, by simp [intOf]; omega⟩
      · cases v
        · have hnx := hid (any_range_succ hn.out hm.out)
          simp only [Bool.false_eq_true, if_false, if_true] at ga c0
          go_wp2
          exact ⟨⟨k + 1, by omega, by go_num, trivial, hnx⟩, by simp [intOf]; omega⟩
        · have hf := hid (any_range_hit hlt hm.out)
          simp only [if_true] at ga c0
          go_wp2
          refine bodyPost_ret (v := .bool true) (by first | (simp [results, Try.results75, go_sem]; done) | (simp [results, Try.results75, go_sem, *]; done) | (simp [results, Try.results75, go_sem, World.cell?_setCell_same', *]; done) | (simp [results, Try.results75, go_sem]; first | exact ⟨rfl, rfl⟩ | rfl)) rfl ⟨by rw [hf.out], hb2⟩
    · obtain rfl : k = 8 := by omega
      go_wp2
      refine bodyPost_ret (v := .bool false) (by first | (simp [results, Try.results75, go_sem]; done) | (simp [results, Try.results75, go_sem, *]; done) | (simp [results, Try.results75, go_sem, World.cell?_setCell_same', *]; done) | (simp [results, Try.results75, go_sem]; first | exact ⟨rfl, rfl⟩ | rfl)) rfl ⟨by rw [hn.out], hb2⟩
end Go.Proofs.Ytpgdfipikfbjeaa
/- Walks: the law's Lists. -/
namespace Go.Proofs.Ytpgdfipikfbjeaa
open Go.RowKit
attribute [local go_sem] Oper.semAt_some
/-- Two lists of lists are alike. -/
def eqL (a b : List (List Int)) : Bool := decide (a = b)
theorem eqL_t {a b : List (List Int)} : eqL a b = true ↔ a = b := by simp [eqL]
theorem takeL_succ {a b : List (List Int)} {k : Nat} {x : List Int} (h : a.take k = b.take k) (ha : a[k]? = some x) (hb : b[k]? = some x) : a.take (k + 1) = b.take (k + 1) := by
  rw [List.take_add_one, List.take_add_one, h, ha, hb]
set_option maxRecDepth 10000 in
set_option maxHeartbeats 1600000 in
theorem lists_any (A B : Option Addr) (n c m d : Nat) (a b : List (List Int)) (w : World) (ha : LiS w w.heap.size A n a) (hb : LiS w w.heap.size B m b) (hn : n ≤ 100000) (hwa : ∀ x ∈ a, x.length ≤ 1000000) :
    Calls Try.prog 25 #[.slice A n c, .slice B m d] w fun e w' => e = .returned (.bool (eqL a b)) ∧ Below w.heap.size w w' := by
  have HA := hid ha
  have HB := hid hb
  have HW := hid hwa
  have la := hid ha.1
  have lb := hid hb.1
  clear ha hb hwa
  by_cases hnm : n = m
  · subst hnm
    have t0 : ((n : Int) != (n : Int)) = false := by simp
    go_enter Try.func25, Try.ntmps25
    go_wp2_with (fail)
    go_loopw [5] (fun i wr => ∃ k : Nat, k ≤ n ∧ i = .int .i64 k ∧ Hid (a.take k = b.take k) ∧ Below w.heap.size w wr) (fun i _ => n - (intOf i).toNat)
    case atStart => exact ⟨0, by omega, rfl, by simp [Hid], Below.refl _ _⟩
    case round =>
      obtain ⟨k, hk, rfl, heq, hbw⟩ := hrel
      have hszw := hbw.size
      by_cases hlt : k < n
      · obtain ⟨b1, o1, x, A1, m1, c1, rfl, hb1, hx, d1, hinx⟩ := (HA.out.below hbw hszw).at_ hlt
        obtain ⟨b2, o2, y, A2, m2, c2, rfl, hb2, hy, d2, hiny⟩ := (HB.out.below hbw hszw).at_ hlt
        have hm1 : m1 ≤ 1000000 := by have := hinx.len; have := HW.out x (List.mem_of_getElem? hx); omega
        have Hx := hid hinx
        have Hy := hid hiny
        have HX := hid hx
        have HY := hid hy
        have hlti : (k : Int) < n := by omega
        obtain ⟨bv, hbv⟩ : ∃ bv, eqI x y = bv := ⟨_, rfl⟩
        have Hbv := hid hbv
        clear hx hy hinx hiny hbv
        go_wp2
        refine wp_region_hd_all (fun W => Below wr.heap.size wr W) (by kernel_rfl) (by kernel_rfl) ((Below.refl _ _).drew) ?_
        iterate 8 (refine wpHd_val (v := ?_) (by rfl) (fun W hW => ?_) ?_; rotate_left; (· obtain ⟨hcW, hfW⟩ := bcell hW; go_simp; with_reducible rfl); simp only [Act.put, List.setIfInBounds_toArray, List.set_cons_zero, List.set_cons_succ])
        (refine wpHd_callB (by rfl) (fun W hW => ints_any W A1 A2 m1 c1 m2 c2 x y (Hx.out.below hW hW.size) (Hy.out.below hW hW.size) hm1) (fun W hW => ?_) ?_; (· obtain ⟨hcW, hfW⟩ := bcell hW; go_simp); simp only [Act.put, List.setIfInBounds_toArray, List.set_cons_zero, List.set_cons_succ])
        rw [Hbv.out]
        (refine wpHd_val (v := ?_) (by rfl) (fun W hW => ?_) ?_; rotate_left; (· obtain ⟨hcW, hfW⟩ := bcell hW; go_simp; with_reducible rfl); simp only [Act.put, List.setIfInBounds_toArray, List.set_cons_zero, List.set_cons_succ])
        refine wpHd_nil ?_
        intro W9 hW9
        have hbw9 := hbw.trans (hW9.mono hszw)
        cases bv
        · have hf : Hid (eqL a b = false) := hid (by
            cases h : eqL a b
            · rfl
            · exfalso
              have e1 := eqL_t.1 h
              have e2 : x = y := by have h1 := HX.out; rw [e1, HY.out] at h1; exact (Option.some.inj h1).symm
              have e3 := Hbv.out
              rw [eqI_t.2 e2] at e3
              cases e3)
          go_wp2
          refine bodyPost_ret (v := .bool false) (by first | (simp [results, Try.results25, go_sem]; done) | (simp [results, Try.results25, go_sem, *]; done) | (simp [results, Try.results25, go_sem, World.cell?_setCell_same', *]; done) | (simp [results, Try.results25, go_sem]; first | exact ⟨rfl, rfl⟩ | rfl)) rfl ⟨by rw [hf.out], hbw9⟩
        · have hs := hid (takeL_succ heq.out HX.out (by rw [eqI_t.1 Hbv.out]; exact HY.out))
          go_wp2
          exact ⟨⟨k + 1, by omega, by go_num, hs, hbw9⟩, by simp [intOf]; omega⟩
      · obtain rfl : n = k := by omega
        have hf : Hid (eqL a b = true) := hid (eqL_t.2 (by have := heq.out; rwa [List.take_of_length_le (by rw [la.out]; omega), List.take_of_length_le (by rw [lb.out]; omega)] at this))
        go_wp2
        refine bodyPost_ret (v := .bool true) (by first | (simp [results, Try.results25, go_sem]; done) | (simp [results, Try.results25, go_sem, *]; done) | (simp [results, Try.results25, go_sem, World.cell?_setCell_same', *]; done) | (simp [results, Try.results25, go_sem]; first | exact ⟨rfl, rfl⟩ | rfl)) rfl ⟨by rw [hf.out], hbw⟩
  · have t0 : ((n : Int) != (m : Int)) = true := by simp; omega
    have hf : Hid (eqL a b = false) := hid (by cases h : eqL a b; exact rfl; exact absurd (eqL_t.1 h) (fun e => hnm (by rw [← la.out, ← lb.out, e])))
    clear hnm
    go_enter Try.func25, Try.ntmps25
    go_wp2
    refine bodyPost_ret (v := .bool false) (by first | (simp [results, Try.results25, go_sem]; done) | (simp [results, Try.results25, go_sem, *]; done) | (simp [results, Try.results25, go_sem, World.cell?_setCell_same', *]; done) | (simp [results, Try.results25, go_sem]; first | exact ⟨rfl, rfl⟩ | rfl)) rfl ⟨by rw [hf.out], Below.refl _ _⟩
end Go.Proofs.Ytpgdfipikfbjeaa
/- Walks: the law's of, plan, wide. -/
namespace Go.Proofs.Ytpgdfipikfbjeaa
open Go.RowKit
attribute [local go_sem] Oper.semAt_some
theorem of_any (A : Option Addr) (n c : Nat) (w : World) : Calls Try.prog 51 #[.slice A n c] w fun e w' => e = .returned (.slice A n c) ∧ w = w' := by
  go_enter Try.func51, Try.ntmps51
  go_wp2
  refine bodyPost_ret (v := .slice A n c) (by first | (simp [results, Try.results51, go_sem]; done) | (simp [results, Try.results51, go_sem, *]; done) | (simp [results, Try.results51, go_sem, World.cell?_setCell_same', *]; done) | (simp [results, Try.results51, go_sem]; first | exact ⟨rfl, rfl⟩ | rfl)) rfl ⟨rfl, rfl⟩
theorem plan_any (A : Option Addr) (n c : Nat) (w : World) : Calls Try.prog 63 #[.slice A n c] w fun e w' => e = .returned (.slice A n c) ∧ w = w' := by
  go_enter Try.func63, Try.ntmps63
  go_wp2
  refine bodyPost_ret (v := .slice A n c) (by first | (simp [results, Try.results63, go_sem]; done) | (simp [results, Try.results63, go_sem, *]; done) | (simp [results, Try.results63, go_sem, World.cell?_setCell_same', *]; done) | (simp [results, Try.results63, go_sem]; first | exact ⟨rfl, rfl⟩ | rfl)) rfl ⟨rfl, rfl⟩
/-- A list of lists is too long, or one of its lists. -/
def wideL (l : List (List Int)) : Bool := decide (12 < l.length) || !(l.all fun x => decide (x.length ≤ 12))
set_option maxRecDepth 10000 in
set_option maxHeartbeats 1600000 in
theorem wide_any (A : Option Addr) (n c : Nat) (l : List (List Int)) (w : World) (hl : LiS w w.heap.size A n l) (hw : ∀ x ∈ l, x.length ≤ 1000000) :
    Calls Try.prog 15 #[.slice A n c] w fun e w' => e = .returned (.bool (wideL l)) ∧ Below w.heap.size w w' := by
  have HL := hid hl
  have HW := hid hw
  have la := hid hl.1
  clear hl hw
  by_cases hn : 12 < n
  · have hni : ((12 : Int) < (n : Int)) := by omega
    have hf : Hid (wideL l = true) := hid (by unfold wideL; rw [la.out, decide_eq_true hn]; rfl)
    go_enter Try.func15, Try.ntmps15
    go_wp2
    refine bodyPost_ret (v := .bool true) (by first | (simp [results, Try.results15, go_sem]; done) | (simp [results, Try.results15, go_sem, *]; done) | (simp [results, Try.results15, go_sem, World.cell?_setCell_same', *]; done) | (simp [results, Try.results15, go_sem]; first | exact ⟨rfl, rfl⟩ | rfl)) rfl ⟨by rw [hf.out], Below.refl _ _⟩
  · have hni : ¬ ((12 : Int) < (n : Int)) := by omega
    have hf : Hid (wideL l = !(l.all fun x => decide (x.length ≤ 12))) := hid (by unfold wideL; rw [la.out, decide_eq_false hn]; rfl)
    go_enter Try.func15, Try.ntmps15
    go_wp2_with (fail)
    go_loopw [3, 4] (fun v i wr => ∃ k mx : Nat, k ≤ n ∧ v = .int .i64 mx ∧ i = .int .i64 k ∧ mx ≤ 1000000 ∧ Hid (decide (12 < mx) = !((l.take k).all fun x => decide (x.length ≤ 12))) ∧ w = wr) (fun _ i _ => n - (intOf i).toNat)
    case atStart => exact ⟨0, 0, by omega, rfl, rfl, by omega, hid (by simp), rfl⟩
    case round =>
      obtain ⟨k, mx, hk, rfl, rfl, hmx, hall, rfl⟩ := hrel
      by_cases hlt : k < n
      · obtain ⟨b1, o1, x, A1, m1, c1, rfl, hb1, hx, d1, hinx⟩ := HL.out.at_ hlt
        have hm1 : m1 ≤ 1000000 := by have := hinx.len; have := HW.out x (List.mem_of_getElem? hx); omega
        have hxl : Hid (x.length = m1) := hid hinx.len
        have hst : Hid (((l.take (k + 1)).all fun x => decide (x.length ≤ 12)) = (((l.take k).all fun x => decide (x.length ≤ 12)) && decide (m1 ≤ 12))) := hid (by rw [List.take_add_one, hx, List.all_append, ← hxl.out]; simp)
        have hlti : (k : Int) < n := by omega
        clear hx hinx
        have hnx : Hid (decide (12 < max mx m1) = !((l.take (k + 1)).all fun x => decide (x.length ≤ 12))) := hid (by
          rw [hst.out, Bool.not_and, ← hall.out]
          by_cases h1 : 12 < mx <;> by_cases h2 : m1 ≤ 12 <;> simp [h1, h2] <;> omega)
        go_wp2
        exact ⟨⟨k + 1, max mx m1, by omega, by congr 1; omega, by go_num, by omega, hnx, trivial⟩, by simp [intOf]; omega⟩
      · obtain rfl : n = k := by omega
        have hall2 := hall.out
        rw [List.take_of_length_le (by rw [la.out]; exact Nat.le_refl _)] at hall2
        have hf2 := hid (hf.out.trans hall2.symm)
        clear hall2
        by_cases h12 : 12 < mx
        · have h12i : ((12 : Int) < (mx : Int)) := by omega
          have hf3 := hid (hf2.out.trans (decide_eq_true h12))
          go_wp2
          refine bodyPost_ret (v := .bool true) (by first | (simp [results, Try.results15, go_sem]; done) | (simp [results, Try.results15, go_sem, *]; done) | (simp [results, Try.results15, go_sem, World.cell?_setCell_same', *]; done) | (simp [results, Try.results15, go_sem]; first | exact ⟨rfl, rfl⟩ | rfl)) rfl ⟨by rw [hf3.out], Below.refl _ _⟩
        · have h12i : ¬ ((12 : Int) < (mx : Int)) := by omega
          have hf3 := hid (hf2.out.trans (decide_eq_false h12))
          go_wp2
          refine bodyPost_ret (v := .bool false) (by first | (simp [results, Try.results15, go_sem]; done) | (simp [results, Try.results15, go_sem, *]; done) | (simp [results, Try.results15, go_sem, World.cell?_setCell_same', *]; done) | (simp [results, Try.results15, go_sem]; first | exact ⟨rfl, rfl⟩ | rfl)) rfl ⟨by rw [hf3.out], Below.refl _ _⟩
def fineB (P M : Int) (l : List (List Int)) : Bool := !wideL l && checkPlan P M l == 0
theorem wide_off {l : List (List Int)} (h : wideL l = false) : l.length ≤ 12 ∧ ∀ x ∈ l, x.length ≤ 12 := by
  unfold wideL at h
  rw [Bool.or_eq_false_iff] at h
  have h1 := of_decide_eq_false h.1
  have h2 : (l.all fun x => decide (x.length ≤ 12)) = true := by simpa using h.2
  exact ⟨by omega, fun x hx => of_decide_eq_true (List.all_eq_true.1 h2 x hx)⟩
set_option maxRecDepth 10000 in
set_option maxHeartbeats 1600000 in
theorem fine_any (A : Option Addr) (n c : Nat) (l : List (List Int)) (P M : Int) (w : World) (hl : LiS w w.heap.size A n l) (hw : ∀ x ∈ l, x.length ≤ 1000000) :
    Calls Try.prog 39 #[.agg #[.int .i64 P, .int .i64 M], .slice A n c] w fun e w' => e = .returned (.bool (fineB P M l)) ∧ Below w.heap.size w w' := by
  have la := hid hl.1
  have HL := hid hl
  have HW := hid hw
  obtain ⟨Wb, hWb⟩ : ∃ Wb, w.alloc (.cells #[.int .i64 P, .int .i64 M] 23) = Wb := ⟨_, rfl⟩
  have bB : Blk Wb w.heap.size 23 #[.int .i64 P, .int .i64 M] := by rw [← hWb]; exact Blk.new' rfl
  have hbb : Below w.heap.size w Wb := by rw [← hWb]; exact (Below.refl _ _).alloc (Nat.le_refl _) _
  have lB := bB.lt
  have hzb := hbb.size
  clear hl hw
  cases hwd : wideL l
  · obtain ⟨k1, k2⟩ := wide_off hwd
    have Hwd := hid hwd
    have hn : n ≤ 12 := by rw [← la.out]; exact k1
    have K2 := hid k2
    have hf : Hid (fineB P M l = (checkPlan P M l == 0)) := hid (by unfold fineB; rw [hwd]; rfl)
    obtain ⟨cv, hcv⟩ : ∃ cv, checkPlan P M l = cv := ⟨_, rfl⟩
    rw [hcv] at hf
    have Hcv := hid hcv
    clear hwd hcv k2
    go_enter Try.func39, Try.ntmps39
    go_wp2_with (fail)
    refine (wide_any A n c l _ (HL.out.below (by repeat' (first | with_reducible assumption | with_reducible exact Below.refl _ _ | refine Below.alloc ?_ ?_ _ | refine Below.setCell ?_ ?_ _ | refine Below.drew ?_ | refine below_drewN ?_ _ | (simp; done) | (simp; omega) | omega)) (by first | (simp; done) | (simp; omega) | omega)) HW.out).mono ?_
    rw [Hwd.out]
    rintro e W1 ⟨rfl, hb1⟩
    have hbw1 := hbb.trans (hb1.mono hzb)
    have hz1 := hbw1.size
    have bB1 := bB.below hb1 lB
    have lB1 := bB1.lt
    have p0 := bB1.cell 0
    have p1 := bB1.cell 1
    clear hWb
    go_wp2_with (go_at_call 59; refine (refCheckPlan_any A n c l P M _ (HL.out.below hbw1 hz1) hn K2.out).mono ?_; rw [Hcv.out]; rintro e W2 ⟨rfl, hb2⟩)
    refine bodyPost_ret (v := .bool (cv == 0)) (by first | (simp [results, Try.results39, go_sem]; done) | (simp [results, Try.results39, go_sem, *]; done) | (simp [results, Try.results39, go_sem, World.cell?_setCell_same', *]; done) | (simp [results, Try.results39, go_sem]; first | exact ⟨rfl, rfl⟩ | rfl)) rfl ⟨by rw [hf.out], hbw1.trans (hb2.mono hz1)⟩
  · have Hwd := hid hwd
    have hf : Hid (fineB P M l = false) := hid (by unfold fineB; rw [hwd]; rfl)
    clear hwd
    go_enter Try.func39, Try.ntmps39
    go_wp2_with (fail)
    refine (wide_any A n c l _ (HL.out.below (by repeat' (first | with_reducible assumption | with_reducible exact Below.refl _ _ | refine Below.alloc ?_ ?_ _ | refine Below.setCell ?_ ?_ _ | refine Below.drew ?_ | refine below_drewN ?_ _ | (simp; done) | (simp; omega) | omega)) (by first | (simp; done) | (simp; omega) | omega)) HW.out).mono ?_
    rw [Hwd.out]
    rintro e W1 ⟨rfl, hb1⟩
    have hbw1 := hbb.trans (hb1.mono hzb)
    clear hWb
    go_wp2
    refine bodyPost_ret (v := .bool false) (by first | (simp [results, Try.results39, go_sem]; done) | (simp [results, Try.results39, go_sem, *]; done) | (simp [results, Try.results39, go_sem, World.cell?_setCell_same', *]; done) | (simp [results, Try.results39, go_sem]; first | exact ⟨rfl, rfl⟩ | rfl)) rfl ⟨by rw [hf.out], hbw1⟩
end Go.Proofs.Ytpgdfipikfbjeaa
/- Walks: the law's Book, four. -/
namespace Go.Proofs.Ytpgdfipikfbjeaa
open Go.RowKit
attribute [local go_sem] Oper.semAt_some
set_option maxRecDepth 10000 in
set_option maxHeartbeats 1600000 in
theorem book_any (P M : Int) (w : World) : Calls Try.prog 49 #[.int .i64 P, .int .i64 M] w fun e w' => e = .returned (.agg #[.int .i64 P, .int .i64 M]) ∧ Below w.heap.size w w' := by
  go_enter Try.func49, Try.ntmps49
  go_wp2
  refine bodyPost_ret (v := .agg #[.int .i64 P, .int .i64 M]) (by first | (simp [results, Try.results49, go_sem]; done) | (simp [results, Try.results49, go_sem, *]; done) | (simp [results, Try.results49, go_sem, World.cell?_setCell_same', *]; done) | (simp [results, Try.results49, go_sem]; first | exact ⟨rfl, rfl⟩ | rfl)) rfl ⟨rfl, (Below.refl _ _).alloc (Nat.le_refl _) _⟩
set_option maxRecDepth 10000 in
set_option maxHeartbeats 1600000 in
theorem four_any (w : World) : Calls Try.prog 60 #[] w fun e w' => e = .returned (.agg #[.int .i64 4, .int .i64 1]) ∧ Below w.heap.size w w' := by
  obtain ⟨W0, hW⟩ : ∃ W0, w.alloc (.cells #[.int .i64 0, .int .i64 0] 23) = W0 := ⟨_, rfl⟩
  have bB : Blk W0 w.heap.size 23 #[.int .i64 0, .int .i64 0] := by rw [← hW]; exact Blk.new' rfl
  have hb0 : Below w.heap.size w W0 := by rw [← hW]; exact (Below.refl _ _).alloc (Nat.le_refl _) _
  have lB := bB.lt
  have hz0 := hb0.size
  go_enter Try.func60, Try.ntmps60
  go_wp2_with (fail)
  refine (book_any 4 1 _).mono ?_
  rintro e W1 ⟨rfl, hb1⟩
  have hbw1 := hb0.trans (hb1.mono hz0)
  have bB1 := bB.below hb1 lB
  have lB1 := bB1.lt
  have d0 : W1.cell? ⟨w.heap.size, 0, none⟩ = some (.int .i64 0) := bB1.cell 0
  have d1 : W1.cell? ⟨w.heap.size, 1, none⟩ = some (.int .i64 0) := bB1.cell 1
  have f0 := bB1.frozen 0
  have f1 := bB1.frozen 1
  clear hW
  go_wp2
  have g1 := (hbw1.setCell (p := (⟨w.heap.size, 0, none⟩ : Addr)) (by simp) (.int .i64 4)).setCell (p := (⟨w.heap.size, 1, none⟩ : Addr)) (by simp) (.int .i64 1)
  refine bodyPost_ret (v := .agg #[.int .i64 4, .int .i64 1]) (by simp [results, Try.results60, go_sem, World.cell?_setCell_same', d0, d1]) rfl ⟨rfl, g1⟩
end Go.Proofs.Ytpgdfipikfbjeaa
/- Walks: the law's At. -/
namespace Go.Proofs.Ytpgdfipikfbjeaa
open Go.RowKit
attribute [local go_sem] Oper.semAt_some
def atC (P M x : Nat) : List Int := (casesL P M).getD (x % (casesL P M).length) []
theorem cases_pos (P M : Nat) : 0 < (casesL P M).length := by unfold casesL; simp
set_option maxRecDepth 10000 in
set_option maxHeartbeats 1600000 in
theorem at_any (P M x : Nat) (w : World) (hP : P ≤ 8) (hM : M ≤ 2) (hx : x < 256) :
    Calls Try.prog 40 #[.agg #[.int .i64 (P : Int), .int .i64 (M : Int)], .int .u8 x] w fun e w' => ∃ A m c, e = .returned (.slice A m c) ∧ InS w' w'.heap.size A m (atC P M x) ∧ (∀ b off, A = some ⟨b, off, none⟩ → b < w'.heap.size) ∧ Below w.heap.size w w' := by
  obtain ⟨W0, hWb⟩ : ∃ W0, w.alloc (.cells #[.int .i64 (P : Int), .int .i64 (M : Int)] 23) = W0 := ⟨_, rfl⟩
  have bB : Blk W0 w.heap.size 23 #[.int .i64 (P : Int), .int .i64 (M : Int)] := by rw [← hWb]; exact Blk.new' rfl
  have hb0 : Below w.heap.size w W0 := by rw [← hWb]; exact (Below.refl _ _).alloc (Nat.le_refl _) _
  have lB := bB.lt
  have p0 := bB.cell 0
  have p1 := bB.cell 1
  have hz0 := hb0.size
  obtain ⟨CL, hCL⟩ : ∃ CL, casesL P M = CL := ⟨_, rfl⟩
  have hcl := cases_len (M := M) hP
  have hcp := cases_pos P M
  rw [hCL] at hcl hcp
  have hv : Hid (atC P M x = CL.getD (x % CL.length) []) := hid (by unfold atC; rw [hCL])
  have HCL := hid hCL
  clear hCL
  go_enter Try.func40, Try.ntmps40
  go_wp2_with (fail)
  refine (casesOf_any P M _ hP hM).mono ?_
  rw [HCL.out]
  rintro e W1 ⟨v1, rfl, hn1, hb1⟩
  have hbw1 : Below w.heap.size w W1 := by first | exact hb0.trans (hb1.mono hz0) | (rw [← hWb] at hb0; exact hb0.trans (hb1.mono (by simp)))
  obtain ⟨i, hi⟩ : ∃ i, x % CL.length = i := ⟨_, rfl⟩
  have hil : i < CL.length := by rw [← hi]; exact Nat.mod_lt _ hcp
  obtain ⟨g, c0, l, A2, m2, c2, hv2, -, hg2, hl, hcell, hin, hbd⟩ := hn1.at_ hil
  subst hv2
  have hgd : Hid (CL.getD i [] = l) := hid (by rw [List.getD_eq_getElem?_getD, hl]; rfl)
  have Hin := hid hin
  have Hbd := hid hbd
  rw [hi] at hv
  have hti : Int.tmod (x : Int) (CL.length : Int) = (i : Int) := by rw [← hi]; exact (Int.ofNat_tmod x CL.length).symm
  have hli : (i : Int) < CL.length := by omega
  have hnz : ¬ CL.length = 0 := by omega
  clear hWb hl hin hbd hi hn1
  go_wp2
  refine bodyPost_ret (v := .slice A2 m2 c2) (by first | (simp [results, Try.results40, go_sem]; done) | (simp [results, Try.results40, go_sem, *]; done) | (simp [results, Try.results40, go_sem, World.cell?_setCell_same', *]; done) | (simp [results, Try.results40, go_sem]; first | exact ⟨rfl, rfl⟩ | rfl)) rfl ⟨A2, m2, c2, rfl, by rw [hv.out, hgd.out]; exact Hin.out, Hbd.out, hbw1⟩
end Go.Proofs.Ytpgdfipikfbjeaa
/- Walks: the law's moved. -/
namespace Go.Proofs.Ytpgdfipikfbjeaa
open Go.RowKit
attribute [local go_sem] Oper.semAt_some
/-- Where a plate comes to. -/
def movJ (s p : Nat) (x : Int) : Nat := (x.toNat + s % p) % p
def movB (l : List Int) (s p : Nat) : Nat → Nat
  | 0 => 0
  | k + 1 => movB l s p k ||| 2 ^ movJ s p (l.getD k 0)
theorem movB_lt (l : List Int) (s p : Nat) (hp : 0 < p) (hp8 : p ≤ 8) : ∀ k, movB l s p k < 256
  | 0 => by simp [movB]
  | k + 1 => by
    have h := movB_lt l s p hp hp8 k
    have h2 : movJ s p (l.getD k 0) < p := Nat.mod_lt _ hp
    have h3 : 2 ^ movJ s p (l.getD k 0) < 2 ^ 8 := Nat.pow_lt_pow_right (by decide) (by omega)
    unfold movB
    exact Nat.or_lt_two_pow (n := 8) h h3
def movL (l : List Int) (s p : Nat) : List Int := listed (movB l s p l.length) p
set_option maxRecDepth 10000 in
set_option maxHeartbeats 1600000 in
theorem moved_any (A : Option Addr) (n c s p : Nat) (l : List Int) (w : World) (hl : InS w w.heap.size A n l) (hn : n ≤ 1000000) (hb : ∀ x ∈ l, 0 ≤ x ∧ x < 8) (hp : 0 < p) (hp8 : p ≤ 8) :
    Calls Try.prog 50 #[.slice A n c, .int .i64 s, .int .i64 p] w fun e w' => ∃ v, e = .returned v ∧ w'.ownsRow w.heap.size 3 1 v (movL l s p).length ((movL l s p).flatMap cI) ∧ Below w.heap.size w w' := by
  have HL := hid hl
  have HB := hid hb
  have hlen := hid hl.len
  clear hl hb
  have hpz : ¬ p = 0 := by omega
  have hpz2 : ¬ (p : Int) = 0 := by omega
  go_enter Try.func50, Try.ntmps50
  go_wp2_with (fail)
  go_loopw [7, 8] (fun v i wr => ∃ k : Nat, k ≤ n ∧ v = .int .i64 (movB l s p k) ∧ i = .int .i64 k ∧ Below w.heap.size w wr) (fun _ i _ => n - (intOf i).toNat)
  case atStart => exact ⟨0, by omega, rfl, rfl, Below.refl _ _⟩
  case round =>
    obtain ⟨k, hk, rfl, rfl, hbw⟩ := hrel
    have hszw := hbw.size
    by_cases hlt : k < n
    · obtain ⟨b, off, x, rfl, hb1, hm, c0⟩ := (HL.out.below hbw (Nat.le_refl _)).at_ hlt
      obtain ⟨x0, x1⟩ := HB.out x (List.mem_of_getElem? hm)
      obtain ⟨y, rfl⟩ : ∃ y : Nat, x = y := ⟨x.toNat, by omega⟩
      have hlti : (k : Int) < n := by omega
      have hbr : b < wr.heap.size := by omega
      have hgd : l.getD k 0 = (y : Int) := by rw [List.getD_eq_getElem?_getD, hm]; rfl
      obtain ⟨t, ht⟩ : ∃ t, s % p = t := ⟨_, rfl⟩
      obtain ⟨j, hj⟩ : ∃ j, (y + t) % p = j := ⟨_, rfl⟩
      have htp : t < p := by rw [← ht]; exact Nat.mod_lt _ hp
      have hjp : j < p := by rw [← hj]; exact Nat.mod_lt _ hp
      have e1 : Int.tmod (s : Int) (p : Int) = (t : Int) := by rw [← ht]; exact (Int.ofNat_tmod s p).symm
      have e2 : Int.tmod ((y : Int) + (t : Int)) (p : Int) = (j : Int) := by rw [← hj, show (y : Int) + (t : Int) = ((y + t : Nat) : Int) by push_cast; rfl]; exact (Int.ofNat_tmod (y + t) p).symm
      have hst : Hid (movB l s p (k + 1) = movB l s p k ||| 2 ^ j) := hid (by
        show movB l s p k ||| 2 ^ movJ s p (l.getD k 0) = _
        rw [hgd, ← hj, ← ht]; rfl)
      have hN := movB_lt l s p hp hp8 k
      obtain ⟨N, hNe⟩ : ∃ N, movB l s p k = N := ⟨_, rfl⟩
      rw [hNe] at hst hN
      rw [hNe]
      have hpw := pow_wrap j (by omega)
      have Hor : Hid (bits .or .i64 (N : Int) ((2 : Int) ^ j) = ((N ||| 2 ^ j : Nat) : Int)) := hid (by rw [show (2 : Int) ^ j = ((2 ^ j : Nat) : Int) by push_cast; rfl]; exact bits_or_i64_nat N (2 ^ j) (by omega) (Nat.pow_lt_pow_right (by decide) (by omega)))
      have Hor2 := Hor.out
      have z1 : IntKind.i64.wrap ((y : Int) + (t : Int)) = (y : Int) + (t : Int) := IntWalk.i64_in _ (by omega)
      clear hm hgd ht hj hNe
      go_wp2
      refine wp_region_hd_all (fun W => Below wr.heap.size wr W) (by kernel_rfl) (by kernel_rfl) ((Below.refl _ _).drew) ?_
      iterate 14 (refine wpHd_val (v := ?_) (by rfl) (fun W hW => ?_) ?_; rotate_left; (· obtain ⟨hcW, hfW⟩ := bcell hW; go_simp; with_reducible rfl); simp only [Act.put, List.setIfInBounds_toArray, List.set_cons_zero, List.set_cons_succ])
      refine wpHd_nil ?_
      intro W9 hW9
      have hbw9 := hbw.trans (hW9.mono hszw)
      go_wp2
      exact ⟨⟨k + 1, by omega, by rw [hst.out, ← Hor.out], by go_num, hbw9⟩, by simp [intOf]; omega⟩
    · obtain rfl : n = k := by omega
      have hN := movB_lt l s p hp hp8 n
      have hv : Hid (movL l s p = listed (movB l s p n) p) := hid (by unfold movL; rw [hlen.out])
      go_wp2_with (go_at_call 48; refine (listed_any (movB l s p n) p _ (by omega) (by omega)).mono ?_; rw [← hv.out]; rintro e W2 ⟨v, rfl, ho, hb2⟩)
      refine bodyPost_ret (v := v) (by first | (simp [results, Try.results50, go_sem]; done) | (simp [results, Try.results50, go_sem, *]; done) | (simp [results, Try.results50, go_sem, World.cell?_setCell_same', *]; done) | (simp [results, Try.results50, go_sem]; first | exact ⟨rfl, rfl⟩ | rfl)) rfl ⟨v, rfl, owns_mono ho hszw, hbw.trans (hb2.mono hszw)⟩
end Go.Proofs.Ytpgdfipikfbjeaa
/- Walks: the law's plans p and q. -/
namespace Go.Proofs.Ytpgdfipikfbjeaa
open Go.RowKit
attribute [local go_sem] Oper.semAt_some
set_option maxRecDepth 10000 in
set_option maxHeartbeats 1600000 in
theorem p_any (w : World) : Calls Try.prog 62 #[] w fun e w' => ∃ A n c, e = .returned (.slice A n c) ∧ LiS w' w'.heap.size A n [[0, 1], [0, 2]] ∧ Below w.heap.size w w' := by
  go_enter Try.func62, Try.ntmps62
  go_wp2_with (first | (go_at_call 51; refine (of_any _ _ _ _).mono ?_; rintro e w1 ⟨rfl, rfl⟩) | (go_at_call 63; refine (plan_any _ _ _ _).mono ?_; rintro e w1 ⟨rfl, rfl⟩))
  obtain ⟨W3, hW3⟩ : ∃ W3, (((w.alloc (.cells #[.int .i64 0, .int .i64 1] 3)).alloc (.cells #[.int .i64 0, .int .i64 2] 3)).alloc (.cells #[.slice (some ⟨w.heap.size, 0, none⟩) 2 2, .slice (some ⟨w.heap.size + 1, 0, none⟩) 2 2] 25)) = W3 := ⟨_, rfl⟩
  have b1 : Blk W3 w.heap.size 3 ([0, 1].flatMap cI).toArray := by rw [← hW3]; exact ((Blk.new' rfl).alloc _).alloc _
  have b2 : Blk W3 (w.heap.size + 1) 3 ([0, 2].flatMap cI).toArray := by rw [← hW3]; exact (Blk.new' (by simp)).alloc _
  have b3 : Blk W3 (w.heap.size + 1 + 1) 25 #[.slice (some ⟨w.heap.size, 0, none⟩) 2 2, .slice (some ⟨w.heap.size + 1, 0, none⟩) 2 2] := by rw [← hW3]; exact Blk.new' (by simp)
  have hb : Below w.heap.size w W3 := by rw [← hW3]; exact (((Below.refl _ _).alloc (Nat.le_refl _) _).alloc (by simp) _).alloc (by simp; omega) _
  have i1 : InS W3 W3.heap.size (some ⟨w.heap.size, 0, none⟩) 2 [0, 1] := ins_blk b1 b1.lt
  have i2 : InS W3 W3.heap.size (some ⟨w.heap.size + 1, 0, none⟩) 2 [0, 2] := ins_blk b2 b2.lt
  rw [hW3]
  refine bodyPost_ret (v := .slice (some ⟨w.heap.size + 1 + 1, 0, none⟩) 2 2) (by first | (simp [results, Try.results62, go_sem]; done) | (simp [results, Try.results62, go_sem, *]; done) | (simp [results, Try.results62, go_sem, World.cell?_setCell_same', *]; done) | (simp [results, Try.results62, go_sem]; first | exact ⟨rfl, rfl⟩ | rfl)) rfl ⟨_, _, _, rfl, ⟨rfl, [.slice (some ⟨w.heap.size, 0, none⟩) 2 2, .slice (some ⟨w.heap.size + 1, 0, none⟩) 2 2], ⟨rfl, fun _ => ⟨_, _, rfl, b3.lt, fun k v hk => ?_⟩⟩, fun k l hl => ?_⟩, hb⟩
  · rw [Nat.zero_add]; exact (b3.cell k).trans (by rw [List.getElem?_toArray]; exact hk)
  · match k, hl with
    | 0, hl => cases hl; exact ⟨_, _, _, rfl, i1⟩
    | 1, hl => cases hl; exact ⟨_, _, _, rfl, i2⟩
    | k + 2, hl => simp at hl
set_option maxRecDepth 10000 in
set_option maxHeartbeats 1600000 in
theorem q_any (w : World) : Calls Try.prog 61 #[] w fun e w' => ∃ A n c, e = .returned (.slice A n c) ∧ LiS w' w'.heap.size A n [[0, 1], [0, 2], [3]] ∧ Below w.heap.size w w' := by
  go_enter Try.func61, Try.ntmps61
  go_wp2_with (first | (go_at_call 51; refine (of_any _ _ _ _).mono ?_; rintro e w1 ⟨rfl, rfl⟩) | (go_at_call 63; refine (plan_any _ _ _ _).mono ?_; rintro e w1 ⟨rfl, rfl⟩))
  obtain ⟨W3, hW3⟩ : ∃ W3, ((((w.alloc (.cells #[.int .i64 0, .int .i64 1] 3)).alloc (.cells #[.int .i64 0, .int .i64 2] 3)).alloc (.cells #[.int .i64 3] 3)).alloc (.cells #[.slice (some ⟨w.heap.size, 0, none⟩) 2 2, .slice (some ⟨w.heap.size + 1, 0, none⟩) 2 2, .slice (some ⟨w.heap.size + 1 + 1, 0, none⟩) 1 1] 25)) = W3 := ⟨_, rfl⟩
  have b1 : Blk W3 w.heap.size 3 ([0, 1].flatMap cI).toArray := by rw [← hW3]; exact (((Blk.new' rfl).alloc _).alloc _).alloc _
  have b2 : Blk W3 (w.heap.size + 1) 3 ([0, 2].flatMap cI).toArray := by rw [← hW3]; exact ((Blk.new' (by simp)).alloc _).alloc _
  have b4 : Blk W3 (w.heap.size + 1 + 1) 3 ([3].flatMap cI).toArray := by rw [← hW3]; exact (Blk.new' (by simp)).alloc _
  have b3 : Blk W3 (w.heap.size + 1 + 1 + 1) 25 #[.slice (some ⟨w.heap.size, 0, none⟩) 2 2, .slice (some ⟨w.heap.size + 1, 0, none⟩) 2 2, .slice (some ⟨w.heap.size + 1 + 1, 0, none⟩) 1 1] := by rw [← hW3]; exact Blk.new' (by simp)
  have hb : Below w.heap.size w W3 := by rw [← hW3]; exact ((((Below.refl _ _).alloc (Nat.le_refl _) _).alloc (by simp) _).alloc (by simp; omega) _).alloc (by simp; omega) _
  have i1 : InS W3 W3.heap.size (some ⟨w.heap.size, 0, none⟩) 2 [0, 1] := ins_blk b1 b1.lt
  have i2 : InS W3 W3.heap.size (some ⟨w.heap.size + 1, 0, none⟩) 2 [0, 2] := ins_blk b2 b2.lt
  have i3 : InS W3 W3.heap.size (some ⟨w.heap.size + 1 + 1, 0, none⟩) 1 [3] := ins_blk b4 b4.lt
  rw [hW3]
  refine bodyPost_ret (v := .slice (some ⟨w.heap.size + 1 + 1 + 1, 0, none⟩) 3 3) (by first | (simp [results, Try.results61, go_sem]; done) | (simp [results, Try.results61, go_sem, *]; done) | (simp [results, Try.results61, go_sem, World.cell?_setCell_same', *]; done) | (simp [results, Try.results61, go_sem]; first | exact ⟨rfl, rfl⟩ | rfl)) rfl ⟨_, _, _, rfl, ⟨rfl, [.slice (some ⟨w.heap.size, 0, none⟩) 2 2, .slice (some ⟨w.heap.size + 1, 0, none⟩) 2 2, .slice (some ⟨w.heap.size + 1 + 1, 0, none⟩) 1 1], ⟨rfl, fun _ => ⟨_, _, rfl, b3.lt, fun k v hk => ?_⟩⟩, fun k l hl => ?_⟩, hb⟩
  · rw [Nat.zero_add]; exact (b3.cell k).trans (by rw [List.getElem?_toArray]; exact hk)
  · match k, hl with
    | 0, hl => cases hl; exact ⟨_, _, _, rfl, i1⟩
    | 1, hl => cases hl; exact ⟨_, _, _, rfl, i2⟩
    | 2, hl => cases hl; exact ⟨_, _, _, rfl, i3⟩
    | k + 3, hl => simp at hl
end Go.Proofs.Ytpgdfipikfbjeaa
/- Walks: the reference's Alike, CheckTells. -/
namespace Go.Proofs.Ytpgdfipikfbjeaa
open Go.RowKit
attribute [local go_sem] Oper.semAt_some
/-- Two cases answer alike. -/
def aliP (pl : List (List Int)) (CL : List (List Int)) (i k : Nat) : Bool := eqI (resL pl (CL.getD i [])) (resL pl (CL.getD k []))
def aliK (pl CL : List (List Int)) (i n : Nat) : Option Nat := (List.range n).find? fun k => decide (i < k) && aliP pl CL i k
def aliF (pl CL : List (List Int)) (n : Nat) : Option (Nat × Nat) := (List.range n).findSome? fun i => (aliK pl CL i CL.length).map fun k => (i, k)
theorem aliK_start (pl CL : List (List Int)) (i : Nat) : aliK pl CL i (i + 1) = none := by
  unfold aliK
  rw [List.find?_eq_none]
  intro k hk
  have := List.mem_range.1 hk
  simp; intro h; omega
theorem aliK_next {pl CL : List (List Int)} {i k : Nat} (h : aliK pl CL i k = none) (hc : aliP pl CL i k = false) : aliK pl CL i (k + 1) = none := by
  unfold aliK at *
  rw [List.range_succ, List.find?_append, h]
  simp [hc]
theorem aliK_hit {pl CL : List (List Int)} {i k n : Nat} (h : aliK pl CL i k = none) (hc : aliP pl CL i k = true) (hi : i < k) (hn : k < n) : aliK pl CL i n = some k := by
  unfold aliK at *
  rw [show n = k + (1 + (n - k - 1)) by omega, List.range_add, List.find?_append, h, Nat.add_comm 1, List.range_succ_eq_map]
  simp [hc, hi]
theorem aliF_next {pl CL : List (List Int)} {i : Nat} (h : aliF pl CL i = none) (hc : aliK pl CL i CL.length = none) : aliF pl CL (i + 1) = none := by
  unfold aliF at *
  rw [List.range_succ, List.findSome?_append, h]
  simp [hc]
theorem aliF_hit {pl CL : List (List Int)} {i k n : Nat} (h : aliF pl CL i = none) (hc : aliK pl CL i CL.length = some k) (hn : i < n) : aliF pl CL n = some (i, k) := by
  unfold aliF at *
  rw [show n = i + (1 + (n - i - 1)) by omega, List.range_add, List.findSome?_append, h, Nat.add_comm 1, List.range_succ_eq_map]
  simp [hc]
/-- Alike's answer: two cases, the error. -/
def aliR (P M : Int) (pl : List (List Int)) : List Int × List Int × Int :=
  if checkPlan P M pl ≠ 0 then ([], [], checkPlan P M pl) else match aliF pl (casesL P.toNat M.toNat) (casesL P.toNat M.toNat).length with
    | some (i, k) => ((casesL P.toNat M.toNat).getD i [], (casesL P.toNat M.toNat).getD k [], 0)
    | none => ([], [], 5)
set_option maxRecDepth 10000 in
set_option maxHeartbeats 1600000 in
theorem refAlike_any (A : Option Addr) (n c : Nat) (pl : List (List Int)) (P M : Int) (w : World) (hp : LiS w w.heap.size A n pl) (hn : n ≤ 12) (hw : ∀ l ∈ pl, l.length ≤ 12) :
    Calls Try.prog 19 #[.agg #[.int .i64 P, .int .i64 M], .slice A n c] w fun e w' => ∃ A1 m1 c1 A2 m2 c2, e = .returned (.tuple #[.slice A1 m1 c1, .slice A2 m2 c2, .int .i64 (aliR P M pl).2.2]) ∧ InS w' w'.heap.size A1 m1 (aliR P M pl).1 ∧ InS w' w'.heap.size A2 m2 (aliR P M pl).2.1 ∧ Below w.heap.size w w' := by
  have hlen := hid hp.1
  obtain ⟨W0, hWb⟩ : ∃ W0, w.alloc (.cells #[.int .i64 P, .int .i64 M] 23) = W0 := ⟨_, rfl⟩
  have bB : Blk W0 w.heap.size 23 #[.int .i64 P, .int .i64 M] := by rw [← hWb]; exact Blk.new' rfl
  have hbel : Below w.heap.size w W0 := by rw [← hWb]; exact (Below.refl _ _).alloc (Nat.le_refl _) _
  have hsz := hbel.size
  have lB := bB.lt
  have p0 := bB.cell 0
  have p1 := bB.cell 1
  have HP := hid (hp.below hbel hsz)
  clear hp
  cases hc : (checkPlan P M pl != 0)
  · have hc0 : checkPlan P M pl = 0 := by simpa using hc
    obtain ⟨g1, g2, g3⟩ := plan_good hc0
    obtain ⟨g4, g5, g6, g7⟩ := book_good g1
    have Hc := hid hc0
    have hR : Hid (aliR P M pl = match aliF pl (casesL P.toNat M.toNat) (casesL P.toNat M.toNat).length with | some (i, k) => ((casesL P.toNat M.toNat).getD i [], (casesL P.toNat M.toNat).getD k [], 0) | none => ([], [], 5)) := hid (if_neg (by omega))
    obtain ⟨Pn, rfl⟩ : ∃ Pn : Nat, P = Pn := ⟨P.toNat, by omega⟩
    obtain ⟨Mn, rfl⟩ : ∃ Mn : Nat, M = Mn := ⟨M.toNat, by omega⟩
    rw [Int.toNat_natCast, Int.toNat_natCast] at hR
    obtain ⟨CL, hCL⟩ : ∃ CL, casesL Pn Mn = CL := ⟨_, rfl⟩
    have hcl := cases_len (P := Pn) (M := Mn) (by omega)
    rw [hCL] at hcl hR
    have HCL := hid hCL
    have hcb : Hid (∀ x ∈ CL, x.length ≤ 2) := hid (by rw [← hCL]; exact cases_short Pn Mn)
    clear hCL hc hc0
    go_enter Try.func19, Try.ntmps19
    go_wp2_with (fail)
    refine (refCheckPlan_any A n c pl Pn Mn _ (HP.out.below (by repeat' (first | with_reducible assumption | with_reducible exact Below.refl _ _ | refine Below.alloc ?_ ?_ _ | refine Below.setCell ?_ ?_ _ | refine Below.drew ?_ | refine below_drewN ?_ _ | (simp; done) | (simp; omega) | omega)) (by first | (simp; done) | (simp; omega) | omega)) hn hw).mono ?_
    rw [Hc.out]
    rintro e W1 ⟨rfl, hb⟩
    have hst : Below W0.heap.size W0 W1 := Below.trans (by repeat' (first | with_reducible assumption | with_reducible exact Below.refl _ _ | refine Below.alloc ?_ ?_ _ | refine Below.setCell ?_ ?_ _ | refine Below.drew ?_ | refine below_drewN ?_ _ | (simp; done) | (simp; omega) | omega)) (hb.mono (by first | (simp; done) | (simp; omega) | omega))
    replace hbel := hbel.trans (hst.mono hsz)
    replace hsz := hbel.size
    replace bB := bB.below hst bB.lt
    clear p0 p1 lB
    have p0 := bB.cell 0
    have p1 := bB.cell 1
    have lB := bB.lt
    try clear hWb
    replace HP := hid (HP.out.below hst hst.size)
    clear hb hst
    obtain ⟨W0, rfl⟩ : ∃ W0 : World, W0 = W1 := ⟨_, rfl⟩
    go_wp2_with (fail)
    refine (casesOf_any Pn Mn _ (by omega) (by omega)).mono ?_
    rw [HCL.out]
    rintro e W1 ⟨v1, rfl, hn1, hb⟩
    have hst : Below W0.heap.size W0 W1 := Below.trans (by repeat' (first | with_reducible assumption | with_reducible exact Below.refl _ _ | refine Below.alloc ?_ ?_ _ | refine Below.setCell ?_ ?_ _ | refine Below.drew ?_ | refine below_drewN ?_ _ | (simp; done) | (simp; omega) | omega)) (hb.mono (by first | (simp; done) | (simp; omega) | omega))
    replace hbel := hbel.trans (hst.mono hsz)
    replace hsz := hbel.size
    replace bB := bB.below hst bB.lt
    clear p0 p1 lB
    have p0 := bB.cell 0
    have p1 := bB.cell 1
    have lB := bB.lt
    try clear hWb
    replace HP := hid (HP.out.below hst hst.size)
    have HN := hid (NewLi.mono hn1 (Nat.zero_le _) : NewLi W1 0 v1 CL)
    clear hb hst
    obtain ⟨W0, rfl⟩ : ∃ W0 : World, W0 = W1 := ⟨_, rfl⟩
    clear hn1
    obtain ⟨A1, c1, hv1, -, -⟩ := HN.out.lis
    subst hv1
    have HNN := hid HN.out
    have HPP := hid HP.out
    go_wp2_with (fail)
    clear p0 p1 lB
    go_loopw [8] (fun i wr => ∃ i' : Nat, i' ≤ CL.length ∧ i = .int .i64 i' ∧ Below W0.heap.size W0 wr ∧ Hid (aliF pl CL i' = none)) (fun i _ => CL.length - (intOf i).toNat)
    case atStart => exact ⟨0, by omega, rfl, Below.refl _ _, hid rfl⟩
    case round =>
      obtain ⟨i, hi2, rfl, hbw, hall⟩ := hrel
      by_cases hlt : i < CL.length
      · have hlti : (i : Int) < CL.length := by omega
        have zi : IntKind.i64.wrap ((i : Int) + 1) = (i : Int) + 1 := IntWalk.i64_in _ (by omega)
        have hai : Hid (aliK pl CL i (i + 1) = none) := hid (aliK_start _ _ _)
        have Hbw := hid hbw
        clear hbw
        go_wp2_with (fail)
        go_loopw [9] (fun x wr => ∃ j : Nat, i < j ∧ j ≤ CL.length ∧ x = .int .i64 j ∧ Below W0.heap.size W0 wr ∧ Hid (aliK pl CL i j = none)) (fun x _ => CL.length - (intOf x).toNat)
        case atStart => exact ⟨i + 1, by omega, by omega, by go_num, Hbw.out, hai⟩
        case round =>
          clear hai Hbw
          obtain ⟨j, hij, hj2, rfl, hbw, hin⟩ := hrel
          have hszw := hbw.size
          by_cases hltj : j < CL.length
          · have hltj2 : (j : Int) < CL.length := by omega
            obtain ⟨g, c0, xi, Ai, mi, ci, hv2, -, hg, hxi, hci, hini, hbdi⟩ := HNN.out.at_ hlt
            cases hv2
            obtain ⟨g', c0', xj, Aj, mj, cj, hv3, -, hg', hxj, hcj, hinj, hbdj⟩ := HNN.out.at_ hltj
            cases hv3
            have q0 := ((bcell hbw).1 g i hg).trans hci
            have q1 := ((bcell hbw).1 g j hg).trans hcj
            have lg : g < wr.heap.size := by omega
            have hmi : mi ≤ 2 := by have := hini.len; have := hcb.out xi (List.mem_of_getElem? hxi); omega
            have hmj : mj ≤ 2 := by have := hinj.len; have := hcb.out xj (List.mem_of_getElem? hxj); omega
            have Hi := hid hini
            have Hj := hid hinj
            have Hci := hid hci
            have Hcj := hid hcj
            have Hxi : Hid (CL.getD i [] = xi) := hid (by rw [List.getD_eq_getElem?_getD, hxi]; rfl)
            have Hxj : Hid (CL.getD j [] = xj) := hid (by rw [List.getD_eq_getElem?_getD, hxj]; rfl)
            have hap : Hid (aliP pl CL i j = eqI (resL pl xi) (resL pl xj)) := hid (by unfold aliP; rw [Hxi.out, Hxj.out])
            obtain ⟨bv, hbv⟩ : ∃ bv, eqI (resL pl xi) (resL pl xj) = bv := ⟨_, rfl⟩
            have Hbv := hid hbv
            clear hci hcj hini hinj hbdi hbdj hxi hxj hbv
            cases bv
            · have hnx := hid (aliK_next hin.out (hap.out.trans Hbv.out))
              go_wp2
              (refine Sx.wp_region_rel (fun W => Below W0.heap.size W0 W) (fun _ _ h he => h.trans (he.mono h.size)) [0, 1, 2, 3, 4, 6, 7, 8, 9, 10] [(5, []), (11, []), (12, [0, 1])] (by kernel_rfl) (by kernel_rfl) (by kernel_rfl) hbw.drew ?_; simp only [pick, List.getElem?_toArray, List.getElem?_cons_zero, List.getElem?_cons_succ])
              iterate 10 (refine Sx.wpE_val (v := ?_) (by rfl) (fun W hW => ?_) ?_; rotate_left; (· have e0 := ((bcell hW).1 g i hg).trans Hci.out; have e1 := ((bcell hW).1 g j hg).trans Hcj.out; have lg : g < W.heap.size := Nat.lt_of_lt_of_le hg hW.size; go_simp; with_reducible rfl); simp only [Act.put, List.setIfInBounds_toArray, List.set_cons_zero, List.set_cons_succ])
              simp only [Sx.wpE, Sx.pickD, List.getElem?_toArray, List.getElem?_cons_zero, List.getElem?_cons_succ]
              refine ⟨fun v W => ∃ B k, v = .slice B n k ∧ InS W W.heap.size B n (resL pl xi), fun v W W' _ _ he ⟨B, k, h1, h2⟩ => ⟨B, k, h1, h2.below he he.size⟩, ?_, ?_⟩
              · simp only [List.filterMap_cons, List.filterMap_nil, List.nil_append, List.cons_append, List.getElem?_cons_zero, List.getElem?_cons_succ, Sx.Wi, Act.put, List.setIfInBounds_toArray, List.set_cons_zero, List.set_cons_succ]
                intro W hW
                refine Sx.ROp_call (f := 42) (by rfl) (by go_simp) ((resultsOf_any A Ai n c mi ci pl xi _ (HPP.out.below hW hW.size) (Hi.out.below hW hW.size) hn hw (by omega)).mono ?_)
                rintro e W2 ⟨v2, rfl, ho2, hb2⟩
                obtain ⟨A3, c3, hv3, hs3⟩ := sl_of_owns ho2
                exact ⟨_, rfl, hW.trans (hb2.mono hW.size), hb2, A3, c3, hv3, hs3⟩
              simp only [List.filterMap_cons, List.filterMap_nil, List.nil_append, List.cons_append, List.getElem?_cons_zero, List.getElem?_cons_succ, Sx.Wi, Act.put, List.setIfInBounds_toArray, List.set_cons_zero, List.set_cons_succ]
              refine ⟨fun v W => ∃ B k, v = .slice B n k ∧ InS W W.heap.size B n (resL pl xj), fun v W W' _ _ he ⟨B, k, h1, h2⟩ => ⟨B, k, h1, h2.below he he.size⟩, ?_, ?_⟩
              · simp only [List.filterMap_cons, List.filterMap_nil, List.nil_append, List.cons_append, List.getElem?_cons_zero, List.getElem?_cons_succ, Sx.Wi, Act.put, List.setIfInBounds_toArray, List.set_cons_zero, List.set_cons_succ]
                intro W hW
                refine Sx.ROp_call (f := 42) (by rfl) (by go_simp) ((resultsOf_any A Aj n c mj cj pl xj _ (HPP.out.below hW hW.size) (Hj.out.below hW hW.size) hn hw (by omega)).mono ?_)
                rintro e W2 ⟨v2, rfl, ho2, hb2⟩
                obtain ⟨A3, c3, hv3, hs3⟩ := sl_of_owns ho2
                exact ⟨_, rfl, hW.trans (hb2.mono hW.size), hb2, A3, c3, hv3, hs3⟩
              simp only [List.filterMap_cons, List.filterMap_nil, List.nil_append, List.cons_append, List.getElem?_cons_zero, List.getElem?_cons_succ, Sx.Wi, Act.put, List.setIfInBounds_toArray, List.set_cons_zero, List.set_cons_succ]
              refine ⟨fun v _ => v = .bool (eqI (resL pl xi) (resL pl xj)), fun _ _ _ _ _ _ h => h, ?_, ?_⟩
              · simp only [List.filterMap_cons, List.filterMap_nil, List.nil_append, List.cons_append, List.getElem?_cons_zero, List.getElem?_cons_succ, Sx.Wi, Act.put, List.setIfInBounds_toArray, List.set_cons_zero, List.set_cons_succ]
                rintro _ _ W ⟨⟨hW, A3, c3, rfl, hs3⟩, A4, c4, rfl, hs4⟩
                refine Sx.ROp_call (f := 69) (by rfl) (by go_simp) ((same_any _ A3 A4 n c3 n c4 (resL pl xi) (resL pl xj) hs3 hs4 (by omega)).mono ?_)
                rintro e W4 ⟨rfl, hb4⟩
                exact ⟨_, rfl, hW.trans (hb4.mono hW.size), hb4, rfl⟩
              simp only [List.filterMap_cons, List.filterMap_nil, List.nil_append, List.cons_append, List.getElem?_cons_zero, List.getElem?_cons_succ, Sx.Wi, Act.put, List.setIfInBounds_toArray, List.set_cons_zero, List.set_cons_succ]
              rintro _ _ _ W4 ⟨⟨⟨hbw4, A3, c3, rfl, -⟩, A4, c4, rfl, -⟩, rfl⟩
              rw [Hbv.out]
              have hszw4 := hbw4.size
              go_wp2
              exact ⟨⟨j + 1, by omega, by omega, by go_num, hbw4, hnx⟩, by simp [intOf]; omega⟩
            · have hhit := aliF_hit hall.out (aliK_hit hin.out (hap.out.trans Hbv.out) hij hltj) hlt
              have hR2 : Hid (aliR Pn Mn pl = (xi, xj, 0)) := hid (by rw [hR.out, hhit]; show (CL.getD i [], CL.getD j [], (0 : Int)) = _; rw [Hxi.out, Hxj.out])
              clear hhit
              go_wp2
              (refine Sx.wp_region_rel (fun W => Below W0.heap.size W0 W) (fun _ _ h he => h.trans (he.mono h.size)) [0, 1, 2, 3, 4, 6, 7, 8, 9, 10] [(5, []), (11, []), (12, [0, 1])] (by kernel_rfl) (by kernel_rfl) (by kernel_rfl) hbw.drew ?_; simp only [pick, List.getElem?_toArray, List.getElem?_cons_zero, List.getElem?_cons_succ])
              iterate 10 (refine Sx.wpE_val (v := ?_) (by rfl) (fun W hW => ?_) ?_; rotate_left; (· have e0 := ((bcell hW).1 g i hg).trans Hci.out; have e1 := ((bcell hW).1 g j hg).trans Hcj.out; have lg : g < W.heap.size := Nat.lt_of_lt_of_le hg hW.size; go_simp; with_reducible rfl); simp only [Act.put, List.setIfInBounds_toArray, List.set_cons_zero, List.set_cons_succ])
              simp only [Sx.wpE, Sx.pickD, List.getElem?_toArray, List.getElem?_cons_zero, List.getElem?_cons_succ]
              refine ⟨fun v W => ∃ B k, v = .slice B n k ∧ InS W W.heap.size B n (resL pl xi), fun v W W' _ _ he ⟨B, k, h1, h2⟩ => ⟨B, k, h1, h2.below he he.size⟩, ?_, ?_⟩
              · simp only [List.filterMap_cons, List.filterMap_nil, List.nil_append, List.cons_append, List.getElem?_cons_zero, List.getElem?_cons_succ, Sx.Wi, Act.put, List.setIfInBounds_toArray, List.set_cons_zero, List.set_cons_succ]
                intro W hW
                refine Sx.ROp_call (f := 42) (by rfl) (by go_simp) ((resultsOf_any A Ai n c mi ci pl xi _ (HPP.out.below hW hW.size) (Hi.out.below hW hW.size) hn hw (by omega)).mono ?_)
                rintro e W2 ⟨v2, rfl, ho2, hb2⟩
                obtain ⟨A3, c3, hv3, hs3⟩ := sl_of_owns ho2
                exact ⟨_, rfl, hW.trans (hb2.mono hW.size), hb2, A3, c3, hv3, hs3⟩
              simp only [List.filterMap_cons, List.filterMap_nil, List.nil_append, List.cons_append, List.getElem?_cons_zero, List.getElem?_cons_succ, Sx.Wi, Act.put, List.setIfInBounds_toArray, List.set_cons_zero, List.set_cons_succ]
              refine ⟨fun v W => ∃ B k, v = .slice B n k ∧ InS W W.heap.size B n (resL pl xj), fun v W W' _ _ he ⟨B, k, h1, h2⟩ => ⟨B, k, h1, h2.below he he.size⟩, ?_, ?_⟩
              · simp only [List.filterMap_cons, List.filterMap_nil, List.nil_append, List.cons_append, List.getElem?_cons_zero, List.getElem?_cons_succ, Sx.Wi, Act.put, List.setIfInBounds_toArray, List.set_cons_zero, List.set_cons_succ]
                intro W hW
                refine Sx.ROp_call (f := 42) (by rfl) (by go_simp) ((resultsOf_any A Aj n c mj cj pl xj _ (HPP.out.below hW hW.size) (Hj.out.below hW hW.size) hn hw (by omega)).mono ?_)
                rintro e W2 ⟨v2, rfl, ho2, hb2⟩
                obtain ⟨A3, c3, hv3, hs3⟩ := sl_of_owns ho2
                exact ⟨_, rfl, hW.trans (hb2.mono hW.size), hb2, A3, c3, hv3, hs3⟩
              simp only [List.filterMap_cons, List.filterMap_nil, List.nil_append, List.cons_append, List.getElem?_cons_zero, List.getElem?_cons_succ, Sx.Wi, Act.put, List.setIfInBounds_toArray, List.set_cons_zero, List.set_cons_succ]
              refine ⟨fun v _ => v = .bool (eqI (resL pl xi) (resL pl xj)), fun _ _ _ _ _ _ h => h, ?_, ?_⟩
              · simp only [List.filterMap_cons, List.filterMap_nil, List.nil_append, List.cons_append, List.getElem?_cons_zero, List.getElem?_cons_succ, Sx.Wi, Act.put, List.setIfInBounds_toArray, List.set_cons_zero, List.set_cons_succ]
                rintro _ _ W ⟨⟨hW, A3, c3, rfl, hs3⟩, A4, c4, rfl, hs4⟩
                refine Sx.ROp_call (f := 69) (by rfl) (by go_simp) ((same_any _ A3 A4 n c3 n c4 (resL pl xi) (resL pl xj) hs3 hs4 (by omega)).mono ?_)
                rintro e W4 ⟨rfl, hb4⟩
                exact ⟨_, rfl, hW.trans (hb4.mono hW.size), hb4, rfl⟩
              simp only [List.filterMap_cons, List.filterMap_nil, List.nil_append, List.cons_append, List.getElem?_cons_zero, List.getElem?_cons_succ, Sx.Wi, Act.put, List.setIfInBounds_toArray, List.set_cons_zero, List.set_cons_succ]
              rintro _ _ _ W4 ⟨⟨⟨hbw4, A3, c3, rfl, -⟩, A4, c4, rfl, -⟩, rfl⟩
              rw [Hbv.out]
              have hszw4 := hbw4.size
              have r2 := ((bcell hbw4).1 g i hg).trans Hci.out
              have r3 := ((bcell hbw4).1 g j hg).trans Hcj.out
              have lg4 : g < W4.heap.size := by omega
              go_wp2
              refine wp_region_hd_all (fun W => Below W4.heap.size W4 W) (by kernel_rfl) (by kernel_rfl) ((Below.refl _ _).drew) ?_
              iterate 11 (refine wpHd_val (v := ?_) (by rfl) (fun W hW => ?_) ?_; rotate_left; (· obtain ⟨hcW, hfW⟩ := bcell hW; go_simp; with_reducible rfl); simp only [Act.put, List.setIfInBounds_toArray, List.set_cons_zero, List.set_cons_succ])
              refine wpHd_nil ?_
              intro W5 hW5
              replace hbw4 := hbw4.trans (hW5.mono hszw4)
              replace hszw4 := hbw4.size
              go_wp2
              refine bodyPost_ret (v := .tuple #[.slice Ai mi ci, .slice Aj mj cj, .int .i64 0]) (by first | (simp [results, Try.results19, go_sem]; done) | (simp [results, Try.results19, go_sem, *]; done) | (simp [results, Try.results19, go_sem, World.cell?_setCell_same', *]; done) | (simp [results, Try.results19, go_sem]; first | exact ⟨rfl, rfl⟩ | rfl)) rfl ⟨Ai, mi, ci, Aj, mj, cj, by rw [hR2.out], by rw [hR2.out]; exact Hi.out.below hbw4 hszw4, by rw [hR2.out]; exact Hj.out.below hbw4 hszw4, hbel.trans (hbw4.mono hsz)⟩
          · obtain rfl : j = CL.length := by omega
            have hnx := hid (aliF_next hall.out hin.out)
            go_wp2
            exact ⟨⟨i + 1, by omega, by go_num, hbw, hnx⟩, by simp [intOf]; omega⟩
      · obtain rfl : i = CL.length := by omega
        have hR2 : Hid (aliR Pn Mn pl = ([], [], 5)) := hid (by rw [hR.out, hall.out])
        go_wp2
        refine bodyPost_ret (v := .tuple #[.slice none 0 0, .slice none 0 0, .int .i64 5]) (by first | (simp [results, Try.results19, go_sem]; done) | (simp [results, Try.results19, go_sem, *]; done) | (simp [results, Try.results19, go_sem, World.cell?_setCell_same', *]; done) | (simp [results, Try.results19, go_sem]; first | exact ⟨rfl, rfl⟩ | rfl)) rfl ⟨none, 0, 0, none, 0, 0, by rw [hR2.out], by rw [hR2.out]; exact Sl.none_, by rw [hR2.out]; exact Sl.none_, hbel.trans (hbw.mono hsz)⟩
  · have hc0 : checkPlan P M pl ≠ 0 := by simpa using hc
    have hR : Hid (aliR P M pl = ([], [], checkPlan P M pl)) := hid (if_pos hc0)
    have hcc := hc
    clear hc hc0
    go_enter Try.func19, Try.ntmps19
    go_wp2_with (fail)
    refine (refCheckPlan_any A n c pl P M _ (HP.out.below (by repeat' (first | with_reducible assumption | with_reducible exact Below.refl _ _ | refine Below.alloc ?_ ?_ _ | refine Below.setCell ?_ ?_ _ | refine Below.drew ?_ | refine below_drewN ?_ _ | (simp; done) | (simp; omega) | omega)) (by first | (simp; done) | (simp; omega) | omega)) hn hw).mono ?_
    rintro e W1 ⟨rfl, hb⟩
    have hst : Below W0.heap.size W0 W1 := Below.trans (by repeat' (first | with_reducible assumption | with_reducible exact Below.refl _ _ | refine Below.alloc ?_ ?_ _ | refine Below.setCell ?_ ?_ _ | refine Below.drew ?_ | refine below_drewN ?_ _ | (simp; done) | (simp; omega) | omega)) (hb.mono (by first | (simp; done) | (simp; omega) | omega))
    replace hbel := hbel.trans (hst.mono hsz)
    replace hsz := hbel.size
    replace bB := bB.below hst bB.lt
    clear p0 p1 lB
    have p0 := bB.cell 0
    have p1 := bB.cell 1
    have lB := bB.lt
    try clear hWb
    replace HP := hid (HP.out.below hst hst.size)
    clear hb hst
    obtain ⟨W0, rfl⟩ : ∃ W0 : World, W0 = W1 := ⟨_, rfl⟩
    go_wp2_with (fail)
    refine (refCheckPlan_any A n c pl P M _ (HP.out.below (by repeat' (first | with_reducible assumption | with_reducible exact Below.refl _ _ | refine Below.alloc ?_ ?_ _ | refine Below.setCell ?_ ?_ _ | refine Below.drew ?_ | refine below_drewN ?_ _ | (simp; done) | (simp; omega) | omega)) (by first | (simp; done) | (simp; omega) | omega)) hn hw).mono ?_
    rintro e W1 ⟨rfl, hb⟩
    have hst : Below W0.heap.size W0 W1 := Below.trans (by repeat' (first | with_reducible assumption | with_reducible exact Below.refl _ _ | refine Below.alloc ?_ ?_ _ | refine Below.setCell ?_ ?_ _ | refine Below.drew ?_ | refine below_drewN ?_ _ | (simp; done) | (simp; omega) | omega)) (hb.mono (by first | (simp; done) | (simp; omega) | omega))
    replace hbel := hbel.trans (hst.mono hsz)
    replace hsz := hbel.size
    replace bB := bB.below hst bB.lt
    clear p0 p1 lB
    have p0 := bB.cell 0
    have p1 := bB.cell 1
    have lB := bB.lt
    try clear hWb
    replace HP := hid (HP.out.below hst hst.size)
    clear hb hst
    obtain ⟨W0, rfl⟩ : ∃ W0 : World, W0 = W1 := ⟨_, rfl⟩
    go_wp2
    refine bodyPost_ret (v := .tuple #[.slice none 0 0, .slice none 0 0, .int .i64 (checkPlan P M pl)]) (by first | (simp [results, Try.results19, go_sem]; done) | (simp [results, Try.results19, go_sem, *]; done) | (simp [results, Try.results19, go_sem, World.cell?_setCell_same', *]; done) | (simp [results, Try.results19, go_sem]; first | exact ⟨rfl, rfl⟩ | rfl)) rfl ⟨none, 0, 0, none, 0, 0, by rw [hR.out], by rw [hR.out]; exact Sl.none_, by rw [hR.out]; exact Sl.none_, hbel⟩
/-- CheckTells' answer. -/
def tellsE (P M : Int) (pl : List (List Int)) : Int := if (aliR P M pl).2.2 = 0 then 23 else if (aliR P M pl).2.2 = 5 then 0 else (aliR P M pl).2.2
set_option maxRecDepth 10000 in
set_option maxHeartbeats 1600000 in
theorem refCheckTells_any (A : Option Addr) (n c : Nat) (pl : List (List Int)) (P M : Int) (w : World) (hp : LiS w w.heap.size A n pl) (hn : n ≤ 12) (hw : ∀ l ∈ pl, l.length ≤ 12) :
    Calls Try.prog 23 #[.agg #[.int .i64 P, .int .i64 M], .slice A n c] w fun e w' => e = .returned (.int .i64 (tellsE P M pl)) ∧ Below w.heap.size w w' := by
  obtain ⟨W0, hWb⟩ : ∃ W0, w.alloc (.cells #[.int .i64 P, .int .i64 M] 23) = W0 := ⟨_, rfl⟩
  have bB : Blk W0 w.heap.size 23 #[.int .i64 P, .int .i64 M] := by rw [← hWb]; exact Blk.new' rfl
  have hbel : Below w.heap.size w W0 := by rw [← hWb]; exact (Below.refl _ _).alloc (Nat.le_refl _) _
  have hsz := hbel.size
  have lB := bB.lt
  have p0 := bB.cell 0
  have p1 := bB.cell 1
  have HP := hid (hp.below hbel hsz)
  clear hp
  obtain ⟨cv, hcv⟩ : ∃ cv, aliR P M pl = cv := ⟨_, rfl⟩
  obtain ⟨cc, cp, ce⟩ := cv
  have hE : Hid (tellsE P M pl = if ce = 0 then 23 else if ce = 5 then 0 else ce) := hid (by unfold tellsE; rw [hcv])
  have Hcv := hid hcv
  clear hcv
  by_cases h0 : ce = 0
  · subst h0
    have hE2 := hid (hE.out.trans (if_pos rfl))
    go_enter Try.func23, Try.ntmps23
    go_wp2_with (fail)
    refine (refAlike_any A n c pl P M _ (HP.out.below (by repeat' (first | with_reducible assumption | with_reducible exact Below.refl _ _ | refine Below.alloc ?_ ?_ _ | refine Below.setCell ?_ ?_ _ | refine Below.drew ?_ | refine below_drewN ?_ _ | (simp; done) | (simp; omega) | omega)) (by first | (simp; done) | (simp; omega) | omega)) hn hw).mono ?_
    rw [Hcv.out]
    rintro e W1 ⟨A1, m1, c1, A2, m2, c2, rfl, hin, hin2, hb⟩
    clear hin hin2
    have hst : Below W0.heap.size W0 W1 := Below.trans (by repeat' (first | with_reducible assumption | with_reducible exact Below.refl _ _ | refine Below.alloc ?_ ?_ _ | refine Below.setCell ?_ ?_ _ | refine Below.drew ?_ | refine below_drewN ?_ _ | (simp; done) | (simp; omega) | omega)) (hb.mono (by first | (simp; done) | (simp; omega) | omega))
    replace hbel := hbel.trans (hst.mono hsz)
    replace hsz := hbel.size
    replace bB := bB.below hst bB.lt
    clear p0 p1 lB
    have p0 := bB.cell 0
    have p1 := bB.cell 1
    have lB := bB.lt
    try clear hWb
    replace HP := hid (HP.out.below hst hst.size)
    clear hb hst
    obtain ⟨W0, rfl⟩ : ∃ W0 : World, W0 = W1 := ⟨_, rfl⟩
    go_wp2
    refine bodyPost_ret (v := .int .i64 23) (by first | (simp [results, Try.results23, go_sem]; done) | (simp [results, Try.results23, go_sem, *]; done) | (simp [results, Try.results23, go_sem, World.cell?_setCell_same', *]; done) | (simp [results, Try.results23, go_sem]; first | exact ⟨rfl, rfl⟩ | rfl)) rfl ⟨by rw [hE2.out], hbel⟩
  · by_cases h5 : ce = 5
    · subst h5
      have hE2 : Hid (tellsE P M pl = 0) := hid (by rw [hE.out]; decide)
      go_enter Try.func23, Try.ntmps23
      go_wp2_with (fail)
      refine (refAlike_any A n c pl P M _ (HP.out.below (by repeat' (first | with_reducible assumption | with_reducible exact Below.refl _ _ | refine Below.alloc ?_ ?_ _ | refine Below.setCell ?_ ?_ _ | refine Below.drew ?_ | refine below_drewN ?_ _ | (simp; done) | (simp; omega) | omega)) (by first | (simp; done) | (simp; omega) | omega)) hn hw).mono ?_
      rw [Hcv.out]
      rintro e W1 ⟨A1, m1, c1, A2, m2, c2, rfl, hin, hin2, hb⟩
      clear hin hin2
      have hst : Below W0.heap.size W0 W1 := Below.trans (by repeat' (first | with_reducible assumption | with_reducible exact Below.refl _ _ | refine Below.alloc ?_ ?_ _ | refine Below.setCell ?_ ?_ _ | refine Below.drew ?_ | refine below_drewN ?_ _ | (simp; done) | (simp; omega) | omega)) (hb.mono (by first | (simp; done) | (simp; omega) | omega))
      replace hbel := hbel.trans (hst.mono hsz)
      replace hsz := hbel.size
      replace bB := bB.below hst bB.lt
      clear p0 p1 lB
      have p0 := bB.cell 0
      have p1 := bB.cell 1
      have lB := bB.lt
      try clear hWb
      replace HP := hid (HP.out.below hst hst.size)
      clear hb hst
      obtain ⟨W0, rfl⟩ : ∃ W0 : World, W0 = W1 := ⟨_, rfl⟩
      go_wp2
      refine bodyPost_ret (v := .int .i64 0) (by first | (simp [results, Try.results23, go_sem]; done) | (simp [results, Try.results23, go_sem, *]; done) | (simp [results, Try.results23, go_sem, World.cell?_setCell_same', *]; done) | (simp [results, Try.results23, go_sem]; first | exact ⟨rfl, rfl⟩ | rfl)) rfl ⟨by rw [hE2.out], hbel⟩
    · have hE2 : Hid (tellsE P M pl = ce) := hid (by rw [hE.out, if_neg h0, if_neg h5])
      have d0 : (ce == 0) = false := by simp [h0]
      have d5 : (ce == 5) = false := by simp [h5]
      go_enter Try.func23, Try.ntmps23
      go_wp2_with (fail)
      refine (refAlike_any A n c pl P M _ (HP.out.below (by repeat' (first | with_reducible assumption | with_reducible exact Below.refl _ _ | refine Below.alloc ?_ ?_ _ | refine Below.setCell ?_ ?_ _ | refine Below.drew ?_ | refine below_drewN ?_ _ | (simp; done) | (simp; omega) | omega)) (by first | (simp; done) | (simp; omega) | omega)) hn hw).mono ?_
      rw [Hcv.out]
      rintro e W1 ⟨A1, m1, c1, A2, m2, c2, rfl, hin, hin2, hb⟩
      clear hin hin2
      have hst : Below W0.heap.size W0 W1 := Below.trans (by repeat' (first | with_reducible assumption | with_reducible exact Below.refl _ _ | refine Below.alloc ?_ ?_ _ | refine Below.setCell ?_ ?_ _ | refine Below.drew ?_ | refine below_drewN ?_ _ | (simp; done) | (simp; omega) | omega)) (hb.mono (by first | (simp; done) | (simp; omega) | omega))
      replace hbel := hbel.trans (hst.mono hsz)
      replace hsz := hbel.size
      replace bB := bB.below hst bB.lt
      clear p0 p1 lB
      have p0 := bB.cell 0
      have p1 := bB.cell 1
      have lB := bB.lt
      try clear hWb
      replace HP := hid (HP.out.below hst hst.size)
      clear hb hst
      obtain ⟨W0, rfl⟩ : ∃ W0 : World, W0 = W1 := ⟨_, rfl⟩
      go_wp2
      refine bodyPost_ret (v := .int .i64 ce) (by first | (simp [results, Try.results23, go_sem]; done) | (simp [results, Try.results23, go_sem, *]; done) | (simp [results, Try.results23, go_sem, World.cell?_setCell_same', *]; done) | (simp [results, Try.results23, go_sem]; first | exact ⟨rfl, rfl⟩ | rfl)) rfl ⟨by rw [hE2.out], hbel⟩
end Go.Proofs.Ytpgdfipikfbjeaa
