/- Texts of the proof, laid together by program. -/
import Derived.Test.YtnpilfpackdimaaGreatMi
set_option linter.unusedSimpArgs false
set_option linter.unusedVariables false
/- A region whose order is free: each operation's contract is proved once, for whatever order comes. -/
namespace Go.Proofs.YtnpilfpackdimaaGreat.Sx
open Go Go.Proofs.YtnpilfpackdimaaGreat
variable {P : Program} {md : Region.Mode} {ops : Array Oper} {S : World → Prop}
/-- What an operation leaves. -/
def LV (P : Program) (K : Value → World → Prop) : Result Next → Prop
  | .ok (.value u) W' => K u W'
  | .ok .skip W' => K undef W'
  | .ok (.enter f args) W' => Calls P f args W' fun e W'' => ∃ v, e = .returned v ∧ K v W''
  | _ => False
theorem LV.lupon {o : Oper} {a : Act} {K : Value → World → Prop} {K' : Act → World → Prop} (hK : ∀ v W, K v W → K' (a.put o.dst v) W) {r : Result Next} (h : LV P K r) : LUpon P o a K' r := by
  cases r with
  | ok n w' =>
    cases n <;> simp only [LUpon, LV] at h ⊢
    case value u => exact hK _ _ h
    case skip => exact hK _ _ h
    case enter f args => exact h.mono fun e W ⟨u, he, hk⟩ => ⟨u, he, hK _ _ hk⟩
  | halt x w' => simp only [LV] at h
def dstAt (ops : Array Oper) (k : Nat) : Option Tmp := (ops[k]?).bind (·.dst)
def putF (ops : Array Oper) (e : Nat → Value) : List Nat → Act → Act
  | [], a => a
  | k :: l, a => putF ops e l (a.put (dstAt ops k) (e k))
theorem putF_erase {e : Nat → Value} {k : Nat} : ∀ {l : List Nat} {a : Act}, k ∈ l → l.Nodup → (∀ i ∈ l, ∀ d, dstAt ops i = some d → i ≠ k → dstAt ops k ≠ some d) → putF ops e l a = putF ops e (l.erase k) (a.put (dstAt ops k) (e k))
  | i :: l, a, hk, hn, hd => by
    by_cases h : i = k
    · subst h
      rw [List.erase_cons_head]; rfl
    · have hk' : k ∈ l := by
        rcases List.mem_cons.1 hk with h1 | h1
        · exact absurd h1.symm h
        · exact h1
      rw [List.erase_cons_tail (by simpa using h)]
      show putF ops e l _ = putF ops e (l.erase k) _
      rw [putF_erase hk' (List.nodup_cons.1 hn).2 (fun j hj => hd j (List.mem_cons_of_mem _ hj))]
      congr 1
      exact Act.put_comm a (e i) (e k) (fun d h1 => hd i (List.mem_cons_self) d h1 h)
theorem putF_congr {e e' : Nat → Value} : ∀ {l : List Nat} {a : Act}, (∀ k ∈ l, e k = e' k) → putF ops e l a = putF ops e' l a
  | [], a, _ => rfl
  | k :: l, a, h => by
    show putF ops e l _ = putF ops e' l _
    rw [h k (List.mem_cons_self), putF_congr fun j hj => h j (List.mem_cons_of_mem _ hj)]
theorem eval_putF {e : Nat → Value} (o : Oper) (hs : ∀ cs b, o.op ≠ .select cs b) : ∀ {l : List Nat} {a : Act}, (∀ k ∈ l, ∀ d, dstAt ops k = some d → d ∉ o.looksAt ops) → execOp (putF ops e l a).eval o = execOp a.eval o
  | [], a, _ => rfl
  | k :: l, a, h => by
    show execOp (putF ops e l _).eval o = _
    rw [eval_putF o hs fun j hj => h j (List.mem_cons_of_mem _ hj), execOp_put o hs a _ _ (h k (List.mem_cons_self))]
/-- What is not listed yet. -/
def leftF (ops : Array Oper) (listed : Array Bool) : List Nat := (List.range ops.size).filter fun i => !listed.getD i true
theorem mem_leftF {listed : Array Bool} {i : Nat} : i ∈ leftF ops listed ↔ i < ops.size ∧ listed.getD i true = false := by
  unfold leftF; simp
theorem leftF_nodup (listed : Array Bool) : (leftF ops listed).Nodup := List.Pairwise.sublist List.filter_sublist List.nodup_range
theorem leftF_set {listed : Array Bool} {k : Nat} (hsz : listed.size = ops.size) (hk : k ∈ leftF ops listed) : leftF ops (listed.setIfInBounds k true) = (leftF ops listed).erase k := by
  rw [(leftF_nodup listed).erase_eq_filter]
  unfold leftF
  rw [List.filter_filter]
  apply List.filter_congr
  intro i hi
  have hkl := (mem_leftF.1 hk).1
  have hil : i < ops.size := List.mem_range.1 hi
  by_cases h : i = k
  · subst h
    simp [Array.getD, hsz, hil]
  · simp [Array.getD, hsz, hil, h, Array.getElem_setIfInBounds, Ne.symm h]
/-- No operation looks at what comes behind it, or beside it; what it looks at is behind it. -/
def freeB (md : Region.Mode) (ops : Array Oper) (dep : Nat → List Nat) : Bool :=
  (List.range ops.size).all fun k => match ops[k]? with
    | none => false
    | some o => o.guard.isNone && (o.after.all fun e => !Region.binds md e || decide (e.on < k)) && ((dep k).all fun d => o.after.any fun e => Region.binds md e && e.on == d) &&
      (List.range ops.size).all fun i => (o.after.any (fun e => Region.binds md e && e.on == i) || (match dstAt ops i with | some d => !(o.looksAt ops).contains d | none => true)) && (i == k || match dstAt ops i with | some d => dstAt ops k != some d | none => true)
structure Free (md : Region.Mode) (ops : Array Oper) (dep : Nat → List Nat) (k : Nat) (o : Oper) : Prop where
  guard : o.guard = none
  after : ∀ e ∈ o.after, Region.binds md e = true → e.on < k
  dep : ∀ d ∈ dep k, ∃ e ∈ o.after, Region.binds md e = true ∧ e.on = d
  look : ∀ i, i < ops.size → (∃ e ∈ o.after, Region.binds md e = true ∧ e.on = i) ∨ ∀ d, dstAt ops i = some d → d ∉ o.looksAt ops
  dist : ∀ i, i < ops.size → i ≠ k → ∀ d, dstAt ops i = some d → dstAt ops k ≠ some d
theorem freeB_spec {dep : Nat → List Nat} (h : freeB md ops dep = true) {k : Nat} {o : Oper} (ho : ops[k]? = some o) : Free md ops dep k o := by
  have hk : k < ops.size := (Array.getElem?_eq_some_iff.1 ho).1
  have h1 := List.all_eq_true.1 h k (List.mem_range.2 hk)
  simp only [ho, Bool.and_eq_true] at h1
  obtain ⟨⟨⟨a1, a2⟩, a3⟩, a4⟩ := h1
  refine ⟨by simpa using a1, fun e he hb => ?_, fun d hd => ?_, fun i hi => ?_, fun i hi hne d hd => ?_⟩
  · have := Array.all_eq_true_iff_forall_mem.1 a2 e he
    simpa [hb] using this
  · have := List.all_eq_true.1 a3 d hd
    obtain ⟨e, he, hb⟩ := Array.any_eq_true'.1 this
    simp only [Bool.and_eq_true, beq_iff_eq] at hb
    exact ⟨e, he, hb.1, hb.2⟩
  · have := List.all_eq_true.1 a4 i (List.mem_range.2 hi)
    simp only [Bool.and_eq_true, Bool.or_eq_true] at this
    rcases this.1 with h2 | h2
    · obtain ⟨e, he, hb⟩ := Array.any_eq_true'.1 h2
      simp only [Bool.and_eq_true, beq_iff_eq] at hb
      exact .inl ⟨e, he, hb.1, hb.2⟩
    · refine .inr fun d hd => ?_
      simp only [hd] at h2
      simpa using h2
  · have := List.all_eq_true.1 a4 i (List.mem_range.2 hi)
    simp only [Bool.and_eq_true, Bool.or_eq_true, hd] at this
    rcases this.2 with h2 | h2
    · exact absurd (by simpa using h2) hne
    · simpa using h2
theorem wanted_none {o : Oper} (h : o.guard = none) (y : Nat → Option Bool) : Region.wanted o y = true := by
  unfold Region.wanted; rw [h]
theorem wpM_free (hS : ∀ W W', S W → Ext W W' → S W') (Φ : Nat → Value → World → Prop) (hΦ : ∀ k v W W', Φ k v W → Ext W W' → Φ k v W') (dep : Nat → List Nat) (hsel : Region.noSelect ops = true) (hB : freeB md ops dep = true) (Q : Act → World → Prop) (a0 : Act) (w0 : World)
    (hC : ∀ (k : Nat) (o : Oper), ops[k]? = some o → ∀ (e : Nat → Value) (W : World), Ext w0 W → S W → (∀ d ∈ dep k, Φ d (e d) W) → LV P (fun v W' => Ext W W' ∧ Φ k v W') ((execOp (putF ops e (List.range ops.size) a0).eval o).run P W))
    (hQ : ∀ (e : Nat → Value) (W : World), Ext w0 W → S W → (∀ k, k < ops.size → Φ k (e k) W) → Q (putF ops e (List.range ops.size) a0) W) :
    ∀ (f : Nat) (listed : Array Bool) (ρ : Nat → Value) (a : Act) (w : World), listed.size = ops.size → f = (leftF ops listed).length → Ext w0 w → S w → (∀ k, k < ops.size → k ∉ leftF ops listed → Φ k (ρ k) w) →
      (∀ e : Nat → Value, (∀ k, k < ops.size → k ∉ leftF ops listed → e k = ρ k) → putF ops e (leftF ops listed) a = putF ops e (List.range ops.size) a0) → wpM P md ops S Q f listed a w
  | 0, listed, ρ, a, w, hsz, hf, hx, hs, hp, hi => by
    have hl : leftF ops listed = [] := List.eq_nil_of_length_eq_zero hf.symm
    have hno : ∀ k, k ∉ leftF ops listed := fun k => by rw [hl]; simp
    refine ⟨?_, fun W h1 h2 => ?_⟩
    · refine List.eq_nil_iff_forall_not_mem.2 fun k hk => ?_
      obtain ⟨h1, o, ho, -⟩ := mem_ready.1 hk
      exact hno k (mem_leftF.2 ⟨(Array.getElem?_eq_some_iff.1 ho).1, h1⟩)
    · have := hi ρ (fun _ _ _ => rfl)
      rw [hl] at this
      rw [show a = _ from this]
      exact hQ ρ W (hx.trans' h1) h2 fun k hk => hΦ _ _ _ _ (hp k hk (hno k)) h1
  | f + 1, listed, ρ, a, w, hsz, hf, hx, hs, hp, hi => by
    intro W h1 h2
    refine ⟨fun hr => ?_, fun k hk => ?_⟩
    · exfalso
      have hne : ∃ k, k ∈ leftF ops listed := by
        cases hl : leftF ops listed with
        | nil => rw [hl] at hf; cases hf
        | cons k l => exact ⟨k, List.mem_cons_self⟩
      obtain ⟨k0, hk0⟩ := hne
      obtain ⟨k, hk, hmin⟩ : ∃ k, k ∈ leftF ops listed ∧ ∀ j, j < k → j ∉ leftF ops listed := by
        induction k0 using Nat.strongRecOn with
        | _ k0 ih =>
          by_cases h : ∃ j, j < k0 ∧ j ∈ leftF ops listed
          · obtain ⟨j, hj, hm⟩ := h
            exact ih j hj hm
          · exact ⟨k0, hk0, fun j hj hm => h ⟨j, hj, hm⟩⟩
      obtain ⟨hkl, hku⟩ := mem_leftF.1 hk
      obtain ⟨o, ho⟩ : ∃ o, ops[k]? = some o := ⟨_, Array.getElem?_eq_getElem hkl⟩
      have hfr := freeB_spec hB ho
      have : k ∈ Region.ready md ops listed := mem_ready.2 ⟨hku, o, ho, fun e he hb => by
        have hlt := hfr.after e he hb
        have hnm := hmin _ hlt
        rw [mem_leftF] at hnm
        have hes : e.on < ops.size := Nat.lt_trans hlt hkl
        have h3 : ¬ listed.getD e.on true = false := fun h => hnm ⟨hes, h⟩
        simp only [Array.getD, hsz, hes, dif_pos] at h3 ⊢
        simpa using h3⟩
      rw [hr] at this; cases this
    · obtain ⟨hku, o, ho, haf⟩ := mem_ready.1 hk
      have hkl : k < ops.size := (Array.getElem?_eq_some_iff.1 ho).1
      have hkm : k ∈ leftF ops listed := mem_leftF.2 ⟨hkl, hku⟩
      have hfr := freeB_spec hB ho
      have hlis : ∀ e ∈ o.after, Region.binds md e = true → e.on ∉ leftF ops listed := fun e he hb hm => by
        have h3 := haf e he hb
        have h4 := (mem_leftF.1 hm)
        simp only [Array.getD, hsz, h4.1, dif_pos] at h3
        have h5 := h4.2
        simp only [Array.getD, hsz, h4.1, dif_pos] at h5
        rw [h3] at h5; cases h5
      have hss : ∀ cs b, o.op ≠ .select cs b := fun cs b => Region.noSelect_spec hsel k o cs b ho
      have hev : execOp a.eval o = execOp (putF ops ρ (List.range ops.size) a0).eval o := by
        rw [← hi ρ (fun _ _ _ => rfl)]
        refine (eval_putF o hss fun i him d hd => ?_).symm
        rcases hfr.look i (mem_leftF.1 him).1 with ⟨e, he, hb, hon⟩ | h3
        · exact absurd him (hon ▸ hlis e he hb)
        · exact h3 d hd
      unfold lOp
      simp only [ho]
      rw [if_pos (wanted_none hfr.guard _)]
      rw [hev]
      refine LV.lupon (K := fun v W' => Ext W W' ∧ Φ k v W') ?_ (hC k o ho ρ W (hx.trans' h1) h2 fun d hd => ?_)
      · rintro v W' ⟨hxW, hpv⟩
        have hsW := hS _ _ h2 hxW
        have hdk : dstAt ops k = o.dst := by unfold dstAt; rw [ho]; rfl
        refine ⟨hsW, wpM_free hS Φ hΦ dep hsel hB Q a0 w0 hC hQ f _ (fun i => if i = k then v else ρ i) _ W' (by simpa using hsz) ?_ ((hx.trans' h1).trans' hxW) hsW ?_ ?_⟩
        · rw [leftF_set hsz hkm, List.length_erase_of_mem hkm, ← hf]; rfl
        · intro i hil him
          by_cases h3 : i = k
          · subst h3; simpa using hpv
          · simp only [if_neg h3]
            refine hΦ _ _ _ _ (hΦ _ _ _ _ (hp i hil fun hm => him ?_) h1) hxW
            rw [leftF_set hsz hkm]
            exact (List.mem_erase_of_ne h3).2 hm
        · intro e he
          have hek : e k = v := by
            have := he k hkl (by rw [leftF_set hsz hkm]; exact List.Nodup.not_mem_erase (leftF_nodup listed))
            simpa using this
          rw [leftF_set hsz hkm, ← hek, ← hdk, ← putF_erase hkm (leftF_nodup listed) (fun i him d hd hne => hfr.dist i (mem_leftF.1 him).1 hne d hd)]
          refine hi e fun i hil him => ?_
          have h3 : i ≠ k := fun h => him (h ▸ hkm)
          have := he i hil (by rw [leftF_set hsz hkm]; exact fun hm => him (List.mem_of_mem_erase hm))
          simpa [h3] using this
      · obtain ⟨e, he, hb, hon⟩ := hfr.dep d hd
        have hdl : e.on < ops.size := Nat.lt_trans (hfr.after e he hb) hkl
        exact hon ▸ hΦ _ _ _ _ (hp e.on hdl (hlis e he hb)) h1
theorem leftF_none (n : Nat) (hn : ops.size = n) : leftF ops (Array.replicate n false) = List.range ops.size := by
  unfold leftF
  refine List.filter_eq_self.2 fun i hi => ?_
  have := List.mem_range.1 hi
  simp [Array.getD, hn ▸ this]
/-- A region in whatever order: one contract for each operation. -/
theorem wp_region_free (S : World → Prop) (hS : ∀ W W', S W → Ext W W' → S W') (Φ : Nat → Value → World → Prop) (hΦ : ∀ k v W W', Φ k v W → Ext W W' → Φ k v W') (dep : Nat → List Nat) {id : Nat} {Q : Exit → Act → World → Prop} {a : Act} {w : World} {l : List Oper} (R : List Nat) (hR : R = List.range l.length) (X : (Nat → Value) → Act) (hX : ∀ e, putF l.toArray e R a = X e) (hm : P.follows .mixedOrders = true)
    (hB : (Region.noSelect l.toArray && freeB .any l.toArray dep) = true) (h0 : S w.drew)
    (hC : ∀ (k : Nat) (o : Oper), l[k]? = some o → ∀ (e : Nat → Value) (W : World), Ext w W → S W → (∀ d ∈ dep k, Φ d (e d) W) → LV P (fun v W' => Ext W W' ∧ Φ k v W') ((execOp (X e).eval o).run P W))
    (hQ : ∀ (e : Nat → Value) (W : World), Ext w W → S W → (∀ k, k < l.length → Φ k (e k) W) → wpList P l.toArray Q [] (X e) W) : (Code.region id l.toArray true).wp P Q a w := by
  subst hR
  obtain ⟨hs, hf⟩ := Bool.and_eq_true_iff.1 hB
  refine wp_region_el S hS [] l.length hm (by rw [hs]; simp [earlyB]) h0 ?_
  simp only [pick, wpE, setAll]
  have hdr : Ext w w.drew := (RowKit.Below.refl _ _).drew
  refine wpM_free hS Φ hΦ dep hs hf _ a w.drew (fun k o ho e W hx hW hd => ?_) (fun e W hx hW hp => ?_) l.length _ (fun _ => undef) a w.drew (by simp) ?_ (RowKit.Below.refl _ _) h0 ?_ ?_
  · have := hC k o (by simpa using ho) e W (hdr.trans' hx) hW hd
    rw [← hX e] at this
    simpa using this
  · have := hQ e W (hdr.trans' hx) hW (fun k hk => hp k (by simpa using hk))
    rw [← hX e] at this
    simpa using this
  · rw [leftF_none _ (by simp)]; simp
  · intro k hk hn
    rw [leftF_none _ (by simp)] at hn
    exact absurd (List.mem_range.2 hk) hn
  · intro e _
    rw [leftF_none _ (by simp)]
end Go.Proofs.YtnpilfpackdimaaGreat.Sx
/- A region whose order is free, with guards that are met: each operation's contract is proved once, for whatever order comes. -/
namespace Go.Proofs.YtnpilfpackdimaaGreat.Sx
open Go Go.Proofs.YtnpilfpackdimaaGreat
variable {P : Program} {md : Region.Mode} {ops : Array Oper} {S : World → Prop}
/-- No operation looks at what comes behind it, or beside it; what it looks at is behind it. -/
def freeGB (md : Region.Mode) (ops : Array Oper) (dep : Nat → List Nat) : Bool :=
  (List.range ops.size).all fun k => match ops[k]? with
    | none => false
    | some o =>  (o.after.all fun e => !Region.binds md e || decide (e.on < k)) && ((dep k).all fun d => o.after.any fun e => Region.binds md e && e.on == d) &&
      (List.range ops.size).all fun i => (o.after.any (fun e => Region.binds md e && e.on == i) || (match dstAt ops i with | some d => !(o.looksAt ops).contains d | none => true)) && (i == k || match dstAt ops i with | some d => dstAt ops k != some d | none => true)
structure FreeG (md : Region.Mode) (ops : Array Oper) (dep : Nat → List Nat) (k : Nat) (o : Oper) : Prop where
  after : ∀ e ∈ o.after, Region.binds md e = true → e.on < k
  dep : ∀ d ∈ dep k, ∃ e ∈ o.after, Region.binds md e = true ∧ e.on = d
  look : ∀ i, i < ops.size → (∃ e ∈ o.after, Region.binds md e = true ∧ e.on = i) ∨ ∀ d, dstAt ops i = some d → d ∉ o.looksAt ops
  dist : ∀ i, i < ops.size → i ≠ k → ∀ d, dstAt ops i = some d → dstAt ops k ≠ some d
theorem freeGB_spec {dep : Nat → List Nat} (h : freeGB md ops dep = true) {k : Nat} {o : Oper} (ho : ops[k]? = some o)   : FreeG md ops dep k o := by
  have hk : k < ops.size := (Array.getElem?_eq_some_iff.1 ho).1
  have h1 := List.all_eq_true.1 h k (List.mem_range.2 hk)
  simp only [ho, Bool.and_eq_true] at h1
  obtain ⟨⟨a2, a3⟩, a4⟩ := h1
  refine ⟨fun e he hb => ?_, fun d hd => ?_, fun i hi => ?_, fun i hi hne d hd => ?_⟩
  · have := Array.all_eq_true_iff_forall_mem.1 a2 e he
    simpa [hb] using this
  · have := List.all_eq_true.1 a3 d hd
    obtain ⟨e, he, hb⟩ := Array.any_eq_true'.1 this
    simp only [Bool.and_eq_true, beq_iff_eq] at hb
    exact ⟨e, he, hb.1, hb.2⟩
  · have := List.all_eq_true.1 a4 i (List.mem_range.2 hi)
    simp only [Bool.and_eq_true, Bool.or_eq_true] at this
    rcases this.1 with h2 | h2
    · obtain ⟨e, he, hb⟩ := Array.any_eq_true'.1 h2
      simp only [Bool.and_eq_true, beq_iff_eq] at hb
      exact .inl ⟨e, he, hb.1, hb.2⟩
    · refine .inr fun d hd => ?_
      simp only [hd] at h2
      simpa using h2
  · have := List.all_eq_true.1 a4 i (List.mem_range.2 hi)
    simp only [Bool.and_eq_true, Bool.or_eq_true, hd] at this
    rcases this.2 with h2 | h2
    · exact absurd (by simpa using h2) hne
    · simpa using h2
theorem wanted_putF {e : Nat → Value} (o : Oper) : ∀ {l : List Nat} {a : Act}, (∀ k ∈ l, ∀ d, dstAt ops k = some d → d ∉ o.looksAt ops) → Region.wanted o (yielded ops (putF ops e l a).tmps) = Region.wanted o (yielded ops a.tmps)
  | [], a, _ => rfl
  | k :: l, a, h => by
    show Region.wanted o (yielded ops (putF ops e l _).tmps) = _
    rw [wanted_putF o fun j hj => h j (List.mem_cons_of_mem _ hj), wanted_put o a _ _ (h k (List.mem_cons_self))]
theorem wpM_freeG (hS : ∀ W W', S W → Ext W W' → S W') (Φ : Nat → Value → World → Prop) (hΦ : ∀ k v W W', Φ k v W → Ext W W' → Φ k v W') (dep : Nat → List Nat) (hsel : Region.noSelect ops = true) (hB : freeGB md ops dep = true) (Q : Act → World → Prop) (a0 : Act) (w0 : World)
    (hC : ∀ (k : Nat) (o : Oper), ops[k]? = some o → ∀ (e : Nat → Value) (W : World), Ext w0 W → S W → (∀ d ∈ dep k, Φ d (e d) W) → Region.wanted o (yielded ops (putF ops e (List.range ops.size) a0).tmps) = true ∧ LV P (fun v W' => Ext W W' ∧ Φ k v W') ((execOp (putF ops e (List.range ops.size) a0).eval o).run P W))
    (hQ : ∀ (e : Nat → Value) (W : World), Ext w0 W → S W → (∀ k, k < ops.size → Φ k (e k) W) → Q (putF ops e (List.range ops.size) a0) W) :
    ∀ (f : Nat) (listed : Array Bool) (ρ : Nat → Value) (a : Act) (w : World), listed.size = ops.size → f = (leftF ops listed).length → Ext w0 w → S w → (∀ k, k < ops.size → k ∉ leftF ops listed → Φ k (ρ k) w) →
      (∀ e : Nat → Value, (∀ k, k < ops.size → k ∉ leftF ops listed → e k = ρ k) → putF ops e (leftF ops listed) a = putF ops e (List.range ops.size) a0) → wpM P md ops S Q f listed a w
  | 0, listed, ρ, a, w, hsz, hf, hx, hs, hp, hi => by
    have hl : leftF ops listed = [] := List.eq_nil_of_length_eq_zero hf.symm
    have hno : ∀ k, k ∉ leftF ops listed := fun k => by rw [hl]; simp
    refine ⟨?_, fun W h1 h2 => ?_⟩
    · refine List.eq_nil_iff_forall_not_mem.2 fun k hk => ?_
      obtain ⟨h1, o, ho, -⟩ := mem_ready.1 hk
      exact hno k (mem_leftF.2 ⟨(Array.getElem?_eq_some_iff.1 ho).1, h1⟩)
    · have := hi ρ (fun _ _ _ => rfl)
      rw [hl] at this
      rw [show a = _ from this]
      exact hQ ρ W (hx.trans' h1) h2 fun k hk => hΦ _ _ _ _ (hp k hk (hno k)) h1
  | f + 1, listed, ρ, a, w, hsz, hf, hx, hs, hp, hi => by
    intro W h1 h2
    refine ⟨fun hr => ?_, fun k hk => ?_⟩
    · exfalso
      have hne : ∃ k, k ∈ leftF ops listed := by
        cases hl : leftF ops listed with
        | nil => rw [hl] at hf; cases hf
        | cons k l => exact ⟨k, List.mem_cons_self⟩
      obtain ⟨k0, hk0⟩ := hne
      obtain ⟨k, hk, hmin⟩ : ∃ k, k ∈ leftF ops listed ∧ ∀ j, j < k → j ∉ leftF ops listed := by
        induction k0 using Nat.strongRecOn with
        | _ k0 ih =>
          by_cases h : ∃ j, j < k0 ∧ j ∈ leftF ops listed
          · obtain ⟨j, hj, hm⟩ := h
            exact ih j hj hm
          · exact ⟨k0, hk0, fun j hj hm => h ⟨j, hj, hm⟩⟩
      obtain ⟨hkl, hku⟩ := mem_leftF.1 hk
      obtain ⟨o, ho⟩ : ∃ o, ops[k]? = some o := ⟨_, Array.getElem?_eq_getElem hkl⟩
      have hfr := freeGB_spec hB ho
      have : k ∈ Region.ready md ops listed := mem_ready.2 ⟨hku, o, ho, fun e he hb => by
        have hlt := hfr.after e he hb
        have hnm := hmin _ hlt
        rw [mem_leftF] at hnm
        have hes : e.on < ops.size := Nat.lt_trans hlt hkl
        have h3 : ¬ listed.getD e.on true = false := fun h => hnm ⟨hes, h⟩
        simp only [Array.getD, hsz, hes, dif_pos] at h3 ⊢
        simpa using h3⟩
      rw [hr] at this; cases this
    · obtain ⟨hku, o, ho, haf⟩ := mem_ready.1 hk
      have hkl : k < ops.size := (Array.getElem?_eq_some_iff.1 ho).1
      have hkm : k ∈ leftF ops listed := mem_leftF.2 ⟨hkl, hku⟩
      have hfr := freeGB_spec hB ho
      have hlis : ∀ e ∈ o.after, Region.binds md e = true → e.on ∉ leftF ops listed := fun e he hb hm => by
        have h3 := haf e he hb
        have h4 := (mem_leftF.1 hm)
        simp only [Array.getD, hsz, h4.1, dif_pos] at h3
        have h5 := h4.2
        simp only [Array.getD, hsz, h4.1, dif_pos] at h5
        rw [h3] at h5; cases h5
      have hss : ∀ cs b, o.op ≠ .select cs b := fun cs b => Region.noSelect_spec hsel k o cs b ho
      have hev : execOp a.eval o = execOp (putF ops ρ (List.range ops.size) a0).eval o := by
        rw [← hi ρ (fun _ _ _ => rfl)]
        refine (eval_putF o hss fun i him d hd => ?_).symm
        rcases hfr.look i (mem_leftF.1 him).1 with ⟨e, he, hb, hon⟩ | h3
        · exact absurd him (hon ▸ hlis e he hb)
        · exact h3 d hd
      have hwn : Region.wanted o (yielded ops a.tmps) = Region.wanted o (yielded ops (putF ops ρ (List.range ops.size) a0).tmps) := by
        rw [← hi ρ (fun _ _ _ => rfl)]
        refine (wanted_putF o fun i him d hd => ?_).symm
        rcases hfr.look i (mem_leftF.1 him).1 with ⟨e, he, hb, hon⟩ | h3
        · exact absurd him (hon ▸ hlis e he hb)
        · exact h3 d hd
      have hCC := hC k o ho ρ W (hx.trans' h1) h2 fun d hd => by
        obtain ⟨e, he, hb, hon⟩ := hfr.dep d hd
        have hdl : e.on < ops.size := Nat.lt_trans (hfr.after e he hb) hkl
        exact hon ▸ hΦ _ _ _ _ (hp e.on hdl (hlis e he hb)) h1
      unfold lOp
      simp only [ho]
      rw [if_pos (hwn.trans hCC.1)]
      rw [hev]
      refine LV.lupon (K := fun v W' => Ext W W' ∧ Φ k v W') ?_ hCC.2
      · rintro v W' ⟨hxW, hpv⟩
        have hsW := hS _ _ h2 hxW
        have hdk : dstAt ops k = o.dst := by unfold dstAt; rw [ho]; rfl
        refine ⟨hsW, wpM_freeG hS Φ hΦ dep hsel hB Q a0 w0 hC hQ f _ (fun i => if i = k then v else ρ i) _ W' (by simpa using hsz) ?_ ((hx.trans' h1).trans' hxW) hsW ?_ ?_⟩
        · rw [leftF_set hsz hkm, List.length_erase_of_mem hkm, ← hf]; rfl
        · intro i hil him
          by_cases h3 : i = k
          · subst h3; simpa using hpv
          · simp only [if_neg h3]
            refine hΦ _ _ _ _ (hΦ _ _ _ _ (hp i hil fun hm => him ?_) h1) hxW
            rw [leftF_set hsz hkm]
            exact (List.mem_erase_of_ne h3).2 hm
        · intro e he
          have hek : e k = v := by
            have := he k hkl (by rw [leftF_set hsz hkm]; exact List.Nodup.not_mem_erase (leftF_nodup listed))
            simpa using this
          rw [leftF_set hsz hkm, ← hek, ← hdk, ← putF_erase hkm (leftF_nodup listed) (fun i him d hd hne => hfr.dist i (mem_leftF.1 him).1 hne d hd)]
          refine hi e fun i hil him => ?_
          have h3 : i ≠ k := fun h => him (h ▸ hkm)
          have := he i hil (by rw [leftF_set hsz hkm]; exact fun hm => him (List.mem_of_mem_erase hm))
          simpa [h3] using this
/-- A region in whatever order: one contract for each operation. -/
theorem wp_region_freeG (S : World → Prop) (hS : ∀ W W', S W → Ext W W' → S W') (Φ : Nat → Value → World → Prop) (hΦ : ∀ k v W W', Φ k v W → Ext W W' → Φ k v W') (dep : Nat → List Nat) {id : Nat} {Q : Exit → Act → World → Prop} {a : Act} {w : World} {l : List Oper} (R : List Nat) (hR : R = List.range l.length) (X : (Nat → Value) → Act) (hX : ∀ e, putF l.toArray e R a = X e) (hm : P.follows .mixedOrders = true)
    (hB : (Region.noSelect l.toArray && freeGB .any l.toArray dep) = true) (h0 : S w.drew)
    (hC : ∀ (k : Nat) (o : Oper), l[k]? = some o → ∀ (e : Nat → Value) (W : World), Ext w W → S W → (∀ d ∈ dep k, Φ d (e d) W) → Region.wanted o (yielded l.toArray (X e).tmps) = true ∧ LV P (fun v W' => Ext W W' ∧ Φ k v W') ((execOp (X e).eval o).run P W))
    (hQ : ∀ (e : Nat → Value) (W : World), Ext w W → S W → (∀ k, k < l.length → Φ k (e k) W) → wpList P l.toArray Q [] (X e) W) : (Code.region id l.toArray true).wp P Q a w := by
  subst hR
  obtain ⟨hs, hf⟩ := Bool.and_eq_true_iff.1 hB
  refine wp_region_el S hS [] l.length hm (by rw [hs]; simp [earlyB]) h0 ?_
  simp only [pick, wpE, setAll]
  have hdr : Ext w w.drew := (RowKit.Below.refl _ _).drew
  refine wpM_freeG hS Φ hΦ dep hs hf _ a w.drew (fun k o ho e W hx hW hd => ?_) (fun e W hx hW hp => ?_) l.length _ (fun _ => undef) a w.drew (by simp) ?_ (RowKit.Below.refl _ _) h0 ?_ ?_
  · have := hC k o (by simpa using ho) e W (hdr.trans' hx) hW hd
    rw [← hX e] at this
    simpa using this
  · have := hQ e W (hdr.trans' hx) hW (fun k hk => hp k (by simpa using hk))
    rw [← hX e] at this
    simpa using this
  · rw [leftF_none _ (by simp)]; simp
  · intro k hk hn
    rw [leftF_none _ (by simp)] at hn
    exact absurd (List.mem_range.2 hk) hn
  · intro e _
    rw [leftF_none _ (by simp)]
end Go.Proofs.YtnpilfpackdimaaGreat.Sx
/- What an operation of a free region leaves: kinds of values. -/
namespace Go.Proofs.YtnpilfpackdimaaGreat
open Go.RowKit
/-- Kinds of values. -/
inductive Sp where
  | any
  | val (x : Value)
  | is (xs : List Int)
  | li (L : List (List Int))
  | tis (xs : List Int) (x : Value)
  | bk (I : Int) (L : List (List Int))
def Sp.ok : Sp → Value → World → Prop
  | .any, _, _ => True
  | .val x, v, _ => v = x
  | .is xs, v, W => ∃ A n c, v = .slice A n c ∧ InS W W.heap.size A n xs
  | .li L, v, W => ∃ A n c, v = .slice A n c ∧ LiS W W.heap.size A n L
  | .tis xs x, v, W => ∃ A n c, v = .tuple #[.slice A n c, x] ∧ InS W W.heap.size A n xs
  | .bk I L, v, W => ∃ A n c, v = .agg #[.int .i64 I, .slice A n c] ∧ LiS W W.heap.size A n L
theorem Sp.keep : ∀ (s : Sp) (v : Value) (W W' : World), s.ok v W → Ext W W' → s.ok v W'
  | .any, _, _, _, _, _ => trivial
  | .val _, _, _, _, h, _ => h
  | .is _, _, _, _, ⟨A, n, c, h, h'⟩, he => ⟨A, n, c, h, h'.below he he.size⟩
  | .li _, _, _, _, ⟨A, n, c, h, h'⟩, he => ⟨A, n, c, h, h'.below he he.size⟩
  | .tis _ _, _, _, _, ⟨A, n, c, h, h'⟩, he => ⟨A, n, c, h, h'.below he he.size⟩
  | .bk _ _, _, _, _, ⟨A, n, c, h, h'⟩, he => ⟨A, n, c, h, h'.below he he.size⟩
def SpA (l : List Sp) (k : Nat) (v : Value) (W : World) : Prop := ((l[k]?).getD .any).ok v W
theorem SpA.keep (l : List Sp) (k : Nat) (v : Value) (W W' : World) (h : SpA l k v W) (he : Ext W W') : SpA l k v W' := Sp.keep _ v W W' h he
theorem lis_two {w : World} {g t : Nat} {A1 A2 : Option Addr} {m1 m2 c1 c2 : Nat} {l1 l2 : List Int} (hb : Blk w g t #[.slice A1 m1 c1, .slice A2 m2 c2]) (h1 : InS w w.heap.size A1 m1 l1) (h2 : InS w w.heap.size A2 m2 l2) : LiS w w.heap.size (some ⟨g, 0, none⟩) 2 [l1, l2] :=
  lis_lit (vs := [.slice A1 m1 c1, .slice A2 m2 c2]) hb rfl fun k l hl => by
    match k, hl with
    | 0, hl => cases hl; exact ⟨_, _, _, rfl, h1⟩
    | 1, hl => cases hl; exact ⟨_, _, _, rfl, h2⟩
    | k + 2, hl => simp at hl
theorem lis_one' {w : World} {g t : Nat} {A1 : Option Addr} {m1 c1 : Nat} {l1 : List Int} (hb : Blk w g t #[.slice A1 m1 c1]) (h1 : InS w w.heap.size A1 m1 l1) : LiS w w.heap.size (some ⟨g, 0, none⟩) 1 [l1] :=
  lis_lit (vs := [.slice A1 m1 c1]) hb rfl fun k l hl => by
    match k, hl with
    | 0, hl => cases hl; exact ⟨_, _, _, rfl, h1⟩
    | k + 1, hl => simp at hl
theorem hSb (B : World) : ∀ W W', Below B.heap.size B W → Ext W W' → Below B.heap.size B W' := fun _ _ h he => h.trans (he.mono h.size)
theorem of_new (w0 : World) (xs : List Int) : Calls Tryz.prog 53 #[.slice (some ⟨w0.heap.size, 0, none⟩) xs.length xs.length] (w0.alloc (.cells (xs.flatMap cI).toArray 3)) fun e w' => ∃ A n c, e = .returned (.slice A n c) ∧ InS w' w'.heap.size A n xs ∧ Below w0.heap.size w0 w' := by
  refine (of_any _ _).mono ?_
  rintro e w1 ⟨rfl, rfl⟩
  exact ⟨_, _, _, rfl, ins_blk (l := xs) (Blk.new _ _ _) (by simp), (Below.refl _ _).alloc (Nat.le_refl _) _⟩
def gdB (b : Bool) (v : Value) : Bool := (match v with | .bool x => some x | _ => (none : Option Bool)) == some b
theorem kEqs : eqI [1, 2] [1, 2] = true ∧ eqI [0, 2] [0, 2] = true ∧ eqLs [[1, 2], [2, 3]] [[1, 2], [2, 3]] = true ∧ eqI [1, 3] [1, 3] = true ∧ (decide ((4 : Int) = 4) && eqLs [[1, 3], [2]] [[1, 3], [2]]) = true ∧ (decide ((5 : Int) = 5) && eqLs [[0, 2], [1, 3]] [[0, 2], [1, 3]]) = true := by decide +kernel
end Go.Proofs.YtnpilfpackdimaaGreat
