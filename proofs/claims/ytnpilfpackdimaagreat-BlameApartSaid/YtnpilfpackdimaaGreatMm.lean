/- Texts of the proof, laid together by program. -/
import Derived.Test.YtnpilfpackdimaaGreatMl
import Derived.Test.YtnpilfpackdimaaGreatMj
import Derived.Test.YtnpilfpackdimaaGreatMb
set_option linter.unusedSimpArgs false
set_option linter.unusedVariables false
/- Plain law: some of the tight blames are all, or forget one. -/
namespace Go.Proofs.YtnpilfpackdimaaGreat
theorem bits_and_u64n (a b : Nat) (ha : a < 2 ^ 64) (hb : b < 2 ^ 64) : bits .and .u64 (a : Int) (b : Int) = ((a &&& b : Nat) : Int) := by
  have hx : a &&& b ≤ a := Nat.and_le_left
  have e64 : (2 : Nat) ^ 64 = 18446744073709551616 := by decide
  rw [e64] at ha hb
  have h1 : (BitVec.ofInt 64 (a : Int)).toNat = a := by
    rw [BitVec.ofInt_natCast, BitVec.toNat_ofNat]; exact Nat.mod_eq_of_lt (by omega)
  have h2 : (BitVec.ofInt 64 (b : Int)).toNat = b := by
    rw [BitVec.ofInt_natCast, BitVec.toNat_ofNat]; exact Nat.mod_eq_of_lt (by omega)
  show IntKind.u64.wrap ((BitVec.ofInt 64 (a : Int) &&& BitVec.ofInt 64 (b : Int)).toNat : Int) = _
  rw [BitVec.toNat_and, h1, h2]
  exact IntWalk.u64_in _ (by omega)
theorem low_bit64 (b k : Nat) (hb : b < 2 ^ 64) : bits .and .u64 ((b : Int) / 2 ^ k) 1 = if b.testBit k then 1 else 0 := by
  have hq : (b : Int) / 2 ^ k = ((b / 2 ^ k : Nat) : Int) := by push_cast; rfl
  have hle : b / 2 ^ k ≤ b := Nat.div_le_self _ _
  rw [hq, Nat.testBit_eq_decide_div_mod_eq]
  have h := bits_and_u64n (b / 2 ^ k) 1 (by omega) (by decide)
  rw [show ((1 : Nat) : Int) = 1 from rfl] at h
  rw [h, Nat.and_one_is_mod]
  obtain ⟨q, hqe⟩ : ∃ q, b / 2 ^ k = q := ⟨_, rfl⟩
  rw [hqe]
  by_cases h1 : q % 2 = 1 <;> simp [h1] <;> omega
/-- Those that are not left out. -/
def someL (M : List (List Int)) (g k : Nat) : List (List Int) := ((List.range k).filter fun i => !g.testBit (i % 64)).map fun i => M.getD i []
theorem someL_succ (M : List (List Int)) (g k : Nat) : someL M g (k + 1) = someL M g k ++ (if g.testBit (k % 64) then [] else [M.getD k []]) := by
  unfold someL
  rw [List.range_succ, List.filter_append, List.map_append]
  cases h : g.testBit (k % 64) <;> simp [List.filter_cons, h]
theorem someL_len (M : List (List Int)) (g k : Nat) : (someL M g k).length ≤ k := by
  unfold someL
  rw [List.length_map]
  exact Nat.le_trans (List.length_filter_le _ _) (by simp)
theorem someL_sub (M : List (List Int)) (g : Nat) : (someL M g M.length).Sublist M := by
  have h : (List.range M.length).map (fun i => M.getD i []) = M := by
    apply List.ext_getElem (by simp)
    intro i h1 h2
    simp [List.getD_eq_getElem?_getD, List.getElem?_eq_getElem h2]
  have := (List.filter_sublist (p := fun i => !g.testBit (i % 64)) (l := List.range M.length)).map (fun i => M.getD i [])
  rw [h] at this
  exact this
theorem mem_someL {M : List (List Int)} {g k : Nat} {l : List Int} : l ∈ someL M g k ↔ ∃ i, i < k ∧ g.testBit (i % 64) = false ∧ M.getD i [] = l := by
  unfold someL
  rw [List.mem_map]
  constructor
  · rintro ⟨i, hi, e⟩
    obtain ⟨h1, h2⟩ := List.mem_filter.1 hi
    exact ⟨i, List.mem_range.1 h1, by simpa using h2, e⟩
  · rintro ⟨i, h1, h2, e⟩
    exact ⟨i, List.mem_filter.2 ⟨List.mem_range.2 h1, by simp [h2]⟩, e⟩
theorem filter_all {α : Type} {p : α → Bool} : ∀ {l : List α}, (l.filter p).length = l.length → l.filter p = l
  | [], _ => rfl
  | x :: l, h => by
    have hle := List.length_filter_le p l
    cases hp : p x
    · rw [List.filter_cons, hp] at h; simp at h; omega
    · rw [List.filter_cons, hp] at h ⊢
      simp only [if_true, List.length_cons] at h ⊢
      rw [filter_all (by omega)]
theorem someL_full {M : List (List Int)} {g : Nat} (h : (someL M g M.length).length = M.length) : someL M g M.length = M := by
  unfold someL at h ⊢
  rw [List.length_map] at h
  rw [filter_all (by rw [h]; simp)]
  apply List.ext_getElem (by simp)
  intro i h1 h2
  simp [List.getD_eq_getElem?_getD, List.getElem?_eq_getElem h2]
structure EitherF (J : Nat) (ls M S : List (List Int)) : Prop where
  sub : ∀ l ∈ S, l ∈ M
  full : S.length = M.length → callE J ls S = 0 ∧ forE J ls S = 5 ∧ forV J ls S = []
  part : S.length ≠ M.length → callE J ls S = 14 ∧ forE J ls S = 0 ∧ forV J ls S ∈ M ∧ rtgE J ls (forV J ls S) = 0 ∧ ∀ l ∈ S, eqI l (forV J ls S) = false
theorem either_facts {J : Nat} {ls : List (List Int)} (h : chkBook J ls = 0) (g : Nat) : EitherF J ls (allR J ls) (someL (allR J ls) g (allR J ls).length) := by
  obtain ⟨J', e, -, hJ1, hJ8, hln, hv, hv8⟩ := book_nat h
  obtain rfl : J = J' := by omega
  have hl70 := allR_len70 hJ8 hv
  have hM8 := allR_isL8 hJ8 hv
  have hMJ : ∀ l ∈ allR J ls, isL (J : Int) 0 l = true := fun l hl => ((mem_allR hJ8 hv).1 hl).1
  have hn : (allR J ls).Nodup := srt_nodup (allR_srt hJ8)
  have hrt : ∀ l ∈ allR J ls, rtgE J ls l = 0 := fun l hl => (rtg_mem h hJ8 hv hl).1
  have hanti : ∀ a ∈ allR J ls, ∀ b ∈ allR J ls, subB (bitsL a) (bitsL b) = true → a = b := fun a ha b hb hs => by
    obtain ⟨a1, a2⟩ := (mem_allR hJ8 hv).1 ha
    obtain ⟨b1, b2⟩ := (mem_allR hJ8 hv).1 hb
    exact bitsL_inj a1 b1 (min_anti _ _ _ (pow_le256 hJ8 (bitsL_lt a1)) (pow_le256 hJ8 (bitsL_lt b1)) a2 b2 hs)
  have hall : allR (J : Int).toNat ls = allR J ls := by rw [Int.toNat_natCast]
  obtain ⟨M, hM⟩ : ∃ M, allR J ls = M := ⟨_, rfl⟩
  rw [hM] at hl70 hM8 hMJ hn hrt hanti hall ⊢
  obtain ⟨S, hS⟩ : ∃ S, someL M g M.length = S := ⟨_, rfl⟩
  have hSM : ∀ l ∈ S, l ∈ M := fun l hl => by
    rw [← hS] at hl
    obtain ⟨i, hi, -, rfl⟩ := mem_someL.1 hl
    exact getD_mem hi
  have hS80 : S.length ≤ 70 := by rw [← hS]; exact Nat.le_trans (someL_len _ _ _) hl70
  have hlis : lisE J ls S = 0 := by
    unfold lisE
    rw [if_neg (by simp [h]), if_neg (by omega)]
    unfold openE
    rw [if_neg (by simp [h]), if_neg]
    rw [Bool.not_eq_false, List.all_eq_true]
    exact fun l hl => hMJ l (hSM l hl)
  have hln : ¬ (lisE J ls S ≠ 0) := fun e => e hlis
  have hS8 : ∀ l ∈ S, isL 8 0 l = true := fun l hl => hM8 l (hSM l hl)
  have hhold : ∀ l ∈ M, hldB S l = decide (l ∈ S) := fun l hl => by
    rw [hld_eq hS8, Bool.eq_iff_iff, List.any_eq_true, decide_eq_true_eq]
    constructor
    · rintro ⟨p, hp, hs⟩
      exact hanti p (hSM p hp) l hl hs ▸ hp
    · intro hl'
      exact ⟨l, hl', subB_refl (bits8 (hM8 l hl))⟩
  have hc : callE J ls S = if M = S then 0 else 14 := by
    rw [callE_eq]; unfold rcaE; rw [if_neg hln, hall]
  have hfo : rfoO J ls S = M.find? fun l => !hldB S l := by unfold rfoO; rw [hall]
  have hfe : forE J ls S = if (rfoO J ls S).isSome then 0 else 5 := by rw [forE_eq]; unfold rfoE; rw [if_neg hln]
  have hfv : forV J ls S = (rfoO J ls S).getD [] := by rw [forV_eq]; unfold rfoV; rw [if_neg hln]
  rw [hS]
  refine ⟨hSM, fun hlen => ?_, fun hlen => ?_⟩
  · have hSe : S = M := by rw [← hS]; exact someL_full (by rw [hS]; exact hlen)
    have hno : rfoO J ls S = none := by
      rw [hfo, List.find?_eq_none]
      intro l hl
      rw [hhold l hl, hSe]
      simp [hl]
    rw [hc, hfe, hfv, hno, if_pos hSe.symm]
    exact ⟨rfl, rfl, rfl⟩
  · have hne : M ≠ S := fun e => hlen (by rw [e])
    cases hf : rfoO J ls S with
    | none =>
      exfalso
      rw [hfo, List.find?_eq_none] at hf
      have hMS : ∀ l ∈ M, l ∈ S := fun l hl => by
        have := hf l hl
        rw [hhold l hl] at this
        simpa using this
      have hSn : S.Nodup := by rw [← hS]; exact List.Pairwise.sublist (someL_sub M g) hn
      exact hlen ((List.perm_ext_iff_of_nodup hSn hn).2 fun l => ⟨hSM l, hMS l⟩).length_eq
    | some l =>
      have hm : l ∈ M := by rw [hfo] at hf; exact List.mem_of_find?_eq_some hf
      have hnS : l ∉ S := by
        have := List.find?_some (by rw [← hfo]; exact hf)
        rw [hhold l hm] at this
        simpa using this
      rw [hc, hfe, hfv, hf, if_neg hne]
      refine ⟨rfl, rfl, hm, hrt l hm, fun p hp => ?_⟩
      rw [Bool.eq_false_iff]
      intro e
      have h9 : p = l := eqI_t.1 e
      exact hnS (h9 ▸ hp)
end Go.Proofs.YtnpilfpackdimaaGreat
/- A region whose order is free, with guards that are met, and operations that end what others left (a store, an append in place). -/
namespace Go.Proofs.YtnpilfpackdimaaGreat.Sx
open Go Go.Proofs.YtnpilfpackdimaaGreat
variable {P : Program} {md : Region.Mode} {ops : Array Oper} {S : World → Prop}
def upd (e : Nat → Value) (k : Nat) (v : Value) : Nat → Value := fun i => if i = k then v else e i
/-- What an operation's fact speaks of comes before it; what an operation ends is looked at by none behind it. -/
def dieB (md : Region.Mode) (ops : Array Oper) (dep sup die bef : Nat → List Nat) : Bool :=
  (List.range ops.size).all fun k => match ops[k]? with
    | none => false
    | some o => ((bef k).all fun i => o.after.any fun e => Region.binds md e && e.on == i) && ((sup k).all fun i => i == k || o.after.any fun e => Region.binds md e && e.on == i) &&
      (List.range ops.size).all fun i => (dep i).all fun d => !(die k).contains d || i == k || o.after.any fun e => Region.binds md e && e.on == i
structure Die (md : Region.Mode) (ops : Array Oper) (dep sup die bef : Nat → List Nat) (k : Nat) (o : Oper) : Prop where
  bef : ∀ i ∈ bef k, ∃ e ∈ o.after, Region.binds md e = true ∧ e.on = i
  sup : ∀ i ∈ sup k, i = k ∨ ∃ e ∈ o.after, Region.binds md e = true ∧ e.on = i
  die : ∀ i, i < ops.size → ∀ d ∈ dep i, d ∈ die k → i = k ∨ ∃ e ∈ o.after, Region.binds md e = true ∧ e.on = i
theorem dieB_spec {dep sup die bef : Nat → List Nat} (h : dieB md ops dep sup die bef = true) {k : Nat} {o : Oper} (ho : ops[k]? = some o) : Die md ops dep sup die bef k o := by
  have hk : k < ops.size := (Array.getElem?_eq_some_iff.1 ho).1
  have h1 := List.all_eq_true.1 h k (List.mem_range.2 hk)
  simp only [ho, Bool.and_eq_true] at h1
  have hany : ∀ {i}, (o.after.any fun e => Region.binds md e && e.on == i) = true → ∃ e ∈ o.after, Region.binds md e = true ∧ e.on = i := fun h => by
    obtain ⟨e, he, hb⟩ := Array.any_eq_true'.1 h
    simp only [Bool.and_eq_true, beq_iff_eq] at hb
    exact ⟨e, he, hb.1, hb.2⟩
  refine ⟨fun i hi => hany (List.all_eq_true.1 h1.1.1 i hi), fun i hi => ?_, fun i hi d hd hdie => ?_⟩
  · have := List.all_eq_true.1 h1.1.2 i hi
    rcases Bool.or_eq_true_iff.1 this with h2 | h2
    · exact .inl (by simpa using h2)
    · exact .inr (hany h2)
  · have := List.all_eq_true.1 (List.all_eq_true.1 h1.2 i (List.mem_range.2 hi)) d hd
    rcases Bool.or_eq_true_iff.1 this with h2 | h2
    · rcases Bool.or_eq_true_iff.1 h2 with h3 | h3
      · rw [Bool.not_eq_true'] at h3
        rw [List.contains_iff_mem.2 hdie] at h3; cases h3
      · exact .inl (by simpa using h3)
    · exact .inr (hany h2)
theorem wpM_freeD (hS : ∀ W W', S W → Ext W W' → S W') (Φ : Nat → (Nat → Value) → World → Prop) (hΦ : ∀ k e W W', Φ k e W → Ext W W' → Φ k e W') (dep sup die bef : Nat → List Nat) (hloc : ∀ k e e' W, (∀ i ∈ sup k, e i = e' i) → Φ k e W → Φ k e' W) (hsel : Region.noSelect ops = true) (hB : freeGB md ops dep = true) (hB2 : dieB md ops dep sup die bef = true) (Q : Act → World → Prop) (a0 : Act)
    (hC : ∀ (k : Nat) (o : Oper), ops[k]? = some o → ∀ (e : Nat → Value) (W : World), S W → (∀ d ∈ dep k, Φ d e W) → Region.wanted o (yielded ops (putF ops e (List.range ops.size) a0).tmps) = true ∧ LV P (fun v W' => S W' ∧ Φ k (upd e k v) W' ∧ ∀ j, j ≠ k → j ∉ die k → k ∉ bef j → ∀ e', Φ j e' W → Φ j e' W') ((execOp (putF ops e (List.range ops.size) a0).eval o).run P W))
    (hQ : ∀ (e : Nat → Value) (W : World), S W → (∀ k, k < ops.size → (∀ k', k' < ops.size → k ∉ die k') → Φ k e W) → Q (putF ops e (List.range ops.size) a0) W) :
    ∀ (f : Nat) (listed : Array Bool) (ρ : Nat → Value) (a : Act) (w : World), listed.size = ops.size → f = (leftF ops listed).length → S w → (∀ k, k < ops.size → k ∉ leftF ops listed → (∀ k', k' < ops.size → k' ∉ leftF ops listed → k ∉ die k') → Φ k ρ w) →
      (∀ k o, ops[k]? = some o → k ∉ leftF ops listed → ∀ e ∈ o.after, Region.binds md e = true → e.on ∉ leftF ops listed) →
      (∀ e : Nat → Value, (∀ k, k < ops.size → k ∉ leftF ops listed → e k = ρ k) → putF ops e (leftF ops listed) a = putF ops e (List.range ops.size) a0) → wpM P md ops S Q f listed a w
  | 0, listed, ρ, a, w, hsz, hf, hs, hp, hdc, hi => by
    have hl : leftF ops listed = [] := List.eq_nil_of_length_eq_zero hf.symm
    have hno : ∀ k, k ∉ leftF ops listed := fun k => by rw [hl]; simp
    refine ⟨?_, fun W h1 h2 => ?_⟩
    · refine List.eq_nil_iff_forall_not_mem.2 fun k hk => ?_
      obtain ⟨h1, o, ho, -⟩ := mem_ready.1 hk
      exact hno k (mem_leftF.2 ⟨(Array.getElem?_eq_some_iff.1 ho).1, h1⟩)
    · have := hi ρ (fun _ _ _ => rfl)
      rw [hl] at this
      rw [show a = _ from this]
      exact hQ ρ W h2 fun k hk hd => hΦ _ _ _ _ (hp k hk (hno k) fun k' hk' _ => hd k' hk') h1
  | f + 1, listed, ρ, a, w, hsz, hf, hs, hp, hdc, hi => by
    intro W h1 h2
    refine ⟨fun hr => ?_, fun k hk => ?_⟩
    · exfalso
      have hne : ∃ k, k ∈ leftF ops listed := by
        cases hl : leftF ops listed with
        | nil => rw [hl] at hf; cases hf
        | cons k l => exact ⟨k, List.mem_cons_self⟩
      obtain ⟨k0, hk0⟩ := hne
      obtain ⟨k, hk, hmin⟩ : ∃ k, k ∈ leftF ops listed ∧ ∀ j, j < k → j ∉ leftF ops listed := by
        induction k0 using Nat.strongRecOn with
        | _ k0 ih =>
          by_cases h : ∃ j, j < k0 ∧ j ∈ leftF ops listed
          · obtain ⟨j, hj, hm⟩ := h
            exact ih j hj hm
          · exact ⟨k0, hk0, fun j hj hm => h ⟨j, hj, hm⟩⟩
      obtain ⟨hkl, hku⟩ := mem_leftF.1 hk
      obtain ⟨o, ho⟩ : ∃ o, ops[k]? = some o := ⟨_, Array.getElem?_eq_getElem hkl⟩
      have hfr := freeGB_spec hB ho
      have : k ∈ Region.ready md ops listed := mem_ready.2 ⟨hku, o, ho, fun e he hb => by
        have hlt := hfr.after e he hb
        have hnm := hmin _ hlt
        rw [mem_leftF] at hnm
        have hes : e.on < ops.size := Nat.lt_trans hlt hkl
        have h3 : ¬ listed.getD e.on true = false := fun h => hnm ⟨hes, h⟩
        simp only [Array.getD, hsz, hes, dif_pos] at h3 ⊢
        simpa using h3⟩
      rw [hr] at this; cases this
    · obtain ⟨hku, o, ho, haf⟩ := mem_ready.1 hk
      have hkl : k < ops.size := (Array.getElem?_eq_some_iff.1 ho).1
      have hkm : k ∈ leftF ops listed := mem_leftF.2 ⟨hkl, hku⟩
      have hfr := freeGB_spec hB ho
      have hlis : ∀ e ∈ o.after, Region.binds md e = true → e.on ∉ leftF ops listed := fun e he hb hm => by
        have h3 := haf e he hb
        have h4 := (mem_leftF.1 hm)
        simp only [Array.getD, hsz, h4.1, dif_pos] at h3
        have h5 := h4.2
        simp only [Array.getD, hsz, h4.1, dif_pos] at h5
        rw [h3] at h5; cases h5
      have hss : ∀ cs b, o.op ≠ .select cs b := fun cs b => Region.noSelect_spec hsel k o cs b ho
      have hev : execOp a.eval o = execOp (putF ops ρ (List.range ops.size) a0).eval o := by
        rw [← hi ρ (fun _ _ _ => rfl)]
        refine (eval_putF o hss fun i him d hd => ?_).symm
        rcases hfr.look i (mem_leftF.1 him).1 with ⟨e, he, hb, hon⟩ | h3
        · exact absurd him (hon ▸ hlis e he hb)
        · exact h3 d hd
      have hwn : Region.wanted o (yielded ops a.tmps) = Region.wanted o (yielded ops (putF ops ρ (List.range ops.size) a0).tmps) := by
        rw [← hi ρ (fun _ _ _ => rfl)]
        refine (wanted_putF o fun i him d hd => ?_).symm
        rcases hfr.look i (mem_leftF.1 him).1 with ⟨e, he, hb, hon⟩ | h3
        · exact absurd him (hon ▸ hlis e he hb)
        · exact h3 d hd
      have hdi := dieB_spec hB2 ho
      have hCC := hC k o ho ρ W h2 fun d hd => by
        obtain ⟨e, he, hb, hon⟩ := hfr.dep d hd
        have hdl : e.on < ops.size := Nat.lt_trans (hfr.after e he hb) hkl
        refine hon ▸ hΦ _ _ _ _ (hp e.on hdl (hlis e he hb) fun k' hk' hkl' hdie => ?_) h1
        obtain ⟨o', ho'⟩ : ∃ o', ops[k']? = some o' := ⟨_, Array.getElem?_eq_getElem hk'⟩
        rcases (dieB_spec hB2 ho').die k hkl d hd (hon ▸ hdie) with h3 | ⟨e', he', hb', hon'⟩
        · exact hkl' (h3 ▸ hkm)
        · exact hdc k' o' ho' hkl' e' he' hb' (hon' ▸ hkm)
      unfold lOp
      simp only [ho]
      rw [if_pos (hwn.trans hCC.1)]
      rw [hev]
      refine LV.lupon (K := fun v W' => S W' ∧ Φ k (upd ρ k v) W' ∧ ∀ j, j ≠ k → j ∉ die k → k ∉ bef j → ∀ e', Φ j e' W → Φ j e' W') ?_ hCC.2
      rintro v W' ⟨hsW, hpv, hkeep⟩
      have hdk : dstAt ops k = o.dst := by unfold dstAt; rw [ho]; rfl
      have hls : leftF ops (listed.setIfInBounds k true) = (leftF ops listed).erase k := leftF_set hsz hkm
      have hnl : ∀ i, i ≠ k → i ∉ (leftF ops listed).erase k → i ∉ leftF ops listed := fun i hne him hm => him ((List.mem_erase_of_ne hne).2 hm)
      refine ⟨hsW, wpM_freeD hS Φ hΦ dep sup die bef hloc hsel hB hB2 Q a0 hC hQ f _ (upd ρ k v) _ W' (by simpa using hsz) ?_ hsW ?_ ?_ ?_⟩
      · rw [hls, List.length_erase_of_mem hkm, ← hf]; rfl
      · intro i hil him hal
        rw [hls] at him hal
        by_cases h3 : i = k
        · subst h3; exact hpv
        · have hin := hnl i h3 him
          obtain ⟨oi, hoi⟩ : ∃ oi, ops[i]? = some oi := ⟨_, Array.getElem?_eq_getElem hil⟩
          refine hloc i ρ _ _ (fun q hq => ?_) (hkeep i h3 (hal k hkl (List.Nodup.not_mem_erase (leftF_nodup listed))) (fun hbf => by obtain ⟨e', he', hb', hon'⟩ := (dieB_spec hB2 hoi).bef k hbf; exact hdc i oi hoi hin e' he' hb' (by rw [hon']; exact hkm)) ρ (hΦ _ _ _ _ (hp i hil hin fun k' hk' hkl' => hal k' hk' fun hm => hkl' (List.mem_of_mem_erase hm)) h1))
          have hqk : q ≠ k := fun e => by
            rcases (dieB_spec hB2 hoi).sup q hq with h5 | ⟨e', he', hb', hon'⟩
            · exact h3 (h5.symm.trans e)
            · exact hdc i oi hoi hin e' he' hb' (by rw [hon', e]; exact hkm)
          unfold upd; rw [if_neg hqk]
      · intro i oi hoi him e he hb hm
        rw [hls] at him hm
        by_cases h3 : i = k
        · subst h3
          obtain rfl : oi = o := Option.some.inj (hoi.symm.trans ho)
          exact hlis e he hb (List.mem_of_mem_erase hm)
        · exact hdc i oi hoi (hnl i h3 him) e he hb (List.mem_of_mem_erase hm)
      · intro e he
        have hek : e k = v := by
          have := he k hkl (by rw [hls]; exact List.Nodup.not_mem_erase (leftF_nodup listed))
          simpa [upd] using this
        rw [hls, ← hek, ← hdk, ← putF_erase hkm (leftF_nodup listed) (fun i him d hd hne => hfr.dist i (mem_leftF.1 him).1 hne d hd)]
        refine hi e fun i hil him => ?_
        have h3 : i ≠ k := fun h => him (h ▸ hkm)
        have := he i hil (by rw [hls]; exact fun hm => him (List.mem_of_mem_erase hm))
        simpa [upd, h3] using this
theorem lv_of {K : Value → World → Prop} {r : Result Next} (h : ∀ K' : Value → World → Prop, (∀ v W, K v W → K' v W) → LV P K' r) : LV P K r := h K fun _ _ h => h
/-- A region in whatever order: one contract for each operation; some end what others left. -/
theorem wp_region_freeD (S : World → Prop) (hS : ∀ W W', S W → Ext W W' → S W') (Φ : Nat → (Nat → Value) → World → Prop) (hΦ : ∀ k e W W', Φ k e W → Ext W W' → Φ k e W') (dep sup die bef : Nat → List Nat) (hloc : ∀ k e e' W, (∀ i ∈ sup k, e i = e' i) → Φ k e W → Φ k e' W) {id : Nat} {Q : Exit → Act → World → Prop} {a : Act} {w : World} {l : List Oper} (R : List Nat) (hR : R = List.range l.length) (X : (Nat → Value) → Act) (hX : ∀ e, putF l.toArray e R a = X e) (hm : P.follows .mixedOrders = true)
    (hB : (Region.noSelect l.toArray && freeGB .any l.toArray dep && dieB .any l.toArray dep sup die bef) = true) (h0 : S w.drew)
    (hC : ∀ (k : Nat) (o : Oper), l[k]? = some o → ∀ (e : Nat → Value) (W : World), S W → (∀ d ∈ dep k, Φ d e W) → Region.wanted o (yielded l.toArray (X e).tmps) = true ∧ LV P (fun v W' => S W' ∧ Φ k (upd e k v) W' ∧ ∀ j, j ≠ k → j ∉ die k → k ∉ bef j → ∀ e', Φ j e' W → Φ j e' W') ((execOp (X e).eval o).run P W))
    (hQ : ∀ (e : Nat → Value) (W : World), S W → (∀ k, k < l.length → (∀ k', k' < l.length → k ∉ die k') → Φ k e W) → wpList P l.toArray Q [] (X e) W) : (Code.region id l.toArray true).wp P Q a w := by
  subst hR
  rw [Bool.and_eq_true, Bool.and_eq_true] at hB
  obtain ⟨⟨hs, hf⟩, hd⟩ := hB
  refine wp_region_el S hS [] l.length hm (by rw [hs]; simp [earlyB]) h0 ?_
  simp only [pick, wpE, setAll]
  have hnone : ∀ k, k < l.toArray.size → k ∉ leftF l.toArray (Array.replicate l.length false) → False := fun k hk hn => by
    rw [leftF_none _ (by simp)] at hn
    exact hn (List.mem_range.2 hk)
  refine wpM_freeD hS Φ hΦ dep sup die bef hloc hs hf hd _ a (fun k o ho e W hW hd => ?_) (fun e W hW hp => ?_) l.length _ (fun _ => undef) a w.drew (by simp) ?_ h0 ?_ ?_ ?_
  · have := hC k o (by simpa using ho) e W hW hd
    rw [← hX e] at this
    simpa using this
  · have := hQ e W hW (fun k hk hd => hp k (by simpa using hk) (fun k' hk' => hd k' (by simpa using hk')))
    rw [← hX e] at this
    simpa using this
  · rw [leftF_none _ (by simp)]; simp
  · intro k hk hn
    exact (hnone k hk hn).elim
  · intro k o ho hn
    exact (hnone k (Array.getElem?_eq_some_iff.1 ho).1 hn).elim
  · intro e _
    rw [leftF_none _ (by simp)]
end Go.Proofs.YtnpilfpackdimaaGreat.Sx
/- append of what a slice value reads as, nil or not, as an operation of a region whose order is free. -/
namespace Go.Proofs.YtnpilfpackdimaaGreat
open Go.RowKit
theorem lv_append_src {P : Program} (w : World) {o : Oper} {a : Act} {K : Value → World → Prop} (s x : Operand) (t : TypeId)
    (ho : o.op = .call { callee := .builtin .append, args := #[s, x], argTypes := #[t, t] })
    (base : Nat) (e : TypeId) (i : TypeInfo) (z : Value) (size bytes : Nat) (ht : P.underlying t = some (.slice e)) (hi : P.info? e = some i) (hz : i.zero = some z)
    (hsize : i.size = size) (hby : i.bytes = bytes) (hzs : z.cells.size = size) (hsz : 0 < size)
    (v : Value) (n : Nat) (xs : List Value) (hs : a.eval s = v) (hown : w.ownsRow base e size v n xs)
    (A : Option Addr) (m c : Nat) (news : List Value) (hx : a.eval x = .slice A m c) (B : Nat) (hS : Sl w B size A m news) (hA : A = none → m = 0 ∧ c = 0) (h1 : ∀ u ∈ news, u.oneCell' = true)
    (h63 : n + m ≤ maxLen) (hbytes : (n + m) * bytes ≤ 140737488355328) (hbase : base ≤ w.heap.size)
    (h : ∀ v' w', w'.ownsRow base e size v' (n + m) (xs ++ news) → w.grownBy w' v.ownBlock → (v'.ownBlock = v.ownBlock ∨ v'.ownBlock = some w.heap.size) → K v' w') : Sx.LV P K ((execOp a.eval o).run P w) := by
  cases A with
  | none =>
    obtain ⟨rfl, rfl⟩ := hA rfl
    have hn : news = [] := List.eq_nil_of_length_eq_zero (by rw [hS.1]; omega)
    subst hn
    have hrun := run_append_owned_none (P := P) (w := w) base t o.type e i size ht hi v n xs hown
    unfold execOp
    simp only [ho, resolve, invoke, builtin, Sem.run_bind, Sem.run_pure, Result.andThen_ok, List.map_toArray, List.map_cons, List.map_nil, hs, hx, hrun]
    exact h v w (by rw [List.append_nil, Nat.add_zero]; exact hown) ⟨rfl, rfl, rfl, Nat.le_refl _, fun _ _ _ => rfl⟩ (.inl rfl)
  | some ad =>
    have hnews : ∀ j u, news[j]? = some u → w.cell? (ad.add j) = some u := fun j u hj => by
      have hm : 0 < m := by
        rcases Nat.eq_zero_or_pos m with h0 | h0
        · have := hS.1; rw [h0, Nat.zero_mul] at this
          rw [List.eq_nil_of_length_eq_zero this] at hj; simp at hj
        · exact h0
      obtain ⟨b, off, hA', -, hc⟩ := hS.2 hm
      cases hA'
      rw [add_at]
      exact hc j u hj
    obtain ⟨v', w', hr, h2, h3, h4, h5⟩ := run_append_own_at (P := P) w base t o.type e i z size bytes ht hi hz hsize hby hzs hsz v n xs hown ad m c news hS.1 hnews h1 h63 hbytes hbase
    unfold execOp
    simp only [ho, resolve, invoke, builtin, Sem.run_bind, Sem.run_pure, Result.andThen_ok, List.map_toArray, List.map_cons, List.map_nil, hs, hx, hr]
    exact h v' w' h2 h3 h5
end Go.Proofs.YtnpilfpackdimaaGreat
/- A book of own hires that a region makes in whatever order: what lies where, and what each operation keeps. -/
namespace Go.Proofs.YtnpilfpackdimaaGreat
open Go.RowKit Go.Shelf
/-- What keeps an own list of lists. -/
theorem newLw_keep {W W' : World} {B : Nat} {R : Nat → Prop} {v : Value} {l : List (List Int)} (h : NewLw W B R v l) (hR : ∀ b, R b → b < B) (hz : W.heap.size ≤ W'.heap.size) (hlow : ∀ b, b < B → W'.heap[b]? = W.heap[b]?) (hown : ∀ g, v.ownBlock = some g → W'.heap[g]? = W.heap[g]?) : NewLw W' B R v l := by
  obtain ⟨vs, h1, h2, h3⟩ := h
  refine ⟨vs, ⟨h1.1, ?_⟩, h2, fun k x hk => ?_⟩
  · rcases h1.2 with h4 | ⟨g, cap, cur, rfl, h5, h6, h7⟩
    · exact .inl h4
    · exact .inr ⟨g, cap, cur, rfl, h5, (hown g rfl).trans h6, h7⟩
  · obtain ⟨A, m, c, h4, h5, h6⟩ := h3 k x hk
    refine ⟨A, m, c, h4, h5.cells_ hz (fun hm b off e j _ => World.cell?_of_block (hlow b (hR b (h6 hm b off e).2.2))), fun hm b off e => ⟨Nat.lt_of_lt_of_le (h6 hm b off e).1 hz, (h6 hm b off e).2⟩⟩
theorem newLw_own {W : World} {B : Nat} {R : Nat → Prop} {v : Value} {l : List (List Int)} (h : NewLw W B R v l) : ∀ g, v.ownBlock = some g → B ≤ g ∧ g < W.heap.size ∧ ∃ cur, W.heap[g]? = some (.cells cur 25 (0, 0)) := fun g hg => by
  obtain ⟨vs, h1, -⟩ := h
  have := World.ownsRow.lt h1 g hg
  refine ⟨this.1, this.2, ?_⟩
  rcases h1.2 with ⟨rfl, -⟩ | ⟨g', cap, cur, rfl, -, h6, -⟩
  · cases hg
  · cases hg; exact ⟨cur, h6⟩
theorem newLw_ne {W : World} {B T t : Nat} {R : Nat → Prop} {v : Value} {l : List (List Int)} {cs : Array Value} (h : NewLw W B R v l) (hb : Blk W T t cs) (ht : t ≠ 25) : v.ownBlock ≠ some T := fun e => by
  obtain ⟨-, -, cur, h2⟩ := newLw_own h T e
  unfold Blk at hb
  rw [h2] at hb
  injection hb with hb
  injection hb with _ h3
  exact ht h3.symm
/-- What the cells of a list of lists read as. -/
theorem lis_cells {w : World} {B n : Nat} {A : Option Addr} {ls : List (List Int)} (h : LiS w B A n ls) : ∃ vs, Sl w B 1 A n vs ∧ vs.length = ls.length ∧ (∀ u ∈ vs, u.oneCell' = true) ∧ ∀ (k : Nat) (l : List Int), ls[k]? = some l → ∃ (A' : Option Addr) (m c' : Nat), vs[k]? = some (Value.slice A' m c') ∧ InS w B A' m l := by
  obtain ⟨h1, vs, h2, h3⟩ := h
  have hl : vs.length = ls.length := by rw [h2.1, h1, Nat.mul_one]
  refine ⟨vs, h2, hl, fun u hu => ?_, h3⟩
  obtain ⟨k, hk, rfl⟩ := List.mem_iff_getElem.1 hu
  have hk2 : k < ls.length := by rw [← hl]; exact hk
  obtain ⟨A', m, c', e, -⟩ := h3 k _ (List.getElem?_eq_getElem hk2)
  rw [List.getElem?_eq_getElem hk] at e
  rw [Option.some.inj e]; rfl
theorem newLw_of {W0 W' : World} {v : Value} {n : Nat} {vs : List Value} {ls : List (List Int)} (ho : W'.ownsRow W0.heap.size 25 1 v n vs) (hl : vs.length = ls.length) (hc : ∀ (k : Nat) (l : List Int), ls[k]? = some l → ∃ (A' : Option Addr) (m c' : Nat), vs[k]? = some (Value.slice A' m c') ∧ InS W0 W0.heap.size A' m l) (hs : Below W0.heap.size W0 W') : NewLw W' W0.heap.size (fun b => b < W0.heap.size) v ls := by
  have hn : n = ls.length := by have := ho.1; rw [Nat.mul_one] at this; omega
  subst hn
  refine ⟨vs, ho, hl, fun k l hk => ?_⟩
  obtain ⟨A, m, c, h1, h2⟩ := hc k l hk
  refine ⟨A, m, c, h1, h2.below hs hs.size, fun hm b off e => ?_⟩
  have hb := ins_lt0 h2 hm b off e
  refine ⟨Nat.lt_of_lt_of_le hb hs.size, fun e' => ?_, hb⟩
  have := (World.ownsRow.lt ho b e').1
  omega
/-- One list more is appended, as an operation of a region in whatever order. -/
theorem lv_newLw {w : World} {o : Oper} {a : Act} {K : Value → World → Prop} (s x : Operand)
    (ho : o.op = .call { callee := .builtin .append, args := #[s, x], argTypes := #[22, 22] })
    (base : Nat) (R : Nat → Prop) (v : Value) (ls : List (List Int)) (hs : a.eval s = v) (hown : NewLw w base R v ls)
    (g : Nat) (A : Option Addr) (m c : Nat) (l : List Int) (hx : a.eval x = .slice (some ⟨g, 0, none⟩) 1 1) (hg : Blk w g 25 #[.slice A m c]) (hl : InS w w.heap.size A m l) (hA : 0 < m → ∀ b off, A = some ⟨b, off, none⟩ → v.ownBlock ≠ some b ∧ R b)
    (hlen : ls.length ≤ 1000000) (hbase : base ≤ w.heap.size)
    (h : ∀ v' w', NewLw w' base R v' (ls ++ [l]) → w.grownBy w' v.ownBlock → K v' w') : Sx.LV Tryz.prog K ((execOp a.eval o).run Tryz.prog w) := by
  obtain ⟨vs, h1, h2⟩ := hown
  obtain ⟨i0, hi0, hi1, hi2, hi3⟩ := info_parts' infoL
  refine lv_append_src w s x 22 ho base 25 i0 _ 1 24 underLL hi0 hi1 hi2 hi3 rfl (by decide) v ls.length vs hs h1 (some ⟨g, 0, none⟩) 1 1 [.slice A m c] hx w.heap.size ⟨rfl, fun _ => ⟨g, 0, rfl, hg.lt, fun j u hu => by rw [hg.cell, Nat.zero_add]; simpa using hu⟩⟩ (fun h => by cases h) (fun u hu => by rw [List.mem_singleton.1 hu]; rfl) (by unfold maxLen; omega) (by omega) hbase ?_
  intro v' w' ho' hg' hat
  exact h v' w' ⟨vs ++ [.slice A m c], by rw [List.length_append]; exact ho', (h2.snoc hl (fun hm b off e => ⟨ins_lt0 hl hm b off e, hA hm b off e⟩)).grown hg' hat⟩ hg'
/-- A store into a book's block keeps an own list of lists. -/
theorem newLw_put {W : World} {T base : Nat} {v : Value} {l : List (List Int)} {cs : Array Value} {x : Value} {i : Nat} (h : NewLw W base (fun b => T < b) v l) (hb : Blk W T 24 cs) : NewLw (W.setCell ⟨T, i, none⟩ x) base (fun b => T < b) v l := by
  have hne := newLw_ne h hb (by decide)
  obtain ⟨vs, h1, h2, h3⟩ := h
  refine ⟨vs, ⟨h1.1, ?_⟩, h2, fun k y hk => ?_⟩
  · rcases h1.2 with h4 | ⟨g, cap, cur, rfl, h5, h6, h7⟩
    · exact .inl h4
    · exact .inr ⟨g, cap, cur, rfl, h5, (Below.heap_setCell _ _ _ _ (fun e => hne (by rw [show T = g from e.symm]; rfl))).trans h6, h7⟩
  · obtain ⟨A, m, c, h4, h5, h6⟩ := h3 k y hk
    refine ⟨A, m, c, h4, h5.cells_ (by simp [World.setCell]) (fun hm b off e j _ => World.cell?_of_block (Below.heap_setCell _ _ _ _ (fun e' => by have := (h6 hm b off e).2.2; have e' : b = T := e'; omega))), fun hm b off e => ⟨by have := (h6 hm b off e).1; simpa [World.setCell] using this, (h6 hm b off e).2⟩⟩
/-- What a region that makes a book leaves: op e0 an empty list, e1 the hires appended, e2 one more, e3 its slice, .. -/
def BkF (B : Nat) (p : Option Addr) (n c : Nat) (ls : List (List Int)) (J : Int) (Am : Option Addr) (q cm : Nat) (more : List Int) (x y : Value) : Nat → (Nat → Value) → World → Prop
  | 0, e, _ => e 0 = x
  | 1, e, _ => e 1 = .int .i64 J
  | 2, e, W => ∃ h, e 2 = .slice (some ⟨h, 0, none⟩) 0 0 ∧ Blk W h 25 #[] ∧ B ≤ h
  | 3, e, _ => e 3 = y
  | 4, e, _ => e 4 = .slice p n c
  | 5, e, W => NewLw W B (fun b => b < B) (e 5) ls
  | 6, e, _ => e 6 = .slice Am q cm
  | 7, e, W => ∃ g, e 7 = .slice (some ⟨g, 0, none⟩) 1 1 ∧ Blk W g 25 #[.slice Am q cm]
  | 8, e, W => NewLw W B (fun b => b < B) (e 8) (ls ++ [more])
  | 9, e, _ => e 9 = .agg #[.int .i64 J, e 8]
  | 10, e, W => ∃ T, e 10 = .pointer (some ⟨T, 0, none⟩) ∧ B ≤ T ∧ Blk W T 24 #[.int .i64 0, .slice none 0 0]
  | 11, e, W => ∃ T, e 10 = .pointer (some ⟨T, 0, none⟩) ∧ B ≤ T ∧ Blk W T 24 #[.int .i64 J, e 8]
  | _, _, _ => True
section
variable {B : Nat} {p : Option Addr} {n c : Nat} {ls : List (List Int)} {J : Int} {Am : Option Addr} {q cm : Nat} {more : List Int} {x y : Value}
theorem BkF.ext : ∀ (k : Nat) (e : Nat → Value) (W W' : World), BkF B p n c ls J Am q cm more x y k e W → Ext W W' → BkF B p n c ls J Am q cm more x y k e W'
  | 0, _, _, _, h, _ | 1, _, _, _, h, _ | 3, _, _, _, h, _ | 4, _, _, _, h, _ | 6, _, _, _, h, _ | 9, _, _, _, h, _ => h
  | 2, _, _, _, ⟨g, h1, h2, h3⟩, he => ⟨g, h1, h2.below he h2.lt, h3⟩
  | 5, _, _, _, h, he => NewLw.below h he
  | 7, _, _, _, ⟨g, h1, h2⟩, he => ⟨g, h1, h2.below he h2.lt⟩
  | 8, _, _, _, h, he => NewLw.below h he
  | 10, _, _, _, ⟨T, h1, h2, h3⟩, he => ⟨T, h1, h2, h3.below he h3.lt⟩
  | 11, _, _, _, ⟨T, h1, h2, h3⟩, he => ⟨T, h1, h2, h3.below he h3.lt⟩
  | _ + 12, _, _, _, _, _ => trivial
def supK : Nat → List Nat
  | 9 => [9, 8]
  | 11 => [10, 8]
  | k => [k]
theorem BkF.loc : ∀ (k : Nat) (e e' : Nat → Value) (W : World), (∀ i ∈ supK k, e i = e' i) → BkF B p n c ls J Am q cm more x y k e W → BkF B p n c ls J Am q cm more x y k e' W
  | 0, e, e', _, he, h => by have := he 0 (by simp [supK]); simp only [BkF] at h ⊢; rw [← this]; exact h
  | 1, e, e', _, he, h => by have := he 1 (by simp [supK]); simp only [BkF] at h ⊢; rw [← this]; exact h
  | 2, e, e', _, he, h => by have := he 2 (by simp [supK]); simp only [BkF] at h ⊢; rw [← this]; exact h
  | 3, e, e', _, he, h => by have := he 3 (by simp [supK]); simp only [BkF] at h ⊢; rw [← this]; exact h
  | 4, e, e', _, he, h => by have := he 4 (by simp [supK]); simp only [BkF] at h ⊢; rw [← this]; exact h
  | 5, e, e', _, he, h => by have := he 5 (by simp [supK]); simp only [BkF] at h ⊢; rw [← this]; exact h
  | 6, e, e', _, he, h => by have := he 6 (by simp [supK]); simp only [BkF] at h ⊢; rw [← this]; exact h
  | 7, e, e', _, he, h => by have := he 7 (by simp [supK]); simp only [BkF] at h ⊢; rw [← this]; exact h
  | 8, e, e', _, he, h => by have := he 8 (by simp [supK]); simp only [BkF] at h ⊢; rw [← this]; exact h
  | 9, e, e', _, he, h => by have h1 := he 9 (by simp [supK]); have h2 := he 8 (by simp [supK]); simp only [BkF] at h ⊢; rw [← h1, ← h2]; exact h
  | 10, e, e', _, he, h => by have := he 10 (by simp [supK]); simp only [BkF] at h ⊢; rw [← this]; exact h
  | 11, e, e', _, he, h => by have h1 := he 10 (by simp [supK]); have h2 := he 8 (by simp [supK]); simp only [BkF] at h ⊢; rw [← h1, ← h2]; exact h
  | _ + 12, _, _, _, _, _ => trivial
/-- The first append keeps the others. -/
theorem BkF.app0 {W W' : World} {h : Nat} (hh : Blk W h 25 #[]) (hg : W.grownBy W' (some h)) : ∀ j, j ≠ 5 → j ∉ [2] → 5 ∉ (([[], [], [], [], [], [2, 4], [], [], [5, 7], [8], [], [10, 9, 8, 5, 7, 2]] : List (List Nat)).getD j []) → ∀ e, BkF B p n c ls J Am q cm more x y j e W → BkF B p n c ls J Am q cm more x y j e W'
  | 0, _, _, _, _, h | 1, _, _, _, _, h | 3, _, _, _, _, h | 4, _, _, _, _, h | 6, _, _, _, _, h | 9, _, _, _, _, h => h
  | 2, _, hd, _, _, _ => absurd (by simp) hd
  | 5, hn, _, _, _, _ => absurd rfl hn
  | 7, _, _, _, _, ⟨g, h1, h2⟩ => ⟨g, h1, h2.grown hg (fun e => by injection e with e; subst e; unfold Blk at hh h2; rw [hh] at h2; injection h2 with h2; injection h2 with h2; cases h2)⟩
  | 8, _, _, hb, _, _ => absurd (by simp) hb
  | 10, _, _, _, _, ⟨T, h1, h2, h3⟩ => ⟨T, h1, h2, h3.grown hg (fun e => by injection e with e; subst e; unfold Blk at hh h3; rw [hh] at h3; injection h3 with h3; injection h3 with h4 h5; revert h5; decide)⟩
  | 11, _, _, hb, _, _ => absurd (by simp) hb
  | _ + 12, _, _, _, _, _ => trivial
/-- The second append keeps the others. -/
theorem BkF.app1 {W W' : World} {v : Value} (hv : NewLw W B (fun b => b < B) v ls) (hg : W.grownBy W' v.ownBlock) : ∀ j, j ≠ 8 → j ∉ [2, 5, 7] → 8 ∉ (([[], [], [], [], [], [2, 4], [], [], [5, 7], [8], [], [10, 9, 8, 5, 7, 2]] : List (List Nat)).getD j []) → ∀ e, BkF B p n c ls J Am q cm more x y j e W → BkF B p n c ls J Am q cm more x y j e W'
  | 0, _, _, _, _, h | 1, _, _, _, _, h | 3, _, _, _, _, h | 4, _, _, _, _, h | 6, _, _, _, _, h => h
  | 2, _, hd, _, _, _ => absurd (by simp) hd
  | 5, _, hd, _, _, _ => absurd (by simp) hd
  | 7, _, hd, _, _, _ => absurd (by simp) hd
  | 8, hn, _, _, _, _ => absurd rfl hn
  | 9, _, _, hb, _, _ => absurd (by simp) hb
  | 10, _, _, _, _, ⟨T, h1, h2, h3⟩ => ⟨T, h1, h2, h3.grown hg (fun e => newLw_ne hv h3 (by decide) e.symm)⟩
  | 11, _, _, hb, _, _ => absurd (by simp) hb
  | _ + 12, _, _, _, _, _ => trivial
/-- The store keeps the others. -/
theorem BkF.put {W : World} {T : Nat} {cs : Array Value} {a b : Value} (hT : Blk W T 24 cs) (hB : B ≤ T) : ∀ j, j ≠ 11 → j ∉ [2, 5, 7, 10] → 11 ∉ (([[], [], [], [], [], [2, 4], [], [], [5, 7], [8], [], [10, 9, 8, 5, 7, 2]] : List (List Nat)).getD j []) → ∀ e, BkF B p n c ls J Am q cm more x y j e W → BkF B p n c ls J Am q cm more x y j e ((W.setCell ⟨T, 0, none⟩ a).setCell ⟨T, 1, none⟩ b)
  | 0, _, _, _, _, h | 1, _, _, _, _, h | 3, _, _, _, _, h | 4, _, _, _, _, h | 6, _, _, _, _, h | 9, _, _, _, _, h => h
  | 2, _, hd, _, _, _ => absurd (by simp) hd
  | 5, _, hd, _, _, _ => absurd (by simp) hd
  | 7, _, hd, _, _, _ => absurd (by simp) hd
  | 8, _, _, _, _, h => newLw_keep h (fun _ h => h) (by simp [World.setCell]) (fun b hb => (Below.heap_setCell _ _ _ _ (by show b ≠ T; omega)).trans (Below.heap_setCell _ _ _ _ (by show b ≠ T; omega))) (fun g hg => by
      have hne : g ≠ T := fun e => newLw_ne h hT (by decide) (e ▸ hg)
      exact (Below.heap_setCell _ _ _ _ (by exact hne)).trans (Below.heap_setCell _ _ _ _ (by exact hne)))
  | 10, _, hd, _, _, _ => absurd (by simp) hd
  | 11, hn, _, _, _, _ => absurd rfl hn
  | _ + 12, _, _, _, _, _ => trivial
end
end Go.Proofs.YtnpilfpackdimaaGreat
/- Plain law: an inn that is sure, or in no hire of the core; a book without an inn. -/
namespace Go.Proofs.YtnpilfpackdimaaGreat
def noI (i : Int) (l : List Int) : List Int := l.filter fun x => x != i
def aloneB (ls : List (List Int)) (i : Int) : Bool := ls.any fun l => l == [i]
def inB' (ls : List (List Int)) (i : Int) : Bool := ls.any fun l => has l i
theorem isL_filter {below : Int} (p : Int → Bool) : ∀ {l : List Int} {nx : Int}, isL below nx l = true → isL below nx (l.filter p) = true
  | [], _, _ => rfl
  | x :: l, nx, h => by
    rw [isL_cons] at h
    have ih := isL_filter p h.2
    rw [List.filter_cons]
    split
    · rw [isL_cons]; exact ⟨h.1, ih⟩
    · exact isL_low (by omega) ih
theorem noI_nil {l : List Int} {below : Int} (h : isL below 0 l = true) {i : Int} : noI i l = [] ↔ l = [] ∨ l = [i] := by
  unfold noI
  rw [List.filter_eq_nil_iff]
  constructor
  · intro hn
    cases l with
    | nil => exact .inl rfl
    | cons x t =>
      have hx : x = i := by simpa using hn x (by simp)
      refine .inr ?_
      cases t with
      | nil => rw [hx]
      | cons y t =>
        have hy : y = i := by simpa using hn y (by simp)
        have hnd := isL_nodup h
        rw [hx, hy] at hnd
        simp at hnd
  · rintro (rfl | rfl)
    · simp
    · simp
theorem any_noI {l : List Int} {i : Int} {x : Nat} (h : (noI i l).any (inB x) = true) : l.any (inB x) = true := by
  obtain ⟨e, he, hx⟩ := List.any_eq_true.1 h
  exact List.any_eq_true.2 ⟨e, (List.mem_filter.1 he).1, hx⟩
theorem hit_noI {ls : List (List Int)} {i : Int} {x : Nat} (h : hitB (ls.map (noI i)) x = true) : hitB ls x = true := by
  unfold hitB at *
  rw [List.all_eq_true] at *
  exact fun l hl => any_noI (h _ (List.mem_map.2 ⟨l, hl, rfl⟩))
theorem is_iff {J : Nat} {ls : List (List Int)} (h : chkBook J ls = 0) : bestE J ls = 0 ↔ S0 ls 0 = false := by
  obtain ⟨J', e, -, hJ1, hJ8, hln, hv, hv8⟩ := book_nat h
  obtain rfl : J = J' := by omega
  have hb := best_facts h
  have hf := full_hit hv hJ8
  constructor
  · intro he
    obtain ⟨g1, g2, -⟩ := hb.good he
    have hlt := bitsL_lt g1
    have : hitB ls (2 ^ J - 1) = true := hit_mono (fun i hi => by
      rw [Nat.testBit_two_pow_sub_one]
      have : i < J := by
        rcases Nat.lt_or_ge i J with h1 | h1
        · exact h1
        · rw [Nat.testBit_lt_two_pow (Nat.lt_of_lt_of_le hlt (Nat.pow_le_pow_right (by decide) h1))] at hi; cases hi
      simp [this]) g2
    rw [hf] at this
    simpa using this
  · intro h0
    have hlt : 2 ^ J - 1 < 2 ^ J := by have := Nat.two_pow_pos J; omega
    refine hb.some (listed (2 ^ J - 1) J) (isL_listed' _ _) ?_
    rw [bits_listed hlt, hf, h0]; rfl
theorem S0_zero {J : Int} {ls : List (List Int)} (hv : ∀ l ∈ ls, isL J 0 l = true) (hJ : J ≤ 8) : S0 ls 0 = true ↔ [] ∈ ls := by
  rw [S0_mem]
  constructor
  · rintro ⟨l, hl, e⟩
    have := bitsL_zero (isL_weak hJ (hv l hl))
    rw [e] at this
    have hn : l = [] := by simpa using this.symm
    exact hn ▸ hl
  · intro h; exact ⟨[], h, rfl⟩
structure SureF (J : Nat) (ls : List (List Int)) (i : Int) : Prop where
  kin : (kinE J ls i == 0) = fwIs J ls
  bad : fwIs J ls = false → kinE J ls i = 21
  rng : 0 ≤ kinV J ls i ∧ kinV J ls i ≤ 2
  sure : fwIs J ls = true → (kinV J ls i == 2) = aloneB ls i
  never : fwIs J ls = true → (kinV J ls i == 0) = !inB' (leastL ls) i
  chk : chkBook J (ls.map (noI i)) = 0
  ok : fwOk J (ls.map (noI i)) = true
  also : fwIs J ls = true → fwIs J (ls.map (noI i)) = !aloneB ls i
  more : fwIs J ls = true → fwIs J (ls.map (noI i)) = true → fwV J ls ≤ fwV J (ls.map (noI i))
theorem sure_all {J : Nat} {ls : List (List Int)} (hJ8 : J ≤ 8) (hv : ∀ l ∈ ls, isL (J : Int) 0 l = true) (h0 : S0 ls 0 = false) {i : Nat} (hi : i < J) : (∀ m ∈ allR J ls, (i : Int) ∈ m) ↔ aloneB ls i = true := by
  unfold aloneB
  rw [List.any_eq_true]
  constructor
  · intro h
    cases ha : ls.any (fun l => l == [(i : Int)])
    · exfalso
      have hc : hitB ls (clr 255 i) = true := by
        unfold hitB
        rw [List.all_eq_true]
        intro l hl
        have hne : noI i l ≠ [] := fun e => by
          rcases (noI_nil (hv l hl)).1 e with rfl | rfl
          · rw [(S0_zero hv (by omega)).2 hl] at h0; cases h0
          · have := List.any_eq_false.1 ha _ hl
            simp at this
        obtain ⟨x, hx⟩ := List.exists_mem_of_ne_nil _ hne
        obtain ⟨h1, h2⟩ := List.mem_filter.1 hx
        have hb := isL_bd (hv l hl) x h1
        refine List.any_eq_true.2 ⟨x, h1, ?_⟩
        unfold inB
        rw [clr_bit, show (255 : Nat) = 2 ^ 8 - 1 from rfl, Nat.testBit_two_pow_sub_one]
        have h3 : x ≠ i := by simpa using h2
        simp; omega
      obtain ⟨y, hy, hm, hs⟩ := minB_below (S := hitB ls) (clr 255 i) (clr_lt (by decide) (by omega)) hc
      have hyJ := min_in hv hy hm
      have := h (listed y J) ((mem_allR hJ8 hv).2 ⟨isL_listed' _ _, by rw [bits_listed hyJ]; exact hm⟩)
      obtain ⟨k, e, -, hk⟩ := mem_listed.1 this
      obtain rfl : i = k := by omega
      have := (subB_iff hy).1 hs i hk
      rw [clr_bit] at this
      simp at this
    · exact List.any_eq_true.1 ha
  · rintro ⟨l, hl, e⟩ m hm
    have hl' : l = [(i : Int)] := by simpa using e
    obtain ⟨h1, h2⟩ := (mem_allR hJ8 hv).1 hm
    have h3 := (minB_iff.1 h2).1
    unfold hitB at h3
    have h4 := List.all_eq_true.1 h3 l hl
    rw [hl'] at h4
    simp only [List.any_cons, List.any_nil, Bool.or_false] at h4
    unfold inB at h4
    rw [Int.toNat_natCast, bitsL_test (fun y hy => (isL_bd h1 y hy).1), has_iff] at h4
    exact h4
theorem sure_in {J : Nat} {ls : List (List Int)} (hJ8 : J ≤ 8) (hv : ∀ l ∈ ls, isL (J : Int) 0 l = true) (hv8 : ∀ l ∈ ls, isL 8 0 l = true) {i : Nat} (hi : i < J) : (∃ m ∈ allR J ls, (i : Int) ∈ m) ↔ inB' (leastL ls) i = true := by
  unfold inB'
  rw [List.any_eq_true]
  constructor
  · rintro ⟨m, hm, him⟩
    obtain ⟨h1, h2⟩ := (mem_allR hJ8 hv).1 hm
    have hm0 : ∀ y ∈ m, 0 ≤ y := fun y hy => (isL_bd h1 y hy).1
    have hbi : (bitsL m).testBit i = true := by rw [bitsL_test hm0, has_iff]; exact him
    obtain ⟨h3, h4⟩ := (min_iff hJ8 (bitsL_lt h1)).1 h2
    have h5 := h4 i hi hbi
    have h6 : hitB (leastL ls) (clr (bitsL m) i) = false := by rw [core_hit hv8]; exact h5
    have h7 : hitB (leastL ls) (bitsL m) = true := by rw [core_hit hv8]; exact h3
    unfold hitB at h6 h7
    obtain ⟨p, hp, hno⟩ : ∃ p ∈ leastL ls, p.any (inB (clr (bitsL m) i)) = false := by
      have := Bool.eq_false_iff.1 h6
      rw [Ne, List.all_eq_true] at this
      apply Classical.byContradiction
      intro hc
      exact this fun p hp => by
        cases hq : p.any (inB (clr (bitsL m) i))
        · exact absurd ⟨p, hp, hq⟩ hc
        · rfl
    refine ⟨p, hp, has_iff.2 ?_⟩
    obtain ⟨e, he, heb⟩ := List.any_eq_true.1 (List.all_eq_true.1 h7 p hp)
    have h8 := List.any_eq_false.1 hno e he
    have hp8 := hv8 p (least_mem hv8 hp).1
    have he0 := (isL_bd hp8 e he).1
    unfold inB at h8 heb
    rw [clr_bit, heb] at h8
    have : e.toNat = i := by simpa using h8
    have : e = (i : Int) := by omega
    exact this ▸ he
  · rintro ⟨p, hp, hip⟩
    rw [has_iff] at hip
    obtain ⟨hpl, hpm⟩ := least_mem hv8 hp
    have hp8 := hv8 p hpl
    have hp0 : ∀ y ∈ p, 0 ≤ y := fun y hy => (isL_bd hp8 y hy).1
    have hx : (bitsL p ^^^ 255) ||| 2 ^ i < 256 := Nat.or_lt_two_pow (n := 8) (Nat.xor_lt_two_pow (n := 8) (bits8 hp8) (by decide)) (Nat.pow_lt_pow_right (by decide) (by omega))
    have h255 : ∀ k, k < 8 → (255 : Nat).testBit k = true := fun k hk => by
      rw [show (255 : Nat) = 2 ^ 8 - 1 from rfl, Nat.testBit_two_pow_sub_one]; simp [hk]
    have hc : hitB ls ((bitsL p ^^^ 255) ||| 2 ^ i) = true := by
      unfold hitB
      rw [List.all_eq_true]
      intro l hl
      have hl8 := hv8 l hl
      have hl0 : ∀ y ∈ l, 0 ≤ y := fun y hy => (isL_bd hl8 y hy).1
      cases ha : l.any (inB ((bitsL p ^^^ 255) ||| 2 ^ i))
      · exfalso
        have hout : ∀ e ∈ l, e ∈ p ∧ e ≠ i := fun e he => by
          have h1 := List.any_eq_false.1 ha e he
          have hb := isL_bd hl8 e he
          unfold inB at h1
          rw [Nat.testBit_or, Nat.testBit_xor, h255 _ (by omega), Nat.testBit_two_pow] at h1
          simp only [Bool.not_eq_true, Bool.or_eq_false_iff, Bool.xor_true, Bool.not_eq_false', decide_eq_false_iff_not] at h1
          obtain ⟨h2, h3⟩ := h1
          rw [bitsL_test hp0, has_iff, Int.toNat_of_nonneg hb.1] at h2
          exact ⟨h2, fun e' => h3 (by omega)⟩
        have hsub : subB (bitsL l) (bitsL p) = true := (subB_iff (bits8 hl8)).2 fun k hk => by
          rw [bitsL_test hl0, has_iff] at hk
          rw [bitsL_test hp0, has_iff]
          exact (hout _ hk).1
        have heq : bitsL l = bitsL p := by
          by_cases he : bitsL l = bitsL p
          · exact he
          · have := (minB_iff.1 hpm).2 _ (bits8 hl8) (S0_mem.2 ⟨l, hl, rfl⟩) he
            rw [hsub] at this; cases this
        have hlp := bitsL_inj (n := 8) hl8 hp8 heq
        exact (hout i (by rw [hlp]; exact hip)).2 rfl
      · rfl
    obtain ⟨y, hy, hm, hs⟩ := minB_below (S := hitB ls) _ hx hc
    have hyJ := min_in hv hy hm
    refine ⟨listed y J, (mem_allR hJ8 hv).2 ⟨isL_listed' _ _, by rw [bits_listed hyJ]; exact hm⟩, mem_listed.2 ⟨i, rfl, hi, ?_⟩⟩
    have hhit := (minB_iff.1 hm).1
    unfold hitB at hhit
    obtain ⟨e, he, heb⟩ := List.any_eq_true.1 (List.all_eq_true.1 hhit p hpl)
    unfold inB at heb
    have h1 := (subB_iff hy).1 hs _ heb
    have hb := isL_bd hp8 e he
    rw [Nat.testBit_or, Nat.testBit_xor, h255 _ (by omega), Nat.testBit_two_pow, bitsL_test hp0, has_iff.2 (by rw [Int.toNat_of_nonneg hb.1]; exact he)] at h1
    have : i = e.toNat := by simpa using h1
    rw [this]; exact heb
theorem sure_facts {J : Nat} {ls : List (List Int)} (h : chkBook J ls = 0) {i : Nat} (hi : i < J) : SureF J ls i := by
  obtain ⟨J', e, -, hJ1, hJ8, hln, hv, hv8⟩ := book_nat h
  obtain rfl : J = J' := by omega
  have hcn : ¬ (chkBook (J : Int) ls ≠ 0) := fun e => e h
  have hap : allP ls = allR J ls := by rw [all_eq h, Int.toNat_natCast]
  have hb := best_facts h
  have hne : (allR J ls).length = 0 ↔ bestE J ls ≠ 0 := by
    have := bestE_eq (J : Int) ls
    rw [this]
    unfold rblE
    rw [if_neg hcn, Int.toNat_natCast]
    split
    · rename_i h1; simp [h1]
    · rename_i h1; simp [h1]
  have hrng : ¬ ((i : Int) < 0 ∨ (J : Int) ≤ i) := by omega
  have hkE : kinE J ls i = if (allR J ls).length = 0 then 21 else 0 := by
    unfold kinE; rw [if_neg hcn, if_neg hrng, hap]
  have hkV : kinV J ls i = if (allR J ls).length = 0 then 0 else if ((allR J ls).filter fun x => has x i).length = (allR J ls).length then 2 else if ((allR J ls).filter fun x => has x i).length = 0 then 0 else 1 := by
    unfold kinV kinN; rw [if_neg hcn, if_neg hrng, hap]
  have hvX : ∀ l ∈ ls.map (noI i), isL (J : Int) 0 l = true := fun l hl => by
    obtain ⟨p, hp, rfl⟩ := List.mem_map.1 hl
    exact isL_filter _ (hv p hp)
  have hX := chk_of hJ1 hJ8 (by simpa using hln) hvX
  have hall : ((allR J ls).filter fun x => has x i).length = (allR J ls).length ↔ ∀ m ∈ allR J ls, (i : Int) ∈ m := by
    rw [List.length_filter_eq_length_iff]
    exact ⟨fun h m hm => has_iff.1 (h m hm), fun h m hm => has_iff.2 (h m hm)⟩
  have hnone : ((allR J ls).filter fun x => has x i).length = 0 ↔ ¬ ∃ m ∈ allR J ls, (i : Int) ∈ m := by
    rw [List.length_eq_zero_iff, List.filter_eq_nil_iff]
    exact ⟨fun h ⟨m, hm, hi⟩ => h m hm (has_iff.2 hi), fun h m hm hh => h ⟨m, hm, has_iff.1 hh⟩⟩
  have his : fwIs J ls = true ↔ bestE J ls = 0 := by unfold fwIs; rw [beq_iff_eq]
  have hisX : fwIs J (ls.map (noI i)) = true ↔ bestE J (ls.map (noI i)) = 0 := by unfold fwIs; rw [beq_iff_eq]
  refine ⟨?_, fun hf => ?_, ?_, fun hf => ?_, fun hf => ?_, hX, fwOk_true hX, fun hf => ?_, fun hf hg => ?_⟩
  · rw [hkE, Bool.eq_iff_iff, his, beq_iff_eq]
    split
    · rename_i h1; simp [hne.1 h1]
    · rename_i h1
      have : bestE J ls = 0 := Classical.byContradiction fun h2 => h1 (hne.2 h2)
      simp [this]
  · rw [hkE, if_pos (hne.2 (fun e => by rw [his.2 e] at hf; cases hf))]
  · rw [hkV]; repeat' split
    all_goals omega
  · have hn := his.1 hf
    have hm0 : ¬ (allR J ls).length = 0 := fun e => hne.1 e hn
    rw [hkV, if_neg hm0, Bool.eq_iff_iff, ← sure_all hJ8 hv ((is_iff h).1 hn) hi, ← hall, beq_iff_eq]
    split
    · rename_i h1; simp [h1]
    · rename_i h1; simp only [h1, iff_false]; split <;> decide
  · have hn := his.1 hf
    have hm0 : ¬ (allR J ls).length = 0 := fun e => hne.1 e hn
    rw [hkV, if_neg hm0, Bool.eq_iff_iff, Bool.not_eq_true', Bool.eq_false_iff, Ne, ← sure_in hJ8 hv hv8 hi, ← hnone, beq_iff_eq]
    split
    · rename_i h1
      constructor
      · intro h2; cases h2
      · intro h2; omega
    · split
      · rename_i h1; simp [h1]
      · rename_i h1; simp [h1]
  · have hn := (is_iff h).1 (his.1 hf)
    rw [Bool.eq_iff_iff, hisX, is_iff hX, Bool.not_eq_true', Bool.eq_false_iff, Bool.eq_false_iff, Ne, Ne, S0_zero hvX (by omega)]
    unfold aloneB
    refine not_congr ?_
    rw [List.any_eq_true, List.mem_map]
    constructor
    · rintro ⟨l, hl, e⟩
      rcases (noI_nil (hv l hl)).1 e with rfl | rfl
      · rw [(S0_zero hv (by omega)).2 hl] at hn; cases hn
      · exact ⟨_, hl, by simp⟩
    · rintro ⟨l, hl, e⟩
      have hl' : l = [(i : Int)] := by simpa using e
      exact ⟨l, hl, (noI_nil (hv l hl)).2 (.inr hl')⟩
  · have h1 := his.1 hf
    have h2 := hisX.1 hg
    obtain ⟨q1, q2, -⟩ := (best_facts hX).good h2
    rw [(fw_good h1).2, (fw_good h2).2]
    have := rr_le ((hb.good h1).2.2 _ q1 (hit_noI q2))
    omega
end Go.Proofs.YtnpilfpackdimaaGreat
/- Plain law: two books with inns of their own, taken together. -/
namespace Go.Proofs.YtnpilfpackdimaaGreat
def shL (s : Nat) (l : List Int) : List Int := l.map fun x => x + s
theorem isL_sh {b s : Nat} : ∀ {l : List Int} {nx : Int}, isL (b : Int) nx l = true → isL ((s + b : Nat) : Int) (nx + s) (shL s l) = true
  | [], _, _ => rfl
  | x :: l, nx, h => by
    rw [isL_cons] at h
    have ih := isL_sh (s := s) h.2
    show isL _ _ ((x + s) :: shL s l) = true
    rw [isL_cons]
    refine ⟨by omega, ?_⟩
    rw [show x + (s : Int) + 1 = x + 1 + s by omega]
    exact ih
theorem any_sh {l : List Int} {s x : Nat} (h : ∀ e ∈ l, 0 ≤ e) : (shL s l).any (inB x) = l.any (inB (x / 2 ^ s)) := by
  unfold shL
  rw [List.any_map]
  rw [Bool.eq_iff_iff, List.any_eq_true, List.any_eq_true]
  have e1 : ∀ e ∈ l, inB x (e + s) = inB (x / 2 ^ s) e := fun e he => by
    have := h e he
    unfold inB
    rw [Nat.testBit_div_two_pow, show (e + (s : Int)).toNat = s + e.toNat by omega, Nat.add_comm]
  constructor
  · rintro ⟨e, he, hx⟩; exact ⟨e, he, by rw [← e1 e he]; exact hx⟩
  · rintro ⟨e, he, hx⟩; exact ⟨e, he, by show inB x (e + s) = true; rw [e1 e he]; exact hx⟩
theorem any_low {l : List Int} {s x : Nat} (h : ∀ e ∈ l, 0 ≤ e ∧ e < s) : l.any (inB x) = l.any (inB (x % 2 ^ s)) := by
  rw [Bool.eq_iff_iff, List.any_eq_true, List.any_eq_true]
  have e1 : ∀ e ∈ l, inB x e = inB (x % 2 ^ s) e := fun e he => by
    have := h e he
    unfold inB
    rw [Nat.testBit_mod_two_pow, decide_eq_true (by omega), Bool.true_and]
  constructor
  · rintro ⟨e, he, hx⟩; exact ⟨e, he, by rw [← e1 e he]; exact hx⟩
  · rintro ⟨e, he, hx⟩; exact ⟨e, he, by rw [e1 e he]; exact hx⟩
def bothL (s : Nat) (la lb : List (List Int)) : List (List Int) := la ++ lb.map (shL s)
section
variable {a b : Nat} {la lb : List (List Int)} (ha : ∀ l ∈ la, isL (a : Int) 0 l = true) (hb : ∀ l ∈ lb, isL (b : Int) 0 l = true)
include ha hb
theorem both_isL : ∀ l ∈ bothL a la lb, isL ((a + b : Nat) : Int) 0 l = true := fun l hl => by
  rcases List.mem_append.1 hl with h | h
  · exact isL_weak (by omega) (ha l h)
  · obtain ⟨p, hp, rfl⟩ := List.mem_map.1 h
    exact isL_low (by omega) (isL_sh (hb p hp))
theorem both_hit (x : Nat) : hitB (bothL a la lb) x = (hitB la (x % 2 ^ a) && hitB lb (x / 2 ^ a)) := by
  unfold hitB bothL
  rw [List.all_append, List.all_map]
  congr 1
  · exact all_congrM fun l hl => any_low fun e he => isL_bd (ha l hl) e he
  · exact all_congrM fun l hl => any_sh fun e he => (isL_bd (hb l hl) e he).1
end
theorem clr_low {x i a : Nat} (h : i < a) : clr x i % 2 ^ a = clr (x % 2 ^ a) i ∧ clr x i / 2 ^ a = x / 2 ^ a := by
  constructor
  · apply Nat.eq_of_testBit_eq
    intro j
    rw [Nat.testBit_mod_two_pow, clr_bit, clr_bit, Nat.testBit_mod_two_pow]
    cases decide (j < a) <;> simp
  · apply Nat.eq_of_testBit_eq
    intro j
    rw [Nat.testBit_div_two_pow, clr_bit, Nat.testBit_div_two_pow]
    have : ¬ (j + a = i) := by omega
    simp [this]
theorem clr_high {x i a : Nat} : clr x (a + i) % 2 ^ a = x % 2 ^ a ∧ clr x (a + i) / 2 ^ a = clr (x / 2 ^ a) i := by
  constructor
  · apply Nat.eq_of_testBit_eq
    intro j
    rw [Nat.testBit_mod_two_pow, clr_bit, Nat.testBit_mod_two_pow]
    by_cases h : j < a
    · have : ¬ (j = a + i) := by omega
      simp [h, this]
    · simp [h]
  · apply Nat.eq_of_testBit_eq
    intro j
    rw [Nat.testBit_div_two_pow, clr_bit, clr_bit, Nat.testBit_div_two_pow]
    have : (j + a = a + i) ↔ j = i := by omega
    simp [this]
theorem both_min {a b : Nat} {la lb : List (List Int)} (ha : ∀ l ∈ la, isL (a : Int) 0 l = true) (hb : ∀ l ∈ lb, isL (b : Int) 0 l = true) (h8 : a + b ≤ 8) {x : Nat} (hx : x < 2 ^ (a + b)) : minB (hitB (bothL a la lb)) x = (minB (hitB la) (x % 2 ^ a) && minB (hitB lb) (x / 2 ^ a)) := by
  have hxa : x % 2 ^ a < 2 ^ a := Nat.mod_lt _ (Nat.two_pow_pos a)
  have hxb : x / 2 ^ a < 2 ^ b := by
    rw [Nat.div_lt_iff_lt_mul (Nat.two_pow_pos a), Nat.mul_comm, ← Nat.pow_add]; exact hx
  rw [Bool.eq_iff_iff, Bool.and_eq_true, min_iff h8 hx, min_iff (by omega) hxa, min_iff (by omega) hxb, both_hit ha hb, Bool.and_eq_true]
  constructor
  · rintro ⟨⟨h1, h2⟩, h3⟩
    refine ⟨⟨h1, fun i hi hbit => ?_⟩, h2, fun i hi hbit => ?_⟩
    · have := h3 i (by omega) (by rw [Nat.testBit_mod_two_pow] at hbit; simpa [hi] using hbit)
      rw [both_hit ha hb, (clr_low hi).1, (clr_low hi).2, h2, Bool.and_true] at this
      exact this
    · have := h3 (a + i) (by omega) (by rw [Nat.testBit_div_two_pow] at hbit; rw [Nat.add_comm]; exact hbit)
      rw [both_hit ha hb, clr_high.1, clr_high.2, h1, Bool.true_and] at this
      exact this
  · rintro ⟨⟨h1, h2⟩, h3, h4⟩
    refine ⟨⟨h1, h3⟩, fun i hi hbit => ?_⟩
    rw [both_hit ha hb]
    rcases Nat.lt_or_ge i a with h5 | h5
    · rw [(clr_low h5).1, h2 i h5 (by rw [Nat.testBit_mod_two_pow]; simp [h5, hbit])]; rfl
    · obtain ⟨j, rfl⟩ : ∃ j, i = a + j := ⟨i - a, by omega⟩
      rw [clr_high.2, h4 j (by omega) (by rw [Nat.testBit_div_two_pow, Nat.add_comm]; exact hbit), Bool.and_false]
theorem count_mul (p q : Nat → Bool) (A : Nat) (hA : 0 < A) : ∀ B, ((List.range (A * B)).filter fun x => p (x % A) && q (x / A)).length = ((List.range A).filter p).length * ((List.range B).filter q).length
  | 0 => by simp
  | B + 1 => by
    rw [Nat.mul_succ, List.range_add, List.filter_append, List.length_append, count_mul p q A hA B, List.range_succ, List.filter_append, List.length_append, Nat.mul_add]
    congr 1
    rw [List.filter_map, List.length_map]
    have e : ∀ r ∈ List.range A, ((fun x => p (x % A) && q (x / A)) ∘ fun x => A * B + x) r = (p r && q B) := fun r hr => by
      have hr := List.mem_range.1 hr
      simp only [Function.comp_apply]
      rw [Nat.mul_add_mod, Nat.mod_eq_of_lt hr, Nat.mul_add_div hA, Nat.div_eq_of_lt hr, Nat.add_zero]
    rw [List.filter_congr e]
    cases hq : q B
    · simp [hq]
    · simp [hq]
theorem allR_cnt {I : Nat} {ls : List (List Int)} (hI : I ≤ 8) : (allR I ls).length = ((List.range (2 ^ I)).filter (minB (hitB ls))).length := by
  unfold allR
  rw [sortL_len]
  unfold outL
  rw [List.length_map]
  congr 1
  exact List.filter_congr fun x hx => rtB_min hI (List.mem_range.1 hx)
theorem both_all {a b : Nat} {la lb : List (List Int)} (ha : ∀ l ∈ la, isL (a : Int) 0 l = true) (hb : ∀ l ∈ lb, isL (b : Int) 0 l = true) (h8 : a + b ≤ 8) : (allR (a + b) (bothL a la lb)).length = (allR a la).length * (allR b lb).length := by
  rw [allR_cnt h8, allR_cnt (by omega), allR_cnt (by omega), ← count_mul _ _ _ (Nat.two_pow_pos a), Nat.pow_add]
  congr 1
  exact List.filter_congr fun x hx => both_min ha hb h8 (by rw [Nat.pow_add]; exact List.mem_range.1 hx)
theorem listed_split (x a : Nat) : ∀ b, (listed x (a + b)).length = (listed (x % 2 ^ a) a).length + (listed (x / 2 ^ a) b).length
  | 0 => by
    rw [Nat.add_zero]
    have : listed x a = listed (x % 2 ^ a) a := by
      unfold listed
      congr 1
      exact List.filter_congr fun i hi => by rw [Nat.testBit_mod_two_pow]; simp [List.mem_range.1 hi]
    rw [← this]; rfl
  | b + 1 => by
    rw [← Nat.add_assoc, listed_succ, listed_succ, List.length_append, List.length_append, listed_split x a b, Nat.testBit_div_two_pow, Nat.add_comm b a]
    cases x.testBit (a + b) <;> simp <;> omega
end Go.Proofs.YtnpilfpackdimaaGreat
/- Plain law: two books taken together: the smallest blames, and hires that are apart. -/
namespace Go.Proofs.YtnpilfpackdimaaGreat
theorem low_add {xa xb a : Nat} (h : xa < 2 ^ a) : (xa + 2 ^ a * xb) % 2 ^ a = xa ∧ (xa + 2 ^ a * xb) / 2 ^ a = xb := by
  constructor
  · rw [Nat.add_mul_mod_self_left, Nat.mod_eq_of_lt h]
  · rw [Nat.add_mul_div_left _ _ (Nat.two_pow_pos a), Nat.div_eq_of_lt h, Nat.zero_add]
structure BothF (a b : Nat) (la lb : List (List Int)) : Prop where
  chk : chkBook ((a + b : Nat) : Int) (bothL a la lb) = 0
  ok1 : fwOk a la = true
  ok2 : fwOk b lb = true
  ok3 : fwOk ((a + b : Nat) : Int) (bothL a la lb) = true
  is : fwIs ((a + b : Nat) : Int) (bothL a la lb) = (fwIs a la && fwIs b lb)
  size : fwIs ((a + b : Nat) : Int) (bothL a la lb) = true → fwV ((a + b : Nat) : Int) (bothL a la lb) = fwV a la + fwV b lb
  all : (allR (a + b) (bothL a la lb)).length = (allR a la).length * (allR b lb).length
  apr : (aprV ((a + b : Nat) : Int) (bothL a la lb)).length = (aprV a la).length + (aprV b lb).length
theorem both_size {a b : Nat} {la lb : List (List Int)} (hA : chkBook a la = 0) (hB : chkBook b lb = 0) (hX : chkBook ((a + b : Nat) : Int) (bothL a la lb) = 0) (h1 : bestE a la = 0) (h2 : bestE b lb = 0) (h3 : bestE ((a + b : Nat) : Int) (bothL a la lb) = 0) :
    (bestV ((a + b : Nat) : Int) (bothL a la lb)).length = (bestV a la).length + (bestV b lb).length := by
  obtain ⟨a', e1, -, ha1, ha8, -, hva, -⟩ := book_nat hA
  obtain rfl : a = a' := by omega
  obtain ⟨b', e2, -, hb1, hb8, -, hvb, -⟩ := book_nat hB
  obtain rfl : b = b' := by omega
  obtain ⟨p1, p2, p3⟩ := (best_facts hA).good h1
  obtain ⟨q1, q2, q3⟩ := (best_facts hB).good h2
  obtain ⟨r1, r2, r3⟩ := (best_facts hX).good h3
  have hlt := bitsL_lt r1
  have hpa := bitsL_lt p1
  have hqb := bitsL_lt q1
  obtain ⟨X, hXe⟩ : ∃ X, bitsL (bestV ((a + b : Nat) : Int) (bothL a la lb)) = X := ⟨_, rfl⟩
  rw [hXe] at hlt r2
  rw [both_hit hva hvb, Bool.and_eq_true] at r2
  have hlen : (bestV ((a + b : Nat) : Int) (bothL a la lb)).length = (listed (X % 2 ^ a) a).length + (listed (X / 2 ^ a) b).length := by
    rw [← listed_split, ← hXe, listed_bits r1]
  have hxa : X % 2 ^ a < 2 ^ a := Nat.mod_lt _ (Nat.two_pow_pos a)
  have hxb : X / 2 ^ a < 2 ^ b := by
    rw [Nat.div_lt_iff_lt_mul (Nat.two_pow_pos a), Nat.mul_comm, ← Nat.pow_add]; exact hlt
  have g1 := rr_le (p3 _ (isL_listed' (X % 2 ^ a) a) (by rw [bits_listed hxa]; exact r2.1))
  have g2 := rr_le (q3 _ (isL_listed' (X / 2 ^ a) b) (by rw [bits_listed hxb]; exact r2.2))
  obtain ⟨Y, hY⟩ : ∃ Y, bitsL (bestV a la) + 2 ^ a * bitsL (bestV b lb) = Y := ⟨_, rfl⟩
  have hYa := low_add (xb := bitsL (bestV b lb)) hpa
  rw [hY] at hYa
  have hYlt : Y < 2 ^ (a + b) := by
    rw [Nat.pow_add, ← hY]
    have h9 : 2 ^ a * bitsL (bestV b lb) + 2 ^ a ≤ 2 ^ a * 2 ^ b := by
      rw [← Nat.mul_succ]; exact Nat.mul_le_mul_left _ hqb
    omega
  have g3 := rr_le (r3 (listed Y (a + b)) (isL_listed' _ _) (by rw [bits_listed hYlt, both_hit hva hvb, hYa.1, hYa.2, p2, q2]; rfl))
  rw [listed_split, hYa.1, hYa.2, listed_bits p1, listed_bits q1] at g3
  omega
theorem both_S0 {a b : Nat} {la lb : List (List Int)} (hva : ∀ l ∈ la, isL (a : Int) 0 l = true) (hvb : ∀ l ∈ lb, isL (b : Int) 0 l = true) (h8 : a + b ≤ 8) : S0 (bothL a la lb) 0 = (S0 la 0 || S0 lb 0) := by
  rw [Bool.eq_iff_iff, Bool.or_eq_true, S0_zero (both_isL hva hvb) (by omega), S0_zero hva (by omega), S0_zero hvb (by omega)]
  unfold bothL
  rw [List.mem_append, List.mem_map]
  constructor
  · rintro (h | ⟨l, hl, e⟩)
    · exact .inl h
    · have : l = [] := by unfold shL at e; simpa using e
      exact .inr (this ▸ hl)
  · rintro (h | h)
    · exact .inl h
    · exact .inr ⟨[], h, rfl⟩
theorem bits_sh {l : List Int} {s b : Nat} (h : isL (b : Int) 0 l = true) : bitsL (shL s l) = 2 ^ s * bitsL l := by
  have h0 : ∀ e ∈ l, 0 ≤ e := fun e he => (isL_bd h e he).1
  have hs0 : ∀ e ∈ shL s l, 0 ≤ e := fun e he => by
    unfold shL at he
    obtain ⟨x, hx, rfl⟩ := List.mem_map.1 he
    have := h0 x hx; omega
  apply Nat.eq_of_testBit_eq
  intro j
  rw [bitsL_test hs0, Nat.mul_comm, ← Nat.shiftLeft_eq, Nat.testBit_shiftLeft, bitsL_test h0]
  rw [Bool.eq_iff_iff, has_iff, Bool.and_eq_true, decide_eq_true_eq, has_iff]
  unfold shL
  rw [List.mem_map]
  constructor
  · rintro ⟨x, hx, e⟩
    have := h0 x hx
    exact ⟨by omega, by rw [show ((j - s : Nat) : Int) = x by omega]; exact hx⟩
  · rintro ⟨h1, h2⟩
    exact ⟨((j - s : Nat) : Int), h2, by omega⟩
theorem both_apr {a b : Nat} {la lb : List (List Int)} (hA : chkBook a la = 0) (hB : chkBook b lb = 0) (h8 : a + b ≤ 8) (hX : chkBook ((a + b : Nat) : Int) (bothL a la lb) = 0) :
    (aprV ((a + b : Nat) : Int) (bothL a la lb)).length = (aprV a la).length + (aprV b lb).length := by
  obtain ⟨a', e1, -, ha1, ha8, -, hva, hva8⟩ := book_nat hA
  obtain rfl : a = a' := by omega
  obtain ⟨b', e2, -, hb1, hb8, -, hvb, hvb8⟩ := book_nat hB
  obtain rfl : b = b' := by omega
  obtain ⟨A1, A2⟩ := apr_fam hA
  obtain ⟨B1, B2⟩ := apr_fam hB
  obtain ⟨X1, X2⟩ := apr_fam hX
  have h2a := Nat.two_pow_pos a
  have hSX : ∀ x, S0 (bothL a la lb) x = true ↔ S0 la x = true ∨ ∃ y, x = 2 ^ a * y ∧ S0 lb y = true := fun x => by
    rw [S0_mem, S0_mem]
    unfold bothL
    constructor
    · rintro ⟨l, hl, rfl⟩
      rcases List.mem_append.1 hl with h | h
      · exact .inl ⟨l, h, rfl⟩
      · obtain ⟨p, hp, rfl⟩ := List.mem_map.1 h
        exact .inr ⟨bitsL p, bits_sh (hvb p hp), S0_mem.2 ⟨p, hp, rfl⟩⟩
    · rintro (⟨l, hl, rfl⟩ | ⟨y, rfl, hy⟩)
      · exact ⟨l, List.mem_append_left _ hl, rfl⟩
      · obtain ⟨p, hp, rfl⟩ := S0_mem.1 hy
        exact ⟨shL a p, List.mem_append_right _ (List.mem_map.2 ⟨p, hp, rfl⟩), bits_sh (hvb p hp)⟩
  have hla : ∀ x, S0 la x = true → x < 2 ^ a := fun x hx => by
    obtain ⟨l, hl, rfl⟩ := S0_mem.1 hx; exact bitsL_lt (hva l hl)
  have hlb : ∀ x, S0 lb x = true → x < 2 ^ b := fun x hx => by
    obtain ⟨l, hl, rfl⟩ := S0_mem.1 hx; exact bitsL_lt (hvb l hl)
  have h256 : ∀ y, y < 2 ^ b → 2 ^ a * y < 256 := fun y hy => by
    have h1 : 2 ^ a * y < 2 ^ a * 2 ^ b := Nat.mul_lt_mul_of_pos_left hy h2a
    rw [← Nat.pow_add] at h1
    exact Nat.lt_of_lt_of_le h1 (Nat.le_trans (Nat.pow_le_pow_right (by decide) h8) (by decide))
  have hmul : ∀ y k, (2 ^ a * y).testBit k = (decide (a ≤ k) && y.testBit (k - a)) := fun y k => by
    rw [Nat.mul_comm, ← Nat.shiftLeft_eq, Nat.testBit_shiftLeft]
  have hlow : ∀ x, x < 2 ^ a → ∀ k, x.testBit k = true → k < a := fun x hx k hk => by
    rcases Nat.lt_or_ge k a with h | h
    · exact h
    · rw [Nat.testBit_lt_two_pow (Nat.lt_of_lt_of_le hx (Nat.pow_le_pow_right (by decide) h))] at hk; cases hk
  apply Nat.le_antisymm
  · obtain ⟨L, hk, hp, hL⟩ := X1
    have f1 : Fam (S0 la) (L.filter (S0 la)).length := ⟨_, rfl, hp.sublist List.filter_sublist, fun x hx => by
      obtain ⟨h1, h2⟩ := List.mem_filter.1 hx
      exact ⟨(hL x h1).1, (hL x h1).2.1, h2⟩⟩
    have f2 : Fam (S0 lb) (L.filter fun x => !S0 la x).length := by
      refine ⟨(L.filter fun x => !S0 la x).map (· / 2 ^ a), by simp, List.pairwise_map.2 ((hp.sublist List.filter_sublist).imp fun {x y} hd => dj_iff.2 fun i hi => ?_), fun y hy => ?_⟩
      · rw [Nat.testBit_div_two_pow] at hi ⊢
        exact dj_iff.1 hd _ hi
      · obtain ⟨x, hx, rfl⟩ := List.mem_map.1 hy
        obtain ⟨h1, h2⟩ := List.mem_filter.1 hx
        rcases (hSX x).1 (hL x h1).2.2 with h3 | ⟨y, rfl, h3⟩
        · rw [h3] at h2; cases h2
        · have h4 := (hL _ h1).2.1
          rw [Nat.mul_div_cancel_left _ h2a]
          exact ⟨Nat.lt_of_lt_of_le (hlb y h3) (Nat.le_trans (Nat.pow_le_pow_right (by decide) hb8) (by decide)), fun e => h4 (by rw [e, Nat.mul_zero]), h3⟩
    have h1 := A2 _ f1
    have h2 := B2 _ f2
    have h3 : L.length = (L.filter (S0 la)).length + (L.filter fun x => !S0 la x).length := by
      clear hk hp hL f1 f2 h1 h2
      induction L with
      | nil => rfl
      | cons x L ih => cases hx : S0 la x <;> simp [List.filter_cons, hx] <;> omega
    omega
  · obtain ⟨Y1, k1, p1, q1⟩ := A1
    obtain ⟨Y2, k2, p2, q2⟩ := B1
    have hf : Fam (S0 (bothL a la lb)) ((aprV a la).length + (aprV b lb).length) := by
      refine ⟨Y1 ++ Y2.map (2 ^ a * ·), by simp [k1, k2], List.pairwise_append.2 ⟨p1, List.pairwise_map.2 (p2.imp fun {x y} hd => dj_iff.2 fun i hi => ?_), fun x hx z hz => ?_⟩, fun x hx => ?_⟩
      · rw [hmul, Bool.and_eq_true] at hi
        rw [hmul, dj_iff.1 hd _ hi.2, Bool.and_false]
      · obtain ⟨y, hy, rfl⟩ := List.mem_map.1 hz
        refine dj_iff.2 fun i hi => ?_
        have := hlow x (hla x (q1 x hx).2.2) i hi
        rw [hmul, decide_eq_false (by omega)]; rfl
      · rcases List.mem_append.1 hx with h | h
        · exact ⟨(q1 x h).1, (q1 x h).2.1, (hSX x).2 (.inl (q1 x h).2.2)⟩
        · obtain ⟨y, hy, rfl⟩ := List.mem_map.1 h
          exact ⟨h256 y (hlb y (q2 y hy).2.2), fun e => (q2 y hy).2.1 ((Nat.mul_eq_zero.1 e).resolve_left (by omega)), (hSX _).2 (.inr ⟨y, rfl, (q2 y hy).2.2⟩)⟩
    exact X2 _ hf
theorem both_facts {a b : Nat} {la lb : List (List Int)} (hA : chkBook a la = 0) (hB : chkBook b lb = 0) (h8 : a + b ≤ 8) (hl : la.length + lb.length ≤ 10) : BothF a b la lb := by
  obtain ⟨a', e1, -, ha1, ha8, -, hva, hva8⟩ := book_nat hA
  obtain rfl : a = a' := by omega
  obtain ⟨b', e2, -, hb1, hb8, -, hvb, hvb8⟩ := book_nat hB
  obtain rfl : b = b' := by omega
  have hX := chk_of (J := a + b) (ls := bothL a la lb) (by omega) h8 (by unfold bothL; simpa using hl) (both_isL hva hvb)
  have his : ∀ {I : Nat} {L : List (List Int)}, chkBook I L = 0 → (fwIs I L = !S0 L 0) := fun {I L} h => by
    rw [Bool.eq_iff_iff, Bool.not_eq_true', ← is_iff h]; unfold fwIs; rw [beq_iff_eq]
  have hisX := his hX
  rw [both_S0 hva hvb h8, Bool.not_or, ← his hA, ← his hB] at hisX
  refine ⟨hX, fwOk_true hA, fwOk_true hB, fwOk_true hX, hisX, fun h => ?_, both_all hva hvb h8, both_apr hA hB h8 hX⟩
  have h3 : bestE ((a + b : Nat) : Int) (bothL a la lb) = 0 := by unfold fwIs at h; simpa using h
  rw [hisX, Bool.and_eq_true] at h
  have h1 : bestE a la = 0 := by have := h.1; unfold fwIs at this; simpa using this
  have h2 : bestE b lb = 0 := by have := h.2; unfold fwIs at this; simpa using this
  rw [(fw_good h1).2, (fw_good h2).2, (fw_good h3).2, both_size hA hB hX h1 h2 h3]
  simp
end Go.Proofs.YtnpilfpackdimaaGreat
/- A book of two books' hires that a region begins in whatever order. -/
namespace Go.Proofs.YtnpilfpackdimaaGreat
open Go.RowKit Go.Shelf
/-- A store into a book's block keeps an own list of lists. -/
theorem newLw_putR {W : World} {T base : Nat} {R : Nat → Prop} {v : Value} {l : List (List Int)} {cs : Array Value} {x : Value} {i : Nat} (hR : ∀ b, R b → b ≠ T) (h : NewLw W base R v l) (hb : Blk W T 24 cs) : NewLw (W.setCell ⟨T, i, none⟩ x) base R v l := by
  have hne := newLw_ne h hb (by decide)
  obtain ⟨vs, h1, h2, h3⟩ := h
  refine ⟨vs, ⟨h1.1, ?_⟩, h2, fun k y hk => ?_⟩
  · rcases h1.2 with h4 | ⟨g, cap, cur, rfl, h5, h6, h7⟩
    · exact .inl h4
    · exact .inr ⟨g, cap, cur, rfl, h5, (Below.heap_setCell _ _ _ _ (fun e => hne (by rw [show T = g from e.symm]; rfl))).trans h6, h7⟩
  · obtain ⟨A, m, c, h4, h5, h6⟩ := h3 k y hk
    refine ⟨A, m, c, h4, h5.cells_ (by simp [World.setCell]) (fun hm b off e j _ => World.cell?_of_block (Below.heap_setCell _ _ _ _ (fun e' => hR b (h6 hm b off e).2.2 e'))), fun hm b off e => ⟨by have := (h6 hm b off e).1; simpa [World.setCell] using this, (h6 hm b off e).2⟩⟩
def AkF (B : Nat) (p : Option Addr) (n c : Nat) (la : List (List Int)) (I1 I2 J : Int) (x1 x2 x3 : Value) : Nat → (Nat → Value) → World → Prop
  | 0, e, _ => e 0 = x1
  | 1, e, _ => e 1 = .int .i64 I1
  | 2, e, _ => e 2 = x2
  | 3, e, _ => e 3 = .int .i64 I2
  | 4, e, _ => e 4 = .int .i64 J
  | 5, e, W => ∃ h, e 5 = .slice (some ⟨h, 0, none⟩) 0 0 ∧ Blk W h 25 #[] ∧ B ≤ h
  | 6, e, _ => e 6 = x3
  | 7, e, _ => e 7 = .slice p n c
  | 8, e, W => NewLw W B (fun b => b < B) (e 8) la
  | 9, e, _ => e 9 = .agg #[.int .i64 J, e 8]
  | 10, e, W => ∃ T, e 10 = .pointer (some ⟨T, 0, none⟩) ∧ B ≤ T ∧ Blk W T 24 #[.int .i64 0, .slice none 0 0]
  | 11, e, W => ∃ T, e 10 = .pointer (some ⟨T, 0, none⟩) ∧ B ≤ T ∧ Blk W T 24 #[.int .i64 J, e 8]
  | _, _, _ => True
section
variable {B : Nat} {p : Option Addr} {n c : Nat} {la : List (List Int)} {I1 I2 J : Int} {x1 x2 x3 : Value}
theorem AkF.ext : ∀ (k : Nat) (e : Nat → Value) (W W' : World), AkF B p n c la I1 I2 J x1 x2 x3 k e W → Ext W W' → AkF B p n c la I1 I2 J x1 x2 x3 k e W'
  | 0, _, _, _, h, _ | 1, _, _, _, h, _ | 2, _, _, _, h, _ | 3, _, _, _, h, _ | 4, _, _, _, h, _ | 6, _, _, _, h, _ | 7, _, _, _, h, _ | 9, _, _, _, h, _ => h
  | 5, _, _, _, ⟨g, h1, h2, h3⟩, he => ⟨g, h1, h2.below he h2.lt, h3⟩
  | 8, _, _, _, h, he => NewLw.below h he
  | 10, _, _, _, ⟨T, h1, h2, h3⟩, he => ⟨T, h1, h2, h3.below he h3.lt⟩
  | 11, _, _, _, ⟨T, h1, h2, h3⟩, he => ⟨T, h1, h2, h3.below he h3.lt⟩
  | _ + 12, _, _, _, _, _ => trivial
theorem AkF.loc : ∀ (k : Nat) (e e' : Nat → Value) (W : World), (∀ i ∈ supK k, e i = e' i) → AkF B p n c la I1 I2 J x1 x2 x3 k e W → AkF B p n c la I1 I2 J x1 x2 x3 k e' W
  | 0, e, e', _, he, h => by have := he 0 (by simp [supK]); simp only [AkF] at h ⊢; rw [← this]; exact h
  | 1, e, e', _, he, h => by have := he 1 (by simp [supK]); simp only [AkF] at h ⊢; rw [← this]; exact h
  | 2, e, e', _, he, h => by have := he 2 (by simp [supK]); simp only [AkF] at h ⊢; rw [← this]; exact h
  | 3, e, e', _, he, h => by have := he 3 (by simp [supK]); simp only [AkF] at h ⊢; rw [← this]; exact h
  | 4, e, e', _, he, h => by have := he 4 (by simp [supK]); simp only [AkF] at h ⊢; rw [← this]; exact h
  | 5, e, e', _, he, h => by have := he 5 (by simp [supK]); simp only [AkF] at h ⊢; rw [← this]; exact h
  | 6, e, e', _, he, h => by have := he 6 (by simp [supK]); simp only [AkF] at h ⊢; rw [← this]; exact h
  | 7, e, e', _, he, h => by have := he 7 (by simp [supK]); simp only [AkF] at h ⊢; rw [← this]; exact h
  | 8, e, e', _, he, h => by have := he 8 (by simp [supK]); simp only [AkF] at h ⊢; rw [← this]; exact h
  | 9, e, e', _, he, h => by have h1 := he 9 (by simp [supK]); have h2 := he 8 (by simp [supK]); simp only [AkF] at h ⊢; rw [← h1, ← h2]; exact h
  | 10, e, e', _, he, h => by have := he 10 (by simp [supK]); simp only [AkF] at h ⊢; rw [← this]; exact h
  | 11, e, e', _, he, h => by have h1 := he 10 (by simp [supK]); have h2 := he 8 (by simp [supK]); simp only [AkF] at h ⊢; rw [← h1, ← h2]; exact h
  | _ + 12, _, _, _, _, _ => trivial
theorem AkF.app {W W' : World} {h : Nat} (hh : Blk W h 25 #[]) (hg : W.grownBy W' (some h)) : ∀ j, j ≠ 8 → j ∉ [5] → 8 ∉ (([[], [], [], [], [], [], [], [], [5, 7], [8], [], [10, 9, 8, 5]] : List (List Nat)).getD j []) → ∀ e, AkF B p n c la I1 I2 J x1 x2 x3 j e W → AkF B p n c la I1 I2 J x1 x2 x3 j e W'
  | 0, _, _, _, _, h | 1, _, _, _, _, h | 2, _, _, _, _, h | 3, _, _, _, _, h | 4, _, _, _, _, h | 6, _, _, _, _, h | 7, _, _, _, _, h => h
  | 5, _, hd, _, _, _ => absurd (by simp) hd
  | 8, hn, _, _, _, _ => absurd rfl hn
  | 9, _, _, hb, _, _ => absurd (by simp) hb
  | 10, _, _, _, _, ⟨T, h1, h2, h3⟩ => ⟨T, h1, h2, h3.grown hg (fun e => by injection e with e; subst e; unfold Blk at hh h3; rw [hh] at h3; injection h3 with h3; injection h3 with h4 h5; revert h5; decide)⟩
  | 11, _, _, hb, _, _ => absurd (by simp) hb
  | _ + 12, _, _, _, _, _ => trivial
theorem AkF.put {W : World} {T : Nat} {cs : Array Value} {a b : Value} (hT : Blk W T 24 cs) (hB : B ≤ T) : ∀ j, j ≠ 11 → j ∉ [5, 10] → 11 ∉ (([[], [], [], [], [], [], [], [], [5, 7], [8], [], [10, 9, 8, 5]] : List (List Nat)).getD j []) → ∀ e, AkF B p n c la I1 I2 J x1 x2 x3 j e W → AkF B p n c la I1 I2 J x1 x2 x3 j e ((W.setCell ⟨T, 0, none⟩ a).setCell ⟨T, 1, none⟩ b)
  | 0, _, _, _, _, h | 1, _, _, _, _, h | 2, _, _, _, _, h | 3, _, _, _, _, h | 4, _, _, _, _, h | 6, _, _, _, _, h | 7, _, _, _, _, h | 9, _, _, _, _, h => h
  | 5, _, hd, _, _, _ => absurd (by simp) hd
  | 8, _, _, _, _, h => newLw_putR (fun b hb => by omega) (newLw_putR (fun b hb => by omega) h hT) (hT.set_ 0 _)
  | 10, _, hd, _, _, _ => absurd (by simp) hd
  | 11, hn, _, _, _, _ => absurd rfl hn
  | _ + 12, _, _, _, _, _ => trivial
end
end Go.Proofs.YtnpilfpackdimaaGreat
