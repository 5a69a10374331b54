/- Texts of the proof, laid together by program. -/
import Derived.Test.YtdgllpcfmkjfhaaGreatMf
import Derived.Maps.OwnOps
import Derived.Maps.OwnSet
import Derived.Maps.RangeWalk
import Derived.Lib.MinMax
import Derived.Test.YtdgllpcfmkjfhaaGreatProg
import Derived.Deep.QuietTactic
import Derived.BigQuiet
import Derived.LoopTactic
import Derived.Shelf.Abstract
import Derived.Laws.CopyRow
import Derived.RangeFuncNested
import Derived.OwnWalkIn
import Derived.Laws.AppendOwnNone
import Derived.Maps.OwnIn
import Derived.DeepKeys4
import Derived.Shelf.SlSortCmp.NoneTotal
set_option linter.unusedSimpArgs false
set_option linter.unusedVariables false
/- The second law again, with a condition on worlds in the place of a first world: what is free is read where the condition holds, and what writes has to keep it, wherever it writes. -/
namespace Go.Proofs.YtdgllpcfmkjfhaaGreat.Bl.Sx
open Go
section
variable {P : Program} {ops : Array Oper} {md : Region.Mode} {S : World → Prop}

def EYields (P : Program) (ops : Array Oper) (S : World → Prop) (o : Oper) (v : Value) (a : Act) : Prop :=
  (Region.wanted o (yielded ops a.tmps) = true ∧ ∀ W, S W → EUpon P W v ((execOp a.eval o).run P W)) ∨ (Region.wanted o (yielded ops a.tmps) = false ∧ v = undef)
theorem EYields.of_same {o : Oper} {v : Value} {a a' : Act} (hy : EYields P ops S o v a) (he : execOp a'.eval o = execOp a.eval o)
    (hw : Region.wanted o (yielded ops a'.tmps) = Region.wanted o (yielded ops a.tmps)) : EYields P ops S o v a' := by
  unfold EYields at *
  rw [he, hw]
  exact hy

theorem lOp_put {j : Nat} {oi oj : Oper} {v : Value} (hj : ops[j]? = some oj) (hap : oi.apart ops oj = true)
    (hsi : ∀ cs b, oi.op ≠ .select cs b) (hsj : ∀ cs b, oj.op ≠ .select cs b) {K : Act → World → Prop} {a : Act} {w : World}
    (hy : EYields P ops S oi v a) (h : lOp P ops j K (a.put oi.dst v) w) :
    lOp P ops j (fun a' w' => EYields P ops S oi v a' ∧ K (a'.put oi.dst v) w') a w := by
  obtain ⟨h1, h2, h3⟩ := Oper.apart_spec hap
  have keep : ∀ (u : Value), EYields P ops S oi v (a.put oj.dst u) := fun u => hy.of_same (execOp_put oi hsi a oj.dst u h3) (wanted_put oi a oj.dst u h3)
  have swap : ∀ (u : Value) (W : World), K ((a.put oi.dst v).put oj.dst u) W → EYields P ops S oi v (a.put oj.dst u) ∧ K ((a.put oj.dst u).put oi.dst v) W := fun u W hk => ⟨keep u, by rw [← Act.put_comm a v u h2]; exact hk⟩
  unfold lOp at *
  simp only [hj] at *
  rw [wanted_put oj a oi.dst v h1] at h
  split
  · rename_i hw
    simp only [hw, if_true] at h
    rw [execOp_put oj hsj a oi.dst v h1] at h
    generalize (execOp a.eval oj).run P w = r at *
    cases r with
    | ok n w' =>
      cases n <;> simp only [LUpon] at h ⊢
      case value u => exact swap u _ h
      case skip => exact swap _ _ h
      case enter f args => exact h.mono fun e W ⟨u, he, hk⟩ => ⟨u, he, swap u _ hk⟩
    | halt x w' => simp only [LUpon] at h
  · rename_i hw
    simp only [hw] at h
    exact swap _ _ h

def wpM (P : Program) (md : Region.Mode) (ops : Array Oper) (S : World → Prop) (Q : Act → World → Prop) : Nat → Array Bool → Act → World → Prop
  | 0, listed, a, w => Region.ready md ops listed = [] ∧ ∀ W, Ext w W → S W → Q a W
  | f + 1, listed, a, w => ∀ W, Ext w W → S W → (Region.ready md ops listed = [] → Q a W) ∧
      ∀ i ∈ Region.ready md ops listed, lOp P ops i (fun a' W' => S W' ∧ wpM P md ops S Q f (listed.setIfInBounds i true) a' W') a W
theorem wpM_ext {Q : Act → World → Prop} {f : Nat} {listed : Array Bool} {a : Act} {w w' : World} (h : wpM P md ops S Q f listed a w) (he : Ext w w') : wpM P md ops S Q f listed a w' := by
  cases f with
  | zero => exact ⟨h.1, fun W h1 h2 => h.2 W (he.trans' h1) h2⟩
  | succ f => exact fun W h1 h2 => h W (he.trans' h1) h2

theorem lOp_of_early {i : Nat} {oi : Oper} {v : Value} {a : Act} {W : World} {K : Act → World → Prop} (hi : ops[i]? = some oi) (hX : S W) (hy : EYields P ops S oi v a) (hK : ∀ W', Ext W W' → K (a.put oi.dst v) W') : lOp P ops i K a W := by
  unfold lOp
  simp only [hi]
  rcases hy with ⟨hw, hy⟩ | ⟨hw, rfl⟩
  · simp only [hw, if_true]
    have h1 := hy W hX
    generalize (execOp a.eval oi).run P W = r at h1
    cases r with
    | ok n w' =>
      cases n <;> simp only [EUpon] at h1 <;> simp only [LUpon]
      case value u => obtain ⟨rfl, h2⟩ := h1; exact hK _ h2
      case skip => obtain ⟨rfl, h2⟩ := h1; exact hK _ h2
      case enter f args => obtain ⟨rfl, h2⟩ := h1; exact h2.mono fun e W'' ⟨he, hx⟩ => ⟨v, he, hK _ hx⟩
    | halt x w' => simp only [EUpon] at h1
  · simp only [hw, Bool.false_eq_true, if_false]; exact hK _ (RowKit.Below.refl _ _)

theorem wpM_first (hS : ∀ W W', S W → Ext W W' → S W') {Q : Act → World → Prop} {i : Nat} {oi : Oper} {v : Value} (hi : ops[i]? = some oi) (hsel : ∀ (j : Nat) (o : Oper) cs b, ops[j]? = some o → o.op ≠ .select cs b) :
    ∀ (f : Nat) (listed : Array Bool) (a : Act) (w : World),
      (∀ j oj, ops[j]? = some oj → j ≠ i → listed.getD j true = false → (∀ e ∈ oj.after, Region.binds md e = true → e.on ≠ i) → oi.apart ops oj = true) →
      i ∈ Region.ready md ops listed → EYields P ops S oi v a →
      wpM P md ops S Q f (listed.setIfInBounds i true) (a.put oi.dst v) w → wpM P md ops S Q (f + 1) listed a w := by
  intro f
  induction f with
  | zero =>
    intro listed a w hfree hr hy H W hwW hXW
    refine ⟨fun h => (by rw [h] at hr; cases hr), fun j hj => ?_⟩
    by_cases hji : j = i
    · subst hji
      exact lOp_of_early hi hXW hy fun W' hW' => ⟨hS _ _ hXW hW', wpM_ext H (hwW.trans' hW')⟩
    · have := ready_mono hj hji
      rw [H.1] at this
      cases this
  | succ f ih =>
    intro listed a w hfree hr hy H W hwW hXW
    refine ⟨fun h => (by rw [h] at hr; cases hr), fun j hj => ?_⟩
    by_cases hji : j = i
    · subst hji
      exact lOp_of_early hi hXW hy fun W' hW' => ⟨hS _ _ hXW hW', wpM_ext H (hwW.trans' hW')⟩
    · have h1 := (H W hwW hXW).2 j (ready_mono hj hji)
      obtain ⟨hjun, oj, hoj, hall⟩ := mem_ready.1 hj
      have hnot : ∀ e ∈ oj.after, Region.binds md e = true → e.on ≠ i := fun e he hb heq => by
        have h1 := hall e he hb
        have h0 := (mem_ready.1 hr).1
        rw [heq, getD_both h0] at h1
        cases h1
      have h2 := lOp_put hoj (hfree j oj hoj hji hjun hnot) (fun cs b => hsel i oi cs b hi) (fun cs b => hsel j oj cs b hoj) hy h1
      have hfree' : ∀ k ok, ops[k]? = some ok → k ≠ i → (listed.setIfInBounds j true).getD k true = false →
          (∀ e ∈ ok.after, Region.binds md e = true → e.on ≠ i) → oi.apart ops ok = true := fun k ok hk hki hun hno => by
        refine hfree k ok hk hki ?_ hno
        by_cases hjk : j = k
        · subst hjk; exact hjun
        · rw [getD_set_ne true hjk] at hun; exact hun
      refine lOp_mono (fun a' W' h3 => ⟨h3.2.1, ih (listed.setIfInBounds j true) a' W' hfree' (ready_mono hr (Ne.symm hji)) h3.1 ?_⟩) h2
      rw [Array.setIfInBounds_comm _ _ hji]
      exact h3.2.2

def wpE (P : Program) (ops : Array Oper) (S : World → Prop) (L : Act → Prop) : List (Nat × Oper) → Act → Prop
  | [], a => L a
  | (_, o) :: rest, a => ∃ v, EYields P ops S o v a ∧ wpE P ops S L rest (a.put o.dst v)
theorem wpM_early (hS : ∀ W W', S W → Ext W W' → S W') {Q : Act → World → Prop} (hsel : Region.noSelect ops = true) {w : World} : ∀ (E : List Nat) (g : Nat) (listed : Array Bool) (a : Act), earlyB md ops E listed = true →
    wpE P ops S (fun a' => wpM P md ops S Q g (setAll listed E) a' w) (pick ops E) a → wpM P md ops S Q (E.length + g) listed a w
  | [], g, listed, a, _, h => by simpa [setAll, pick, wpE] using h
  | i :: E, g, listed, a, hB, h => by
    simp only [earlyB, Bool.and_eq_true] at hB
    obtain ⟨⟨hr, hf⟩, hB'⟩ := hB
    have hr' : i ∈ Region.ready md ops listed := by simpa using hr
    obtain ⟨_, oi, hoi, _⟩ := mem_ready.1 hr'
    simp only [pick, hoi, wpE] at h
    obtain ⟨v, hy, hK⟩ := h
    rw [List.length_cons, show E.length + 1 + g = (E.length + g) + 1 by omega]
    exact wpM_first hS hoi (Region.noSelect_spec hsel) _ _ _ _ (Region.free_spec hoi hf) hr' hy (wpM_early hS hsel E g _ _ hB' hK)

theorem wpAny_of_M {Q : Act → World → Prop} {Q' : Exit → Act → World → Prop} (hQ : ∀ a w, Q a w → Q' .normal a w) : ∀ (f : Nat) (listed : Array Bool) (a : Act) (w : World), S w → wpM P md ops S Q f listed a w → wpAny P md ops Q' f listed a w
  | 0, _, _, _, hX, h => ⟨h.1, hQ _ _ (h.2 _ (RowKit.Below.refl _ _) hX)⟩
  | f + 1, _, _, w, hX, h =>
    have h' := h w (RowKit.Below.refl _ _) hX
    ⟨fun h0 => hQ _ _ (h'.1 h0), fun i hi => wpOp_of_lOp (fun _ _ hk => wpAny_of_M hQ f _ _ _ hk.1 hk.2) (h'.2 i hi)⟩

theorem wp_region_el (S : World → Prop) (hS : ∀ W W', S W → Ext W W' → S W') {id : Nat} {Q : Exit → Act → World → Prop} {a : Act} {w : World} {l : List Oper} (E : List Nat) (g : Nat) (hm : P.follows .mixedOrders = true)
    (hB : (Region.noSelect l.toArray && decide (E.length + g = l.length) && earlyB .any l.toArray E (Array.replicate l.length false)) = true) (h0 : S w.drew)
    (h : wpE P l.toArray S (fun a' => wpM P .any l.toArray S (fun a w => wpList P l.toArray Q [] a w) g (setAll (Array.replicate l.length false) E) a' w.drew) (pick l.toArray E) a) : (Code.region id l.toArray true).wp P Q a w := by
  simp only [Bool.and_eq_true, decide_eq_true_eq] at hB
  obtain ⟨⟨hsel, hn⟩, hE⟩ := hB
  refine wp_region_any hm ?_
  have := wpM_early (w := w.drew) hS hsel E g _ a hE h
  rw [hn] at this
  have := wpAny_of_M (Q' := Q) (fun _ _ hk => hk) _ _ _ _ h0 this
  simpa using this
theorem wpE_val {L : Act → Prop} {a : Act} {i : Nat} {o : Oper} {rest : List (Nat × Oper)} {v : Value} (hw : Region.wanted o (yielded ops a.tmps) = true)
    (hv : ∀ W, S W → (execOp a.eval o).run P W = .ok (.value v) W) (h : wpE P ops S L rest (a.put o.dst v)) : wpE P ops S L ((i, o) :: rest) a :=
  ⟨v, .inl ⟨hw, fun W hW => by rw [hv W hW]; exact ⟨rfl, RowKit.Below.refl _ _⟩⟩, h⟩
theorem wpM_end {Q : Act → World → Prop} {listed : Array Bool} {a : Act} {w : World} (hr : (Region.ready md ops listed).isEmpty = true) (h : ∀ W, Ext w W → S W → Q a W) : wpM P md ops S Q 0 listed a w :=
  ⟨by simpa using hr, h⟩
theorem wpM_one {Q : Act → World → Prop} {f : Nat} {listed : Array Bool} {a : Act} {w : World} (k : Nat) (o : Oper) (ho : ops[k]? = some o) (hr : decide (Region.ready md ops listed = [k]) = true) (hw : Region.wanted o (yielded ops a.tmps) = true)
    (h : ∀ W, Ext w W → S W → LUpon P o a (fun a' W' => S W' ∧ wpM P md ops S Q f (listed.setIfInBounds k true) a' W') ((execOp a.eval o).run P W)) : wpM P md ops S Q (f + 1) listed a w := by
  intro W h1 h2
  rw [of_decide_eq_true hr]
  refine ⟨fun h => (by cases h), fun i hi => ?_⟩
  obtain rfl : i = k := by simpa using hi
  unfold lOp
  simp only [ho, hw, if_true]
  exact h W h1 h2
theorem wpM_two {P : Program} {md : Region.Mode} {ops : Array Oper}  {Q : Act → World → Prop} {f : Nat} {listed : Array Bool} {a : Act} {w : World} (i j : Nat) (o o' : Oper) (ho : ops[i]? = some o) (ho' : ops[j]? = some o') (hr : decide (Region.ready md ops listed = [i, j]) = true) (hw : Region.wanted o (yielded ops a.tmps) = true) (hw' : Region.wanted o' (yielded ops a.tmps) = true)
    (h : ∀ W, Ext w W → S W → LUpon P o a (fun a' W' => S W' ∧ wpM P md ops S Q f (listed.setIfInBounds i true) a' W') ((execOp a.eval o).run P W))
    (h' : ∀ W, Ext w W → S W → LUpon P o' a (fun a' W' => S W' ∧ wpM P md ops S Q f (listed.setIfInBounds j true) a' W') ((execOp a.eval o').run P W)) : wpM P md ops S Q (f + 1) listed a w := by
  intro W h1 h2
  rw [of_decide_eq_true hr]
  refine ⟨fun h => (by cases h), fun q hq => ?_⟩
  rcases List.mem_cons.1 hq with rfl | hq
  · unfold lOp
    simp only [ho, hw, if_true]
    exact h W h1 h2
  · obtain rfl : q = j := by simpa using hq
    unfold lOp
    simp only [ho', hw', if_true]
    exact h' W h1 h2
end
end Go.Proofs.YtdgllpcfmkjfhaaGreat.Bl.Sx
/- Steps and words over the laws of this folder: an append as one step of a region, two things that are ready, what lies as it lay but for some blocks, maps. -/
namespace Go.Proofs.YtdgllpcfmkjfhaaGreat.Bl
open Go.RowKit
open Go.ChangeMaps Go.MapKept in
section
variable {P : Program} {w w' : World} {k : TypeId} {R : Value → Option (DataW Unit × List MemPlace)} {b m : Nat} {D : DataW Unit}
theorem map_below (h : w.ownsMap P k R b m D) (hb : Below w.heap.size w w') : w'.ownsMap P k R b m D := by
  obtain ⟨es, clock, h1, h2⟩ := h
  exact ⟨es, clock, (hb.block b (Array.getElem?_eq_some_iff.1 h1).1).trans h1, h2⟩
end
end Go.Proofs.YtdgllpcfmkjfhaaGreat.Bl
/- Walks: searches by a function; ranges of numbers; rising lists. -/
namespace Go.Proofs.YtdgllpcfmkjfhaaGreat.Bl
open Go.RowKit Go.Shelf
attribute [local go_sem] Oper.semAt_some
def idxA {α : Type} (q : α → Bool) (ls : List α) : Int := match ls.findIdx? q with | some k => (k : Int) | none => -1
theorem idxA_hit {α : Type} {q : α → Bool} {ls : List α} {k : Nat} {x : α} (h : (ls.take k).any q = false) (hx : ls[k]? = some x) (hq : q x = true) : idxA q ls = k := by
  unfold idxA
  have : ls.findIdx? q = some k := by
    rw [List.findIdx?_eq_some_iff_getElem]
    obtain ⟨hk, e⟩ := List.getElem?_eq_some_iff.1 hx
    refine ⟨hk, by rw [e]; exact hq, fun j hj => ?_⟩
    have h2 := List.any_eq_false.1 h ls[j] (List.mem_of_getElem? (i := j) (by rw [List.getElem?_take_of_lt hj]; exact List.getElem?_eq_getElem _))
    simpa using h2
  rw [this]
theorem idxA_none {α : Type} {q : α → Bool} {ls : List α} (h : ls.any q = false) : idxA q ls = -1 := by
  unfold idxA
  have : ls.findIdx? q = none := by
    rw [List.findIdx?_eq_none_iff]
    intro x hx
    simpa using List.any_eq_false.1 h x hx
  rw [this]
theorem idxA_nn {α : Type} {q : α → Bool} {ls : List α} : (0 ≤ idxA q ls) ↔ ls.any q = true := by
  cases h : ls.any q
  · rw [idxA_none h]; simp
  · unfold idxA
    cases h2 : ls.findIdx? q with
    | some k => simp
    | none =>
      rw [List.findIdx?_eq_none_iff] at h2
      obtain ⟨x, hx, hq⟩ := List.any_eq_true.1 h
      rw [h2 x hx] at hq; cases hq
theorem idxA_dec {α : Type} (q : α → Bool) (ls : List α) : decide (0 ≤ idxA q ls) = ls.any q := by
  rw [Bool.eq_iff_iff, decide_eq_true_eq, idxA_nn]
theorem any_off {α : Type} {p : α → Bool} {l : List α} {k : Nat} {x : α} (h : (l.take k).any p = false) (hx : l[k]? = some x) (hp : p x = false) : (l.take (k + 1)).any p = false := by
  rw [List.take_add_one, hx, List.any_append, h]
  simp [hp]
theorem all_take_succ {α : Type} {p : α → Bool} {l : List α} {k : Nat} {x : α} (h : (l.take k).all p = true) (hx : l[k]? = some x) (hp : p x = true) : (l.take (k + 1)).all p = true := by
  rw [List.take_add_one, hx, List.all_append, h]
  simp [hp]
theorem all_false {α : Type} {p : α → Bool} {l : List α} {k : Nat} {x : α} (hx : l[k]? = some x) (hp : p x = false) : l.all p = false := by
  cases h : l.all p
  · rfl
  · have := List.all_eq_true.1 h x (List.mem_of_getElem? hx)
    rw [hp] at this; cases this
set_option maxHeartbeats 800000 in
theorem idxFI_any (g : Nat) (cb : Array Value) (eg : ∀ args w, (callFunc g args).run Tryz.prog w = .ok (.enter g args) w) (p : Int → Bool) (A : Option Addr) (n c : Nat) (l : List Int) (w : World) (hl : InS w w.heap.size A n l) (hn : n ≤ 1000000) (hp : ∀ x ∈ l, Calls Tryz.prog g (#[.int .i64 x] ++ cb) w fun e w' => e = .returned (.bool (p x)) ∧ w = w') :
    Calls Tryz.prog 72 #[.slice A n c, .func (.func g) #[] cb] w fun e w' => e = .returned (.int .i64 (idxA p l)) ∧ w = w' := by
  have hlen := hid hl.len
  have HP := hid hp
  clear hp
  obtain ⟨iv, hiv⟩ : ∃ iv, idxA p l = iv := ⟨_, rfl⟩
  have Hiv := hid hiv
  rw [hiv]
  clear hiv
  go_enter Tryz.func72, Tryz.ntmps72
  go_wp2
  go_loopw [8] (fun i wr => ∃ k : Nat, k ≤ n ∧ i = .int .i64 k ∧ Hid ((l.take k).any p = false) ∧ w = wr) (fun i _ => n - (intOf i).toNat)
  case atStart => exact ⟨0, by omega, rfl, hid (by simp), rfl⟩
  case round =>
    obtain ⟨k, hk, rfl, hno, rfl⟩ := hrel
    by_cases hlt : k < n
    · obtain ⟨b, off, x, rfl, hb, hm, c0⟩ := hl.at_ hlt
      have Hm := hid hm
      have hlti : (k : Int) < n := by omega
      have hc := HP.out x (List.mem_of_getElem? hm)
      clear hm
      cases hx : p x
      · have Hs := hid (any_off hno.out Hm.out hx)
        rw [hx] at hc
        clear hx
        go_wp2_with (go_at_fn g; refine hc.mono ?_; rintro e w1 ⟨rfl, rfl⟩)
        exact ⟨⟨k + 1, by omega, by go_num, Hs, trivial⟩, by simp [intOf]; omega⟩
      · have Hf := hid (idxA_hit hno.out Hm.out hx)
        rw [hx] at hc
        clear hx
        go_wp2_with (go_at_fn g; refine hc.mono ?_; rintro e w1 ⟨rfl, rfl⟩)
        refine bodyPost_ret (v := .int .i64 k) (by first | (simp [results, Tryz.results72, go_sem]; done) | (simp [results, Tryz.results72, go_sem, *]; done) | (simp [results, Tryz.results72, go_sem, World.cell?_setCell_same', *]; done) | (simp [results, Tryz.results72, go_sem]; first | exact ⟨rfl, rfl⟩ | rfl)) rfl ⟨by rw [← Hiv.out, Hf.out], rfl⟩
    · obtain rfl : k = n := by omega
      have Hf : Hid (idxA p l = -1) := hid (idxA_none (by have := hno.out; rwa [List.take_of_length_le (by rw [hlen.out]; exact Nat.le_refl _)] at this))
      go_wp2
      refine bodyPost_ret (v := .int .i64 (-1)) (by first | (simp [results, Tryz.results72, go_sem]; done) | (simp [results, Tryz.results72, go_sem, *]; done) | (simp [results, Tryz.results72, go_sem, World.cell?_setCell_same', *]; done) | (simp [results, Tryz.results72, go_sem]; first | exact ⟨rfl, rfl⟩ | rfl)) rfl ⟨by rw [← Hiv.out, Hf.out], rfl⟩
theorem conFI_any (g : Nat) (cb : Array Value) (eg : ∀ args w, (callFunc g args).run Tryz.prog w = .ok (.enter g args) w) (p : Int → Bool) (A : Option Addr) (n c : Nat) (l : List Int) (w : World) (hl : InS w w.heap.size A n l) (hn : n ≤ 1000000) (hp : ∀ x ∈ l, Calls Tryz.prog g (#[.int .i64 x] ++ cb) w fun e w' => e = .returned (.bool (p x)) ∧ w = w') :
    Calls Tryz.prog 79 #[.slice A n c, .func (.func g) #[] cb] w fun e w' => e = .returned (.bool (l.any p)) ∧ w = w' := by
  have hc := idxFI_any g cb eg p A n c l w hl hn hp
  have HD := hid (idxA_dec p l)
  obtain ⟨iv, hiv⟩ : ∃ iv, idxA p l = iv := ⟨_, rfl⟩
  obtain ⟨bv, hbv⟩ : ∃ bv, l.any p = bv := ⟨_, rfl⟩
  rw [hiv, hbv] at HD
  rw [hiv] at hc
  rw [hbv]
  clear hiv hbv hp hl
  go_enter Tryz.func79, Tryz.ntmps79
  go_wp2_with (go_at_call 72; refine hc.mono ?_; rintro e w1 ⟨rfl, rfl⟩)
  refine bodyPost_ret (v := .bool (decide (0 ≤ iv))) (by first | (simp [results, Tryz.results79, go_sem]; done) | (simp [results, Tryz.results79, go_sem, *]; done) | (simp [results, Tryz.results79, go_sem, World.cell?_setCell_same', *]; done) | (simp [results, Tryz.results79, go_sem]; first | exact ⟨rfl, rfl⟩ | rfl)) rfl ⟨by rw [HD.out], rfl⟩
/-! Ranges. -/
def inR (lo hi x : Int) : Bool := decide (lo ≤ x ∧ x ≤ hi)
theorem inR_t {lo hi x : Int} : inR lo hi x = true ↔ lo ≤ x ∧ x ≤ hi := by simp [inR]
theorem inR_f {lo hi x : Int} : inR lo hi x = false ↔ x < lo ∨ hi < x := by simp [inR]; omega
set_option maxHeartbeats 400000 in
theorem wclo_any (x lo hi : Int) (b1 b2 : Nat) (w : World) (c1 : w.cell? ⟨b1, 0, none⟩ = some (.int .i64 lo)) (c2 : w.cell? ⟨b2, 0, none⟩ = some (.int .i64 hi)) :
    Calls Tryz.prog 134 #[.int .i64 x, .pointer (some ⟨b1, 0, none⟩), .pointer (some ⟨b2, 0, none⟩)] w fun e w' => e = .returned (.bool (!inR lo hi x)) ∧ w = w' := by
  have e : Hid (inR lo hi x = decide (lo ≤ x ∧ x ≤ hi)) := rfl
  by_cases h1 : x < lo <;> by_cases h2 : hi < x
  all_goals
    go_enter Tryz.func134, Tryz.ntmps134
    go_wp2
    go_ret
    refine ⟨?_, rfl⟩
    rw [e.out]
    first | (rw [decide_eq_true (by omega)]; rfl) | (rw [decide_eq_false (by omega)]; rfl)
theorem any_not_all {α : Type} (p : α → Bool) (l : List α) : l.any (fun x => !p x) = !l.all p := by
  rw [Bool.eq_iff_iff]; simp
set_option maxRecDepth 100000 in
set_option maxHeartbeats 400000 in
theorem within_any (A : Option Addr) (n c : Nat) (l : List Int) (lo hi : Int) (w : World) (hl : InS w w.heap.size A n l) (hn : n ≤ 1000000) :
    Calls Tryz.prog 85 #[.int .i64 lo, .int .i64 hi, .slice A n c] w fun e w' => e = .returned (.bool (l.all (inR lo hi))) ∧ Below w.heap.size w w' := by
  have eg : ∀ args w, (callFunc 134 args).run Tryz.prog w = .ok (.enter 134 args) w := enters_of Tryz.func134 (by kernel_rfl) rfl
  have HN := hid (any_not_all (inR lo hi) l)
  have HE := hid eg
  have HL := hid hl
  clear eg hl
  obtain ⟨bv, hbv⟩ : ∃ bv, l.all (inR lo hi) = bv := ⟨_, rfl⟩
  rw [hbv] at HN ⊢
  clear hbv
  go_enter Tryz.func85, Tryz.ntmps85
  go_wp2_with (go_at_call 79; refine (conFI_any 134 #[.pointer (some ⟨w.heap.size, 0, none⟩), .pointer (some ⟨w.heap.size + 1, 0, none⟩)] HE.out (fun x => !inR lo hi x) A n c l _ (HL.out.below (by repeat' (first | with_reducible assumption | with_reducible exact Below.refl _ _ | refine Below.alloc ?_ ?_ _ | refine Below.setCell ?_ ?_ _ | refine Below.drew ?_ | refine below_drewN ?_ _ | (simp; done) | (simp; omega) | omega)) (by first | (simp; done) | (simp; omega) | omega)) hn (fun x _ => wclo_any x lo hi _ _ _ (by go_simp) (by go_simp))).mono ?_; rw [HN.out]; rintro e w1 ⟨rfl, rfl⟩)
  refine bodyPost_ret (v := .bool bv) (by first | (simp [results, Tryz.results85, go_sem]; done) | (simp [results, Tryz.results85, go_sem, *]; done) | (simp [results, Tryz.results85, go_sem, World.cell?_setCell_same', *]; done) | (simp [results, Tryz.results85, go_sem]; first | exact ⟨rfl, rfl⟩ | rfl)) rfl ⟨rfl, (by repeat' (first | with_reducible assumption | with_reducible exact Below.refl _ _ | refine Below.alloc ?_ ?_ _ | refine Below.setCell ?_ ?_ _ | refine Below.drew ?_ | refine below_drewN ?_ _ | (simp; done) | (simp; omega) | omega))⟩
theorem inS_lit1 {w : World} {g B : Nat} (x : Int) (hg : w.heap.size = g) (hB : g < B) : InS (w.alloc (.cells #[.int .i64 x] 3)) B (some ⟨g, 0, none⟩) 1 [x] := by
  refine ⟨rfl, fun hn => ⟨g, 0, rfl, hB, fun j u hu => ?_⟩⟩
  rw [(Blk.new' hg).cell, Nat.zero_add]
  simpa [cI] using hu
theorem all_one {p : Int → Bool} (x : Int) : [x].all p = p x := by simp
set_option maxRecDepth 10000 in
set_option maxHeartbeats 1600000 in
theorem rising_any (A : Option Addr) (n c : Nat) (l : List Int) (below : Int) (w : World) (hl : InS w w.heap.size A n l) (hn : n ≤ 1000000) (h0 : 0 ≤ below) (h1 : below ≤ 1000) :
    Calls Tryz.prog 43 #[.slice A n c, .int .i64 below] w fun e w' => e = .returned (.bool (isL below 0 l)) ∧ Below w.heap.size w w' := by
  have hlen := hid hl.len
  have HL := hid hl
  clear hl
  obtain ⟨bv, hbv⟩ : ∃ bv, isL below 0 l = bv := ⟨_, rfl⟩
  have Hbv := hid hbv
  rw [hbv]
  clear hbv
  go_enter Tryz.func43, Tryz.ntmps43
  go_wp2
  go_loopw [5, 10] (fun nx i wr => ∃ k : Nat, k ≤ n ∧ i = .int .i64 k ∧ nx = .int .i64 (lastL (l.take k) + 1) ∧ Hid (isL below 0 (l.take k) = true) ∧ Below w.heap.size w wr) (fun _ i _ => n - (intOf i).toNat)
  case atStart => exact ⟨0, by omega, rfl, rfl, hid (by simp [isL]), Below.refl _ _⟩
  case round =>
    obtain ⟨k, hk, rfl, rfl, hall, hbw⟩ := hrel
    have hszw := hbw.size
    obtain ⟨nx, hnx⟩ : ∃ nx, lastL (l.take k) + 1 = nx := ⟨_, rfl⟩
    have Hnx := hid hnx
    rw [hnx]
    clear hnx
    by_cases hlt : k < n
    · obtain ⟨b, off, x, rfl, hb, hm, c0⟩ := (HL.out.below hbw hszw).at_ hlt
      have Hm := hid hm
      have hlti : (k : Int) < n := by omega
      have z1 : IntKind.i64.wrap (below - 1) = below - 1 := IntWalk.i64_in _ (by omega)
      have Ht : Hid (isL below 0 (l.take (k + 1)) = inR nx (below - 1) x) := hid (by
        rw [isL_take hm, hall.out, Hnx.out, Bool.true_and]
        unfold inR
        congr 1
        rw [eq_iff_iff]; omega)
      clear hm
      cases hx : inR nx (below - 1) x
      · have Hx := hid ((all_one (p := inR nx (below - 1)) x).trans hx)
        have Hf : Hid (isL below 0 l = false) := hid (isL_off (by rw [Ht.out]; exact hx))
        clear hx
        go_wp2_with (go_at_call 85; refine (within_any _ 1 1 [x] nx (below - 1) _ (inS_lit1 x (by first | (simp; done) | (simp; omega) | omega) (by first | (simp; done) | (simp; omega) | omega)) (by omega)).mono ?_; rw [Hx.out]; rintro e w1 ⟨rfl, hb1⟩)
        refine bodyPost_ret (v := .bool false) (by first | (simp [results, Tryz.results43, go_sem]; done) | (simp [results, Tryz.results43, go_sem, *]; done) | (simp [results, Tryz.results43, go_sem, World.cell?_setCell_same', *]; done) | (simp [results, Tryz.results43, go_sem]; first | exact ⟨rfl, rfl⟩ | rfl)) rfl ⟨by rw [← Hbv.out, Hf.out], Below.trans (B := w.heap.size) (hbw.alloc hszw _) (hb1.mono (by simp; omega))⟩
      · have Hx := hid ((all_one (p := inR nx (below - 1)) x).trans hx)
        have Hs : Hid (isL below 0 (l.take (k + 1)) = true) := hid (by rw [Ht.out]; exact hx)
        have Hl : Hid (lastL (l.take (k + 1)) = x) := hid (lastL_take Hm.out)
        have hxr := inR_t.1 hx
        have z2 : IntKind.i64.wrap (x + 1) = x + 1 := by
          rcases Int.lt_or_le x (-1000000) with h5 | h5
          · exact absurd (isL_bd Hs.out x (by rw [List.take_add_one, Hm.out]; simp)).1 (by omega)
          · exact IntWalk.i64_in _ (by omega)
        clear hx
        go_wp2_with (go_at_call 85; refine (within_any _ 1 1 [x] nx (below - 1) _ (inS_lit1 x (by first | (simp; done) | (simp; omega) | omega) (by first | (simp; done) | (simp; omega) | omega)) (by omega)).mono ?_; rw [Hx.out]; rintro e w1 ⟨rfl, hb1⟩)
        exact ⟨⟨k + 1, by omega, by go_num, by rw [Hl.out], Hs, Below.trans (B := w.heap.size) (hbw.alloc hszw _) (hb1.mono (by simp; omega))⟩, by simp [intOf]; omega⟩
    · obtain rfl : k = n := by omega
      have Hf : Hid (isL below 0 l = true) := hid (by have := hall.out; rwa [List.take_of_length_le (by rw [hlen.out]; exact Nat.le_refl _)] at this)
      go_wp2
      refine bodyPost_ret (v := .bool true) (by first | (simp [results, Tryz.results43, go_sem]; done) | (simp [results, Tryz.results43, go_sem, *]; done) | (simp [results, Tryz.results43, go_sem, World.cell?_setCell_same', *]; done) | (simp [results, Tryz.results43, go_sem]; first | exact ⟨rfl, rfl⟩ | rfl)) rfl ⟨by rw [← Hbv.out, Hf.out], hbw⟩
end Go.Proofs.YtdgllpcfmkjfhaaGreat.Bl
/- Walks: lists of numbers: equal, has, index, sets (reference). -/
namespace Go.Proofs.YtdgllpcfmkjfhaaGreat.Bl
open Go.RowKit
attribute [local go_sem] Oper.semAt_some
theorem take_eq_succ {α : Type} {a b : List α} {k : Nat} {x : α} (h : a.take k = b.take k) (ha : a[k]? = some x) (hb : b[k]? = some x) : a.take (k + 1) = b.take (k + 1) := by
  rw [List.take_add_one, List.take_add_one, h, ha, hb]
theorem ne_of_at {α : Type} {a b : List α} {k : Nat} {x y : α} (ha : a[k]? = some x) (hb : b[k]? = some y) (h : x ≠ y) : a ≠ b := fun e => by
  rw [e, hb] at ha; exact h (Option.some.inj ha).symm
def eqI (a b : List Int) : Bool := decide (a = b)
theorem eqI_t {a b : List Int} : eqI a b = true ↔ a = b := by simp [eqI]
set_option maxRecDepth 10000 in
set_option maxHeartbeats 800000 in
theorem same_any (w : World) (A B : Option Addr) (n c m d : Nat) (a b : List Int) (ha : InS w w.heap.size A n a) (hb : InS w w.heap.size B m b) (hn : n ≤ 1000000) :
    Calls Tryz.prog 37 #[.slice A n c, .slice B m d] w fun e w' => e = .returned (.bool (eqI a b)) ∧ Below w.heap.size w w' := by
  have la := hid ha.len
  have lb := hid hb.len
  by_cases hnm : n = m
  · subst hnm
    have t0 : ((n : Int) != (n : Int)) = false := by simp
    go_enter Tryz.func37, Tryz.ntmps37
    go_wp2
    go_loopw [5] (fun i wr => ∃ k : Nat, k ≤ n ∧ i = .int .i64 k ∧ Hid (a.take k = b.take k) ∧ Below w.heap.size w wr) (fun i _ => n - (intOf i).toNat)
    case atStart => exact ⟨0, by omega, rfl, by simp [Hid], Below.refl _ _⟩
    case round =>
      obtain ⟨k, hk, rfl, heq, hbel⟩ := hrel
      have hsz := hbel.size
      by_cases hlt : k < n
      · obtain ⟨b1, o1, x, rfl, hb1, hx, c1⟩ := (ha.below hbel (Nat.le_refl _)).at_ hlt
        obtain ⟨b2, o2, y, rfl, hb2, hy, d1⟩ := (hb.below hbel (Nat.le_refl _)).at_ hlt
        have HX := hid hx
        have HY := hid hy
        have hlti : (k : Int) < n := by omega
        have hk0 : (0 : Int) ≤ k := by omega
        clear hx hy
        by_cases hxy : x = y
        · subst hxy
          have t1 : (x != x) = false := by simp
          go_wp2
          go_quiet (fail)
          go_wp2
          exact ⟨⟨k + 1, by omega, by go_num, take_eq_succ heq.out HX.out HY.out, below_drewN hbel _⟩, by simp [intOf]; omega⟩
        · have t1 : (x != y) = true := by simpa using hxy
          have hfin : Hid (eqI a b = false) := hid (by cases h : eqI a b; exact rfl; exact absurd (eqI_t.1 h) (ne_of_at HX.out HY.out hxy))
          clear hxy
          go_wp2
          go_quiet (fail)
          go_wp2
          go_ret
          exact ⟨by rw [hfin.out]; rfl, below_drewN hbel _⟩
      · obtain rfl : k = n := by omega
        have hfin : Hid (eqI a b = true) := hid (eqI_t.2 (by have := heq.out; rwa [List.take_of_length_le (by rw [la.out]; omega), List.take_of_length_le (by rw [lb.out]; omega)] at this))
        go_wp2
        go_ret
        exact ⟨by rw [hfin.out]; rfl, hbel⟩
  · have t0 : ((n : Int) != (m : Int)) = true := by simp; omega
    have hfin : Hid (eqI a b = false) := hid (by cases h : eqI a b; exact rfl; exact absurd (eqI_t.1 h) (fun e => hnm (by rw [← la.out, ← lb.out, e])))
    clear hnm
    go_enter Tryz.func37, Tryz.ntmps37
    go_wp2
    go_ret
    exact ⟨by rw [hfin.out]; rfl, Below.refl _ _⟩
theorem ints_any (w : World) (A B : Option Addr) (n c m d : Nat) (a b : List Int) (ha : InS w w.heap.size A n a) (hb : InS w w.heap.size B m b) (hn : n ≤ 1000000) :
    Calls Tryz.prog 11 #[.slice A n c, .slice B m d] w fun e w' => e = .returned (.bool (eqI a b)) ∧ Below w.heap.size w w' := by
  obtain ⟨bv, hbv⟩ : ∃ bv, eqI a b = bv := ⟨_, rfl⟩
  have Hbv := hid hbv
  rw [hbv]
  clear hbv
  go_enter Tryz.func11, Tryz.ntmps11
  go_wp2_with (first | (go_at_call 37; refine (same_any _ A B n c m d a b ha hb hn).mono ?_; rw [Hbv.out]; rintro e w1 ⟨rfl, hb1⟩))
  refine bodyPost_ret (v := .bool bv) (by first | (simp [results, Tryz.results11, go_sem]; done) | (simp [results, Tryz.results11, go_sem, *]; done) | (simp [results, Tryz.results11, go_sem, World.cell?_setCell_same', *]; done) | (simp [results, Tryz.results11, go_sem]; first | exact ⟨rfl, rfl⟩ | rfl)) rfl ⟨rfl, hb1⟩
theorem has_at {l : List Int} {k : Nat} {x : Int} (h : l[k]? = some x) : has l x = true := by
  unfold has
  exact List.any_eq_true.2 ⟨x, List.mem_of_getElem? h, by simp⟩
theorem has_no {l : List Int} {v : Int} (h : (l.take l.length).any (· == v) = false) : has l v = false := by rwa [List.take_length] at h
theorem any_succ {l : List Int} {k : Nat} {x v : Int} (h : (l.take k).any (· == v) = false) (hx : l[k]? = some x) (hne : x ≠ v) : (l.take (k + 1)).any (· == v) = false := by
  rw [List.take_add_one, hx, List.any_append, h]
  simp [hne]
set_option maxHeartbeats 800000 in
theorem index_any (A : Option Addr) (n c : Nat) (l : List Int) (v : Int) (w : World) (hl : InS w w.heap.size A n l) (hn : n ≤ 1000000) :
    Calls Tryz.prog 73 #[.slice A n c, .int .i64 v] w fun e w' => ∃ z : Int, e = .returned (.int .i64 z) ∧ (decide (0 ≤ z) = has l v) ∧ w = w' := by
  have hlen := hid hl.len
  go_enter Tryz.func73, Tryz.ntmps73
  go_wp2
  go_loopw [8] (fun i wr => ∃ k : Nat, k ≤ n ∧ i = .int .i64 k ∧ Hid ((l.take k).any (· == v) = false) ∧ w = wr) (fun i _ => n - (intOf i).toNat)
  case atStart => exact ⟨0, by omega, rfl, hid (by simp), rfl⟩
  case round =>
    obtain ⟨k, hk, rfl, hno, rfl⟩ := hrel
    by_cases hlt : k < n
    · obtain ⟨b, off, x, rfl, hb, hm, c0⟩ := hl.at_ hlt
      have Hm := hid hm
      have hlti : (k : Int) < n := by omega
      clear hm
      by_cases hx : x = v
      · subst hx
        have hf := hid (has_at Hm.out)
        go_wp2
        refine bodyPost_ret (v := .int .i64 k) (by first | (simp [results, Tryz.results73, go_sem]; done) | (simp [results, Tryz.results73, go_sem, *]; done) | (simp [results, Tryz.results73, go_sem, World.cell?_setCell_same', *]; done) | (simp [results, Tryz.results73, go_sem]; first | exact ⟨rfl, rfl⟩ | rfl)) rfl ⟨k, rfl, by rw [hf.out]; simp, rfl⟩
      · have dx : (v == x) = false := by simpa using fun e : v = x => hx e.symm
        have hs := hid (any_succ hno.out Hm.out hx)
        clear hx
        go_wp2
        exact ⟨⟨k + 1, by omega, by go_num, hs, trivial⟩, by simp [intOf]; omega⟩
    · obtain rfl : k = n := by omega
      have hf := hid (has_no (by rw [hlen.out]; exact hno.out) : has l v = false)
      go_wp2
      refine bodyPost_ret (v := .int .i64 (-1)) (by first | (simp [results, Tryz.results73, go_sem]; done) | (simp [results, Tryz.results73, go_sem, *]; done) | (simp [results, Tryz.results73, go_sem, World.cell?_setCell_same', *]; done) | (simp [results, Tryz.results73, go_sem]; first | exact ⟨rfl, rfl⟩ | rfl)) rfl ⟨-1, rfl, by rw [hf.out]; simp, rfl⟩
theorem contains_any (A : Option Addr) (n c : Nat) (l : List Int) (v : Int) (w : World) (hl : InS w w.heap.size A n l) (hn : n ≤ 1000000) :
    Calls Tryz.prog 31 #[.slice A n c, .int .i64 v] w fun e w' => e = .returned (.bool (has l v)) ∧ w = w' := by
  obtain ⟨bv, hbv⟩ : ∃ bv, has l v = bv := ⟨_, rfl⟩
  have Hbv := hid hbv
  rw [hbv]
  clear hbv
  go_enter Tryz.func31, Tryz.ntmps31
  go_wp2_with (first | (go_at_call 73; refine (index_any A n c l v _ hl hn).mono ?_; rw [Hbv.out]; rintro e w1 ⟨z, rfl, hz, rfl⟩))
  refine bodyPost_ret (v := .bool bv) (by first | (simp [results, Tryz.results31, go_sem]; done) | (simp [results, Tryz.results31, go_sem, *]; done) | (simp [results, Tryz.results31, go_sem, World.cell?_setCell_same', *]; done) | (simp [results, Tryz.results31, go_sem]; first | exact ⟨rfl, rfl⟩ | rfl)) rfl ⟨rfl, rfl⟩
theorem lastL_bd {below : Int} {l : List Int} {k : Nat} (h : isL below 0 (l.take k) = true) : -1 ≤ lastL (l.take k) ∧ (lastL (l.take k) < below ∨ lastL (l.take k) = -1) := by
  unfold lastL
  rw [List.getLastD_eq_getLast?]
  cases hl : (l.take k).getLast? with
  | none => simp
  | some x =>
    have := isL_bd h x (List.mem_of_getLast? hl)
    simp; omega
set_option maxHeartbeats 800000 in
theorem isSet_any (A : Option Addr) (n c : Nat) (l : List Int) (P : Int) (w : World) (hl : InS w w.heap.size A n l) (hn : n ≤ 1000000) :
    Calls Tryz.prog 12 #[.slice A n c, .int .i64 P] w fun e w' => e = .returned (.bool (isL P 0 l)) ∧ Below w.heap.size w w' := by
  have hlen := hid hl.len
  have HL := hid hl
  clear hl
  go_enter Tryz.func12, Tryz.ntmps12
  go_wp2
  go_loopw [5] (fun i wr => ∃ k : Nat, k ≤ n ∧ i = .int .i64 k ∧ Hid (isL P 0 (l.take k) = true) ∧ Below w.heap.size w wr) (fun i _ => n - (intOf i).toNat)
  case atStart => exact ⟨0, by omega, rfl, hid rfl, Below.refl _ _⟩
  case round =>
    obtain ⟨k, hk, rfl, hok, hbw⟩ := hrel
    have hszw := hbw.size
    by_cases hlt : k < n
    · obtain ⟨b, off, x, rfl, hb, hm, c0⟩ := (HL.out.below hbw (Nat.le_refl _)).at_ hlt
      have hlti : (k : Int) < n := by omega
      have hit := isL_take (below := P) hm
      rw [hok.out, Bool.true_and] at hit
      have hbd := lastL_bd hok.out
      by_cases hk0 : k = 0
      · subst hk0
        have hl0 : lastL (l.take 0) = -1 := by simp [lastL]
        rw [hl0] at hit
        rw [Nat.add_zero] at c0
        have hbr : b < wr.heap.size := by omega
        cases d1 : decide (x < 0)
        · have e1 := of_decide_eq_false d1
          cases d2 : decide (P ≤ x)
          · have e2 := of_decide_eq_false d2
            have hf := hid (hit.trans (decide_eq_true (by omega)))
            clear hm hit hbd hl0
            go_wp2
            refine wp_region_hd_all (fun W => Below wr.heap.size wr W) (by kernel_rfl) (by kernel_rfl) ((Below.refl _ _).drew) ?_
            iterate 29 (first | (refine wpHd_val (v := ?_) (by rfl) (fun W hW => ?_) ?_; rotate_left; (· obtain ⟨hcW, hfW⟩ := bcell hW; go_simp; with_reducible rfl); simp only [Act.put, List.setIfInBounds_toArray, List.set_cons_zero, List.set_cons_succ]) | (refine wpHd_not (by rfl) ?_; simp only [Act.put, List.setIfInBounds_toArray, List.set_cons_zero, List.set_cons_succ]))
            refine wpHd_nil ?_
            intro W9 hW9
            have hbw9 := hbw.trans (hW9.mono hszw)
            go_wp2
            exact ⟨⟨1, by omega, by go_num, hf, hbw9⟩, by simp [intOf]; omega⟩
          · have e2 := of_decide_eq_true d2
            have hf := hid (isL_off (hit.trans (decide_eq_false (by omega))))
            clear hm hit hbd hl0
            go_wp2
            refine wp_region_hd_all (fun W => Below wr.heap.size wr W) (by kernel_rfl) (by kernel_rfl) ((Below.refl _ _).drew) ?_
            iterate 29 (first | (refine wpHd_val (v := ?_) (by rfl) (fun W hW => ?_) ?_; rotate_left; (· obtain ⟨hcW, hfW⟩ := bcell hW; go_simp; with_reducible rfl); simp only [Act.put, List.setIfInBounds_toArray, List.set_cons_zero, List.set_cons_succ]) | (refine wpHd_not (by rfl) ?_; simp only [Act.put, List.setIfInBounds_toArray, List.set_cons_zero, List.set_cons_succ]))
            refine wpHd_nil ?_
            intro W9 hW9
            have hbw9 := hbw.trans (hW9.mono hszw)
            go_wp2
            refine bodyPost_ret (v := .bool false) (by first | (simp [results, Tryz.results12, go_sem]; done) | (simp [results, Tryz.results12, go_sem, *]; done) | (simp [results, Tryz.results12, go_sem, World.cell?_setCell_same', *]; done) | (simp [results, Tryz.results12, go_sem]; first | exact ⟨rfl, rfl⟩ | rfl)) rfl ⟨by rw [hf.out], hbw9⟩
        · have e1 := of_decide_eq_true d1
          have hf := hid (isL_off (hit.trans (decide_eq_false (by omega))))
          clear hm hit hbd hl0
          go_wp2
          refine wp_region_hd_all (fun W => Below wr.heap.size wr W) (by kernel_rfl) (by kernel_rfl) ((Below.refl _ _).drew) ?_
          iterate 29 (first | (refine wpHd_val (v := ?_) (by rfl) (fun W hW => ?_) ?_; rotate_left; (· obtain ⟨hcW, hfW⟩ := bcell hW; go_simp; with_reducible rfl); simp only [Act.put, List.setIfInBounds_toArray, List.set_cons_zero, List.set_cons_succ]) | (refine wpHd_not (by rfl) ?_; simp only [Act.put, List.setIfInBounds_toArray, List.set_cons_zero, List.set_cons_succ]))
          refine wpHd_nil ?_
          intro W9 hW9
          have hbw9 := hbw.trans (hW9.mono hszw)
          go_wp2
          refine bodyPost_ret (v := .bool false) (by first | (simp [results, Tryz.results12, go_sem]; done) | (simp [results, Tryz.results12, go_sem, *]; done) | (simp [results, Tryz.results12, go_sem, World.cell?_setCell_same', *]; done) | (simp [results, Tryz.results12, go_sem]; first | exact ⟨rfl, rfl⟩ | rfl)) rfl ⟨by rw [hf.out], hbw9⟩
      · obtain ⟨j, rfl⟩ : ∃ j, k = j + 1 := ⟨k - 1, by omega⟩
        obtain ⟨b', off', y, hAe, hb', hm', c0'⟩ := (HL.out.below hbw (Nat.le_refl _)).at_ (k := j) (by omega)
        cases hAe
        rw [lastL_take hm'] at hit hbd
        have zj : IntKind.i64.wrap (((j + 1 : Nat) : Int) - 1) = (j : Int) := by rw [Int.natCast_add, Int.natCast_one, Int.add_sub_cancel]; exact IntWalk.i64_in _ (by omega)
        have zj' : IntKind.i64.wrap ((j : Int) + 1 - 1) = (j : Int) := by rw [Int.add_sub_cancel]; exact IntWalk.i64_in _ (by omega)
        have zj2 : IntKind.i64.wrap (j : Int) = (j : Int) := IntWalk.i64_in _ (by omega)
        have hjlt : (j : Int) < n := by omega
        have hjp : (0 : Int) < ((j + 1 : Nat) : Int) := by omega
        have hjp2 : decide ((0 : Int) < ((j + 1 : Nat) : Int)) = true := decide_eq_true hjp
        have hjp3 : decide (0 < j + 1) = true := decide_eq_true (by omega)
        cases d1 : decide (x < 0)
        · have e1 := of_decide_eq_false d1
          cases d2 : decide (P ≤ x)
          · have e2 := of_decide_eq_false d2
            cases d3 : decide (x ≤ y)
            · have e3 := of_decide_eq_false d3
              have hf := hid (hit.trans (decide_eq_true (by omega)))
              clear hm hit hbd hm'
              go_wp2
              go_quiet (fail)
              go_wp2
              exact ⟨⟨j + 1 + 1, by omega, by go_num, hf, below_drewN hbw _⟩, by simp [intOf]; omega⟩
            · have e3 := of_decide_eq_true d3
              have hf := hid (isL_off (hit.trans (decide_eq_false (by omega))))
              clear hm hit hbd hm'
              go_wp2
              go_quiet (fail)
              go_wp2
              refine bodyPost_ret (v := .bool false) (by first | (simp [results, Tryz.results12, go_sem]; done) | (simp [results, Tryz.results12, go_sem, *]; done) | (simp [results, Tryz.results12, go_sem, World.cell?_setCell_same', *]; done) | (simp [results, Tryz.results12, go_sem]; first | exact ⟨rfl, rfl⟩ | rfl)) rfl ⟨by rw [hf.out], below_drewN hbw _⟩
          · have e2 := of_decide_eq_true d2
            have hf := hid (isL_off (hit.trans (decide_eq_false (by omega))))
            clear hm hit hbd hm'
            go_wp2
            go_quiet (fail)
            go_wp2
            refine bodyPost_ret (v := .bool false) (by first | (simp [results, Tryz.results12, go_sem]; done) | (simp [results, Tryz.results12, go_sem, *]; done) | (simp [results, Tryz.results12, go_sem, World.cell?_setCell_same', *]; done) | (simp [results, Tryz.results12, go_sem]; first | exact ⟨rfl, rfl⟩ | rfl)) rfl ⟨by rw [hf.out], below_drewN hbw _⟩
        · have e1 := of_decide_eq_true d1
          have hf := hid (isL_off (hit.trans (decide_eq_false (by omega))))
          clear hm hit hbd hm'
          go_wp2
          go_quiet (fail)
          go_wp2
          refine bodyPost_ret (v := .bool false) (by first | (simp [results, Tryz.results12, go_sem]; done) | (simp [results, Tryz.results12, go_sem, *]; done) | (simp [results, Tryz.results12, go_sem, World.cell?_setCell_same', *]; done) | (simp [results, Tryz.results12, go_sem]; first | exact ⟨rfl, rfl⟩ | rfl)) rfl ⟨by rw [hf.out], below_drewN hbw _⟩
    · obtain rfl : k = n := by omega
      have hf : Hid (isL P 0 l = true) := hid (by have := hok.out; rwa [List.take_of_length_le (by rw [hlen.out]; exact Nat.le_refl _)] at this)
      go_wp2
      refine bodyPost_ret (v := .bool true) (by first | (simp [results, Tryz.results12, go_sem]; done) | (simp [results, Tryz.results12, go_sem, *]; done) | (simp [results, Tryz.results12, go_sem, World.cell?_setCell_same', *]; done) | (simp [results, Tryz.results12, go_sem]; first | exact ⟨rfl, rfl⟩ | rfl)) rfl ⟨by rw [hf.out], hbw⟩
end Go.Proofs.YtdgllpcfmkjfhaaGreat.Bl
/- Rows that are copied into, or cleared. Over any program. -/
namespace Go.Proofs.YtdgllpcfmkjfhaaGreat.Bl
open Go.RowKit
theorem run_clear_sz {P : Program} (w : World) (dT ty elem : TypeId) (z : Value) (g o n c : Nat) (cur : Array Value) (t : TypeId)
    (hu : P.underlying dT = some (.slice elem)) (hz : (zeroValue elem).run P w = .ok z w) (hn : 0 < n)
    (hg : w.heap[g]? = some (.cells cur t (0, 0))) (cs : List Value) (hcs : (Builtin.zeroCells z.cells n).toList = cs) (hfit : o + cs.length ≤ cur.size) (h1 : ∀ v ∈ cs, v.oneCell' = true) :
    (Builtin.clear_ #[dT] ty #[.slice (some ⟨g, o, none⟩) n c]).run P w = .ok (.tuple #[]) (w.setRow g (cur.toList.take o ++ cs ++ cur.toList.drop (o + cs.length)).toArray) := by
  have hst := run_storeCells_at P g o t cs 0 cur w hg (by simpa using hfit) h1
  obtain ⟨m, rfl⟩ : ∃ m, n = m + 1 := ⟨n - 1, by omega⟩
  simp [Builtin.clear_, run_underlying hu, hz, hcs, hst]
theorem below_setRow {B g : Nat} {a w : World} (h : Below B a w) (hg : B ≤ g) (cs : Array Value) : Below B a (w.setRow g cs) :=
  ⟨h.os, h.tape, h.output, by rw [setRow_size]; exact h.size, fun k hk => (setRow_other w g k cs (by omega)).trans (h.block k hk)⟩

theorem clear_self {w : World} {g : Nat} {t : TypeId} {cs : Array Value} (h : Blk w g t cs) : w.setRow g cs = w := setRow_self _ _ _ _ _ h
end Go.Proofs.YtdgllpcfmkjfhaaGreat.Bl
/- Words over what a range-func keeps. Over any program. -/
namespace Go.Proofs.YtdgllpcfmkjfhaaGreat.Bl
open Go.RowKit
/-! Marks that a loop's rounds leave, each by a range over a function of its own. -/
end Go.Proofs.YtdgllpcfmkjfhaaGreat.Bl
/- An append to a slice without room, as one step: what comes lies in a new block. Over any program. -/
namespace Go.Proofs.YtdgllpcfmkjfhaaGreat.Bl
open Go.RowKit
section
variable {P : Program} (w : World)
def Full (w : World) (v : Value) (n : Nat) (xs : List Value) : Prop := (n = 0 ∧ v = .slice none 0 0) ∨ ∃ b, v = .slice (some b) n n ∧ ∀ j u, xs[j]? = some u → w.cell? (b.add j) = some u
theorem run_append_cap (base : Nat) (t ty e : TypeId) (i : TypeInfo) (z : Value) (size bytes : Nat) (ht : P.underlying t = some (.slice e)) (hi : P.info? e = some i) (hz : i.zero = some z)
    (hsize : i.size = size) (hby : i.bytes = bytes) (hzs : z.cells.size = size)
    (v : Value) (n : Nat) (xs : List Value) (hxs : xs.length = n * size) (hown : Full w v n xs)
    (a : Addr) (m c : Nat) (news : List Value) (hl : news.length = m * size) (hnews : ∀ j u, news[j]? = some u → w.cell? (a.add j) = some u)
    (hm : 0 < m) (h63 : n + m ≤ maxLen) (hbytes : (n + m) * bytes ≤ 140737488355328) (hbase : base ≤ w.heap.size) :
    ∃ cap w', (Builtin.append_ #[t, t] ty #[v, .slice (some a) m c]).run P w = .ok (.slice (some ⟨w.heap.size, 0, none⟩) (n + m) cap) w' ∧ w'.ownsRow base e size (.slice (some ⟨w.heap.size, 0, none⟩) (n + m) cap) (n + m) (xs ++ news) ∧ w.grownBy w' none ∧ w.heap.size < w'.heap.size := by
  subst hsize
  subst hby
  have hsmall : n + m ≤ 9223372036854775807 := by simp only [maxLen] at h63; omega
  have hlen : (xs ++ news).length = (n + m) * i.size := by rw [List.length_append, hxs, hl, Nat.add_mul]
  have grown : ∀ (old : Nat),
      (w.drew.alloc (.cells (xs.toArray ++ news.toArray ++ Builtin.zeroCells z.cells (grownCap w (n + m) old e - (n + m))) e)).ownsRow base e i.size
        (.slice (some ⟨w.heap.size, 0, none⟩) (n + m) (grownCap w (n + m) old e)) (n + m) (xs ++ news) ∧
      w.grownBy (w.drew.alloc (.cells (xs.toArray ++ news.toArray ++ Builtin.zeroCells z.cells (grownCap w (n + m) old e - (n + m))) e)) none ∧
      w.heap.size < (w.drew.alloc (.cells (xs.toArray ++ news.toArray ++ Builtin.zeroCells z.cells (grownCap w (n + m) old e - (n + m))) e)).heap.size := by
    intro old
    have hge := grownCap_ge w (n + m) old e
    have hcm : grownCap w (n + m) old e ≤ maxLen := grownCap_le_maxLen w (n + m) old e h63
    refine ⟨⟨hlen, .inr ⟨w.heap.size, _, _, rfl, hbase, heap_alloc_new w.drew _, hge, hcm, ?_, ?_⟩⟩, ⟨rfl, rfl, rfl, by simp, fun k hk _ => Below.heap_alloc w.drew _ k hk⟩, by simp⟩
    · simp only [Array.size_append, List.size_toArray, size_zeroCells, hzs, hxs, hl, ← Nat.add_mul]
      congr 1
      omega
    · simp only [Array.toList_append, List.append_assoc]
      rw [← List.append_assoc, ← hlen]
      exact List.take_left
  rcases hown with ⟨rfl, rfl⟩ | ⟨b, rfl, holds⟩
  · have hx : xs = [] := List.eq_nil_of_length_eq_zero (by simpa using hxs)
    subst hx
    have hr := run_append_nil (P := P) w t ty e i z ht hi hz a m c news hl hnews (by omega) (by omega) (by have hb := hbytes; simp only [Nat.zero_add] at hb; omega)
    have hgr := grown 0
    simp only [Nat.zero_add, List.nil_append, Array.empty_append] at hgr ⊢
    exact ⟨_, _, hr, hgr⟩
  · have hr := run_append_grow (P := P) w t ty e i z ht hi hz b n n xs hxs holds a m c news hl hnews (by omega) (by omega) (growslice_fits (by omega) hbytes)
    exact ⟨_, _, hr, grown n⟩
end
theorem wpList_append_cap {P : Program} {w : World} {ops : Array Oper} {rest : List Oper} {o : Oper} {a : Act} {Q : Exit → Act → World → Prop} (hgd : o.guard = none) (s x : Operand) (t : TypeId)
    (ho : o.op = .call { callee := .builtin .append, args := #[s, x], argTypes := #[t, t] })
    (base : Nat) (e : TypeId) (i : TypeInfo) (z : Value) (size bytes : Nat) (ht : P.underlying t = some (.slice e)) (hi : P.info? e = some i) (hz : i.zero = some z)
    (hsize : i.size = size) (hby : i.bytes = bytes) (hzs : z.cells.size = size)
    (v : Value) (n : Nat) (xs : List Value) (hs : a.eval s = v) (hxs : xs.length = n * size) (hown : Full w v n xs)
    (ad : Addr) (m c : Nat) (news : List Value) (hx : a.eval x = .slice (some ad) m c) (hl : news.length = m * size) (hnews : ∀ j u, news[j]? = some u → w.cell? (ad.add j) = some u)
    (hm : 0 < m) (h63 : n + m ≤ maxLen) (hbytes : (n + m) * bytes ≤ 140737488355328) (hbase : base ≤ w.heap.size)
    (h : ∀ cap w', w'.ownsRow base e size (.slice (some ⟨w.heap.size, 0, none⟩) (n + m) cap) (n + m) (xs ++ news) → w.grownBy w' none → w.heap.size < w'.heap.size → wpList P ops Q rest (a.put o.dst (.slice (some ⟨w.heap.size, 0, none⟩) (n + m) cap)) w') : wpList P ops Q (o :: rest) a w := by
  refine wpList_plain hgd fun K hK => ?_
  obtain ⟨cap, w', hr, h2, h3, h4⟩ := run_append_cap (P := P) w base t o.type e i z size bytes ht hi hz hsize hby hzs v n xs hxs hown ad m c news hl hnews hm h63 hbytes hbase
  unfold Oper.wp execOp
  simp only [ho, resolve, invoke, builtin, Sem.run_bind, Sem.run_pure, Result.andThen_ok, List.map_toArray, List.map_cons, List.map_nil, hs, hx, hr]
  exact hK _ _ (h cap w' h2 h3 h4)
theorem wpListIn_append_cap {F : Fence} {d : Nat} {P : Program} {w : World} {ops : Array Oper} {rest : List Oper} {o : Oper} {a : Act} {Q : Exit → Act → World → Prop} (hgd : o.guard = none) (s x : Operand) (t : TypeId)
    (ho : o.op = .call { callee := .builtin .append, args := #[s, x], argTypes := #[t, t] })
    (base : Nat) (e : TypeId) (i : TypeInfo) (z : Value) (size bytes : Nat) (ht : P.underlying t = some (.slice e)) (hi : P.info? e = some i) (hz : i.zero = some z)
    (hsize : i.size = size) (hby : i.bytes = bytes) (hzs : z.cells.size = size)
    (v : Value) (n : Nat) (xs : List Value) (hs : a.eval s = v) (hxs : xs.length = n * size) (hown : Full w v n xs)
    (ad : Addr) (m c : Nat) (news : List Value) (hx : a.eval x = .slice (some ad) m c) (hl : news.length = m * size) (hnews : ∀ j u, news[j]? = some u → w.cell? (ad.add j) = some u)
    (hm : 0 < m) (h63 : n + m ≤ maxLen) (hbytes : (n + m) * bytes ≤ 140737488355328) (hbase : base ≤ w.heap.size)
    (h : ∀ cap w', w'.ownsRow base e size (.slice (some ⟨w.heap.size, 0, none⟩) (n + m) cap) (n + m) (xs ++ news) → w.grownBy w' none → w.heap.size < w'.heap.size → wpListIn F d P ops Q rest (a.put o.dst (.slice (some ⟨w.heap.size, 0, none⟩) (n + m) cap)) w') : wpListIn F d P ops Q (o :: rest) a w := by
  refine wpListIn_plain hgd fun K hK' => ?_
  obtain ⟨cap, w', hrun, r1, r2, r3⟩ := run_append_cap (P := P) w base t o.type e i z size bytes ht hi hz hsize hby hzs v n xs hxs hown ad m c news hl hnews hm h63 hbytes hbase
  unfold Oper.wpIn
  refine ⟨?_, ?_⟩
  · simp [Oper.about, ho, resolve, Target.leads, Sem.run_pure]
  · rw [Oper.semAt_plain F _ _ (by rw [ho]; intro c hc'; cases hc')]
    simp [execOp, ho, resolve, invoke, builtin, hs, hx, hrun, Result.andThen]
    exact hK' _ _ (h cap w' r1 r2 r3)
theorem lupon_append_cap {P : Program} (w : World) {o : Oper} {a : Act} {K : Act → World → Prop} (s x : Operand) (t : TypeId)
    (ho : o.op = .call { callee := .builtin .append, args := #[s, x], argTypes := #[t, t] })
    (base : Nat) (e : TypeId) (i : TypeInfo) (z : Value) (size bytes : Nat) (ht : P.underlying t = some (.slice e)) (hi : P.info? e = some i) (hz : i.zero = some z)
    (hsize : i.size = size) (hby : i.bytes = bytes) (hzs : z.cells.size = size)
    (v : Value) (n : Nat) (xs : List Value) (hs : a.eval s = v) (hxs : xs.length = n * size) (hown : Full w v n xs)
    (ad : Addr) (m c : Nat) (news : List Value) (hx : a.eval x = .slice (some ad) m c) (hl : news.length = m * size) (hnews : ∀ j u, news[j]? = some u → w.cell? (ad.add j) = some u)
    (hm : 0 < m) (h63 : n + m ≤ maxLen) (hbytes : (n + m) * bytes ≤ 140737488355328) (hbase : base ≤ w.heap.size)
    (h : ∀ cap w', w'.ownsRow base e size (.slice (some ⟨w.heap.size, 0, none⟩) (n + m) cap) (n + m) (xs ++ news) → w.grownBy w' none → w.heap.size < w'.heap.size → K (a.put o.dst (.slice (some ⟨w.heap.size, 0, none⟩) (n + m) cap)) w') : LUpon P o a K ((execOp a.eval o).run P w) := by
  obtain ⟨cap, w', hr, h2, h3, h4⟩ := run_append_cap (P := P) w base t o.type e i z size bytes ht hi hz hsize hby hzs v n xs hxs hown ad m c news hl hnews hm h63 hbytes hbase
  unfold execOp
  simp only [ho, resolve, invoke, builtin, Sem.run_bind, Sem.run_pure, Result.andThen_ok, List.map_toArray, List.map_cons, List.map_nil, hs, hx, hr]
  exact h cap w' h2 h3 h4
theorem full_of_ins {w : World} {B n : Nat} {A : Option Addr} {l : List Int} (h : InS w B A n l) (h0 : n = 0 → A = none) : Full w (.slice A n n) n (l.flatMap cI) := by
  rcases Nat.eq_zero_or_pos n with h1 | h1
  · subst h1; rw [h0 rfl]; exact .inl ⟨rfl, rfl⟩
  · obtain ⟨b, off, e, _, hc⟩ := h.2 h1
    subst e
    exact .inr ⟨_, rfl, fun j u hu => by rw [add_at]; exact hc j u hu⟩
theorem below_grown0 {B : Nat} {a w w' : World} (h : Below B a w) (hg : w.grownBy w' none) (hB : B ≤ a.heap.size) : Below B a w' := h.trans ⟨hg.os, hg.tape, hg.output, hg.size, fun k hk => hg.block k (by have := h.size; omega) (by simp)⟩
end Go.Proofs.YtdgllpcfmkjfhaaGreat.Bl
/- Walks: marks: an array of eight; a set marked, listed, held. -/
namespace Go.Proofs.YtdgllpcfmkjfhaaGreat.Bl
open Go.RowKit Go.Shelf
attribute [local go_sem] Oper.semAt_some
def bv (b i : Nat) : Value := .int .i64 (if b.testBit i then 1 else 0)
@[go_sem] theorem run_store_bv (P : Program) (a : Addr) (b i : Nat) (m : Mode) (w : World) : (store a (bv b i) m).run P w = stored P w a (bv b i) m := run_store P w a _ m rfl
def mkB (b : Nat) : Array Value := #[bv b 0, bv b 1, bv b 2, bv b 3, bv b 4, bv b 5, bv b 6, bv b 7]
theorem bv_t {b i : Nat} (h : b.testBit i = true) : bv b i = .int .i64 1 := by unfold bv; rw [h]; rfl
theorem bv_f {b i : Nat} (h : b.testBit i = false) : bv b i = .int .i64 0 := by unfold bv; rw [h]; rfl
theorem mkB_at {b k : Nat} (h : k < 8) : (mkB b)[k]? = some (bv b k) := by
  have hc : k = 0 ∨ k = 1 ∨ k = 2 ∨ k = 3 ∨ k = 4 ∨ k = 5 ∨ k = 6 ∨ k = 7 := by omega
  rcases hc with rfl | rfl | rfl | rfl | rfl | rfl | rfl | rfl <;> rfl
theorem mkB_put {b c n : Nat} {v : Bool} (hn : n < 8) (h : ∀ i, c.testBit i = if i = n then v else b.testBit i) : (mkB b).setIfInBounds n (.int .i64 (if v then 1 else 0)) = mkB c := by
  have e : ∀ i : Nat, bv c i = if i = n then .int .i64 (if v then 1 else 0) else bv b i := fun i => by
    unfold bv
    rw [h]
    split <;> rfl
  have hc : n = 0 ∨ n = 1 ∨ n = 2 ∨ n = 3 ∨ n = 4 ∨ n = 5 ∨ n = 6 ∨ n = 7 := by omega
  unfold mkB
  simp only [e]
  rcases hc with rfl | rfl | rfl | rfl | rfl | rfl | rfl | rfl <;> rfl
theorem or_test (b n i : Nat) : (b ||| 2 ^ n).testBit i = if i = n then true else b.testBit i := by
  rw [Nat.testBit_or, Nat.testBit_two_pow]
  by_cases e : n = i
  · simp [e]
  · simp [e, Ne.symm e]
theorem mkB_on {b n : Nat} (hn : n < 8) : (mkB b).setIfInBounds n (.int .i64 1) = mkB (b ||| 2 ^ n) := mkB_put (v := true) hn (or_test b n)
theorem mkB_take {l : List Int} {k n : Nat} (h : l[k]? = some (n : Int)) (hn : n < 8) : (mkB (bitsL (l.take k))).setIfInBounds n (.int .i64 1) = mkB (bitsL (l.take (k + 1))) := by
  rw [mkB_on hn, bitsL_take h, Int.toNat_natCast]
theorem zero8a : (Builtin.zeroCells (#[.int .i64 0]) 8).toList = [.int .i64 0, .int .i64 0, .int .i64 0, .int .i64 0, .int .i64 0, .int .i64 0, .int .i64 0, .int .i64 0] := by kernel_rfl
theorem zero8 : (Builtin.zeroCells (#[.int .i64 0]) 8).toList = (mkB 0).toList := zero8a.trans rfl
theorem mkB_size (b : Nat) : (mkB b).size = 8 := rfl
set_option maxRecDepth 10000 in
set_option maxHeartbeats 1600000 in
theorem marked_any (A : Option Addr) (n c : Nat) (l : List Int) (w : World) (hl : InS w w.heap.size A n l) (hn : n ≤ 1000000) (hb : ∀ x ∈ l, 0 ≤ x ∧ x < 8) :
    Calls Tryz.prog 36 #[.slice A n c] w fun e w' => e = .returned (.agg (mkB (bitsL l))) ∧ Below w.heap.size w w' := by
  have hlen := hid hl.len
  have HL := hid hl
  have Hb := hid hb
  clear hl hb
  obtain ⟨W2, hW2⟩ : ∃ W2, (w.alloc (.cells #[.int .i64 0, .int .i64 0, .int .i64 0, .int .i64 0, .int .i64 0, .int .i64 0, .int .i64 0, .int .i64 0] 74)).alloc (.cells #[.int .i64 0, .int .i64 0, .int .i64 0, .int .i64 0, .int .i64 0, .int .i64 0, .int .i64 0, .int .i64 0] 74) = W2 := ⟨_, rfl⟩
  have b2 : Blk W2 w.heap.size 74 (mkB 0) := by rw [← hW2]; exact (Blk.new' rfl).alloc _
  have b3 : Blk W2 (w.heap.size + 1) 74 (mkB 0) := by rw [← hW2]; exact Blk.new' (by simp)
  have hb2 : Below w.heap.size w W2 := by rw [← hW2]; exact ((Below.refl _ _).alloc (Nat.le_refl _) _).alloc (by simp) _
  have hcl := run_clear_sz (P := Tryz.prog) W2 34 0 3 (.int .i64 0) (w.heap.size + 1) 0 8 8 (mkB 0) 74 (by kernel_rfl) (by go_simp) (by omega) b3 (mkB 0).toList zero8 (by simp [mkB]) (by
    intro u hu
    simp only [mkB, List.mem_cons, List.not_mem_nil, or_false] at hu
    rcases hu with rfl | rfl | rfl | rfl | rfl | rfl | rfl | rfl <;> rfl)
  rw [show ((mkB 0).toList.take 0 ++ (mkB 0).toList ++ (mkB 0).toList.drop (0 + (mkB 0).toList.length)).toArray = mkB 0 from rfl, clear_self b3] at hcl
  have l2 := b2.lt
  have l3 := b3.lt
  go_enter Tryz.func36, Tryz.ntmps36
  go_wp2
  clear hcl hW2
  go_loopw [9] (fun i wr => ∃ k : Nat, k ≤ n ∧ i = .int .i64 k ∧ Blk wr (w.heap.size + 1) 74 (mkB (bitsL (l.take k))) ∧ Blk wr w.heap.size 74 (mkB 0) ∧ Below w.heap.size w wr) (fun i _ => n - (intOf i).toNat)
  case atStart => exact ⟨0, by omega, rfl, b3, b2, hb2⟩
  case round =>
    clear b2 b3 hb2 l2 l3
    obtain ⟨k, hk, rfl, b3, b2, hbw⟩ := hrel
    have hszw := hbw.size
    have l2 := b2.lt
    have l3 := b3.lt
    by_cases hlt : k < n
    · obtain ⟨b, off, x, rfl, hb1, hm, c0⟩ := (HL.out.below hbw (Nat.le_refl _)).at_ hlt
      obtain ⟨x0, x1⟩ := Hb.out x (List.mem_of_getElem? hm)
      obtain ⟨y, rfl⟩ : ∃ y : Nat, x = y := ⟨x.toNat, by omega⟩
      have hy8 : y < 8 := by omega
      have hy8i : (y : Int) < 8 := by omega
      have hst := hid (mkB_take hm hy8)
      have hlti : (k : Int) < n := by omega
      have c1 := b3.cell y
      have f1 := b3.frozen y
      rw [Array.getElem?_eq_getElem (by rw [mkB_size]; exact hy8)] at c1
      clear hm
      go_wp2
      refine ⟨⟨k + 1, by omega, by go_num, by rw [← hst.out]; exact b3.set_ y _, b2.far (by simp) _, hbw.setCell (by simp) _⟩, by simp [intOf]; omega⟩
    · obtain rfl : n = k := by omega
      have hf : Hid (l.take n = l) := hid (List.take_of_length_le (by rw [hlen.out]; exact Nat.le_refl _))
      rw [hf.out] at b3
      have c0 : wr.cell? ⟨w.heap.size + 1, 0, none⟩ = some (bv (bitsL l) 0) := b3.cell 0
      have c1 : wr.cell? ⟨w.heap.size + 1, 1, none⟩ = some (bv (bitsL l) 1) := b3.cell 1
      have c2 : wr.cell? ⟨w.heap.size + 1, 2, none⟩ = some (bv (bitsL l) 2) := b3.cell 2
      have c3 : wr.cell? ⟨w.heap.size + 1, 3, none⟩ = some (bv (bitsL l) 3) := b3.cell 3
      have c4 : wr.cell? ⟨w.heap.size + 1, 4, none⟩ = some (bv (bitsL l) 4) := b3.cell 4
      have c5 : wr.cell? ⟨w.heap.size + 1, 5, none⟩ = some (bv (bitsL l) 5) := b3.cell 5
      have c6 : wr.cell? ⟨w.heap.size + 1, 6, none⟩ = some (bv (bitsL l) 6) := b3.cell 6
      have c7 : wr.cell? ⟨w.heap.size + 1, 7, none⟩ = some (bv (bitsL l) 7) := b3.cell 7
      have d0 : wr.cell? ⟨w.heap.size, 0, none⟩ = some (bv 0 0) := b2.cell 0
      have f0 := b2.frozen 0
      have d1 : wr.cell? ⟨w.heap.size, 1, none⟩ = some (bv 0 1) := b2.cell 1
      have f1 := b2.frozen 1
      have d2 : wr.cell? ⟨w.heap.size, 2, none⟩ = some (bv 0 2) := b2.cell 2
      have f2 := b2.frozen 2
      have d3 : wr.cell? ⟨w.heap.size, 3, none⟩ = some (bv 0 3) := b2.cell 3
      have f3 := b2.frozen 3
      have d4 : wr.cell? ⟨w.heap.size, 4, none⟩ = some (bv 0 4) := b2.cell 4
      have f4 := b2.frozen 4
      have d5 : wr.cell? ⟨w.heap.size, 5, none⟩ = some (bv 0 5) := b2.cell 5
      have f5 := b2.frozen 5
      have d6 : wr.cell? ⟨w.heap.size, 6, none⟩ = some (bv 0 6) := b2.cell 6
      have f6 := b2.frozen 6
      have d7 : wr.cell? ⟨w.heap.size, 7, none⟩ = some (bv 0 7) := b2.cell 7
      have f7 := b2.frozen 7
      have g0 := hbw.setCell (p := (⟨w.heap.size, 0, none⟩ : Addr)) (by simp) (bv (bitsL l) 0)
      have g1 := g0.setCell (p := (⟨w.heap.size, 1, none⟩ : Addr)) (by simp) (bv (bitsL l) 1)
      have g2 := g1.setCell (p := (⟨w.heap.size, 2, none⟩ : Addr)) (by simp) (bv (bitsL l) 2)
      have g3 := g2.setCell (p := (⟨w.heap.size, 3, none⟩ : Addr)) (by simp) (bv (bitsL l) 3)
      have g4 := g3.setCell (p := (⟨w.heap.size, 4, none⟩ : Addr)) (by simp) (bv (bitsL l) 4)
      have g5 := g4.setCell (p := (⟨w.heap.size, 5, none⟩ : Addr)) (by simp) (bv (bitsL l) 5)
      have g6 := g5.setCell (p := (⟨w.heap.size, 6, none⟩ : Addr)) (by simp) (bv (bitsL l) 6)
      have g7 := g6.setCell (p := (⟨w.heap.size, 7, none⟩ : Addr)) (by simp) (bv (bitsL l) 7)
      clear b2 b3 g0 g1 g2 g3 g4 g5 g6
      go_wp2
      refine bodyPost_ret (v := .agg (mkB (bitsL l))) (by simp [results, Tryz.results36, go_sem, World.cell?_setCell_same', d0, d1, d2, d3, d4, d5, d6, d7]; rfl) rfl ⟨rfl, g7⟩
end Go.Proofs.YtdgllpcfmkjfhaaGreat.Bl
/- append of what a slice value reads as, nil or not, at a guarded operation, too. -/
namespace Go.Proofs.YtdgllpcfmkjfhaaGreat.Bl
open Go.RowKit
theorem wpList_wanted {P : Program} {w : World} {ops : Array Oper} {rest : List Oper} {o : Oper} {a : Act} {Q : Exit → Act → World → Prop} (hw : Region.wanted o (yielded ops a.tmps) = true)
    (h : ∀ K : Act → World → Prop, (∀ a w, wpList P ops Q rest a w → K a w) → o.wp P a w K Q) : wpList P ops Q (o :: rest) a w :=
  wpList_step fun K hK => by simp only [hw, if_true]; exact h K hK
theorem wpList_append_srcG {P : Program} {w : World} {ops : Array Oper} {rest : List Oper} {o : Oper} {a : Act} {Q : Exit → Act → World → Prop} (hw : Region.wanted o (yielded ops a.tmps) = true) (s x : Operand) (t : TypeId)
    (ho : o.op = .call { callee := .builtin .append, args := #[s, x], argTypes := #[t, t] })
    (base : Nat) (e : TypeId) (i : TypeInfo) (z : Value) (size bytes : Nat) (ht : P.underlying t = some (.slice e)) (hi : P.info? e = some i) (hz : i.zero = some z)
    (hsize : i.size = size) (hby : i.bytes = bytes) (hzs : z.cells.size = size) (hsz : 0 < size)
    (v : Value) (n : Nat) (xs : List Value) (hs : a.eval s = v) (hown : w.ownsRow base e size v n xs)
    (A : Option Addr) (m c : Nat) (news : List Value) (hx : a.eval x = .slice A m c) (B : Nat) (hS : Sl w B size A m news) (hA : A = none → m = 0 ∧ c = 0) (h1 : ∀ u ∈ news, u.oneCell' = true)
    (h63 : n + m ≤ maxLen) (hbytes : (n + m) * bytes ≤ 140737488355328) (hbase : base ≤ w.heap.size)
    (h : ∀ v' w', w'.ownsRow base e size v' (n + m) (xs ++ news) → w.grownBy w' v.ownBlock → (v' = .slice none 0 0 ↔ v = .slice none 0 0 ∧ m = 0) → (v'.ownBlock = v.ownBlock ∨ v'.ownBlock = some w.heap.size) → wpList P ops Q rest (a.put o.dst v') w') :
    wpList P ops Q (o :: rest) a w := by
  refine wpList_wanted hw fun K hK => ?_
  cases A with
  | none =>
    obtain ⟨rfl, rfl⟩ := hA rfl
    have hn : news = [] := List.eq_nil_of_length_eq_zero (by rw [hS.1]; omega)
    subst hn
    have hrun := run_append_owned_none (P := P) (w := w) base t o.type e i size ht hi v n xs hown
    unfold Oper.wp
    simp [execOp, ho, resolve, invoke, builtin, hs, hx, hrun, Result.andThen]
    exact hK _ _ (h v w (by rw [List.append_nil, Nat.add_zero]; exact hown) ⟨rfl, rfl, rfl, Nat.le_refl _, fun _ _ _ => rfl⟩ (by simp) (.inl rfl))
  | some ad =>
    have hnews : ∀ j u, news[j]? = some u → w.cell? (ad.add j) = some u := fun j u hj => by
      have hm : 0 < m := by
        rcases Nat.eq_zero_or_pos m with h0 | h0
        · have := hS.1; rw [h0, Nat.zero_mul] at this
          rw [List.eq_nil_of_length_eq_zero this] at hj; simp at hj
        · exact h0
      obtain ⟨b, off, hA', -, hc⟩ := hS.2 hm
      cases hA'
      rw [add_at]
      exact hc j u hj
    obtain ⟨v', w', hr, h2, h3, h4, h5⟩ := run_append_own_at (P := P) w base t o.type e i z size bytes ht hi hz hsize hby hzs hsz v n xs hown ad m c news hS.1 hnews h1 h63 hbytes hbase
    unfold Oper.wp execOp
    simp only [ho, resolve, invoke, builtin, Sem.run_bind, Sem.run_pure, Result.andThen_ok, List.map_toArray, List.map_cons, List.map_nil, hs, hx, hr]
    exact hK _ _ (h v' w' h2 h3 h4 h5)
end Go.Proofs.YtdgllpcfmkjfhaaGreat.Bl
/- Walks: marks: closures over them; a set held; the set of marks. -/
namespace Go.Proofs.YtdgllpcfmkjfhaaGreat.Bl
open Go.RowKit Go.Shelf
attribute [local go_sem] Oper.semAt_some
theorem info_parts' {t : TypeId} {a : Option Value} {b c : Nat} (h : (Tryz.prog.info? t).map (fun i => (i.zero, i.size, i.bytes)) = some (a, b, c)) : ∃ i, Tryz.prog.info? t = some i ∧ i.zero = a ∧ i.size = b ∧ i.bytes = c := by
  cases hi : Tryz.prog.info? t with
  | none => rw [hi] at h; cases h
  | some i => rw [hi] at h; simp only [Option.map_some, Option.some.injEq, Prod.mk.injEq] at h; exact ⟨i, rfl, h.1, h.2.1, h.2.2⟩
theorem infoI : (Tryz.prog.info? 3).map (fun i => (i.zero, i.size, i.bytes)) = some (some (.int .i64 0), 1, 8) := by kernel_rfl
theorem infoL : (Tryz.prog.info? 34).map (fun i => (i.zero, i.size, i.bytes)) = some (some (.slice none 0 0), 1, 24) := by kernel_rfl
theorem underL : Tryz.prog.underlying 34 = some (.slice 3) := by kernel_rfl
theorem underLL : Tryz.prog.underlying 29 = some (.slice 34) := by kernel_rfl
def inB (b : Nat) (x : Int) : Bool := b.testBit x.toNat
set_option maxHeartbeats 400000 in
theorem missed1_any (x : Int) (b g : Nat) (w : World) (hb : Blk w g 74 (mkB b)) (h0 : 0 ≤ x) (h8 : x < 8) :
    Calls Tryz.prog 80 #[.int .i64 x, .pointer (some ⟨g, 0, none⟩)] w fun e w' => e = .returned (.bool (inB b x)) ∧ w = w' := by
  obtain ⟨k, rfl⟩ : ∃ k : Nat, x = k := ⟨x.toNat, by omega⟩
  have hk : k < 8 := by omega
  have hki : (k : Int) < 8 := by omega
  have c0 := (hb.cell k).trans (mkB_at hk)
  have hp : Hid (inB b (k : Int) = b.testBit k) := rfl
  have lg := hb.lt
  cases ht : b.testBit k
  · rw [bv_f ht] at c0
    rw [ht] at hp
    clear ht hb
    go_enter Tryz.func80, Tryz.ntmps80
    go_wp2
    go_ret
    exact ⟨by rw [hp.out]; rfl, rfl⟩
  · rw [bv_t ht] at c0
    rw [ht] at hp
    clear ht hb
    go_enter Tryz.func80, Tryz.ntmps80
    go_wp2
    go_ret
    exact ⟨by rw [hp.out]; rfl, rfl⟩
set_option maxHeartbeats 400000 in
theorem marksHas1_any (x : Int) (b g : Nat) (w : World) (hb : Blk w g 74 (mkB b)) (h0 : 0 ≤ x) (h8 : x < 8) :
    Calls Tryz.prog 174 #[.int .i64 x, .pointer (some ⟨g, 0, none⟩)] w fun e w' => e = .returned (.bool (!inB b x)) ∧ w = w' := by
  obtain ⟨k, rfl⟩ : ∃ k : Nat, x = k := ⟨x.toNat, by omega⟩
  have hk : k < 8 := by omega
  have hki : (k : Int) < 8 := by omega
  have c0 := (hb.cell k).trans (mkB_at hk)
  have hp : Hid (inB b (k : Int) = b.testBit k) := rfl
  have lg := hb.lt
  cases ht : b.testBit k
  · rw [bv_f ht] at c0
    rw [ht] at hp
    clear ht hb
    go_enter Tryz.func174, Tryz.ntmps174
    go_wp2
    go_ret
    exact ⟨by rw [hp.out]; rfl, rfl⟩
  · rw [bv_t ht] at c0
    rw [ht] at hp
    clear ht hb
    go_enter Tryz.func174, Tryz.ntmps174
    go_wp2
    go_ret
    exact ⟨by rw [hp.out]; rfl, rfl⟩
theorem load8 {b g : Nat} {t : TypeId} {w : World} (hb : Blk w g t (mkB b)) : w.cell? ⟨g, 0, none⟩ = some (bv b 0) ∧ w.cell? ⟨g, 1, none⟩ = some (bv b 1) ∧ w.cell? ⟨g, 2, none⟩ = some (bv b 2) ∧ w.cell? ⟨g, 3, none⟩ = some (bv b 3) ∧ w.cell? ⟨g, 4, none⟩ = some (bv b 4) ∧ w.cell? ⟨g, 5, none⟩ = some (bv b 5) ∧ w.cell? ⟨g, 6, none⟩ = some (bv b 6) ∧ w.cell? ⟨g, 7, none⟩ = some (bv b 7) :=
  ⟨hb.cell 0, hb.cell 1, hb.cell 2, hb.cell 3, hb.cell 4, hb.cell 5, hb.cell 6, hb.cell 7⟩
set_option maxRecDepth 100000 in
set_option maxHeartbeats 800000 in
theorem marksHas_any (b : Nat) (A : Option Addr) (n c : Nat) (l : List Int) (w : World) (hl : InS w w.heap.size A n l) (hn : n ≤ 1000000) (hbd : ∀ x ∈ l, 0 ≤ x ∧ x < 8) :
    Calls Tryz.prog 126 #[.agg (mkB b), .slice A n c] w fun e w' => e = .returned (.bool (l.all (inB b))) ∧ Below w.heap.size w w' := by
  have eg : ∀ args w, (callFunc 174 args).run Tryz.prog w = .ok (.enter 174 args) w := enters_of Tryz.func174 (by kernel_rfl) rfl
  have HN := hid (any_not_all (inB b) l)
  obtain ⟨bw, hbw⟩ : ∃ bw, l.all (inB b) = bw := ⟨_, rfl⟩
  rw [hbw] at HN ⊢
  have hc := conFI_any 174 #[.pointer (some ⟨w.heap.size, 0, none⟩)] eg (fun x => !inB b x) A n c l (w.alloc (.cells (mkB b) 74)) (hl.below (by repeat' (first | with_reducible assumption | with_reducible exact Below.refl _ _ | refine Below.alloc ?_ ?_ _ | refine Below.setCell ?_ ?_ _ | refine Below.drew ?_ | refine below_drewN ?_ _ | (simp; done) | (simp; omega) | omega)) (by first | (simp; done) | (simp; omega) | omega)) hn (fun x hx => marksHas1_any x b _ _ (Blk.new' rfl) (hbd x hx).1 (hbd x hx).2)
  rw [HN.out] at hc
  unfold mkB at hc ⊢
  clear hbw eg hbd hl
  go_enter Tryz.func126, Tryz.ntmps126
  go_wp2_with (go_at_call 79; refine hc.mono ?_; rintro e w1 ⟨rfl, rfl⟩)
  refine bodyPost_ret (v := .bool bw) (by first | (simp [results, Tryz.results126, go_sem]; done) | (simp [results, Tryz.results126, go_sem, *]; done) | (simp [results, Tryz.results126, go_sem, World.cell?_setCell_same', *]; done) | (simp [results, Tryz.results126, go_sem]; first | exact ⟨rfl, rfl⟩ | rfl)) rfl ⟨rfl, (by repeat' (first | with_reducible assumption | with_reducible exact Below.refl _ _ | refine Below.alloc ?_ ?_ _ | refine Below.setCell ?_ ?_ _ | refine Below.drew ?_ | refine below_drewN ?_ _ | (simp; done) | (simp; omega) | omega))⟩
theorem index_bv (b : Nat) {k : Nat} (hk : k < 8) (W : World) : (Instr.index 74 (.agg #[bv b 0, bv b 1, bv b 2, bv b 3, bv b 4, bv b 5, bv b 6, bv b 7]) (.int .i64 k)).run Tryz.prog W = .ok (.int .i64 (if b.testBit k then 1 else 0)) W := by
  have hc : k = 0 ∨ k = 1 ∨ k = 2 ∨ k = 3 ∨ k = 4 ∨ k = 5 ∨ k = 6 ∨ k = 7 := by omega
  rcases hc with rfl | rfl | rfl | rfl | rfl | rfl | rfl | rfl <;> first | (simp [Instr.index, bv, go_sem]; done) | rfl
def LiNew (w : World) (A : Option Addr) (n c : Nat) (l : List Int) (w' : World) : Prop := w'.ownsRow w.heap.size 3 1 (.slice A n c) n (l.flatMap cI) ∧ n ≤ c ∧ (n = 0 → A = none ∧ c = 0) ∧ InS w' w'.heap.size A n l ∧ (∀ b off, A = some ⟨b, off, none⟩ → w.heap.size ≤ b) ∧ Below w.heap.size w w'
set_option maxRecDepth 10000 in
set_option maxHeartbeats 1600000 in
theorem list_any (b : Nat) (w : World) : Calls Tryz.prog 87 #[.agg (mkB b)] w fun e w' => ∃ A n c, e = .returned (.slice A n c) ∧ LiNew w A n c (listed b 8) w' := by
  obtain ⟨i0, hi0, hi1, hi2, hi3⟩ := info_parts' infoI
  have I0 := hid hi0; have I1 := hid hi1; have I2 := hid hi2; have I3 := hid hi3
  clear hi0 hi1 hi2 hi3
  obtain ⟨W2, hW2⟩ : ∃ W2, w.alloc (.cells (mkB b) 74) = W2 := ⟨_, rfl⟩
  have b2 : Blk W2 w.heap.size 74 (mkB b) := by rw [← hW2]; exact Blk.new' rfl
  have hb2 : Below w.heap.size w W2 := by rw [← hW2]; exact (Below.refl _ _).alloc (Nat.le_refl _) _
  have l2 := b2.lt
  obtain ⟨d0, d1, d2, d3, d4, d5, d6, d7⟩ := load8 b2
  unfold mkB at hW2 ⊢
  go_enter Tryz.func87, Tryz.ntmps87
  go_wp2
  clear d0 d1 d2 d3 d4 d5 d6 d7 hW2
  go_loopw [3, 7] (fun v i wr => ∃ (k ln cp : Nat) (A' : Option Addr), k ≤ 8 ∧ i = .int .i64 k ∧ v = .slice A' ln cp ∧ ln ≤ cp ∧ ln ≤ k ∧ Hid (wr.ownsRow w.heap.size 3 1 (.slice A' ln cp) ln ((listed b k).flatMap cI)) ∧ Hid (InS wr wr.heap.size A' ln (listed b k)) ∧ (ln = 0 → A' = none ∧ cp = 0) ∧ Hid (∀ b off, A' = some ⟨b, off, none⟩ → w.heap.size ≤ b) ∧ Below w.heap.size w wr) (fun _ i _ => 8 - (intOf i).toNat)
  case atStart => exact ⟨0, 0, 0, none, by omega, rfl, rfl, by omega, by omega, hid (World.ownsRow_nil _ _ _ _), hid Sl.none_, fun _ => ⟨rfl, rfl⟩, hid (fun _ _ h => by cases h), hb2⟩
  case round =>
    clear hb2 l2 b2
    obtain ⟨k, ln, cp, A', hk, rfl, rfl, hlc, hlk, how, hin, hnone, hfr, hbw⟩ := hrel
    have hszw := hbw.size
    by_cases hlt : k < 8
    · have hlti : (k : Int) < 8 := by omega
      have ga := index_bv b hlt
      have hs := listed_succ b k
      cases ht : b.testBit k
      · rw [ht] at hs ga
        simp only [Bool.false_eq_true, if_false, List.append_nil] at hs ga
        have Hs := hid hs
        clear hs ht
        go_wp2
        exact ⟨⟨k + 1, ln, cp, A', by omega, by go_num, rfl, hlc, by omega, hid (by rw [Hs.out]; exact how.out), hid (by rw [Hs.out]; exact hin.out), hnone, hfr, hbw⟩, by simp [intOf]; omega⟩
      · rw [ht] at hs ga
        simp only [if_true] at hs ga
        have Hs := hid hs
        clear hs ht
        by_cases hl0 : ln = 0
        · obtain ⟨rfl, rfl⟩ := hnone hl0
          subst hl0
          have hpre : Hid (listed b k = []) := hid (List.eq_nil_of_length_eq_zero hin.out.len)
          go_wp2_with (at_builtin; refine wpList_append_cap rfl _ _ 34 rfl w.heap.size 3 i0 _ 1 8 underL I0.out I1.out I2.out I3.out rfl _ 0 [] rfl rfl (Or.inl ⟨rfl, rfl⟩) ⟨wr.heap.size, 0, none⟩ 1 1 [.int .i64 (k : Int)] rfl rfl (fun j u hj => World.news_of_block (Blk.new' rfl) j u hj) (by decide) (by unfold maxLen; omega) (by omega) (by simp; omega) ?_; intro cap w3 ho3 hg3 hz3)
          have hb3 : Below w.heap.size w w3 := (hbw.alloc hszw _).grown hg3 (by simp; omega) (fun _ h => by cases h)
          have hc3 := own_cap ho3
          have hi3 : InS w3 w3.heap.size (some ⟨wr.heap.size + 1, 0, none⟩) 1 (listed b (k + 1)) := by rw [Hs.out, hpre.out]; have := Sl.of_own ho3; unfold InS; simpa [cI] using this
          have HI3 := hid hi3
          have HO3 : Hid (w3.ownsRow w.heap.size 3 1 (.slice (some ⟨wr.heap.size + 1, 0, none⟩) 1 cap) 1 ((listed b (k + 1)).flatMap cI)) := hid (by rw [Hs.out, hpre.out]; simpa [cI] using ho3)
          clear hi3 ho3
          (first | exact ⟨⟨k + 1, 1, cap, some ⟨wr.heap.size + 1, 0, none⟩, by omega, by go_num, (by simp), by omega, by omega, HO3, HI3, (fun h => by omega), hid (fun _ _ h => by cases h; omega), hb3⟩, (by first | (simp [intOf]; omega) | (simp [intOf]; done))⟩ | (refine ⟨?_, ?_⟩; (focus ((repeat apply Exists.intro); refine ⟨?_, rfl⟩; exact ⟨k + 1, 1, cap, some ⟨wr.heap.size + 1, 0, none⟩, by omega, by go_num, (by simp), by omega, by omega, HO3, HI3, (fun h => by omega), hid (fun _ _ h => by cases h; omega), hb3⟩)); (first | (simp [intOf]; omega) | (simp [intOf]; done))))
        · obtain ⟨b2, o2, rfl, hb2'⟩ := ins_some hin.out (by omega)
          have hll := hin.out.len
          have hfull : Full (wr.alloc (.cells #[.int .i64 (k : Int)] 3)) (.slice (some ⟨b2, o2, none⟩) ln ln) ln ((listed b k).flatMap cI) := Or.inr ⟨_, rfl, fun j u hj => by
            obtain ⟨b', o', e, hb', hc'⟩ := hin.out.2 (by omega)
            cases e
            rw [add_at]
            exact (World.cell?_alloc_lt _ _ _ hb').trans (hc' j u hj)⟩
          have HF := hid hfull
          have hfl : ((listed b k).flatMap cI).length = ln * 1 := by rw [flatI_len', hll, Nat.mul_one]
          have Hfl := hid hfl
          clear hll hfull hfl
          go_wp2_with (at_builtin; refine wpList_append_cap rfl _ _ 34 rfl w.heap.size 3 i0 _ 1 8 underL I0.out I1.out I2.out I3.out rfl _ ln ((listed b k).flatMap cI) rfl Hfl.out HF.out ⟨wr.heap.size, 0, none⟩ 1 1 [.int .i64 (k : Int)] rfl rfl (fun j u hj => World.news_of_block (Blk.new' rfl) j u hj) (by decide) (by unfold maxLen; omega) (by omega) (by simp; omega) ?_; intro cap w3 ho3 hg3 hz3)
          have hb3 : Below w.heap.size w w3 := (hbw.alloc hszw _).grown hg3 (by simp; omega) (fun _ h => by cases h)
          have hc3 := own_cap ho3
          have hi3 : InS w3 w3.heap.size (some ⟨wr.heap.size + 1, 0, none⟩) (ln + 1) (listed b (k + 1)) := by rw [Hs.out]; have := Sl.of_own ho3; unfold InS; rw [List.flatMap_append]; simpa [cI] using this
          have HI3 := hid hi3
          have HO3 : Hid (w3.ownsRow w.heap.size 3 1 (.slice (some ⟨wr.heap.size + 1, 0, none⟩) (ln + 1) cap) (ln + 1) ((listed b (k + 1)).flatMap cI)) := hid (by rw [Hs.out, List.flatMap_append]; simpa [cI] using ho3)
          clear hi3 ho3
          (first | exact ⟨⟨k + 1, ln + 1, cap, some ⟨wr.heap.size + 1, 0, none⟩, by omega, by go_num, (by simp), by omega, by omega, HO3, HI3, (fun h => by omega), hid (fun _ _ h => by cases h; omega), hb3⟩, (by first | (simp [intOf]; omega) | (simp [intOf]; done))⟩ | (refine ⟨?_, ?_⟩; (focus ((repeat apply Exists.intro); refine ⟨?_, rfl⟩; exact ⟨k + 1, ln + 1, cap, some ⟨wr.heap.size + 1, 0, none⟩, by omega, by go_num, (by simp), by omega, by omega, HO3, HI3, (fun h => by omega), hid (fun _ _ h => by cases h; omega), hb3⟩)); (first | (simp [intOf]; omega) | (simp [intOf]; done))))
    · obtain rfl : k = 8 := by omega
      have hlti : ¬ ((8 : Nat) : Int) < 8 := by omega
      go_wp2
      refine bodyPost_ret (v := .slice A' ln cp) (by first | (simp [results, Tryz.results87, go_sem]; done) | (simp [results, Tryz.results87, go_sem, *]; done) | (simp [results, Tryz.results87, go_sem, World.cell?_setCell_same', *]; done) | (simp [results, Tryz.results87, go_sem]; first | exact ⟨rfl, rfl⟩ | rfl)) rfl ⟨A', ln, cp, rfl, how.out, hlc, hnone, hin.out, hfr.out, hbw⟩
end Go.Proofs.YtdgllpcfmkjfhaaGreat.Bl
/- Walks: lists of lists in memory; searches among them; whether a book is valid; open. -/
namespace Go.Proofs.YtdgllpcfmkjfhaaGreat.Bl
open Go.RowKit Go.Shelf
attribute [local go_sem] Oper.semAt_some
def LiS (w : World) (B : Nat) (A : Option Addr) (n : Nat) (ls : List (List Int)) : Prop :=
  ls.length = n ∧ ∃ vs : List Value, Sl w B 1 A n vs ∧ ∀ (k : Nat) (l : List Int), ls[k]? = some l → ∃ (A' : Option Addr) (m c' : Nat), vs[k]? = some (Value.slice A' m c') ∧ InS w B A' m l
theorem LiS.below {w w' : World} {B B' n : Nat} {A : Option Addr} {ls : List (List Int)} (h : LiS w B A n ls) (hb : Below B w w') (hB : B ≤ B') : LiS w' B' A n ls := by
  obtain ⟨h1, vs, h2, h3⟩ := h
  exact ⟨h1, vs, h2.below' hb hB, fun k l hk => by obtain ⟨A', m, c', e, h4⟩ := h3 k l hk; exact ⟨A', m, c', e, h4.below hb hB⟩⟩
theorem LiS.at_ {w : World} {B n : Nat} {A : Option Addr} {ls : List (List Int)} (h : LiS w B A n ls) {k : Nat} (hk : k < n) : ∃ b off l A' m c', A = some ⟨b, off, none⟩ ∧ b < B ∧ ls[k]? = some l ∧ w.cell? ⟨b, off + k, none⟩ = some (.slice A' m c') ∧ InS w B A' m l := by
  obtain ⟨h1, vs, h2, h3⟩ := h
  have hl : ls[k]? = some ls[k] := List.getElem?_eq_getElem (by omega)
  obtain ⟨A', m, c', e, h4⟩ := h3 k _ hl
  obtain ⟨b, off, hA, hb, hc⟩ := h2.2 (by omega)
  exact ⟨b, off, _, A', m, c', hA, hb, hl, hc k _ e, h4⟩
def LiAt (w : World) (vs : List Value) (ls : List (List Int)) (no : Option Nat) : Prop :=
  vs.length = ls.length ∧ ∀ (k : Nat) (l : List Int), ls[k]? = some l → ∃ (A : Option Addr) (m c : Nat), vs[k]? = some (.slice A m c) ∧ InS w w.heap.size A m l ∧ ∀ b off, A = some ⟨b, off, none⟩ → b < w.heap.size ∧ no ≠ some b
theorem LiAt.nil (w : World) (no : Option Nat) : LiAt w [] [] no := ⟨rfl, fun k l h => by simp at h⟩
theorem InS.grown {w w' : World} {row : Option Nat} {m B : Nat} {A : Option Addr} {l : List Int} (h : InS w w.heap.size A m l) (hg : w.grownBy w' row) (hne : ∀ b off, A = some ⟨b, off, none⟩ → row ≠ some b) (hB : w.heap.size ≤ B) : InS w' B A m l := by
  refine ⟨h.1, fun hm => ?_⟩
  obtain ⟨b, off, e, hb, hc⟩ := h.2 hm
  exact ⟨b, off, e, by omega, fun j u hu => hg.cell (hc j u hu) (fun e' => hne b off e e'.symm)⟩
theorem LiAt.grown {w w' : World} {vs : List Value} {ls : List (List Int)} {no no' : Option Nat} (h : LiAt w vs ls no) (hg : w.grownBy w' no) (hn : no' = no ∨ no' = some w.heap.size) : LiAt w' vs ls no' := by
  refine ⟨h.1, fun k l hk => ?_⟩
  obtain ⟨A, m, c, h1, h2, h3⟩ := h.2 k l hk
  refine ⟨A, m, c, h1, h2.grown hg (fun b off e => (h3 b off e).2) hg.size, fun b off e => ?_⟩
  obtain ⟨h4, h5⟩ := h3 b off e
  refine ⟨Nat.lt_of_lt_of_le h4 hg.size, ?_⟩
  rcases hn with rfl | rfl
  · exact h5
  · intro e'; injection e' with e'; omega
theorem LiAt.below {w w' : World} {vs : List Value} {ls : List (List Int)} {no : Option Nat} (h : LiAt w vs ls no) (hb : Below w.heap.size w w') : LiAt w' vs ls no := by
  refine ⟨h.1, fun k l hk => ?_⟩
  obtain ⟨A, m, c, h1, h2, h3⟩ := h.2 k l hk
  exact ⟨A, m, c, h1, h2.below hb hb.size, fun b off e => ⟨Nat.lt_of_lt_of_le (h3 b off e).1 hb.size, (h3 b off e).2⟩⟩
theorem LiAt.snoc {w : World} {vs : List Value} {ls : List (List Int)} {no : Option Nat} (h : LiAt w vs ls no) {A : Option Addr} {m c : Nat} {l : List Int} (hl : InS w w.heap.size A m l) (hA : ∀ b off, A = some ⟨b, off, none⟩ → b < w.heap.size ∧ no ≠ some b) : LiAt w (vs ++ [.slice A m c]) (ls ++ [l]) no := by
  refine ⟨by rw [List.length_append, List.length_append, h.1]; rfl, fun k x hk => ?_⟩
  rcases Nat.lt_or_ge k ls.length with h1 | h1
  · rw [List.getElem?_append_left h1] at hk
    obtain ⟨A', m', c', h2, h3⟩ := h.2 k x hk
    exact ⟨A', m', c', by rw [List.getElem?_append_left (by rw [h.1]; exact h1)]; exact h2, h3⟩
  · rw [List.getElem?_append_right h1] at hk
    have hk0 : k - ls.length = 0 := by
      have := (List.getElem?_eq_some_iff.1 hk).1
      simp at this; omega
    rw [hk0] at hk
    obtain rfl : l = x := by simpa using hk
    exact ⟨A, m, c, by rw [List.getElem?_append_right (by rw [h.1]; exact h1), h.1, hk0]; rfl, hl, hA⟩
theorem LiAt.lis {w : World} {vs : List Value} {ls : List (List Int)} {no : Option Nat} {A : Option Addr} {n : Nat} (h : LiAt w vs ls no) (hs : Sl w w.heap.size 1 A n vs) : LiS w w.heap.size A n ls :=
  ⟨by rw [← h.1, hs.1, Nat.mul_one], vs, hs, fun k l hk => by obtain ⟨A', m, c, h1, h2, -⟩ := h.2 k l hk; exact ⟨A', m, c, h1, h2⟩⟩
theorem own_src {w : World} {base : Nat} {e : TypeId} {size : Nat} {v : Value} {n : Nat} {xs : List Value} (h : w.ownsRow base e size v n xs) : ∃ A c, v = .slice A n c ∧ Sl w w.heap.size size A n xs ∧ (A = none → n = 0 ∧ c = 0) := by
  obtain ⟨A, c, rfl, hs⟩ := sl_of_owns h
  refine ⟨A, c, rfl, hs, fun hA => ?_⟩
  subst hA
  rcases h.2 with ⟨h1, h2⟩ | ⟨g, cap, cur, h1, -⟩
  · cases h1; exact ⟨rfl, rfl⟩
  · cases h1
def lowV (lo : Nat) (v : Value) : Prop := ∀ A m c b off, v = .slice A m c → A = some ⟨b, off, none⟩ → lo ≤ b
def OwnV (w : World) (lo hi : Nat) (vs : List Value) (ls : List (List Int)) : Prop :=
  (∀ (k : Nat) (l : List Int), ls[k]? = some l → ∃ v, vs[k]? = some v ∧ w.ownsRow lo 3 1 v l.length (l.flatMap cI)) ∧ (vs.filterMap Value.ownBlock).Nodup ∧ ∀ b ∈ vs.filterMap Value.ownBlock, b < hi
theorem OwnV.keep {w w' : World} {lo hi : Nat} {vs : List Value} {ls : List (List Int)} {r : Option Nat} (h : OwnV w lo hi vs ls) (hg : w.grownBy w' r) (hr : ∀ b ∈ vs.filterMap Value.ownBlock, r ≠ some b) : OwnV w' lo hi vs ls := by
  obtain ⟨h1, h2⟩ := h
  refine ⟨fun k l hk => ?_, h2⟩
  obtain ⟨v, hv, ho⟩ := h1 k l hk
  refine ⟨v, hv, ho.kept hg ?_⟩
  cases hb : v.ownBlock with
  | none => exact .inl rfl
  | some b => exact .inr (fun e => hr b (List.mem_filterMap.2 ⟨v, List.mem_of_getElem? hv, hb⟩) e.symm)
def NewLiG (w : World) (hi lo base : Nat) (v : Value) (ls : List (List Int)) : Prop := ∃ vs, w.ownsRow base 34 1 v ls.length vs ∧ LiAt w vs ls v.ownBlock ∧ OwnV w lo hi vs ls
abbrev NewLiF (w : World) (lo base : Nat) (v : Value) (ls : List (List Int)) : Prop := NewLiG w w.heap.size lo base v ls
theorem NewLiG.up {w : World} {hi hi' lo base : Nat} {v : Value} {ls : List (List Int)} (h : NewLiG w hi lo base v ls) (hh : hi ≤ hi') : NewLiG w hi' lo base v ls := by
  obtain ⟨vs, h1, h2, h3, h4, h5⟩ := h
  exact ⟨vs, h1, h2, h3, h4, fun b hb => Nat.lt_of_lt_of_le (h5 b hb) hh⟩
theorem NewLiF.nil (w : World) (lo base : Nat) : NewLiF w lo base (.slice none 0 0) [] := ⟨[], World.ownsRow_nil _ _ _ _, LiAt.nil _ _, fun k l h => by simp at h, List.nodup_nil, fun b hb => by cases hb⟩
theorem NewLiG.belowG {w w' : World} {hi lo base : Nat} {v : Value} {ls : List (List Int)} (h : NewLiG w hi lo base v ls) (hb : Below w.heap.size w w') : NewLiG w' hi lo base v ls := by
  obtain ⟨vs, h1, h2, h3⟩ := h
  exact ⟨vs, owns_below h1 hb, h2.below hb, h3.keep (r := none) ⟨hb.os, hb.tape, hb.output, hb.size, fun k hk _ => hb.block k hk⟩ fun _ _ e => by cases e⟩
theorem NewLiG.below {w w' : World} {lo base : Nat} {v : Value} {ls : List (List Int)} (h : NewLiG w w.heap.size lo base v ls) (hb : Below w.heap.size w w') : NewLiF w' lo base v ls := (h.belowG hb).up hb.size
theorem own_blk {w : World} {lo n : Nat} {e : TypeId} {v : Value} {xs : List Value} (h : w.ownsRow lo e 1 v n xs) {b : Nat} (hb : v.ownBlock = some b) : ∃ c, v = .slice (some ⟨b, 0, none⟩) n c ∧ lo ≤ b ∧ b < w.heap.size := by
  rcases h.2 with ⟨h1, -⟩ | ⟨g, cap, cur, h1, h2, h3, -⟩
  · subst h1; cases hb
  · subst h1
    obtain rfl : g = b := by simpa [Value.ownBlock] using hb
    exact ⟨cap, rfl, h2, (Array.getElem?_eq_some_iff.1 h3).1⟩
theorem ownV_ne {w : World} {lo hi : Nat} {vs : List Value} {ls : List (List Int)} {no : Option Nat} (h : LiAt w vs ls no) (ho : OwnV w lo hi vs ls) : ∀ b ∈ vs.filterMap Value.ownBlock, no ≠ some b ∧ b < w.heap.size ∧ lo ≤ b := fun b hb => by
  obtain ⟨v, hv, hb⟩ := List.mem_filterMap.1 hb
  obtain ⟨k, hk, hkv⟩ := List.getElem_of_mem hv
  have hvk : vs[k]? = some v := by rw [List.getElem?_eq_getElem hk, hkv]
  have hkl : k < ls.length := by rw [← h.1]; exact hk
  have hlk : ls[k]? = some ls[k] := List.getElem?_eq_getElem hkl
  obtain ⟨v', hv', how⟩ := ho.1 k _ hlk
  rw [hvk] at hv'
  obtain rfl := Option.some.inj hv'
  obtain ⟨c, rfl, h1, h2⟩ := own_blk how hb
  obtain ⟨A, m, c', h3, -, h5⟩ := h.2 k _ hlk
  rw [hvk] at h3
  cases h3
  exact ⟨(h5 b 0 rfl).2, h2, h1⟩
theorem OwnV.snoc {w : World} {lo hi : Nat} {vs : List Value} {ls : List (List Int)} {no : Option Nat} (h : OwnV w lo hi vs ls) (hl : LiAt w vs ls no) {A : Option Addr} {m c : Nat} {l : List Int} (ho : w.ownsRow lo 3 1 (.slice A m c) m (l.flatMap cI)) (hm : l.length = m) (hhi : ∀ b off, A = some ⟨b, off, none⟩ → hi ≤ b) : OwnV w lo w.heap.size (vs ++ [.slice A m c]) (ls ++ [l]) := by
  have hne := ownV_ne hl h
  obtain ⟨h1, h2, h3⟩ := h
  have hnew : ∀ b, (Value.slice A m c).ownBlock = some b → hi ≤ b ∧ b < w.heap.size := fun b hb => by
    obtain ⟨c', e, h4, h5⟩ := own_blk ho hb
    cases e
    exact ⟨hhi b 0 rfl, h5⟩
  refine ⟨fun k x hk => ?_, ?_, fun b hb => ?_⟩
  · rcases Nat.lt_or_ge k ls.length with h4 | h4
    · rw [List.getElem?_append_left h4] at hk
      obtain ⟨v, hv, how⟩ := h1 k x hk
      exact ⟨v, by rw [List.getElem?_append_left (by rw [hl.1]; exact h4)]; exact hv, how⟩
    · rw [List.getElem?_append_right h4] at hk
      have hk0 : k - ls.length = 0 := by
        have := (List.getElem?_eq_some_iff.1 hk).1
        simp at this; omega
      rw [hk0] at hk
      obtain rfl : l = x := by simpa using hk
      exact ⟨_, by rw [List.getElem?_append_right (by rw [hl.1]; exact h4), hl.1, hk0]; rfl, by rw [hm]; exact ho⟩
  · rw [List.filterMap_append]
    refine List.nodup_append.2 ⟨h2, ?_, fun a ha b hb e => ?_⟩
    · cases hb : (Value.slice A m c).ownBlock with
      | none => simp [hb]
      | some b => simp [hb]
    · obtain ⟨v, hv, hvb⟩ := List.mem_filterMap.1 hb
      rw [List.mem_singleton.1 hv] at hvb
      have := (hnew b hvb).1
      have := h3 a ha
      omega
  · rw [List.filterMap_append, List.mem_append] at hb
    rcases hb with hb | hb
    · exact (hne b hb).2.1
    · obtain ⟨v, hv, hvb⟩ := List.mem_filterMap.1 hb
      rw [List.mem_singleton.1 hv] at hvb
      exact (hnew b hvb).2
theorem OwnV.up {w : World} {lo hi hi' : Nat} {vs : List Value} {ls : List (List Int)} (h : OwnV w lo hi vs ls) (hh : hi ≤ hi') : OwnV w lo hi' vs ls := ⟨h.1, h.2.1, fun b hb => Nat.lt_of_lt_of_le (h.2.2 b hb) hh⟩
theorem newLiF_append {P : Program} {w : World} {ops : Array Oper} {rest : List Oper} {o : Oper} {a : Act} {Q : Exit → Act → World → Prop} (hP : P = Tryz.prog) (hw : Region.wanted o (yielded ops a.tmps) = true) (s x : Operand)
    (ho : o.op = .call { callee := .builtin .append, args := #[s, x], argTypes := #[29, 29] })
    (hi lo base : Nat) (v : Value) (ls : List (List Int)) (hs : a.eval s = v) (hown : NewLiG w hi lo base v ls)
    (g : Nat) (A : Option Addr) (m c : Nat) (l : List Int) (hx : a.eval x = .slice (some ⟨g, 0, none⟩) 1 1) (hg : Blk w g 34 #[.slice A m c]) (hl : InS w w.heap.size A m l) (hA : ∀ b off, A = some ⟨b, off, none⟩ → b < w.heap.size ∧ v.ownBlock ≠ some b) (hlo : w.ownsRow lo 3 1 (.slice A m c) m (l.flatMap cI)) (hhi : ∀ b off, A = some ⟨b, off, none⟩ → hi ≤ b)
    (hlen : ls.length ≤ 1000000) (hbase : base ≤ w.heap.size)
    (h : ∀ v' w', NewLiF w' lo base v' (ls ++ [l]) → w.grownBy w' v.ownBlock → (v'.ownBlock = v.ownBlock ∨ v'.ownBlock = some w.heap.size) → wpList P ops Q rest (a.put o.dst v') w') :
    wpList P ops Q (o :: rest) a w := by
  subst hP
  obtain ⟨vs, h1, h2, h3⟩ := hown
  obtain ⟨i0, hi0, hi1, hi2, hi3⟩ := info_parts' infoL
  refine wpList_append_srcG hw s x 29 ho base 34 i0 _ 1 24 underLL hi0 hi1 hi2 hi3 rfl (by decide) v ls.length vs hs h1 (some ⟨g, 0, none⟩) 1 1 [.slice A m c] hx w.heap.size ⟨rfl, fun _ => ⟨g, 0, rfl, hg.lt, fun j u hu => by rw [hg.cell, Nat.zero_add]; simpa using hu⟩⟩ (fun h => by cases h) (fun u hu => by rw [List.mem_singleton.1 hu]; rfl) (by unfold maxLen; omega) (by omega) hbase ?_
  intro v' w' ho' hg' _ hat
  exact h v' w' ⟨vs ++ [.slice A m c], by rw [List.length_append]; exact ho', (h2.snoc hl hA).grown hg' hat, ((h3.snoc h2 hlo hl.len hhi).keep hg' fun b hb => (ownV_ne (h2.snoc hl hA) (h3.snoc h2 hlo hl.len hhi) b hb).1).up hg'.size⟩ hg' hat
set_option maxHeartbeats 800000 in
theorem idxFL_any (g : Nat) (cb : Array Value) (eg : ∀ args w, (callFunc g args).run Tryz.prog w = .ok (.enter g args) w) (p : List Int → Bool) (A : Option Addr) (n c : Nat) (ls : List (List Int)) (w : World) (hl : LiS w w.heap.size A n ls) (hn : n ≤ 1000000) (hp : ∀ x ∈ ls, ∀ (A' : Option Addr) (m c' : Nat) (W : World), Below w.heap.size w W → InS W W.heap.size A' m x → Calls Tryz.prog g (#[.slice A' m c'] ++ cb) W fun e w' => e = .returned (.bool (p x)) ∧ Below W.heap.size W w') :
    Calls Tryz.prog 132 #[.slice A n c, .func (.func g) #[] cb] w fun e w' => e = .returned (.int .i64 (idxA p ls)) ∧ Below w.heap.size w w' := by
  have hlen := hid hl.1
  have HL := hid hl
  have HP := hid hp
  clear hp hl
  obtain ⟨iv, hiv⟩ : ∃ iv, idxA p ls = iv := ⟨_, rfl⟩
  have Hiv := hid hiv
  rw [hiv]
  clear hiv
  go_enter Tryz.func132, Tryz.ntmps132
  go_wp2
  go_loopw [8] (fun i wr => ∃ k : Nat, k ≤ n ∧ i = .int .i64 k ∧ Hid ((ls.take k).any p = false) ∧ Below w.heap.size w wr) (fun i _ => n - (intOf i).toNat)
  case atStart => exact ⟨0, by omega, rfl, hid (by simp), Below.refl _ _⟩
  case round =>
    obtain ⟨k, hk, rfl, hno, hbw⟩ := hrel
    have hszw := hbw.size
    by_cases hlt : k < n
    · obtain ⟨b, off, x, A', m, c', rfl, hb, hm, c0, hin⟩ := (HL.out.below hbw hszw).at_ hlt
      have Hm := hid hm
      have hlti : (k : Int) < n := by omega
      have hc := HP.out x (List.mem_of_getElem? hm) A' m c' wr hbw hin
      clear hm hin
      cases hx : p x
      · have Hs := hid (any_off hno.out Hm.out hx)
        rw [hx] at hc
        clear hx
        go_wp2_with (go_at_fn g; refine hc.mono ?_; rintro e w1 ⟨rfl, hb1⟩)
        exact ⟨⟨k + 1, by omega, by go_num, Hs, hbw.trans (hb1.mono hszw)⟩, by simp [intOf]; omega⟩
      · have Hf := hid (idxA_hit hno.out Hm.out hx)
        rw [hx] at hc
        clear hx
        go_wp2_with (go_at_fn g; refine hc.mono ?_; rintro e w1 ⟨rfl, hb1⟩)
        refine bodyPost_ret (v := .int .i64 k) (by first | (simp [results, Tryz.results132, go_sem]; done) | (simp [results, Tryz.results132, go_sem, *]; done) | (simp [results, Tryz.results132, go_sem, World.cell?_setCell_same', *]; done) | (simp [results, Tryz.results132, go_sem]; first | exact ⟨rfl, rfl⟩ | rfl)) rfl ⟨by rw [← Hiv.out, Hf.out], hbw.trans (hb1.mono hszw)⟩
    · obtain rfl : k = n := by omega
      have Hf : Hid (idxA p ls = -1) := hid (idxA_none (by have := hno.out; rwa [List.take_of_length_le (by rw [hlen.out]; exact Nat.le_refl _)] at this))
      go_wp2
      refine bodyPost_ret (v := .int .i64 (-1)) (by first | (simp [results, Tryz.results132, go_sem]; done) | (simp [results, Tryz.results132, go_sem, *]; done) | (simp [results, Tryz.results132, go_sem, World.cell?_setCell_same', *]; done) | (simp [results, Tryz.results132, go_sem]; first | exact ⟨rfl, rfl⟩ | rfl)) rfl ⟨by rw [← Hiv.out, Hf.out], hbw⟩
theorem conFL_any (g : Nat) (cb : Array Value) (eg : ∀ args w, (callFunc g args).run Tryz.prog w = .ok (.enter g args) w) (p : List Int → Bool) (A : Option Addr) (n c : Nat) (ls : List (List Int)) (w : World) (hl : LiS w w.heap.size A n ls) (hn : n ≤ 1000000) (hp : ∀ x ∈ ls, ∀ (A' : Option Addr) (m c' : Nat) (W : World), Below w.heap.size w W → InS W W.heap.size A' m x → Calls Tryz.prog g (#[.slice A' m c'] ++ cb) W fun e w' => e = .returned (.bool (p x)) ∧ Below W.heap.size W w') :
    Calls Tryz.prog 75 #[.slice A n c, .func (.func g) #[] cb] w fun e w' => e = .returned (.bool (ls.any p)) ∧ Below w.heap.size w w' := by
  have hc := idxFL_any g cb eg p A n c ls w hl hn hp
  have HD := hid (idxA_dec p ls)
  obtain ⟨iv, hiv⟩ : ∃ iv, idxA p ls = iv := ⟨_, rfl⟩
  obtain ⟨bv, hbv⟩ : ∃ bv, ls.any p = bv := ⟨_, rfl⟩
  rw [hiv, hbv] at HD
  rw [hiv] at hc
  rw [hbv]
  clear hiv hbv hp hl
  go_enter Tryz.func75, Tryz.ntmps75
  go_wp2_with (go_at_call 132; refine hc.mono ?_; rintro e w1 ⟨rfl, hb1⟩)
  refine bodyPost_ret (v := .bool (decide (0 ≤ iv))) (by first | (simp [results, Tryz.results75, go_sem]; done) | (simp [results, Tryz.results75, go_sem, *]; done) | (simp [results, Tryz.results75, go_sem, World.cell?_setCell_same', *]; done) | (simp [results, Tryz.results75, go_sem]; first | exact ⟨rfl, rfl⟩ | rfl)) rfl ⟨by rw [HD.out], hb1⟩
/-! Books. -/
def chkBook (I : Int) (ls : List (List Int)) : Int := if I < 1 ∨ 8 < I ∨ 10 < ls.length then 6 else if ls.all (isL I 0) = false then 3 else 0
theorem book_good {I : Int} {ls : List (List Int)} (h : chkBook I ls = 0) : 1 ≤ I ∧ I ≤ 8 ∧ ls.length ≤ 10 ∧ ∀ l ∈ ls, isL I 0 l = true := by
  unfold chkBook at h
  split at h
  · cases h
  · split at h
    · cases h
    · rename_i h1 h2
      refine ⟨by omega, by omega, by omega, fun l hl => ?_⟩
      have : ls.all (isL I 0) = true := by simpa using h2
      exact List.all_eq_true.1 this l hl
set_option maxHeartbeats 400000 in
theorem cbclo_any (A : Option Addr) (n c : Nat) (l : List Int) (I : Int) (b1 : Nat) (w : World) (hl : InS w w.heap.size A n l) (hn : n ≤ 1000000) (h1 : 1 ≤ I) (h8 : I ≤ 8) (c1 : w.cell? ⟨b1, 0, none⟩ = some (.int .i64 I)) :
    Calls Tryz.prog 131 #[.slice A n c, .pointer (some ⟨b1, 0, none⟩)] w fun e w' => e = .returned (.bool (!isL I 0 l)) ∧ Below w.heap.size w w' := by
  have HL := hid hl
  clear hl
  cases hq : isL I 0 l
  all_goals
    have Hq := hid hq
    clear hq
    go_enter Tryz.func131, Tryz.ntmps131
    go_wp2_with (go_at_call 43; refine (rising_any A n c l I _ HL.out hn (by omega) (by omega)).mono ?_; rw [Hq.out]; rintro e w1 ⟨rfl, hb1⟩)
    go_ret
    exact ⟨rfl, hb1⟩
set_option maxHeartbeats 400000 in
theorem opclo_any (A : Option Addr) (n c : Nat) (l : List Int) (I : Int) (b1 : Nat) (w : World) (hl : InS w w.heap.size A n l) (hn : n ≤ 1000000) (h1 : 1 ≤ I) (h8 : I ≤ 8) (c1 : w.cell? ⟨b1, 0, none⟩ = some (.int .i64 I)) :
    Calls Tryz.prog 76 #[.slice A n c, .pointer (some ⟨b1, 0, none⟩)] w fun e w' => e = .returned (.bool (!isL I 0 l)) ∧ Below w.heap.size w w' := by
  have HL := hid hl
  clear hl
  cases hq : isL I 0 l
  all_goals
    have Hq := hid hq
    clear hq
    go_enter Tryz.func76, Tryz.ntmps76
    go_wp2_with (go_at_call 43; refine (rising_any A n c l I _ HL.out hn (by omega) (by omega)).mono ?_; rw [Hq.out]; rintro e w1 ⟨rfl, hb1⟩)
    go_ret
    exact ⟨rfl, hb1⟩
set_option maxRecDepth 100000 in
set_option maxHeartbeats 1600000 in
theorem checkBook_any (A : Option Addr) (n c : Nat) (ls : List (List Int)) (I : Int) (w : World) (hl : LiS w w.heap.size A n ls) (hn : n ≤ 1000000) (hw : ∀ l ∈ ls, l.length ≤ 1000000) :
    Calls Tryz.prog 74 #[.agg #[.int .i64 I, .slice A n c]] w fun e w' => e = .returned (.int .i64 (chkBook I ls)) ∧ Below w.heap.size w w' := by
  have eg : ∀ args w, (callFunc 131 args).run Tryz.prog w = .ok (.enter 131 args) w := enters_of Tryz.func131 (by kernel_rfl) rfl
  have hlen := hl.1
  have HL := hid hl
  have HW := hid hw
  have HE := hid eg
  clear hl hw eg
  cases hp : inR 1 8 I
  · have hf : Hid (chkBook I ls = 6) := hid (if_pos (by have := inR_f.1 hp; omega))
    have Hp := hid ((all_one (p := inR 1 8) I).trans hp)
    clear hp hlen
    go_enter Tryz.func74, Tryz.ntmps74
    go_wp2_with (go_at_call 85; refine (within_any _ 1 1 [I] 1 8 _ (inS_lit1 I (by first | (simp; done) | (simp; omega) | omega) (by first | (simp; done) | (simp; omega) | omega)) (by omega)).mono ?_; rw [Hp.out]; rintro e w1 ⟨rfl, hb1⟩; have hbel : Below w.heap.size w w1 := Below.trans (by repeat' (first | with_reducible assumption | with_reducible exact Below.refl _ _ | refine Below.alloc ?_ ?_ _ | refine Below.setCell ?_ ?_ _ | refine Below.drew ?_ | refine below_drewN ?_ _ | (simp; done) | (simp; omega) | omega)) (hb1.mono (by first | (simp; done) | (simp; omega) | omega)))
    refine bodyPost_ret (v := .int .i64 6) (by first | (simp [results, Tryz.results74, go_sem]; done) | (simp [results, Tryz.results74, go_sem, *]; done) | (simp [results, Tryz.results74, go_sem, World.cell?_setCell_same', *]; done) | (simp [results, Tryz.results74, go_sem]; first | exact ⟨rfl, rfl⟩ | rfl)) rfl ⟨by rw [hf.out], hbel⟩
  · have hp' := inR_t.1 hp
    have Hp := hid ((all_one (p := inR 1 8) I).trans hp)
    clear hp
    by_cases hn10 : 10 < n
    · have hf : Hid (chkBook I ls = 6) := hid (if_pos (by omega))
      have hn10i : (10 : Int) < n := by omega
      clear hlen
      go_enter Tryz.func74, Tryz.ntmps74
      go_wp2_with (go_at_call 85; refine (within_any _ 1 1 [I] 1 8 _ (inS_lit1 I (by first | (simp; done) | (simp; omega) | omega) (by first | (simp; done) | (simp; omega) | omega)) (by omega)).mono ?_; rw [Hp.out]; rintro e w1 ⟨rfl, hb1⟩; have hbel : Below w.heap.size w w1 := Below.trans (by repeat' (first | with_reducible assumption | with_reducible exact Below.refl _ _ | refine Below.alloc ?_ ?_ _ | refine Below.setCell ?_ ?_ _ | refine Below.drew ?_ | refine below_drewN ?_ _ | (simp; done) | (simp; omega) | omega)) (hb1.mono (by first | (simp; done) | (simp; omega) | omega)); have c0 := (hb1.cell (p := ⟨w.heap.size, 1, none⟩) (by first | (simp; done) | (simp; omega) | omega)); have hq0 : w.heap.size < w1.heap.size := (by have := hb1.size; simp at this; omega))
      refine bodyPost_ret (v := .int .i64 6) (by first | (simp [results, Tryz.results74, go_sem]; done) | (simp [results, Tryz.results74, go_sem, *]; done) | (simp [results, Tryz.results74, go_sem, World.cell?_setCell_same', *]; done) | (simp [results, Tryz.results74, go_sem]; first | exact ⟨rfl, rfl⟩ | rfl)) rfl ⟨by rw [hf.out], hbel⟩
    · have hf : Hid (chkBook I ls = if ls.all (isL I 0) = false then 3 else 0) := hid (if_neg (by omega))
      have hn10i : ¬ (10 : Int) < n := by omega
      have HN := hid (any_not_all (isL I 0) ls)
      obtain ⟨bw, hbw⟩ : ∃ bw, ls.all (isL I 0) = bw := ⟨_, rfl⟩
      rw [hbw] at HN hf
      clear hlen hbw
      cases bw
      all_goals
        go_enter Tryz.func74, Tryz.ntmps74
        go_wp2_with (fail)
        refine (within_any _ 1 1 [I] 1 8 _ (inS_lit1 I (by first | (simp; done) | (simp; omega) | omega) (by first | (simp; done) | (simp; omega) | omega)) (by omega)).mono ?_
        rw [Hp.out]
        rintro e w1 ⟨rfl, hb1⟩
        have hbel : Below w.heap.size w w1 := Below.trans (by repeat' (first | with_reducible assumption | with_reducible exact Below.refl _ _ | refine Below.alloc ?_ ?_ _ | refine Below.setCell ?_ ?_ _ | refine Below.drew ?_ | refine below_drewN ?_ _ | (simp; done) | (simp; omega) | omega)) (hb1.mono (by first | (simp; done) | (simp; omega) | omega))
        have c1 : w1.cell? ⟨w.heap.size, 1, none⟩ = some (.slice A n c) := (hb1.cell (p := ⟨w.heap.size, 1, none⟩) (by first | (simp; done) | (simp; omega) | omega)).trans (by go_simp)
        have c0 : w1.cell? ⟨w.heap.size, 0, none⟩ = some (.int .i64 I) := (hb1.cell (p := ⟨w.heap.size, 0, none⟩) (by first | (simp; done) | (simp; omega) | omega)).trans (by go_simp)
        have hq0 : w.heap.size < w1.heap.size := (by have := hb1.size; simp at this; omega)
        have hc := conFL_any 131 #[.pointer (some ⟨w.heap.size, 0, none⟩)] HE.out (fun x => !isL I 0 x) A n c ls w1 (HL.out.below hbel hbel.size) hn (fun x hx A' m c' W hW hin => cbclo_any A' m c' x I w.heap.size W hin (by rw [← hin.len]; exact HW.out x hx) hp'.1 hp'.2 ((hW.cell (p := ⟨w.heap.size, 0, none⟩) hq0).trans c0))
        rw [HN.out] at hc
        clear hb1 c0
        go_wp2_with (go_at_call 75; refine hc.mono ?_; rintro e w2 ⟨rfl, hb2⟩)
      · refine bodyPost_ret (v := .int .i64 3) (by first | (simp [results, Tryz.results74, go_sem]; done) | (simp [results, Tryz.results74, go_sem, *]; done) | (simp [results, Tryz.results74, go_sem, World.cell?_setCell_same', *]; done) | (simp [results, Tryz.results74, go_sem]; first | exact ⟨rfl, rfl⟩ | rfl)) rfl ⟨by rw [hf.out]; rfl, hbel.trans (hb2.mono hbel.size)⟩
      · refine bodyPost_ret (v := .int .i64 0) (by first | (simp [results, Tryz.results74, go_sem]; done) | (simp [results, Tryz.results74, go_sem, *]; done) | (simp [results, Tryz.results74, go_sem, World.cell?_setCell_same', *]; done) | (simp [results, Tryz.results74, go_sem]; first | exact ⟨rfl, rfl⟩ | rfl)) rfl ⟨by rw [hf.out]; rfl, hbel.trans (hb2.mono hbel.size)⟩
/-! The desk. -/
def Desk (w : World) (g : Nat) (I : Int) (A : Option Addr) (n c : Nat) (ls : List (List Int)) : Prop := Blk w g 111 #[.int .i64 I, .slice A n c] ∧ LiS w w.heap.size A n ls
theorem Desk.below {w w' : World} {g : Nat} {I : Int} {A : Option Addr} {n c : Nat} {ls : List (List Int)} (h : Desk w g I A n c ls) (hb : Below w.heap.size w w') : Desk w' g I A n c ls := ⟨h.1.below hb h.1.lt, h.2.below hb hb.size⟩
def openE (I : Int) (ls ss : List (List Int)) : Int := if chkBook I ls ≠ 0 then chkBook I ls else if ss.all (isL I 0) = false then 3 else 0
theorem openE_good {I : Int} {ls ss : List (List Int)} (h : openE I ls ss = 0) : chkBook I ls = 0 ∧ ∀ l ∈ ss, isL I 0 l = true := by
  unfold openE at h
  split at h
  · rename_i h1; exact absurd h h1
  · split at h
    · cases h
    · rename_i h1 h2
      refine ⟨by simpa using h1, fun l hl => ?_⟩
      have : ss.all (isL I 0) = true := by simpa using h2
      exact List.all_eq_true.1 this l hl
theorem openE_nil (I : Int) (ls : List (List Int)) : openE I ls [] = chkBook I ls := by
  unfold openE
  split
  · rfl
  · rename_i h
    rw [if_neg (by simp)]
    simpa using (Decidable.not_not.1 h).symm
end Go.Proofs.YtdgllpcfmkjfhaaGreat.Bl
/- Keys of the map of sets that were found. -/
namespace Go.Proofs.YtdgllpcfmkjfhaaGreat.Bl
open Go.RowKit Go.WideMaps
open Go.Maps (Keyed)
attribute [local go_sem] Oper.semAt_some
theorem laidOut : laidOutB Tryz.prog = true := by kernel_rfl
set_option maxRecDepth 100000 in
theorem rowF : (179 : TypeId) < Tryz.prog.types.size := by
  have : decide ((179 : TypeId) < Tryz.prog.types.size) = true := by kernel_rfl
  exact of_decide_eq_true this
set_option maxRecDepth 100000 in
theorem wideF : (match Tryz.prog.underlying 179 with | some (.array _ _) | some (.struct _) => true | _ => false) = true := by kernel_rfl
set_option maxRecDepth 100000 in
theorem lawF : KeyLaw Tryz.prog 179 := deep_law_laid laidOut (m := 3) (by omega) rowF (by kernel_rfl) wideF
theorem KF : Keyed Tryz.prog 179 := Maps.Keyed.of_law lawF
theorem underM : Tryz.prog.underlying 177 = some (.map 179 3) := by kernel_rfl
theorem underI : Tryz.prog.underlying 3 = some (.int .i64) := by kernel_rfl
@[irreducible] noncomputable def klB (b : Nat) : Lit := (keyOf Tryz.prog 179 (.agg (mkB b))).getD (.bool false)
set_option maxRecDepth 100000 in
theorem keys_some : ((List.range 256).all fun b => (keyOf Tryz.prog 179 (.agg (mkB b))).isSome) = true := by kernel_rfl
theorem key_klB {b : Nat} (hb : b < 256) : keyOf Tryz.prog 179 (.agg (mkB b)) = some (klB b) := by
  have h := List.all_eq_true.1 keys_some b (List.mem_range.2 hb)
  unfold klB
  cases hk : keyOf Tryz.prog 179 (.agg (mkB b)) with
  | none => rw [hk] at h; cases h
  | some k => rfl
theorem key_klE {b : Nat} (hb : b < 256) : keyOf Tryz.prog 179 (.agg #[bv b 0, bv b 1, bv b 2, bv b 3, bv b 4, bv b 5, bv b 6, bv b 7]) = some (klB b) := key_klB hb
theorem mkB_inj {a b : Nat} (ha : a < 256) (hb : b < 256) (h : mkB a = mkB b) : a = b := by
  have hbit : ∀ i, i < 8 → a.testBit i = b.testBit i := fun i hi => by
    have h1 : bv a i = bv b i := by
      have := congrArg (fun x : Array Value => x[i]?) h
      simp only [mkB_at hi] at this
      exact Option.some.inj this
    unfold bv at h1
    cases h2 : a.testBit i <;> cases h3 : b.testBit i <;> simp [h2, h3] at h1 ⊢
  exact bits8_ext ha hb hbit
theorem klB_inj {a b : Nat} (ha : a < 256) (hb : b < 256) (h : klB a = klB b) : a = b := by
  have x := key_klB ha
  have y := key_klB hb
  rw [h] at x
  have e := KF.inj x y
  have e := Value.agg.inj e
  exact mkB_inj ha hb e
set_option maxRecDepth 100000 in
theorem klB_is {b : Nat} (hb : b < 256) : WideAt.IsKeyLit (klB b) := KF.key (v := .agg (mkB b)) (l := klB b) (key_klB hb)
end Go.Proofs.YtdgllpcfmkjfhaaGreat.Bl
/- Contracts of the library, laid at this program: tables of numbers, and that the texts are the same. -/
namespace Go.Proofs
open Go.Shelf
def Tryz.sortL_ren : Go.Shelf.Ren := ⟨fun | 6 => 135 | 15 => 176 | 14 => 175 | 28 => 255 | 29 => 256 | 20 => 247 | 21 => 248 | 22 => 249 | 23 => 250 | 24 => 251 | 25 => 252 | 26 => 253 | 27 => 254 | 46 => 319 | 47 => 320 | 48 => 321 | 49 => 322 | 50 => 323 | 57 => 376 | n => n, fun | 22 => 29 | 24 => 34 | 25 => 132 | 3 => 3 | 39 => 214 | 0 => 0 | 53 => 278 | 55 => 280 | 4 => 4 | 46 => 272 | 45 => 271 | 50 => 85 | 5 => 5 | 9 => 9 | 66 => 341 | 70 => 345 | 76 => 395 | 77 => 396 | n => n, fun | n => n⟩
theorem Tryz.sortL : Go.Proofs.SlLaysF.n6 Tryz.prog Tryz.sortL_ren :=
  { mixed := by kernel_rfl,
    f6 := ⟨Tryz.f135.name, by decide, Tryz.func135.trans (congrArg some (by kernel_rfl))⟩,
    f14 := ⟨Tryz.f175.name, by decide, Tryz.func175.trans (congrArg some (by kernel_rfl))⟩,
    f15 := Tryz.func176.trans (congrArg some (by kernel_rfl)),
    f20 := ⟨Tryz.f247.name, by decide, Tryz.func247.trans (congrArg some (by kernel_rfl))⟩,
    f21 := ⟨Tryz.f248.name, by decide, Tryz.func248.trans (congrArg some (by kernel_rfl))⟩,
    f22 := ⟨Tryz.f249.name, by decide, Tryz.func249.trans (congrArg some (by kernel_rfl))⟩,
    f23 := ⟨Tryz.f250.name, by decide, Tryz.func250.trans (congrArg some (by kernel_rfl))⟩,
    f24 := ⟨Tryz.f251.name, by decide, Tryz.func251.trans (congrArg some (by kernel_rfl))⟩,
    f25 := ⟨Tryz.f252.name, by decide, Tryz.func252.trans (congrArg some (by kernel_rfl))⟩,
    f26 := ⟨Tryz.f253.name, by decide, Tryz.func253.trans (congrArg some (by kernel_rfl))⟩,
    f27 := ⟨Tryz.f254.name, by decide, Tryz.func254.trans (congrArg some (by kernel_rfl))⟩,
    f28 := Tryz.func255.trans (congrArg some (by kernel_rfl)),
    f29 := Tryz.func256.trans (congrArg some (by kernel_rfl)),
    f46 := ⟨Tryz.f319.name, by decide, Tryz.func319.trans (congrArg some (by kernel_rfl))⟩,
    f47 := Tryz.func320.trans (congrArg some (by kernel_rfl)),
    f48 := Tryz.func321.trans (congrArg some (by kernel_rfl)),
    f49 := ⟨Tryz.f322.name, by decide, Tryz.func322.trans (congrArg some (by kernel_rfl))⟩,
    f50 := ⟨Tryz.f323.name, by decide, Tryz.func323.trans (congrArg some (by kernel_rfl))⟩,
    f57 := ⟨Tryz.f376.name, by decide, Tryz.func376.trans (congrArg some (by kernel_rfl))⟩,
    t0 := Tryz.underlying0,
    a0 := Tryz.isAgg0,
    z0 := Tryz.sizeOf0,
    v0 := Tryz.zeroValue0,
    t3 := Tryz.underlying3,
    a3 := Tryz.isAgg3,
    z3 := Tryz.sizeOf3,
    v3 := Tryz.zeroValue3,
    t4 := Tryz.underlying4,
    a4 := Tryz.isAgg4,
    z4 := Tryz.sizeOf4,
    v4 := Tryz.zeroValue4,
    t5 := Tryz.underlying5,
    a5 := Tryz.isAgg5,
    z5 := Tryz.sizeOf5,
    v5 := Tryz.zeroValue5,
    t9 := Tryz.underlying9,
    a9 := Tryz.isAgg9,
    z9 := Tryz.sizeOf9,
    v9 := Tryz.zeroValue9,
    t22 := Tryz.underlying29,
    a22 := Tryz.isAgg29,
    z22 := Tryz.sizeOf29,
    v22 := Tryz.zeroValue29,
    a24 := Tryz.isAgg34,
    z24 := Tryz.sizeOf34,
    t25 := Tryz.underlying132,
    a25 := Tryz.isAgg132,
    z25 := Tryz.sizeOf132,
    v25 := Tryz.zeroValue132,
    t39 := Tryz.underlying214,
    a39 := Tryz.isAgg214,
    z39 := Tryz.sizeOf214,
    v39 := Tryz.zeroValue214,
    t45 := Tryz.underlying271,
    a45 := Tryz.isAgg271,
    z45 := Tryz.sizeOf271,
    v45 := Tryz.zeroValue271,
    t46 := Tryz.underlying272,
    a46 := Tryz.isAgg272,
    z46 := Tryz.sizeOf272,
    v46 := Tryz.zeroValue272,
    t50 := Tryz.underlying85,
    a50 := Tryz.isAgg85,
    z50 := Tryz.sizeOf85,
    v50 := Tryz.zeroValue85,
    t53 := Tryz.underlying278,
    a53 := Tryz.isAgg278,
    z53 := Tryz.sizeOf278,
    v53 := Tryz.zeroValue278,
    t55 := Tryz.underlying280,
    a55 := Tryz.isAgg280,
    z55 := Tryz.sizeOf280,
    v55 := Tryz.zeroValue280,
    t66 := Tryz.underlying341,
    a66 := Tryz.isAgg341,
    z66 := Tryz.sizeOf341,
    v66 := Tryz.zeroValue341,
    t70 := Tryz.underlying345,
    a70 := Tryz.isAgg345,
    z70 := Tryz.sizeOf345,
    v70 := Tryz.zeroValue345,
    t76 := Tryz.underlying395,
    a76 := Tryz.isAgg395,
    z76 := Tryz.sizeOf395,
    v76 := Tryz.zeroValue395,
    t77 := Tryz.underlying396,
    a77 := Tryz.isAgg396,
    z77 := Tryz.sizeOf396,
    v77 := Tryz.zeroValue396 }
end Go.Proofs
/- Walks: slices.Compare; the order of sets. -/
namespace Go.Proofs.YtdgllpcfmkjfhaaGreat.Bl
open Go.RowKit Go.Shelf
attribute [local go_sem] Oper.semAt_some
def cmpI (x y : Int) : Int := if x < y then -1 else if y < x then 1 else 0
theorem isNaN_any (x : Int) (w : World) : Calls Tryz.prog 177 #[.int .i64 x] w fun e w' => e = .returned (.bool false) ∧ w = w' := by
  go_enter Tryz.func177, Tryz.ntmps177
  go_wp2
  go_ret
  exact ⟨by first | rfl | simp, rfl⟩
set_option maxHeartbeats 800000 in
theorem cmpCompare_any (x y : Int) (w : World) : Calls Tryz.prog 138 #[.int .i64 x, .int .i64 y] w fun e w' => e = .returned (.int .i64 (cmpI x y)) ∧ w = w' := by
  have hv : Hid (cmpI x y = if x < y then -1 else if y < x then 1 else 0) := rfl
  by_cases h1 : x < y
  · rw [if_pos h1] at hv
    go_enter Tryz.func138, Tryz.ntmps138
    go_wp2_with (go_at_call 177; refine (isNaN_any _ _).mono ?_; rintro e w1 ⟨rfl, rfl⟩)
    refine bodyPost_ret (v := .int .i64 (-1)) (by first | (simp [results, Tryz.results138, go_sem]; done) | (simp [results, Tryz.results138, go_sem, *]; done) | (simp [results, Tryz.results138, go_sem, World.cell?_setCell_same', *]; done) | (simp [results, Tryz.results138, go_sem]; first | exact ⟨rfl, rfl⟩ | rfl)) rfl ⟨by rw [hv.out], rfl⟩
  · rw [if_neg h1] at hv
    by_cases h2 : y < x
    · rw [if_pos h2] at hv
      go_enter Tryz.func138, Tryz.ntmps138
      go_wp2_with (go_at_call 177; refine (isNaN_any _ _).mono ?_; rintro e w1 ⟨rfl, rfl⟩)
      refine bodyPost_ret (v := .int .i64 1) (by first | (simp [results, Tryz.results138, go_sem]; done) | (simp [results, Tryz.results138, go_sem, *]; done) | (simp [results, Tryz.results138, go_sem, World.cell?_setCell_same', *]; done) | (simp [results, Tryz.results138, go_sem]; first | exact ⟨rfl, rfl⟩ | rfl)) rfl ⟨by rw [hv.out], rfl⟩
    · rw [if_neg h2] at hv
      go_enter Tryz.func138, Tryz.ntmps138
      go_wp2_with (go_at_call 177; refine (isNaN_any _ _).mono ?_; rintro e w1 ⟨rfl, rfl⟩)
      refine bodyPost_ret (v := .int .i64 0) (by first | (simp [results, Tryz.results138, go_sem]; done) | (simp [results, Tryz.results138, go_sem, *]; done) | (simp [results, Tryz.results138, go_sem, World.cell?_setCell_same', *]; done) | (simp [results, Tryz.results138, go_sem]; first | exact ⟨rfl, rfl⟩ | rfl)) rfl ⟨by rw [hv.out], rfl⟩
def cmpL (a b : List Int) : Int := if before a b then -1 else if a = b then 0 else 1
theorem before_pre : ∀ {k : Nat} {a b : List Int}, a.take k = b.take k → before a b = before (a.drop k) (b.drop k)
  | 0, _, _, _ => by simp
  | k + 1, [], [], _ => rfl
  | k + 1, [], _ :: _, h => by simp at h
  | k + 1, _ :: _, [], h => by simp at h
  | k + 1, x :: a, y :: b, h => by
    simp only [List.take_succ_cons, List.cons.injEq] at h
    rw [before_cons, if_pos h.1, before_pre h.2, List.drop_succ_cons, List.drop_succ_cons]
theorem drop_at {α : Type} {l : List α} {k : Nat} {x : α} (h : l[k]? = some x) : l.drop k = x :: l.drop (k + 1) := by
  obtain ⟨hk, e⟩ := List.getElem?_eq_some_iff.1 h
  rw [List.drop_eq_getElem_cons hk, e]
theorem cmpL_lt {a b : List Int} {k : Nat} {x y : Int} (h : a.take k = b.take k) (ha : a[k]? = some x) (hb : b[k]? = some y) (hne : x ≠ y) : cmpL a b = if x < y then -1 else 1 := by
  have hb2 : before a b = decide (x < y) := by rw [before_pre h, drop_at ha, drop_at hb, before_cons, if_neg hne]
  have he : a ≠ b := ne_of_at ha hb hne
  unfold cmpL
  rw [hb2, if_neg he]
  by_cases hl : x < y <;> simp [hl]
theorem cmpL_long {a b : List Int} {k : Nat} {x : Int} (h : a.take k = b.take k) (ha : a[k]? = some x) (hb : b.length ≤ k) : cmpL a b = 1 := by
  have hb2 : before a b = false := by rw [before_pre h, drop_at ha, List.drop_of_length_le hb]; rfl
  have he : a ≠ b := fun e => by
    have := (List.getElem?_eq_some_iff.1 ha).1
    rw [e] at this; omega
  unfold cmpL
  rw [hb2, if_neg he]; rfl
theorem cmpL_end {a b : List Int} (h : a = b.take a.length) : cmpL a b = if a.length < b.length then -1 else 0 := by
  by_cases hl : a.length < b.length
  · have hb2 : before a b = true := by
      rw [before_pre (k := a.length) (by rw [List.take_length]; exact h), List.drop_length, List.drop_eq_getElem_cons hl]; rfl
    unfold cmpL
    rw [hb2, if_pos hl]; rfl
  · have he : a = b := by rw [h, List.take_of_length_le]; omega
    unfold cmpL
    rw [if_neg hl, he, before_irr]; simp
set_option maxRecDepth 10000 in
set_option maxHeartbeats 1600000 in
theorem compare_any (A B : Option Addr) (n c m d : Nat) (a b : List Int) (w : World) (ha : InS w w.heap.size A n a) (hb : InS w w.heap.size B m b) (hn : n ≤ 1000000) (hm1 : m ≤ 1000000) :
    Calls Tryz.prog 98 #[.slice A n c, .slice B m d] w fun e w' => e = .returned (.int .i64 (cmpL a b)) ∧ w = w' := by
  have hla := hid ha.len
  have hlb := hid hb.len
  have HA := hid ha
  have HB := hid hb
  obtain ⟨cv, hcv⟩ : ∃ cv, cmpL a b = cv := ⟨_, rfl⟩
  have Hcv := hid hcv
  rw [hcv]
  clear ha hb hcv
  go_enter Tryz.func98, Tryz.ntmps98
  go_wp2
  go_loopw [11] (fun i wr => ∃ k : Nat, k ≤ n ∧ i = .int .i64 k ∧ Hid (a.take k = b.take k) ∧ w = wr) (fun i _ => n - (intOf i).toNat)
  case atStart => exact ⟨0, by omega, rfl, hid (by simp), rfl⟩
  case round =>
    obtain ⟨k, hk, rfl, heq, rfl⟩ := hrel
    by_cases hlt : k < n
    · obtain ⟨b1, o1, x, rfl, hb1, hx, c1⟩ := HA.out.at_ hlt
      have Hx := hid hx
      have hlti : (k : Int) < n := by omega
      clear hx
      by_cases hkm : k < m
      · obtain ⟨b2, o2, y, rfl, hb2, hy, c2⟩ := HB.out.at_ hkm
        have Hy := hid hy
        have hkmi : ¬ (m : Int) ≤ k := by omega
        have hkmi2 : (k : Int) < m := by omega
        have Hc : Hid (cmpI x y = if x < y then -1 else if y < x then 1 else 0) := rfl
        clear hy
        by_cases h1 : x < y
        · rw [if_pos h1] at Hc
          have Hf : Hid (cmpL a b = -1) := hid (by rw [cmpL_lt heq.out Hx.out Hy.out (by omega), if_pos h1])
          go_wp2_with (go_at_call 138; refine (cmpCompare_any x y _).mono ?_; rw [Hc.out]; rintro e w1 ⟨rfl, rfl⟩)
          refine bodyPost_ret (v := .int .i64 (-1)) (by first | (simp [results, Tryz.results98, go_sem]; done) | (simp [results, Tryz.results98, go_sem, *]; done) | (simp [results, Tryz.results98, go_sem, World.cell?_setCell_same', *]; done) | (simp [results, Tryz.results98, go_sem]; first | exact ⟨rfl, rfl⟩ | rfl)) rfl ⟨by rw [← Hcv.out, Hf.out], rfl⟩
        · rw [if_neg h1] at Hc
          by_cases h2 : y < x
          · rw [if_pos h2] at Hc
            have Hf : Hid (cmpL a b = 1) := hid (by rw [cmpL_lt heq.out Hx.out Hy.out (by omega), if_neg h1])
            go_wp2_with (go_at_call 138; refine (cmpCompare_any x y _).mono ?_; rw [Hc.out]; rintro e w1 ⟨rfl, rfl⟩)
            refine bodyPost_ret (v := .int .i64 1) (by first | (simp [results, Tryz.results98, go_sem]; done) | (simp [results, Tryz.results98, go_sem, *]; done) | (simp [results, Tryz.results98, go_sem, World.cell?_setCell_same', *]; done) | (simp [results, Tryz.results98, go_sem]; first | exact ⟨rfl, rfl⟩ | rfl)) rfl ⟨by rw [← Hcv.out, Hf.out], rfl⟩
          · rw [if_neg h2] at Hc
            obtain rfl : x = y := by omega
            have Hs := hid (take_eq_succ heq.out Hx.out Hy.out)
            clear h1 h2
            go_wp2_with (go_at_call 138; refine (cmpCompare_any x x _).mono ?_; rw [Hc.out]; rintro e w1 ⟨rfl, rfl⟩)
            exact ⟨⟨k + 1, by omega, by go_num, Hs, trivial⟩, by simp [intOf]; omega⟩
      · have hkmi : (m : Int) ≤ k := by omega
        have Hf : Hid (cmpL a b = 1) := hid (cmpL_long heq.out Hx.out (by rw [hlb.out]; omega))
        go_wp2
        refine bodyPost_ret (v := .int .i64 1) (by first | (simp [results, Tryz.results98, go_sem]; done) | (simp [results, Tryz.results98, go_sem, *]; done) | (simp [results, Tryz.results98, go_sem, World.cell?_setCell_same', *]; done) | (simp [results, Tryz.results98, go_sem]; first | exact ⟨rfl, rfl⟩ | rfl)) rfl ⟨by rw [← Hcv.out, Hf.out], rfl⟩
    · obtain rfl : k = n := by omega
      have He : Hid (cmpL a b = if k < m then -1 else 0) := hid (by
        have := heq.out
        rw [List.take_of_length_le (by rw [hla.out]; exact Nat.le_refl _)] at this
        rw [cmpL_end (by rw [hla.out]; exact this), hla.out, hlb.out])
      by_cases hkm : k < m
      · have hkmi : (k : Int) < m := by omega
        rw [if_pos hkm] at He
        go_wp2
        refine bodyPost_ret (v := .int .i64 (-1)) (by first | (simp [results, Tryz.results98, go_sem]; done) | (simp [results, Tryz.results98, go_sem, *]; done) | (simp [results, Tryz.results98, go_sem, World.cell?_setCell_same', *]; done) | (simp [results, Tryz.results98, go_sem]; first | exact ⟨rfl, rfl⟩ | rfl)) rfl ⟨by rw [← Hcv.out, He.out], rfl⟩
      · have hkmi : ¬ (k : Int) < m := by omega
        rw [if_neg hkm] at He
        go_wp2
        refine bodyPost_ret (v := .int .i64 0) (by first | (simp [results, Tryz.results98, go_sem]; done) | (simp [results, Tryz.results98, go_sem, *]; done) | (simp [results, Tryz.results98, go_sem, World.cell?_setCell_same', *]; done) | (simp [results, Tryz.results98, go_sem]; first | exact ⟨rfl, rfl⟩ | rfl)) rfl ⟨by rw [← Hcv.out, He.out], rfl⟩
theorem least1_any (A B : Option Addr) (n c m d : Nat) (a b : List Int) (w : World) (ha : InS w w.heap.size A n a) (hb : InS w w.heap.size B m b) (hn : n ≤ 1000000) (hm1 : m ≤ 1000000) :
    Calls Tryz.prog 136 #[.slice A n c, .slice B m d] w fun e w' => e = .returned (.int .i64 (cmpL a b)) ∧ w = w' := by
  have hc := compare_any A B n c m d a b w ha hb hn hm1
  obtain ⟨cv, hcv⟩ : ∃ cv, cmpL a b = cv := ⟨_, rfl⟩
  rw [hcv] at hc ⊢
  clear hcv ha hb
  go_enter Tryz.func136, Tryz.ntmps136
  go_wp2_with (go_at_call 98; refine hc.mono ?_; rintro e w1 ⟨rfl, rfl⟩)
  go_ret
  exact ⟨rfl, rfl⟩
end Go.Proofs.YtdgllpcfmkjfhaaGreat.Bl
