/- Texts of the proof, laid together by program. -/
import Derived.Test.YtdgllpcfmkjfhaaGreatMt
import Derived.Test.YtdgllpcfmkjfhaaGreatMy
import Derived.Test.YtdgllpcfmkjfhaaGreatMg
import Derived.Test.YtdgllpcfmkjfhaaGreatMf
import Derived.Test.YtdgllpcfmkjfhaaGreatMh
import Derived.Laws.CopyOwn
import Derived.Laws.MakeOwn
set_option linter.unusedSimpArgs false
set_option linter.unusedVariables false
/- Walk: the sets of so many inns, one by one: what goes on, whatever the loop. -/
namespace Go.Proofs.YtdgllpcfmkjfhaaGreat.Bl
open Go.RowKit Go.Shelf
attribute [local go_sem] Oper.semAt_some
structure PE where
  v : Value
  l : List Int
def encP (x : PE) : Array Value := #[x.v]
def RdP (n : Nat) (x : PE) (W : World) : Prop := ∃ A c, x.v = .slice A n c ∧ InS W W.heap.size A n x.l ∧ (n = 0 → A = none ∧ c = 0) ∧ (∀ v ∈ x.l, 0 ≤ v ∧ v < 8) ∧ ∀ b off, A = some ⟨b, off, none⟩ → b < W.heap.size ∧ ∃ cs fr, W.heap[b]? = some (.cells cs 3 fr)
theorem rdP_keep {n : Nat} (x : PE) (W W' : World) (h : RdP n x W) (hk : ∀ (k : Nat) (o : Obj), W.heap[k]? = some o → o.isCells = true → W'.heap[k]? = some o) (hz : W.heap.size ≤ W'.heap.size) : RdP n x W' := by
  obtain ⟨A, c, h1, h2, h4, h8, h9⟩ := h
  refine ⟨A, c, h1, ⟨h2.1, fun hn => ?_⟩, h4, h8, fun b off e => ⟨Nat.lt_of_lt_of_le (h9 b off e).1 hz, by obtain ⟨-, cs, fr, h6⟩ := h9 b off e; exact ⟨cs, fr, hk _ _ h6 rfl⟩⟩⟩
  obtain ⟨b, off, e, hb, hc⟩ := h2.2 hn
  refine ⟨b, off, e, by omega, fun j u hu => ?_⟩
  have h4 := hc j u hu
  obtain ⟨o, ho, hoc⟩ := cells_of_cell h4
  exact (World.cell?_of_block ((hk _ o ho hoc).trans ho.symm)).trans h4
def gooF (I m : Nat) : Nat → Nat → List Int → List (List Int)
  | 0, _, b => if b.length = m then [b] else []
  | d + 1, f, b => if b.length = m then [b] else (List.range' f (I - f)).flatMap fun i => gooF I m d (i + 1) (b ++ [(i : Int)])
def gooTo (I m d f : Nat) (b : List Int) (i : Nat) : List (List Int) := (List.range' f (i - f)).flatMap fun i => gooF I m d (i + 1) (b ++ [(i : Int)])
theorem gooTo_next {I m d f i : Nat} {b : List Int} (h : f ≤ i) : gooTo I m d f b (i + 1) = gooTo I m d f b i ++ gooF I m d (i + 1) (b ++ [(i : Int)]) := by
  unfold gooTo
  rw [show i + 1 - f = (i - f) + 1 by omega, List.range'_concat, List.flatMap_append]
  congr 1
  simp [show f + (i - f) = i by omega]
theorem gooTo_len {I m d f : Nat} {b : List Int} {i j : Nat} (h : i ≤ j) : (gooTo I m d f b i).length ≤ (gooTo I m d f b j).length := by
  induction j with
  | zero => rw [Nat.le_zero.1 h]; exact Nat.le_refl _
  | succ j ih =>
    rcases Nat.eq_or_lt_of_le h with h1 | h1
    · rw [h1]; exact Nat.le_refl _
    · refine Nat.le_trans (ih (by omega)) ?_
      by_cases hf : f ≤ j
      · rw [gooTo_next hf, List.length_append]; omega
      · unfold gooTo
        rw [show j - f = 0 by omega, show j + 1 - f = 0 by omega]; exact Nat.le_refl _
structure GIn (W : World) (own : Foot) (g I : Nat) : Prop where
  hI : W.cell? ⟨g, 0, none⟩ = some (.int .i64 (I : Int))
  lt : g < W.heap.size
  no : ¬ own g
theorem no_grow {W W' : World} {own own' : Foot} (hg : Grow own W own' W') {q : Nat} (hq : q < W.heap.size) (hn : ¬ own q) : ¬ own' q := fun h' => by
  rcases hg.from_ q h' with h1 | h1
  · exact hn h1
  · omega
theorem GIn.grow {W W' : World} {own own' : Foot} {g I : Nat} (h : GIn W own g I) (hg : Grow own W own' W') : GIn W' own' g I :=
  ⟨(World.cell?_of_block (hg.same _ h.lt h.no)).trans h.hI, Nat.lt_of_lt_of_le h.lt hg.size, no_grow hg h.lt h.no⟩
def InO (W : World) (own : Foot) (A : Option Addr) (k : Nat) (b : List Int) : Prop := InS W W.heap.size A k b ∧ ∀ bb off, A = some ⟨bb, off, none⟩ → bb < W.heap.size ∧ ¬ own bb ∧ ∃ cs fr, W.heap[bb]? = some (.cells cs 3 fr)
theorem InO.grow {W W' : World} {own own' : Foot} {A : Option Addr} {k : Nat} {b : List Int} (h : InO W own A k b) (hg : Grow own W own' W') : InO W' own' A k b :=
  ⟨ins_at h.1 hg.size (fun b' off e hb => hg.same _ hb (h.2 b' off e).2.1), fun b' off e => ⟨Nat.lt_of_lt_of_le (h.2 b' off e).1 hg.size, no_grow hg (h.2 b' off e).1 (h.2 b' off e).2.1, by obtain ⟨h1, h2, cs, fr, h3⟩ := h.2 b' off e; exact ⟨cs, fr, (hg.same _ h1 h2).trans h3⟩⟩⟩
end Go.Proofs.YtdgllpcfmkjfhaaGreat.Bl
/- Walk: the sets of so many inns: goOn, a recursion that yields. -/
namespace Go.Proofs.YtdgllpcfmkjfhaaGreat.Bl
open Go.RowKit Go.Shelf
attribute [local go_sem] Oper.semAt_some
def GoP (J Jx : List PE → Foot → World → Prop) (pre : List PE) (L : List (List Int)) (own : Foot) (W : World) (e : Ending) (W' : World) : Prop :=
  ∃ bv : Bool, e = .returned (.bool bv) ∧ (bv = true → ∃ xs own', xs.map PE.l = L ∧ J (pre ++ xs) own' W' ∧ Grow own W own' W') ∧ (bv = false → ∃ p own', p.map PE.l <+: L ∧ Jx (pre ++ p) own' W' ∧ Grow own W own' W')
theorem gooTo_pre {I m d f i j : Nat} {b : List Int} (h : i ≤ j) : gooTo I m d f b i <+: gooTo I m d f b j := by
  induction j with
  | zero => rw [Nat.le_zero.1 h]; exact List.prefix_rfl
  | succ j ih =>
    rcases Nat.eq_or_lt_of_le h with h1 | h1
    · rw [h1]; exact List.prefix_rfl
    · refine (ih (by omega)).trans ?_
      by_cases hf : f ≤ j
      · rw [gooTo_next hf]; exact List.prefix_append _ _
      · unfold gooTo
        rw [show j - f = 0 by omega, show j + 1 - f = 0 by omega]; exact List.prefix_rfl
theorem own_capN' {w : World} {base n c : Nat} {e : TypeId} {size : Nat} {A : Option Addr} {xs : List Value} (ho : w.ownsRow base e size (.slice A n c) n xs) : n ≤ c := by
  rcases ho.2 with ⟨e1, e2⟩ | ⟨g, cap, cur, e1, -, -, h, -⟩
  · cases e1; omega
  · cases e1; exact h
set_option maxRecDepth 100000 in
set_option maxHeartbeats 4000000 in
theorem goOn_walk (I m g l s Nb : Nat) (hI8 : I ≤ 8) (hm8 : m ≤ 8) (J Jx : List PE → Foot → World → Prop) (hJs : Stab s J) (hJxs : Stab s Jx) (hT : Takes (Wd none) Tryz.prog l encP (RdP m) Nb J Jx) :
    ∀ (d f : Nat) (b : List Int) (pre : List PE) (own : Foot) (W : World) (A : Option Addr) (k c D : Nat), I ≤ f + d → f ≤ 9 → b.length = k → k ≤ f → (k = 0 → A = none ∧ c = 0) → (∀ x ∈ b, 0 ≤ x ∧ x < 8) → k ≤ c → GIn W own g I → InO W own A k b → J pre own W → pre.length + (gooF I m d f b).length ≤ Nb → (∀ q, own q → q < W.heap.size) → s ≤ W.heap.size →
      CallsIn (Wd none) D Tryz.prog 78 #[.pointer (some ⟨g, 0, none⟩), .slice A k c, .int .i64 (f : Int), .int .i64 (m : Int), .func (.yield l) #[] #[]] W (GoP J Jx pre (gooF I m d f b) own W) := by
  have HJs := hid hJs
  have HJxs := hid hJxs
  have HT := hid hT
  have hd0 : (Wd none).depth = none := rfl
  clear hJs hJxs hT
  intro d
  induction d with
  | zero =>
    intro f b pre own W A k c D hfd hf9 hbl hkf hA hb8 hkc hG hIn hJ hNb hlt hsz
    have Hlt := hid hlt
    have HJ := hid hJ
    have HG := hid hG
    have HIn := hid hIn
    have Hb8 := hid hb8
    have HA := hid hA
    have Hbl := hid hbl
    clear hlt hJ hG hIn hb8 hA hbl
    by_cases hkm : k = m
    · subst hkm
      have hg : Hid (gooF I k 0 f b = [b]) := hid (by rw [gooF, if_pos Hbl.out])
      rw [hg.out] at hNb
      refine callsIn_of_wp_marks (F := Wd none) Tryz.func78 rfl trivial ?_ rfl
      simp only [Tryz.ntmps78, List.size_toArray, List.length_cons, List.length_nil, Nat.reduceAdd, Nat.reduceSub, Array.replicate_succ, Array.replicate_zero, List.push_toArray, List.append_toArray, List.nil_append, List.cons_append]
      obtain ⟨fn, tmps, asg, bdy, hy, hR⟩ := YieldAt.one hd0 (D - 1) (HT.out D pre own ⟨.slice A k c, b⟩ W HJ.out (by simp only [List.length_singleton] at hNb; omega) Hlt.out ⟨A, c, rfl, HIn.out.1, HA.out, Hb8.out, fun bb off e => ⟨(HIn.out.2 bb off e).1, (HIn.out.2 bb off e).2.2⟩⟩)
      simp only [encP] at hy
      gi_wp2_with (refine RoundIn.mono hR ?_; rintro e w3 ⟨bv, rfl, ht, hf⟩)
      refine leavesM_marks [] _ (by simp) (by simp) (fun w' ho' => ⟨.bool bv, by simp [results, Tryz.results78, go_sem], bv, rfl, fun h => ?_, fun h => ?_⟩)
      · obtain ⟨own', hj, hg'⟩ := ht h
        rw [hg.out]
        exact ⟨[⟨.slice A k c, b⟩], own', rfl, stab_off HJs.out hj ho' (by simp), grow_off hg' ho' (by simp)⟩
      · obtain ⟨own', hj, hg'⟩ := hf h
        rw [hg.out]
        exact ⟨[⟨.slice A k c, b⟩], own', List.prefix_rfl, stab_off HJxs.out hj ho' (by simp), grow_off hg' ho' (by simp)⟩
    · have hgf : Hid (gooF I m 0 f b = []) := hid (by rw [gooF, if_neg (by rw [Hbl.out]; exact hkm)])
      have hkmi : ((k : Int) == (m : Int)) = false := beq_eq_false_iff_ne.2 (by omega)
      refine callsIn_of_wp_marks (F := Wd none) Tryz.func78 rfl trivial ?_ rfl
      simp only [Tryz.ntmps78, List.size_toArray, List.length_cons, List.length_nil, Nat.reduceAdd, Nat.reduceSub, Array.replicate_succ, Array.replicate_zero, List.push_toArray, List.append_toArray, List.nil_append, List.cons_append]
      gi_wp2
      gi_loopw [11] (fun v w4 => v = .int .i64 (f : Int) ∧ w4 = W) (fun v _ => 0)
      case atStart => exact ⟨rfl, rfl⟩
      case round =>
        obtain ⟨rfl, rfl⟩ := hrel
        have c0 := HG.out.hI
        have lg := HG.out.lt
        have hcI : ¬ (f : Int) < I := by omega
        gi_wp2
        refine leavesM_marks [] _ (by simp) (by simp) (fun w' ho' => ⟨.bool true, by simp [results, Tryz.results78, go_sem], true, rfl, fun _ => ?_, fun h => absurd h (by decide)⟩)
        rw [hgf.out]
        exact ⟨[], own, rfl, by rw [List.append_nil]; exact stab_off HJs.out HJ.out ho' (by simp), grow_off (Grow.refl Hlt.out) ho' (by simp)⟩
  | succ d ih =>
    intro f b pre own W A k c D hfd hf9 hbl hkf hA hb8 hkc hG hIn hJ hNb hlt hsz
    have IH := hid ih
    have Hlt := hid hlt
    have HJ := hid hJ
    have HG := hid hG
    have HIn := hid hIn
    have Hb8 := hid hb8
    have HA := hid hA
    have Hbl := hid hbl
    clear ih hlt hJ hG hIn hb8 hA hbl
    by_cases hkm : k = m
    · subst hkm
      have hg : Hid (gooF I k (d + 1) f b = [b]) := hid (by rw [gooF, if_pos Hbl.out])
      rw [hg.out] at hNb
      refine callsIn_of_wp_marks (F := Wd none) Tryz.func78 rfl trivial ?_ rfl
      simp only [Tryz.ntmps78, List.size_toArray, List.length_cons, List.length_nil, Nat.reduceAdd, Nat.reduceSub, Array.replicate_succ, Array.replicate_zero, List.push_toArray, List.append_toArray, List.nil_append, List.cons_append]
      obtain ⟨fn, tmps, asg, bdy, hy, hR⟩ := YieldAt.one hd0 (D - 1) (HT.out D pre own ⟨.slice A k c, b⟩ W HJ.out (by simp only [List.length_singleton] at hNb; omega) Hlt.out ⟨A, c, rfl, HIn.out.1, HA.out, Hb8.out, fun bb off e => ⟨(HIn.out.2 bb off e).1, (HIn.out.2 bb off e).2.2⟩⟩)
      simp only [encP] at hy
      gi_wp2_with (refine RoundIn.mono hR ?_; rintro e w3 ⟨bv, rfl, ht, hf⟩)
      refine leavesM_marks [] _ (by simp) (by simp) (fun w' ho' => ⟨.bool bv, by simp [results, Tryz.results78, go_sem], bv, rfl, fun h => ?_, fun h => ?_⟩)
      · obtain ⟨own', hj, hg'⟩ := ht h
        rw [hg.out]
        exact ⟨[⟨.slice A k c, b⟩], own', rfl, stab_off HJs.out hj ho' (by simp), grow_off hg' ho' (by simp)⟩
      · obtain ⟨own', hj, hg'⟩ := hf h
        rw [hg.out]
        exact ⟨[⟨.slice A k c, b⟩], own', List.prefix_rfl, stab_off HJxs.out hj ho' (by simp), grow_off hg' ho' (by simp)⟩
    · have hgf : Hid (gooF I m (d + 1) f b = gooTo I m d f b I) := hid (by rw [gooF, if_neg (by rw [Hbl.out]; exact hkm)]; rfl)
      have hkmi : ((k : Int) == (m : Int)) = false := beq_eq_false_iff_ne.2 (by omega)
      refine callsIn_of_wp_marks (F := Wd none) Tryz.func78 rfl trivial ?_ rfl
      simp only [Tryz.ntmps78, List.size_toArray, List.length_cons, List.length_nil, Nat.reduceAdd, Nat.reduceSub, Array.replicate_succ, Array.replicate_zero, List.push_toArray, List.append_toArray, List.nil_append, List.cons_append]
      gi_wp2
      gi_loopw [11] (fun v w4 => ∃ (i : Nat) (xs : List PE) (own' : Foot), f ≤ i ∧ i ≤ max f I ∧ v = .int .i64 (i : Int) ∧ Hid (xs.map PE.l = gooTo I m d f b i) ∧ Hid (J (pre ++ xs) own' w4) ∧ Hid (Grow own W own' w4)) (fun v _ => I - (intOf v).toNat)
      case atStart => exact ⟨f, [], own, Nat.le_refl _, by omega, rfl, hid (by simp [gooTo]), hid (by rw [List.append_nil]; exact HJ.out), hid (Grow.refl Hlt.out)⟩
      case round =>
        obtain ⟨i, xs, own', hfi, hiI, rfl, hxs, hJx, hgr⟩ := hrel
        have HGr := HG.out.grow hgr.out
        have c0 := HGr.hI
        have lg := HGr.lt
        have HInr := hid (HIn.out.grow hgr.out)
        have HG2 := hid HGr
        clear HGr
        have hz1 := hgr.out.size
        by_cases hlt : i < I
        · have hlti : (i : Int) < I := by omega
          have hci : ((i + 1 : Nat) : Int) = (i : Int) + 1 := by omega
          have hbi : ∀ x ∈ b ++ [(i : Int)], 0 ≤ x ∧ x < 8 := fun x hx => by
            rcases List.mem_append.1 hx with h | h
            · exact Hb8.out x h
            · rw [List.mem_singleton.1 h]; omega
          have hNi : (pre ++ xs).length + (gooF I m d (i + 1) (b ++ [(i : Int)])).length ≤ Nb := by
            have h1 := congrArg List.length hxs.out
            have h2 := gooTo_len (I := I) (m := m) (d := d) (f := f) (b := b) (show i + 1 ≤ I by omega)
            rw [gooTo_next hfi, List.length_append] at h2
            rw [hgf.out] at hNb
            rw [List.length_map] at h1
            rw [List.length_append]
            omega
          have hih := fun (V : World) (q cap : Nat) h1 h2 h3 h4 h5 => IH.out (i + 1) (b ++ [(i : Int)]) (pre ++ xs) own' V (some ⟨q, 0, none⟩) (k + 1) cap (D - 1) (by omega) (by omega) (by rw [List.length_append, Hbl.out]; rfl) (by omega) (by omega) hbi h1 h2 h3 h4 hNi h5 
          rw [hci] at hih
          have Hih := hid hih
          have HF := hid (fun (W : World) (h : InS W W.heap.size A k b) => full_of_ins h (fun h0 => (HA.out h0).1))
          have Hfl : Hid ((b.flatMap cI).length = k * 1) := hid (by rw [flatI_len', Hbl.out, Nat.mul_one])
          obtain ⟨i0, hi0, hi1, hi2, hi3⟩ := info_parts' infoI
          have I0 := hid hi0; have I1 := hid hi1; have I2 := hid hi2; have I3 := hid hi3
          have hb4 : Below wr.heap.size wr (wr.alloc (.cells #[.int .i64 (i : Int)] 3)) := (Below.refl _ _).alloc (Nat.le_refl _) _
          have HI4 := hid (HInr.out.1.below hb4 hb4.size)
          have Hfb4 := hid (HF.out _ HI4.out)
          have hcase : (A = none ∧ k = 0 ∧ c = 0) ∨ ∃ bb off, A = some ⟨bb, off, none⟩ ∧ 0 < k := by
            rcases Nat.eq_zero_or_pos k with h0 | h0
            · exact .inl ⟨(HA.out h0).1, h0, (HA.out h0).2⟩
            · obtain ⟨bb, off, e, -⟩ := ins_some HInr.out.1 h0
              exact .inr ⟨bb, off, e, h0⟩
          clear hi0 hi1 hi2 hi3 hih hNi hbi HF hb4
          have hkm8 : k < 8 := by omega
          obtain ⟨Q, hQ⟩ : ∃ Q, gooF I m d (i + 1) (b ++ [(i : Int)]) = Q := ⟨_, rfl⟩
          have hnext : Hid (gooTo I m d f b (i + 1) = gooTo I m d f b i ++ Q) := hid (by rw [gooTo_next hfi, hQ])
          rw [hQ] at Hih
          clear hQ
          rcases hcase with ⟨rfl, rfl, rfl⟩ | ⟨bb, off, rfl, hk0⟩
          · gi_wp2_with (first | (gi_at_builtin; refine wpListIn_append_cap rfl _ _ 34 rfl 0 3 i0 _ 1 8 underL I0.out I1.out I2.out I3.out rfl _ 0 (b.flatMap cI) rfl Hfl.out Hfb4.out ⟨wr.heap.size, 0, none⟩ 1 1 [.int .i64 (i : Int)] rfl rfl (fun j u hj => World.news_of_block (Blk.new' rfl) j u hj) (by decide) (by unfold maxLen; omega) (by omega) (Nat.zero_le _) ?_; intro cap w9 ho9 hg9 hz9))
            have hb9 : Below wr.heap.size wr w9 := below_grown0 ((Below.refl _ _).alloc (Nat.le_refl _) _) hg9 (Nat.le_refl _)
            have hgw : Grow own' wr own' w9 := grow_below hgr.out.lt hb9
            have hsz9 : s ≤ w9.heap.size := by have := hb9.size; omega
            have hin9 : InO w9 own' (some ⟨wr.heap.size + 1, 0, none⟩) (0 + 1) (b ++ [(i : Int)]) := by
              refine ⟨?_, fun bb' off' e => ?_⟩
              · have h9 := Sl.of_own ho9
                rw [show b.flatMap cI ++ [Value.int .i64 (i : Int)] = (b ++ [(i : Int)]).flatMap cI by rw [List.flatMap_append]; rfl, World.size_alloc] at h9
                exact h9
              · cases e
                refine ⟨by simpa using hz9, fun h => ?_, by have h9 := own_cellsAt ho9; rw [World.size_alloc] at h9; exact h9⟩
                have := hgr.out.lt _ h
                omega
            have hj9 : J (pre ++ xs) own' w9 := HJs.out _ own' wr w9 hJx.out (fun j _ hlt' => hb9.block j hlt') hb9.size hb9.os hb9.tape hb9.output
            have hcap9 : 0 + 1 ≤ cap := by have h9 := own_capN' ho9; simpa using h9
            have hcall := Hih.out w9 (wr.heap.size + 1) cap hcap9 (HG2.out.grow hgw) hin9 hj9 (fun q hq => Nat.lt_of_lt_of_le (hgr.out.lt q hq) hb9.size) hsz9
            have Hgw := hid hgw
            clear hin9 hj9 hcap9 hgw ho9 hg9
            refine CallsIn.mono hcall ?_
            rintro e w5 ⟨bv, rfl, ht, hf⟩
            cases bv
            · obtain ⟨p, own2, hp, hj2, hg2⟩ := hf rfl
              clear ht hf
              gi_wp2
              refine leavesM_marks [] _ (by simp) (by simp) (fun w' ho' => ⟨.bool false, by simp [results, Tryz.results78, go_sem], false, rfl, fun h => absurd h (by decide), fun _ => ?_⟩)
              rw [hgf.out]
              refine ⟨xs ++ p, own2, ?_, by rw [← List.append_assoc]; exact stab_off HJxs.out hj2 ho' (by simp), grow_off (hgr.out.trans (Hgw.out.trans hg2)) ho' (by simp)⟩
              rw [List.map_append, hxs.out]
              exact (List.prefix_append_right_inj _).2 hp |>.trans (by rw [← hnext.out]; exact gooTo_pre (by omega))
            · obtain ⟨ys, own2, hp, hj2, hg2⟩ := ht rfl
              have Hj2 := hid hj2
              have Hg2 := hid (hgr.out.trans (Hgw.out.trans hg2))
              have Hp := hid hp
              clear ht hf hj2 hg2 hp
              gi_wp2
              (first | exact ⟨⟨i + 1, xs ++ ys, own2, by omega, by omega, by go_num, hid (by rw [List.map_append, hxs.out, Hp.out, hnext.out]), hid (by rw [← List.append_assoc]; exact Hj2.out), Hg2⟩, (by first | (simp [intOf]; omega) | (simp [intOf]; done))⟩ | (refine ⟨?_, ?_⟩; (focus ((repeat apply Exists.intro); refine ⟨?_, rfl⟩; exact ⟨i + 1, xs ++ ys, own2, by omega, by omega, by go_num, hid (by rw [List.map_append, hxs.out, Hp.out, hnext.out]), hid (by rw [← List.append_assoc]; exact Hj2.out), Hg2⟩)); (first | (simp [intOf]; omega) | (simp [intOf]; done))))
          · gi_wp2_with (first | (gi_at_builtin; refine wpListIn_append_cap rfl _ _ 34 rfl 0 3 i0 _ 1 8 underL I0.out I1.out I2.out I3.out rfl _ k (b.flatMap cI) rfl Hfl.out Hfb4.out ⟨wr.heap.size, 0, none⟩ 1 1 [.int .i64 (i : Int)] rfl rfl (fun j u hj => World.news_of_block (Blk.new' rfl) j u hj) (by decide) (by unfold maxLen; omega) (by omega) (Nat.zero_le _) ?_; intro cap w9 ho9 hg9 hz9))
            have hb9 : Below wr.heap.size wr w9 := below_grown0 ((Below.refl _ _).alloc (Nat.le_refl _) _) hg9 (Nat.le_refl _)
            have hgw : Grow own' wr own' w9 := grow_below hgr.out.lt hb9
            have hsz9 : s ≤ w9.heap.size := by have := hb9.size; omega
            have hin9 : InO w9 own' (some ⟨wr.heap.size + 1, 0, none⟩) (k + 1) (b ++ [(i : Int)]) := by
              refine ⟨?_, fun bb' off' e => ?_⟩
              · have h9 := Sl.of_own ho9
                rw [show b.flatMap cI ++ [Value.int .i64 (i : Int)] = (b ++ [(i : Int)]).flatMap cI by rw [List.flatMap_append]; rfl, World.size_alloc] at h9
                exact h9
              · cases e
                refine ⟨by simpa using hz9, fun h => ?_, by have h9 := own_cellsAt ho9; rw [World.size_alloc] at h9; exact h9⟩
                have := hgr.out.lt _ h
                omega
            have hj9 : J (pre ++ xs) own' w9 := HJs.out _ own' wr w9 hJx.out (fun j _ hlt' => hb9.block j hlt') hb9.size hb9.os hb9.tape hb9.output
            have hcap9 : k + 1 ≤ cap := by have h9 := own_capN' ho9; simpa using h9
            have hcall := Hih.out w9 (wr.heap.size + 1) cap hcap9 (HG2.out.grow hgw) hin9 hj9 (fun q hq => Nat.lt_of_lt_of_le (hgr.out.lt q hq) hb9.size) hsz9
            have Hgw := hid hgw
            clear hin9 hj9 hcap9 hgw ho9 hg9
            refine CallsIn.mono hcall ?_
            rintro e w5 ⟨bv, rfl, ht, hf⟩
            cases bv
            · obtain ⟨p, own2, hp, hj2, hg2⟩ := hf rfl
              clear ht hf
              gi_wp2
              refine leavesM_marks [] _ (by simp) (by simp) (fun w' ho' => ⟨.bool false, by simp [results, Tryz.results78, go_sem], false, rfl, fun h => absurd h (by decide), fun _ => ?_⟩)
              rw [hgf.out]
              refine ⟨xs ++ p, own2, ?_, by rw [← List.append_assoc]; exact stab_off HJxs.out hj2 ho' (by simp), grow_off (hgr.out.trans (Hgw.out.trans hg2)) ho' (by simp)⟩
              rw [List.map_append, hxs.out]
              exact (List.prefix_append_right_inj _).2 hp |>.trans (by rw [← hnext.out]; exact gooTo_pre (by omega))
            · obtain ⟨ys, own2, hp, hj2, hg2⟩ := ht rfl
              have Hj2 := hid hj2
              have Hg2 := hid (hgr.out.trans (Hgw.out.trans hg2))
              have Hp := hid hp
              clear ht hf hj2 hg2 hp
              gi_wp2
              (first | exact ⟨⟨i + 1, xs ++ ys, own2, by omega, by omega, by go_num, hid (by rw [List.map_append, hxs.out, Hp.out, hnext.out]), hid (by rw [← List.append_assoc]; exact Hj2.out), Hg2⟩, (by first | (simp [intOf]; omega) | (simp [intOf]; done))⟩ | (refine ⟨?_, ?_⟩; (focus ((repeat apply Exists.intro); refine ⟨?_, rfl⟩; exact ⟨i + 1, xs ++ ys, own2, by omega, by omega, by go_num, hid (by rw [List.map_append, hxs.out, Hp.out, hnext.out]), hid (by rw [← List.append_assoc]; exact Hj2.out), Hg2⟩)); (first | (simp [intOf]; omega) | (simp [intOf]; done))))
        · have hcI : ¬ (i : Int) < I := by omega
          have hfin : Hid (xs.map PE.l = gooTo I m d f b I) := hid (by
            rw [hxs.out]
            rcases Nat.le_total f I with h | h
            · rw [show i = I by omega]
            · unfold gooTo; rw [show i - f = 0 by omega, show I - f = 0 by omega])
          gi_wp2
          refine leavesM_marks [] _ (by simp) (by simp) (fun w' ho' => ⟨.bool true, by simp [results, Tryz.results78, go_sem], true, rfl, fun _ => ?_, fun h => absurd h (by decide)⟩)
          rw [hgf.out]
          exact ⟨xs, own', hfin.out, stab_off HJs.out hJx.out ho' (by simp), grow_off hgr.out ho' (by simp)⟩
end Go.Proofs.YtdgllpcfmkjfhaaGreat.Bl
/- Walk: the sets of so many inns: the iterator and who makes it. -/
namespace Go.Proofs.YtdgllpcfmkjfhaaGreat.Bl
open Go.RowKit Go.Shelf
attribute [local go_sem] Oper.semAt_some run_store_func
structure SIn (W : World) (own : Foot) (Bd Bm g I m : Nat) : Prop where
  hd : W.cell? ⟨Bd, 0, none⟩ = some (.pointer (some ⟨g, 0, none⟩))
  hm : W.cell? ⟨Bm, 0, none⟩ = some (.int .i64 (m : Int))
  ld : Bd < W.heap.size
  lm : Bm < W.heap.size
  od : ¬ own Bd
  om : ¬ own Bm
  gi : GIn W own g I
theorem enSets1 : ∀ args w, (callFunc 77 args).run Tryz.prog w = .ok (.enter 77 args) w := enters_of Tryz.func77 (by kernel_rfl) rfl
set_option maxRecDepth 100000 in
set_option maxHeartbeats 2000000 in
theorem sets_gives (W : World) (own₀ : Foot) (Bd Bm g I m : Nat) (hI8 : I ≤ 8) (hm8 : m ≤ 8) (hin : SIn W own₀ Bd Bm g I m) :
    Gives (Wd none) Tryz.prog 77 #[.pointer (some ⟨Bd, 0, none⟩), .pointer (some ⟨Bm, 0, none⟩)] encP (RdP m) (gooF I m I 0 []).length (fun xs => xs.map PE.l = gooF I m I 0 []) (fun p => p.map PE.l <+: gooF I m I 0 []) own₀ W := by
  intro D l J Jx hJs hJxs hT hown h0
  have HIN := hid hin
  have Hown := hid hown
  have c1 := hin.hd
  have c2 := hin.hm
  have l1 := hin.ld
  have l2 := hin.lm
  have hdr : Below W.heap.size W W.drew := (Below.refl _ _).drew
  have HG := hid (fun (V : World) (hb : Below W.heap.size W V) => goOn_walk I m g l W.heap.size (gooF I m I 0 []).length hI8 hm8 J Jx hJs hJxs hT I 0 [] [] own₀ V none 0 0 (D - 1) (by omega) (by omega) rfl (by omega) (fun _ => ⟨rfl, rfl⟩) (by simp) (by omega) (HIN.out.gi.grow (grow_below Hown.out hb)) ⟨Sl.none_, fun _ _ e => by cases e⟩ (hJs [] own₀ W V h0 (fun k _ hlt => hb.block k hlt) hb.size hb.os hb.tape hb.output) (by simp) (fun q hq => Nat.lt_of_lt_of_le (Hown.out q hq) hb.size) hb.size)
  have HJs := hid hJs
  have HJxs := hid hJxs
  clear hin hown hT h0 hJs hJxs
  refine callsIn_of_wp_marks (F := Wd none) Tryz.func77 rfl trivial ?_ rfl
  simp only [Tryz.ntmps77, List.size_toArray, List.length_cons, List.length_nil, Nat.reduceAdd, Nat.reduceSub, Array.replicate_succ, Array.replicate_zero, List.push_toArray, List.append_toArray, List.nil_append, List.cons_append]
  gi_wp2_with (gi_at_call 78; refine CallsIn.mono (HG.out _ (Below.refl _ _)) ?_; rintro e w5 ⟨bv, rfl, ht, hf⟩)
  refine leavesM_marks [] _ (by simp) (by simp) (fun w' ho' => ⟨_, results_none rfl _ _ _, ⟨_, rfl⟩, ?_⟩)
  cases bv with
  | true =>
    obtain ⟨xs, own', hx, hj, hgr⟩ := ht rfl
    exact .inl ⟨xs, own', hx, stab_off HJs.out (by simpa using hj) ho' (by simp), grow_off hgr ho' (by simp)⟩
  | false =>
    obtain ⟨p, own', hx, hj, hgr⟩ := hf rfl
    exact .inr ⟨p, own', hx, stab_off HJxs.out (by simpa using hj) ho' (by simp), grow_off hgr ho' (by simp)⟩
set_option maxRecDepth 100000 in
theorem sets_any (w : World) (g m : Nat) :
    Calls Tryz.prog 34 #[.pointer (some ⟨g, 0, none⟩), .int .i64 (m : Int)] w fun e w' => ∃ Bd Bm, e = .returned (.func (.func 77) #[] #[.pointer (some ⟨Bd, 0, none⟩), .pointer (some ⟨Bm, 0, none⟩)]) ∧ w'.cell? ⟨Bd, 0, none⟩ = some (.pointer (some ⟨g, 0, none⟩)) ∧ w'.cell? ⟨Bm, 0, none⟩ = some (.int .i64 (m : Int)) ∧ w.heap.size ≤ Bd ∧ w.heap.size ≤ Bm ∧ Bd < w'.heap.size ∧ Bm < w'.heap.size ∧ Below w.heap.size w w' := by
  go_enter Tryz.func34, Tryz.ntmps34
  go_wp2
  refine bodyPost_ret (v := .func (.func 77) #[] #[.pointer (some ⟨w.heap.size, 0, none⟩), .pointer (some ⟨w.heap.size + 1, 0, none⟩)]) (by simp [results, Tryz.results34, go_sem]) rfl ⟨_, _, rfl, by go_simp, by go_simp, by simp, by simp, by simp; omega, by simp, (by repeat' (first | with_reducible assumption | with_reducible exact Below.refl _ _ | refine Below.alloc ?_ ?_ _ | refine Below.setCell ?_ ?_ _ | refine Below.drew ?_ | refine below_drewN ?_ _ | (simp; done) | (simp; omega) | omega))⟩
end Go.Proofs.YtdgllpcfmkjfhaaGreat.Bl
/- Walk: Blame: the first of the smallest blames. -/
namespace Go.Proofs.YtdgllpcfmkjfhaaGreat.Bl
open Go.RowKit Go.Shelf
attribute [local go_sem] Oper.semAt_some
def isB (ls : List (List Int)) (l : List Int) : Bool := decide (missI ls (bitsL l) < 0)
def setsTo (I k : Nat) : List (List Int) := (List.range k).flatMap fun m => gooF I m I 0 []
theorem setsTo_next (I k : Nat) : setsTo I (k + 1) = setsTo I k ++ gooF I k I 0 [] := by
  unfold setsTo
  rw [List.range_succ, List.flatMap_append]; simp
def bestO (I : Nat) (ls : List (List Int)) : Option (List Int) := (setsTo I (I + 1)).find? (isB ls)
def bestE (I : Int) (ls : List (List Int)) : Int := if chkBook I ls ≠ 0 then chkBook I ls else if (bestO I.toNat ls).isSome then 0 else 21
def bestV (I : Int) (ls : List (List Int)) : List Int := if chkBook I ls ≠ 0 then [] else (bestO I.toNat ls).getD []
theorem rdP_blocks {n : Nat} (x : PE) (W W' : World) (h : RdP n x W) (hk : ∀ (b : Nat) (o : Obj), W.heap[b]? = some o → (∃ cs fr, o = .cells cs 3 fr) → W'.heap[b]? = some o) (hz : W.heap.size ≤ W'.heap.size) : RdP n x W' := by
  obtain ⟨A, c, h1, h2, h4, h8, h9⟩ := h
  refine ⟨A, c, h1, ins_at h2 hz (fun b off e _ => ?_), h4, h8, fun b off e => ⟨Nat.lt_of_lt_of_le (h9 b off e).1 hz, by obtain ⟨-, cs, fr, h6⟩ := h9 b off e; exact ⟨cs, fr, hk _ _ h6 ⟨cs, fr, rfl⟩⟩⟩⟩
  obtain ⟨-, cs, fr, h6⟩ := h9 b off e
  rw [h6, hk _ _ h6 ⟨cs, fr, rfl⟩]
theorem rdP_set {n g i : Nat} {t : TypeId} {cs : Array Value} {u : Value} (x : PE) (W : World) (h : RdP n x W) (hb : Blk W g t cs) (ht : t ≠ 3) : RdP n x (W.setCell ⟨g, i, none⟩ u) := by
  refine rdP_blocks x W _ h (fun b o hh ⟨cs', fr, ho⟩ => ?_) (by simp [World.setCell])
  refine (Below.heap_setCell _ _ _ _ (fun e => ?_)).trans hh
  have e' : b = g := e
  subst e'
  unfold Blk at hb
  rw [hb, ho] at hh
  cases hh
  exact ht rfl
theorem setsTo_split {I k : Nat} : ∀ {m : Nat}, k < m → ∃ r, setsTo I m = setsTo I k ++ gooF I k I 0 [] ++ r
  | 0, h => by omega
  | m + 1, h => by
    rcases Nat.eq_or_lt_of_le (Nat.le_of_lt_succ h) with h1 | h1
    · subst h1; exact ⟨[], by rw [setsTo_next, List.append_nil]⟩
    · obtain ⟨r, hr⟩ := setsTo_split h1
      exact ⟨r ++ gooF I m I 0 [], by rw [setsTo_next, hr, List.append_assoc]⟩
theorem best_some {I k : Nat} {ls : List (List Int)} {p : List (List Int)} {y : List Int} (hk : k ≤ I) (h0 : ∀ l ∈ setsTo I k, isB ls l = false) (hp : p ++ [y] <+: gooF I k I 0 []) (h1 : ∀ z ∈ p, isB ls z = false) (hy : isB ls y = true) : bestO I ls = some y := by
  obtain ⟨r, hr⟩ := setsTo_split (I := I) (show k < I + 1 by omega)
  obtain ⟨t, ht⟩ := hp
  unfold bestO
  have e1 : (setsTo I k).find? (isB ls) = none := List.find?_eq_none.2 fun l hl => by rw [h0 l hl]; decide
  have e2 : p.find? (isB ls) = none := List.find?_eq_none.2 fun l hl => by rw [h1 l hl]; decide
  rw [hr, ← ht]
  simp only [List.find?_append, e1, e2, Option.none_or]
  rw [List.find?_cons_of_pos hy]
  rfl
theorem best_none {I : Nat} {ls : List (List Int)} (h : ∀ l ∈ setsTo I (I + 1), isB ls l = false) : bestO I ls = none := List.find?_eq_none.2 fun l hl => by rw [h l hl]; decide
theorem rdP_off {n : Nat} {x : PE} {W W' : World} {Ds : List Nat} (h : RdP n x W) (ho : Off Ds W W') : ∃ A c, x.v = .slice A n c ∧ InS W' W'.heap.size A n x.l := by
  obtain ⟨A, c, h1, h2, -⟩ := h
  refine ⟨A, c, h1, h2.1, fun hn => ?_⟩
  obtain ⟨b, off, e, hb, hc⟩ := h2.2 hn
  exact ⟨b, off, e, by rw [ho.size]; exact hb, fun j u hu => (ho.cell ⟨b, off + j, none⟩).trans (hc j u hu)⟩
set_option maxRecDepth 100000 in
set_option maxHeartbeats 4000000 in
theorem blame_ok (A : Option Addr) (n c : Nat) (ls : List (List Int)) (I : Nat) (w : World) (hl : LiS w w.heap.size A n ls) (hn : n ≤ 1000000) (hw : ∀ l ∈ ls, l.length ≤ 1000000) (he : chkBook I ls = 0) :
    Calls Tryz.prog 10 #[.agg #[.int .i64 (I : Int), .slice A n c]] w fun e w' => ∃ A' m' c', e = .returned (.tuple #[.slice A' m' c', .int .i64 (bestE I ls)]) ∧ InS w' w'.heap.size A' m' (bestV I ls) ∧ Below w.heap.size w w' := by
  have HL := hid hl
  have HW := hid hw
  have HO := hid (fun w h => open_ok A none n c 0 0 ls [] (I : Int) w h (lis_nil _ _) hn HW.out (by omega) (by simp) (by rw [openE_nil]; exact he))
  have hI1 : 1 ≤ I := by have := (book_good he).1; omega
  have hI8 : I ≤ 8 := by have := (book_good he).2.1; omega
  have hbe : Hid (bestE I ls = if (bestO I ls).isSome then 0 else 21) := hid (if_neg (by simpa using he))
  have hbv : Hid (bestV I ls = (bestO I ls).getD []) := hid (if_neg (by simpa using he))
  have HM := hid (fun g w b h => missed_any g I A n c ls b w h hn (book8 he))
  clear hl hw he
  (refine (callsIn_wide (n := 9)).1 ?_; refine callsIn_of_wp_marks (F := Wd none) Tryz.func10 rfl trivial ?_ rfl; simp only [Tryz.ntmps10, List.size_toArray, List.length_cons, List.length_nil, Nat.reduceAdd, Nat.reduceSub, Array.replicate_succ, Array.replicate_zero, List.push_toArray, List.append_toArray, List.nil_append, List.cons_append])
  gi_wp2_with (fail)
  obtain ⟨W0, hW0⟩ : ∃ W0, (((w.alloc (.cells #[.int .i64 (I : Int), .slice A n c] 31)).alloc (.cells #[.slice none 0 0] 34)).alloc (.cells #[.int .i64 0] 26)) = W0 := ⟨_, rfl⟩
  have hba : Below w.heap.size w W0 := by rw [← hW0]; exact (by repeat' (first | with_reducible assumption | with_reducible exact Below.refl _ _ | refine Below.alloc ?_ ?_ _ | refine Below.setCell ?_ ?_ _ | refine Below.drew ?_ | refine below_drewN ?_ _ | (simp; done) | (simp; omega) | omega))
  have hz0 : W0.heap.size = w.heap.size + 1 + 1 + 1 := by rw [← hW0]; simp
  have B1 : Blk W0 w.heap.size 31 #[.int .i64 (I : Int), .slice A n c] := by rw [← hW0]; exact ((Blk.new' rfl).alloc _).alloc _
  have B2 : Blk W0 (w.heap.size + 1) 34 #[.slice none 0 0] := by rw [← hW0]; exact (Blk.new' (by first | (simp; done) | (simp; omega) | omega)).alloc _
  have B3 : Blk W0 (w.heap.size + 1 + 1) 26 #[.int .i64 0] := by rw [← hW0]; exact Blk.new' (by first | (simp; done) | (simp; omega) | omega)
  rw [hW0] at ⊢
  clear hW0
  refine (calls_wd (HO.out _ (HL.out.below hba hba.size))).mono ?_
  rintro e W1 ⟨g, rfl, hg, hd, hb1⟩
  have hbw := hba.trans (hb1.mono hba.size)
  obtain ⟨W2, hW2⟩ : ∃ W2, W1.alloc (.cells #[.pointer (some ⟨g, 0, none⟩)] 65) = W2 := ⟨_, rfl⟩
  have hb12 : Below W1.heap.size W1 W2 := by rw [← hW2]; exact (Below.refl _ _).alloc (Nat.le_refl _) _
  have hb02 := hb1.trans (hb12.mono hb1.size)
  have hbw2 := hba.trans (hb02.mono hba.size)
  replace B1 := B1.below hb02 B1.lt
  replace B2 := B2.below hb02 B2.lt
  replace B3 := B3.below hb02 B3.lt
  have B4 : Blk W2 W1.heap.size 65 #[.pointer (some ⟨g, 0, none⟩)] := by rw [← hW2]; exact Blk.new' rfl
  have Bg := hd.1.below hb12 hd.1.lt
  have hgT : w.heap.size + 1 + 1 < g := by omega
  have hg4 : g < W1.heap.size := hd.1.lt
  have hz2 : W2.heap.size = W1.heap.size + 1 := by rw [← hW2]; simp
  obtain ⟨T1, hT1⟩ : ∃ T, w.heap.size = T := ⟨_, rfl⟩
  obtain ⟨T2, hT2⟩ : ∃ T, T1 + 1 = T := ⟨_, rfl⟩
  obtain ⟨T3, hT3⟩ : ∃ T, T2 + 1 = T := ⟨_, rfl⟩
  obtain ⟨T4, hT4⟩ : ∃ T, W1.heap.size = T := ⟨_, rfl⟩
  rw [hT1, hT2, hT3] at B3 hgT
  rw [hT1, hT2] at B2
  rw [hT1] at B1
  rw [hT4] at B4 hg4 hz2
  rw [hT1, hT2, hT3]
  have c10 := B1.cell 0
  have c11 := B1.cell 1
  have l1 := B1.lt
  have c2 := B2.cell 0
  have l2 := B2.lt
  have f2 := B2.frozen 0
  have c3 := B3.cell 0
  have l3 := B3.lt
  have f3 := B3.frozen 0
  have HB2 := hid B2
  have HB3 := hid B3
  have HB4 := hid B4
  have HBg := hid Bg
  have Hbw2 := hid hbw2
  clear hd hb1 hb02 hba hbw hbw2 hb12 B2 B3 B4 Bg hz0 hg
  gi_wp2
  have Ho0 : Hid (∀ j, (fun j => j = T2 ∨ j = T3) j → j < W2.heap.size) := hid (by rintro j (h | h) <;> omega)
  refine wpIn_loop (fun a' wr => ∃ (ds : List Deferred) (u6 u7 u8 u9 u10 u11 u12 u13 u14 u15 u16 u17 u19 u20 u21 u22 u23 u24 u25 u26 u27 u28 u29 u30 u31 u32 : Value), (∃ (k : Nat) (own : Foot), k ≤ I + 1 ∧ u19 = .int .i64 (k : Int) ∧ Hid (∀ l ∈ setsTo I k, isB ls l = false) ∧ Hid (own T2 ∧ own T3 ∧ Blk wr T2 34 #[.slice none 0 0] ∧ Blk wr T3 26 #[.int .i64 0]) ∧ Hid (Grow (fun j => j = T2 ∨ j = T3) W2 own wr) ∧ Hid (MarksO own W2.heap.size wr.heap.size wr ds)) ∧ a' = { tmps := #[.agg #[.int .i64 (I : Int), .slice A n c], .pointer (some ⟨T1, 0, none⟩), .pointer (some ⟨T2, 0, none⟩), .pointer (some ⟨T3, 0, none⟩), .pointer (some ⟨T4, 0, none⟩), .int .i64 0, u6, u7, u8, u9, u10, u11, u12, u13, u14, u15, u16, u17, .int .i64 ((I : Int) + 1), u19, u20, u21, u22, u23, u24, u25, u26, u27, u28, u29, u30, u31, u32], defers := ds }) (fun a' wr => I + 1 - (intOf (a'.tmps.getD 19 undef)).toNat) ?_ ?_
  · (repeat apply Exists.intro); refine ⟨?_, rfl⟩
    exact ⟨0, _, by omega, rfl, hid (fun l hl => by simp [setsTo] at hl), hid ⟨Or.inl rfl, Or.inr rfl, HB2.out, HB3.out⟩, hid (Grow.refl Ho0.out), hid (MarksO.nil _ _ _ _)⟩
  · intro _ wr hinv; obtain ⟨ds, hinv⟩ := hinv; obtain ⟨u6, hinv⟩ := hinv; obtain ⟨u7, hinv⟩ := hinv; obtain ⟨u8, hinv⟩ := hinv; obtain ⟨u9, hinv⟩ := hinv; obtain ⟨u10, hinv⟩ := hinv; obtain ⟨u11, hinv⟩ := hinv; obtain ⟨u12, hinv⟩ := hinv; obtain ⟨u13, hinv⟩ := hinv; obtain ⟨u14, hinv⟩ := hinv; obtain ⟨u15, hinv⟩ := hinv; obtain ⟨u16, hinv⟩ := hinv; obtain ⟨u17, hinv⟩ := hinv; obtain ⟨u19, hinv⟩ := hinv; obtain ⟨u20, hinv⟩ := hinv; obtain ⟨u21, hinv⟩ := hinv; obtain ⟨u22, hinv⟩ := hinv; obtain ⟨u23, hinv⟩ := hinv; obtain ⟨u24, hinv⟩ := hinv; obtain ⟨u25, hinv⟩ := hinv; obtain ⟨u26, hinv⟩ := hinv; obtain ⟨u27, hinv⟩ := hinv; obtain ⟨u28, hinv⟩ := hinv; obtain ⟨u29, hinv⟩ := hinv; obtain ⟨u30, hinv⟩ := hinv; obtain ⟨u31, hinv⟩ := hinv; obtain ⟨u32, hinv⟩ := hinv; obtain ⟨hrel, ha⟩ := hinv; subst ha; dsimp only
    obtain ⟨k, own, hkI, rfl, hno, hown, hgr, hmk⟩ := hrel
    have hoT4 : ¬ own T4 := no_grow hgr.out (by omega) (by omega)
    have hog : ¬ own g := no_grow hgr.out (by omega) (by omega)
    have B4r : Blk wr T4 65 #[.pointer (some ⟨g, 0, none⟩)] := (hgr.out.same _ HB4.out.lt (by omega)).trans HB4.out
    have Bgr : Blk wr g 111 #[.int .i64 (I : Int), .slice A n c] := (hgr.out.same _ HBg.out.lt (by omega)).trans HBg.out
    have hbr : Below w.heap.size w wr := below_grow Hbw2.out hgr.out Hbw2.out.size (by rintro j (h | h) <;> omega)
    have c4 := B4r.cell 0
    have l4 := B4r.lt
    have HB4r := hid B4r
    have HBgr := hid Bgr
    have Hbr := hid hbr
    have hzr := hgr.out.size
    clear B4r Bgr hbr c10 c11 l1 c2 l2 f2 c3 l3 f3
    by_cases hlt : k < I + 1
    · have hlti : (k : Int) < (I : Int) + 1 := by omega
      gi_wp2_with (fail)
      refine (calls_wd (sets_any wr g k)).mono ?_
      rintro e X6 ⟨Bd, Bm, rfl, d1, d2, d3, d4, d5, d6, hb6⟩
      have hbX := Hbr.out.trans (hb6.mono Hbr.out.size)
      have hzX := hb6.size
      have hoX : ∀ j, own j → j < wr.heap.size := hgr.out.lt
      have HB4x := hid (HB4r.out.below hb6 HB4r.out.lt)
      have HBgx := hid (HBgr.out.below hb6 HBgr.out.lt)
      have HB2x := hid (hown.out.2.2.1.below hb6 hown.out.2.2.1.lt)
      have HB3x := hid (hown.out.2.2.2.below hb6 hown.out.2.2.2.lt)
      have hSIn : SIn X6 (fun j => own j ∨ j = X6.heap.size ∨ j = X6.heap.size + 1) Bd Bm g I k := ⟨d1, d2, d5, d6, by rintro (h | h | h); have := hoX _ h; omega; omega; omega, by rintro (h | h | h); have := hoX _ h; omega; omega; omega, ⟨HBgx.out.cell 0, HBgx.out.lt, by
        have := HBgr.out.lt
        rintro (h | h | h); exact hog h; omega; omega⟩⟩
      have Hb6 := hid hb6
      have HbX := hid hbX
      have HSIn := hid hSIn
      have hk8 : k ≤ 8 := by omega
      have hT23 : T2 < wr.heap.size ∧ T3 < wr.heap.size ∧ T4 < wr.heap.size ∧ g < wr.heap.size := ⟨hown.out.2.2.1.lt, hown.out.2.2.2.lt, HB4r.out.lt, HBgr.out.lt⟩
      clear d1 d2 hb6 hbX hSIn c4 l4
      gi_wp2
      refine with_frame fun TT hTT => ?_
      refine wpIn_rangeFunc_foot (F := Wd none) (α := PE) X6.heap.size rfl rfl rfl (gf := 77) (lb := #[.pointer (some ⟨Bd, 0, none⟩), .pointer (some ⟨Bm, 0, none⟩)]) (by rw [hTT]; rfl) trivial enSets1
        (encs := encP) (Rd := RdP k) (Nb := (gooF I k I 0 []).length) (S := fun ys => ys.map PE.l = gooF I k I 0 []) (Sp := fun ys => ys.map PE.l <+: gooF I k I 0 []) own (fun j hj => by have := hoX j hj; omega) ?hseq rdP_keep (fun _ => rfl)
        (fun ys ow V => (∀ y ∈ ys, isB ls y.l = false) ∧ Below X6.heap.size X6 V ∧ ow T2 ∧ ow T3 ∧ ¬ ow T4 ∧ ¬ ow g) (fun c' ys ow V => c' = .ret ∧ ∃ ys0 y, ys = ys0 ++ [y] ∧ (∀ z ∈ ys0, isB ls z.l = false) ∧ isB ls y.l = true ∧ RdP k y V ∧ Blk V T2 34 #[y.v] ∧ Blk V T3 26 #[.int .i64 0] ∧ ow T2 ∧ ow T3) ?hI ?hIx ⟨fun y hy => (by cases hy), Below.refl _ _, hown.out.1, hown.out.2.1, hoT4, hog⟩
        (fun x a' V => a' = { tmps := (TT.setIfInBounds 25 x.v).setIfInBounds 7 x.v, defers := [] }) ?assign (fun x a' V o h => h) ?body ?done ?stop
      case hseq =>
        intro W' hW'
        exact sets_gives W' _ Bd Bm g I k hI8 hk8 ⟨(hW'.cell (p := ⟨Bd, 0, none⟩) d5).trans HSIn.out.hd, (hW'.cell (p := ⟨Bm, 0, none⟩) d6).trans HSIn.out.hm, Nat.lt_of_lt_of_le d5 hW'.size, Nat.lt_of_lt_of_le d6 hW'.size, HSIn.out.od, HSIn.out.om, ⟨(hW'.cell (p := ⟨g, 0, none⟩) HBgx.out.lt).trans HSIn.out.gi.hI, Nat.lt_of_lt_of_le HBgx.out.lt hW'.size, HSIn.out.gi.no⟩⟩
      case hI =>
        rintro ys ow V V' ⟨h0, h1, h2, h3, h4, h5⟩ hk hz e1 e2 e3
        exact ⟨h0, stab_below h1 (Nat.le_refl _) (Nat.le_refl _) (fun q hq hq' => hk q (.inl hq) hq') hz e1 e2 e3, h2, h3, h4, h5⟩
      case hIx =>
        rintro c' ys ow V V' ⟨hc', ys0, y, h0, h1, h2, h3, h4, h5, h6, h7⟩ hk hz e1 e2 e3
        exact ⟨hc', ys0, y, h0, h1, h2, rdP_keep y V V' h3 (fun q o ho hc => (hk q (.inr (.inr ⟨o, ho, hc⟩)) (Array.getElem?_eq_some_iff.1 ho).1).trans ho) hz, (hk _ (.inr (.inl h6)) h4.lt).trans h4, (hk _ (.inr (.inl h7)) h5.lt).trans h5, h6, h7⟩
      case assign =>
        rintro l x V Kk hrd hV hK
        simp only [encP, hTT]
        gi_wp2
        exact hK _ _ (Below.refl _ _) (by rw [hTT]; rfl)
      case body =>
        rintro l pre ow x a' V ⟨h0, h1, h2, h3, h4, h5⟩ hNb hlt' hnB hrd rfl hV
        obtain ⟨xv, xl⟩ := x
        obtain ⟨Ax, cx, hxv, hxin, hxn, hxb, hxc⟩ := hrd
        have hxv' : xv = .slice Ax k cx := hxv
        subst hxv'
        have hxin' : InS V V.heap.size Ax k xl := hxin
        have hxb' : ∀ v ∈ xl, 0 ≤ v ∧ v < 8 := hxb
        have q4 := (HB4x.out.below h1 HB4x.out.lt).cell 0
        have l4 := (HB4x.out.below h1 HB4x.out.lt).lt
        have Hbg := hid (HBgx.out.below h1 HBgx.out.lt)
        have HbV := hid (HbX.out.trans (h1.mono HbX.out.size))
        have HX := hid hxin'
        have HXb := hid hxb'
        have HRd : Hid (RdP k ⟨.slice Ax k cx, xl⟩ V) := hid ⟨Ax, cx, rfl, hxin, hxn, hxb, hxc⟩
        have H0 := hid h0
        have H1 := hid h1
        have Hlv := hid (fun (W : World) (h : Below V.heap.size V W) => HL.out.below (HbV.out.trans (h.mono HbV.out.size)) (Nat.le_trans HbV.out.size h.size))
        clear hxin hxin' h0 h1 hxb hxb' hxc hxn
        simp only [hTT, List.setIfInBounds_toArray, List.set_cons_zero, List.set_cons_succ]
        gi_wp2
        refine wpIn_region_hd_all (fun W => Below V.heap.size V W) (by kernel_rfl) (by kernel_rfl) ((Below.refl _ _).drew) ?_
        (refine wpHd_val (v := ?_) (by rfl) (fun W hW => ?_) ?_; rotate_left; (· obtain ⟨hcW, hfW⟩ := bcell hW; go_simp; with_reducible rfl); simp only [Act.put, List.setIfInBounds_toArray, List.set_cons_zero, List.set_cons_succ])
        (refine wpHd_val (v := ?_) (by rfl) (fun W hW => ?_) ?_; rotate_left; (· obtain ⟨hcW, hfW⟩ := bcell hW; go_simp; with_reducible rfl); simp only [Act.put, List.setIfInBounds_toArray, List.set_cons_zero, List.set_cons_succ])
        (refine wpHd_callB (by rfl) (fun W hW => (marked_any Ax k cx xl W (HX.out.below hW hW.size) (by omega) HXb.out)) (fun W hW => ?_) ?_; (· obtain ⟨hcW, hfW⟩ := bcell hW; go_simp); simp only [Act.put, List.setIfInBounds_toArray, List.set_cons_zero, List.set_cons_succ])
        (refine wpHd_callB (by rfl) (fun W hW => (HM.out g W (bitsL xl) ⟨Hbg.out.below hW Hbg.out.lt, Hlv.out W hW⟩)) (fun W hW => ?_) ?_; (· obtain ⟨hcW, hfW⟩ := bcell hW; go_simp); simp only [Act.put, List.setIfInBounds_toArray, List.set_cons_zero, List.set_cons_succ])
        cases hm : isB ls xl
        · have hmi : ¬ missI ls (bitsL xl) < 0 := of_decide_eq_false hm
          have h0' : Hid (∀ y ∈ pre ++ [(⟨.slice Ax k cx, xl⟩ : PE)], isB ls y.l = false) := hid (fun y hy => by
            rcases List.mem_append.1 hy with h | h
            · exact H0.out y h
            · rw [List.mem_singleton.1 h]; exact hm)
          clear hm
          obtain ⟨mv, hmv⟩ : ∃ mv, missI ls (bitsL xl) = mv := ⟨_, rfl⟩
          rw [hmv] at hmi ⊢
          clear hmv
          (refine wpHd_val (v := ?_) (by rfl) (fun W hW => ?_) ?_; rotate_left; (· obtain ⟨hcW, hfW⟩ := bcell hW; go_simp; with_reducible rfl); simp only [Act.put, List.setIfInBounds_toArray, List.set_cons_zero, List.set_cons_succ])
          refine wpHd_nil ?_
          intro W9 hW9
          clear q4
          gi_wp2
          exact ⟨ow, ⟨h0'.out, H1.out.trans (hW9.mono H1.out.size), h2, h3, h4, h5⟩, grow_below hlt' hW9⟩
        · have hmi : missI ls (bitsL xl) < 0 := of_decide_eq_true hm
          have Hm := hid hm
          clear hm
          obtain ⟨mv, hmv⟩ : ∃ mv, missI ls (bitsL xl) = mv := ⟨_, rfl⟩
          rw [hmv] at hmi ⊢
          clear hmv
          (refine wpHd_val (v := ?_) (by rfl) (fun W hW => ?_) ?_; rotate_left; (· obtain ⟨hcW, hfW⟩ := bcell hW; go_simp; with_reducible rfl); simp only [Act.put, List.setIfInBounds_toArray, List.set_cons_zero, List.set_cons_succ])
          refine wpHd_nil ?_
          intro W9 hW9
          have b2 := (HB2x.out.below H1.out HB2x.out.lt).below hW9 (HB2x.out.below H1.out HB2x.out.lt).lt
          have b3 := (HB3x.out.below H1.out HB3x.out.lt).below hW9 (HB3x.out.below H1.out HB3x.out.lt).lt
          have q2 := b2.cell 0
          have q3 := b3.cell 0
          have p2 := b2.lt
          have p3 := b3.lt
          have f2 := b2.frozen 0
          have f3 := b3.frozen 0
          have hg9 : Grow ow V ow W9 := grow_below hlt' hW9
          have HRd9 : RdP k ⟨.slice Ax k cx, xl⟩ W9 := rdP_keep _ V W9 HRd.out (fun q o ho _ => (hW9.block q (Array.getElem?_eq_some_iff.1 ho).1).trans ho) hW9.size
          have hT2e : T2 ≠ T3 := by omega
          clear q4
          gi_wp2
          refine ⟨ow, ⟨rfl, pre, _, rfl, H0.out, Hm.out, ?_, ?_, ?_, h2, h3⟩, grow_set (grow_set hg9 h2 _) h3 _⟩
          · exact rdP_set _ _ (rdP_set _ _ HRd9 b2 (by decide)) (b3.far (by simp; omega) _) (by decide)
          · exact (b2.set_ 0 _).far (by simp; omega) _
          · exact (b3.far (by simp; omega) _).set_ 0 _
      case done =>
        rintro Dm ys ow V hDm hys ⟨h0, h1, h2, h3, h4, h5⟩ hg hnB rfl hK
        have hgx : Grow own wr ow V := (grow_below hoX Hb6.out).trans hg
        have hmx : MarksO ow W2.heap.size X6.heap.size V ds := hmk.out.step hzX (fun E hE hn h => by
          rcases hgx.from_ E h with h4 | h4
          · exact hn h4
          · omega) (fun E hE hn => hgx.same E hE hn)
        have hmx2 := hmx.push (by omega : W2.heap.size ≤ X6.heap.size) (Nat.le_refl _) (fun h => (hnB _ h).1 rfl) hK
        have hVlt : X6.heap.size < V.heap.size := (Array.getElem?_eq_some_iff.1 hK).1
        have hmx3 := hid (hmx2.step (M' := V.heap.size) (W' := V) (by omega) (fun _ _ h => h) (fun _ _ _ => rfl))
        have hno2 : Hid (∀ l ∈ setsTo I (k + 1), isB ls l = false) := hid (fun l hl => by
          rw [setsTo_next] at hl
          rcases List.mem_append.1 hl with h | h
          · exact hno.out l h
          · rw [← hys] at h
            obtain ⟨y, hy, rfl⟩ := List.mem_map.1 h
            exact h0 y hy)
        have hgr2 := hid (hgr.out.trans hgx)
        have hB2 := hid (HB2x.out.below h1 HB2x.out.lt)
        have hB3 := hid (HB3x.out.below h1 HB3x.out.lt)
        simp only [hTT]
        clear hmx hmx2 hgx hys h0 h1
        gi_wp2
        (first | exact ⟨⟨k + 1, ow, by omega, by go_num, hno2, hid ⟨h2, h3, hB2.out, hB3.out⟩, hgr2, hmx3⟩, (by first | (simp [intOf]; omega) | (simp [intOf]; done))⟩ | (refine ⟨?_, ?_⟩; (focus ((repeat apply Exists.intro); refine ⟨?_, rfl⟩; exact ⟨k + 1, ow, by omega, by go_num, hno2, hid ⟨h2, h3, hB2.out, hB3.out⟩, hgr2, hmx3⟩)); (first | (simp [intOf]; omega) | (simp [intOf]; done))))
      case stop =>
        rintro Dm c' ys ow V hDm hpre ⟨rfl, ys0, y, h0, h1, h2, h3, h4, h5, h6, h7⟩ hg hnB rfl hK
        have hgx : Grow own wr ow V := (grow_below hoX Hb6.out).trans hg
        have hmx : MarksO ow W2.heap.size X6.heap.size V ds := hmk.out.step hzX (fun E hE hn h => by
          rcases hgx.from_ E h with h4 | h4
          · exact hn h4
          · omega) (fun E hE hn => hgx.same E hE hn)
        have hmx2 := hmx.push (by omega : W2.heap.size ≤ X6.heap.size) (Nat.le_refl _) (fun h => (hnB _ h).1 rfl) hK
        obtain ⟨yv, yl⟩ := y
        have hpre' : ys0.map PE.l ++ [yl] <+: gooF I k I 0 [] := by rw [h0, List.map_append] at hpre; exact hpre
        have hbo := best_some (by omega) hno.out hpre' (fun z hz => by obtain ⟨q, hq, rfl⟩ := List.mem_map.1 hz; exact h1 q hq) h2
        have hgr2 := hid (hgr.out.trans hgx)
        have hbV : Below w.heap.size w V := below_grow Hbw2.out hgr2.out Hbw2.out.size (by rintro j (h | h) <;> omega)
        have HbV := hid hbV
        have H3 := hid h3
        have H4 := hid h4
        have H5 := hid h5
        have Hbe : Hid (bestE I ls = 0) := hid (by rw [hbe.out, hbo]; rfl)
        have Hbv : Hid (bestV I ls = yl) := hid (by rw [hbv.out, hbo]; rfl)
        simp only [hTT]
        clear hmx hgx hpre hpre' h0 h1 h2 h3 h4 h5 hbo hbV
        gi_wp2
        refine hmx2.leaves (fun Ds w' hDs ho => ⟨.tuple #[yv, .int .i64 0], ?_, ?_⟩)
        · have e2 := (ho.cell ⟨T2, 0, none⟩).trans (H4.out.cell 0)
          have e3 := (ho.cell ⟨T3, 0, none⟩).trans (H5.out.cell 0)
          simp [results, Tryz.results10, go_sem, *]
        · obtain ⟨A', c', hyv, hin⟩ := rdP_off H3.out ho
          have hyv' : yv = .slice A' k c' := hyv
          subst hyv'
          exact ⟨A', k, ⟨c', by rw [Hbe.out]⟩, by rw [Hbv.out]; exact hin, ho.below (by have h9 := HbV.out; rw [hT1] at h9; exact h9) (fun D hD => by have := (hDs D hD).1; have := Hbw2.out.size; omega)⟩
    · obtain rfl : k = I + 1 := by omega
      have hlti : ¬ ((I : Int) + 1 < (I : Int) + 1) := by omega
      have hbo := best_none hno.out
      have Hbe : Hid (bestE I ls = 21) := hid (by rw [hbe.out, hbo]; rfl)
      have Hbv : Hid (bestV I ls = []) := hid (by rw [hbv.out, hbo]; rfl)
      have b2 := hown.out.2.2.1
      have b3 := hown.out.2.2.2
      have q2 := b2.cell 0
      have q3 := b3.cell 0
      have p2 := b2.lt
      have p3 := b3.lt
      have f2 := b2.frozen 0
      have f3 := b3.frozen 0
      have hT2e : T2 ≠ T3 := by omega
      have hmk2 := hmk.out.step (M' := wr.heap.size) (W' := (wr.setCell ⟨T2, 0, none⟩ (.slice none 0 0)).setCell ⟨T3, 0, none⟩ (.int .i64 21)) (Nat.le_refl _) (fun _ _ h => h) (fun D hD hn => (Below.heap_setCell _ _ _ _ (fun e => hn (by have e' : D = T3 := e; rw [e']; exact hown.out.2.1))).trans (Below.heap_setCell _ _ _ _ (fun e => hn (by have e' : D = T2 := e; rw [e']; exact hown.out.1))))
      have hB2 : Blk ((wr.setCell ⟨T2, 0, none⟩ (.slice none 0 0)).setCell ⟨T3, 0, none⟩ (.int .i64 21)) T2 34 #[.slice none 0 0] := (b2.set_ 0 _).far (by simp; omega) _
      have hB3 : Blk ((wr.setCell ⟨T2, 0, none⟩ (.slice none 0 0)).setCell ⟨T3, 0, none⟩ (.int .i64 21)) T3 26 #[.int .i64 21] := (b3.far (by simp; omega) _).set_ 0 _
      have hbV : Below w.heap.size w ((wr.setCell ⟨T2, 0, none⟩ (.slice none 0 0)).setCell ⟨T3, 0, none⟩ (.int .i64 21)) := (Hbr.out.setCell (by simp; omega) _).setCell (by simp; omega) _
      have HbV := hid hbV
      have H4 := hid hB2
      have H5 := hid hB3
      clear c4 l4 hbo hbV hB2 hB3
      gi_wp2
      refine hmk2.leaves (fun Ds w' hDs ho => ⟨.tuple #[.slice none 0 0, .int .i64 21], ?_, ?_⟩)
      · have e2 := (ho.cell ⟨T2, 0, none⟩).trans (H4.out.cell 0)
        have e3 := (ho.cell ⟨T3, 0, none⟩).trans (H5.out.cell 0)
        simp [results, Tryz.results10, go_sem, *]
      · exact ⟨none, 0, ⟨0, by rw [Hbe.out]⟩, by rw [Hbv.out]; exact Sl.none_, ho.below (by have h9 := HbV.out; rw [hT1] at h9; exact h9) (fun D hD => by have := (hDs D hD).1; have := Hbw2.out.size; omega)⟩
end Go.Proofs.YtdgllpcfmkjfhaaGreat.Bl
/- Plain law: hires that are apart, one after another. -/
namespace Go.Proofs.YtdgllpcfmkjfhaaGreat.Bl
def hire (ls : List (List Int)) (i : Int) : List Int := ls.getD i.toNat []
def sB (ls : List (List Int)) (hs : List Int) : Nat := hs.foldl (fun b i => b ||| bitsL (hire ls i)) 0
def ap1 (ls : List (List Int)) (hs : List Int) (k : Nat) : Bool := !(hire ls (hs.getD k 0)).isEmpty && !(hire ls (hs.getD k 0)).any fun x => (sB ls (hs.take k)).testBit x.toNat
def apK (ls : List (List Int)) (hs : List Int) (k : Nat) : Bool := (List.range k).all (ap1 ls hs)
def apP (ls : List (List Int)) (hs : List Int) : Bool := apK ls hs hs.length
theorem sB_take {ls : List (List Int)} {hs : List Int} {k : Nat} {i : Int} (h : hs[k]? = some i) : sB ls (hs.take (k + 1)) = sB ls (hs.take k) ||| bitsL (hire ls i) := by
  unfold sB
  rw [List.take_add_one, h, List.foldl_append]; rfl
theorem apK_succ (ls : List (List Int)) (hs : List Int) (k : Nat) : apK ls hs (k + 1) = (apK ls hs k && ap1 ls hs k) := by
  unfold apK
  rw [List.range_succ, List.all_append]; simp
theorem apP_off {ls : List (List Int)} {hs : List Int} {k : Nat} (hk : k < hs.length) (h : ap1 ls hs k = false) : apP ls hs = false := by
  unfold apP apK
  cases h' : (List.range hs.length).all (ap1 ls hs)
  · rfl
  · have := List.all_eq_true.1 h' k (List.mem_range.2 hk)
    rw [h] at this; cases this
theorem ap1_at {ls : List (List Int)} {hs : List Int} {k : Nat} {i : Int} (h : hs[k]? = some i) : ap1 ls hs k = (!(hire ls i).isEmpty && !(hire ls i).any fun x => (sB ls (hs.take k)).testBit x.toNat) := by
  unfold ap1
  rw [List.getD_eq_getElem?_getD, h]; rfl
def mostL (ls : List (List Int)) : Nat → List Int → Nat → List Int → List Int
  | 0, _, _, out => out
  | r + 1, begun, i, out => mostL ls r begun (i + 1) (if apP ls (begun ++ [(i : Int)]) then (if out.length < (mostL ls r (begun ++ [(i : Int)]) (i + 1) (begun ++ [(i : Int)])).length then mostL ls r (begun ++ [(i : Int)]) (i + 1) (begun ++ [(i : Int)]) else out) else out)
def mostP (ls : List (List Int)) (begun : List Int) (i : Nat) : List Int := mostL ls (ls.length - i) begun i begun
theorem mostL_step (ls : List (List Int)) {n i : Nat} (hi : i < n) (begun out : List Int) : mostL ls (n - i) begun i out = mostL ls (n - (i + 1)) begun (i + 1) (if apP ls (begun ++ [(i : Int)]) then (if out.length < (mostL ls (n - (i + 1)) (begun ++ [(i : Int)]) (i + 1) (begun ++ [(i : Int)])).length then mostL ls (n - (i + 1)) (begun ++ [(i : Int)]) (i + 1) (begun ++ [(i : Int)]) else out) else out) := by
  rw [show n - i = (n - (i + 1)) + 1 by omega]
  rfl
theorem mostL_len (ls : List (List Int)) : ∀ (r : Nat) (begun : List Int) (i : Nat) (out : List Int) (m : Nat), out.length ≤ m → begun.length + r ≤ m → (mostL ls r begun i out).length ≤ m
  | 0, _, _, _, _, h, _ => h
  | r + 1, begun, i, out, m, h, h2 => by
    have h3 := mostL_len ls r (begun ++ [(i : Int)]) (i + 1) (begun ++ [(i : Int)]) m (by simp; omega) (by simp; omega)
    rw [mostL]
    refine mostL_len ls r begun (i + 1) _ m ?_ (by omega)
    split
    · split
      · exact h3
      · exact h
    · exact h
theorem mostP_len (ls : List (List Int)) (begun : List Int) (i : Nat) : (mostP ls begun i).length ≤ begun.length + (ls.length - i) := mostL_len ls _ begun i begun _ (by omega) (by omega)
end Go.Proofs.YtdgllpcfmkjfhaaGreat.Bl
/- Walks: hires that are apart. -/
namespace Go.Proofs.YtdgllpcfmkjfhaaGreat.Bl
open Go.RowKit Go.Shelf
attribute [local go_sem] Oper.semAt_some
set_option maxRecDepth 10000 in
theorem eqZ (W : World) (b : Nat) : (binOp .eql 74 (.agg #[bv b 0, bv b 1, bv b 2, bv b 3, bv b 4, bv b 5, bv b 6, bv b 7]) (.agg #[.int .i64 0, .int .i64 0, .int .i64 0, .int .i64 0, .int .i64 0, .int .i64 0, .int .i64 0, .int .i64 0])).run Tryz.prog W = .ok (.bool (sameB b 0)) W := by
  have h : (Op.equalIn 10000 74 (.agg #[bv b 0, bv b 1, bv b 2, bv b 3, bv b 4, bv b 5, bv b 6, bv b 7]) (.agg #[.int .i64 0, .int .i64 0, .int .i64 0, .int .i64 0, .int .i64 0, .int .i64 0, .int .i64 0, .int .i64 0])).run Tryz.prog W = .ok (sameB b 0) W := eqMarks W 9998 b 0
  go_simp
set_option maxRecDepth 100000 in
set_option maxHeartbeats 4000000 in
theorem apart_any (g : Nat) (I : Int) (A B : Option Addr) (n c m d : Nat) (ls : List (List Int)) (hs : List Int) (w : World) (hd : Desk w g I A n c ls) (hs0 : InS w w.heap.size B m hs) (hn : n ≤ 1000000) (hm : m ≤ 1000000) (hbd : ∀ l ∈ ls, isL 8 0 l = true) (hi : ∀ i ∈ hs, 0 ≤ i ∧ i < n) :
    Calls Tryz.prog 44 #[.pointer (some ⟨g, 0, none⟩), .slice B m d] w fun e w' => e = .returned (.bool (apP ls hs)) ∧ Below w.heap.size w w' := by
  have hmm := hid hs0.len
  have hlen := hid hd.2.1
  have HS := hid hs0
  have HBD := hid hbd
  have HI := hid hi
  obtain ⟨W2, hW2⟩ : ∃ W2, w.alloc (.cells #[.int .i64 0, .int .i64 0, .int .i64 0, .int .i64 0, .int .i64 0, .int .i64 0, .int .i64 0, .int .i64 0] 74) = W2 := ⟨_, rfl⟩
  have b2 : Blk W2 w.heap.size 74 (mkB 0) := by rw [← hW2]; exact Blk.new' rfl
  have hb2 : Below w.heap.size w W2 := by rw [← hW2]; exact (Below.refl _ _).alloc (Nat.le_refl _) _
  have HD := hid hd
  clear hd hs0 hbd hi
  obtain ⟨av, hav⟩ : ∃ av, apP ls hs = av := ⟨_, rfl⟩
  have Hav := hid hav
  rw [hav]
  clear hav
  go_enter Tryz.func44, Tryz.ntmps44
  go_wp2
  refine wp_scope_straight ?_
  go_wp2
  refine wp_label ?_
  go_wp2
  go_loopw [12] (fun i wr => ∃ k : Nat, k ≤ m ∧ i = .int .i64 k ∧ Hid (apK ls hs k = true) ∧ Hid (Blk wr w.heap.size 74 (mkB (sB ls (hs.take k)))) ∧ Below w.heap.size w wr) (fun i _ => m - (intOf i).toNat)
  case atStart => exact ⟨0, by omega, rfl, hid rfl, hid b2, hb2⟩
  case round =>
    clear hb2 b2 hW2
    obtain ⟨k, hk, rfl, hok, hB, hbw⟩ := hrel
    have hszw := hbw.size
    by_cases hlt : k < m
    · obtain ⟨b1, o1, hi, rfl, hb1, hm1, c1⟩ := (HS.out.below hbw hszw).at_ hlt
      obtain ⟨i0, in1⟩ := HI.out hi (List.mem_of_getElem? hm1)
      obtain ⟨i, rfl⟩ : ∃ i : Nat, hi = i := ⟨hi.toNat, by omega⟩
      have hin : i < n := by omega
      have hltk : (k : Int) < m := by omega
      have hdw := HD.out.below hbw
      obtain ⟨b2, o2, h, A2, m2, c2, hAe, hb2, hm2, q2w, hin2⟩ := HD.out.2.at_ hin
      subst hAe
      have q2 : wr.cell? ⟨b2, o2 + i, none⟩ = some (.slice A2 m2 c2) := (hbw.cell (p := ⟨b2, o2 + i, none⟩) hb2).trans q2w
      have hb2r : b2 < wr.heap.size := by omega
      have e0 : wr.cell? ⟨g, 1, none⟩ = some (.slice (some ⟨b2, o2, none⟩) n c) := hdw.1.cell 1
      have lg := hdw.1.lt
      have hhv := HBD.out h (List.mem_of_getElem? hm2)
      have hhb := hid (isL_bd hhv)
      have hhn := hid (isL_nodup hhv)
      have hm28 : m2 ≤ 8 := by have := isL_len8 hhv (by omega); have := hin2.len; omega
      have hh2 := hid hin2.len
      have hhire : hire ls (i : Int) = h := by unfold hire; rw [Int.toNat_natCast, List.getD_eq_getElem?_getD, hm2]; rfl
      obtain ⟨S, hS⟩ : ∃ S, sB ls (hs.take k) = S := ⟨_, rfl⟩
      have hap := hid (ap1_at (ls := ls) hm1)
      have hsn := hid (sB_take (ls := ls) hm1)
      rw [hhire, hS] at hap hsn
      rw [hS] at hB
      have hkl : k < hs.length := by rw [hmm.out]; exact hlt
      have Hkl := hid hkl
      clear hm1 hm2 hhv hhire hS hdw hkl q2w
      by_cases hz : m2 = 0
      · subst hz
        have hh0 : h = [] := List.eq_nil_of_length_eq_zero hh2.out
        have hf : Hid (apP ls hs = false) := hid (apP_off Hkl.out (by rw [hap.out, hh0]; rfl))
        clear hin2
        go_wp2
        (try simp only [Exit.noGoto, Exit.inBlock, Exit.then])
        refine bodyPost_ret (v := .bool false) (by first | (simp [results, Tryz.results44, go_sem]; done) | (simp [results, Tryz.results44, go_sem, *]; done) | (simp [results, Tryz.results44, go_sem, World.cell?_setCell_same', *]; done) | (simp [results, Tryz.results44, go_sem]; first | exact ⟨rfl, rfl⟩ | rfl)) rfl ⟨by rw [← Hav.out, hf.out], hbw⟩
      · have hzi : ((m2 : Int) == 0) = false := by simpa using hz
        have hzi2 : ¬ (m2 : Int) = 0 := by omega
        have hne : Hid (h.isEmpty = false) := hid (by
          cases h with
          | nil => exact absurd hh2.out.symm (by simpa using hz)
          | cons x l => rfl)
        have HI2 := hid hin2
        have HB0 := hid hB.out
        clear hin2 hB
        go_wp2
        clear c1 e0 q2
        go_loopw [35] (fun i wr => ∃ q : Nat, q ≤ m2 ∧ i = .int .i64 q ∧ Hid (h.any (fun x => S.testBit x.toNat) = (h.drop q).any (fun x => S.testBit x.toNat)) ∧ Hid (Blk wr w.heap.size 74 (mkB (S ||| bitsL (h.take q)))) ∧ Below w.heap.size w wr) (fun i _ => m2 - (intOf i).toNat)
        case atStart => exact ⟨0, by omega, rfl, hid (by simp), hid (by simpa [bitsL] using HB0.out), hbw⟩
        case round =>
          clear HB0 hbw hszw
          obtain ⟨q, hq, rfl, hno, hBq, hbq⟩ := hrel
          have lT := hBq.out.lt
          have hszq := hbq.size
          by_cases hltq : q < m2
          · have hltqi : (q : Int) < m2 := by omega
            obtain ⟨bx, ox, z, hAz, hbx, hz', qz⟩ := (HI2.out.below hbq hszq).at_ hltq
            subst hAz
            obtain ⟨z0, z8⟩ := hhb.out z (List.mem_of_getElem? hz')
            obtain ⟨zn, rfl⟩ : ∃ zn : Nat, z = zn := ⟨z.toNat, by omega⟩
            have hz8 : zn < 8 := by omega
            have hz8i : (zn : Int) < 8 := by omega
            have hdr := drop_at hz'
            have k0 := (hBq.out.cell zn).trans (mkB_at hz8)
            have f0 := hBq.out.frozen zn
            have hnt : (bitsL (h.take q)).testBit zn = false := by
              rw [bitsL_test fun x hx => (hhb.out x (List.mem_of_mem_take hx)).1, has_not]
              intro hmem
              obtain ⟨j, hj, hje⟩ := List.getElem_of_mem hmem
              rw [List.getElem_take] at hje
              have hjq : j < q := by
                have := List.length_take_le q h
                omega
              have hjl : j < h.length := by
                rw [List.length_take] at hj; omega
              obtain ⟨hql, hqe⟩ := List.getElem?_eq_some_iff.1 hz'
              have := List.pairwise_iff_getElem.1 hhn.out j q hjl hql hjq
              exact this (hje.trans hqe.symm)
            have hor : (S ||| bitsL (h.take q)).testBit zn = S.testBit zn := by rw [Nat.testBit_or, hnt, Bool.or_false]
            cases ht : S.testBit zn
            · rw [ht] at hor
              rw [bv_f hor] at k0
              have hno2 : Hid (h.any (fun x => S.testBit x.toNat) = (h.drop (q + 1)).any (fun x => S.testBit x.toNat)) := hid (by
                rw [hno.out, hdr, List.any_cons, Int.toNat_natCast, ht, Bool.false_or])
              have hB2 : Hid (Blk (wr.setCell ⟨w.heap.size, zn, none⟩ (.int .i64 1)) w.heap.size 74 (mkB (S ||| bitsL (h.take (q + 1))))) := hid (by
                rw [bitsL_take hz', Int.toNat_natCast, ← Nat.or_assoc, ← mkB_on hz8]
                exact hBq.out.set_ zn _)
              have hb2' : Below w.heap.size w (wr.setCell ⟨w.heap.size, zn, none⟩ (.int .i64 1)) := hbq.setCell (by simp) _
              clear hnt hor ht hdr hz'
              go_wp2
              exact ⟨⟨q + 1, by omega, by go_num, hno2, hB2, hb2'⟩, by simp [intOf]; omega⟩
            · rw [ht] at hor
              rw [bv_t hor] at k0
              have hf : Hid (apP ls hs = false) := hid (apP_off Hkl.out (by
                rw [hap.out, hne.out, hno.out, hdr, List.any_cons, Int.toNat_natCast, ht]; rfl))
              clear hnt hor ht hdr hz'
              go_wp2
              (try simp only [Exit.noGoto, Exit.inBlock, Exit.then])
              refine bodyPost_ret (v := .bool false) (by first | (simp [results, Tryz.results44, go_sem]; done) | (simp [results, Tryz.results44, go_sem, *]; done) | (simp [results, Tryz.results44, go_sem, World.cell?_setCell_same', *]; done) | (simp [results, Tryz.results44, go_sem]; first | exact ⟨rfl, rfl⟩ | rfl)) rfl ⟨by rw [← Hav.out, hf.out], hbq⟩
          · obtain rfl : m2 = q := by omega
            have hht : h.take m2 = h := List.take_of_length_le (by rw [hh2.out]; exact Nat.le_refl _)
            rw [hht] at hBq
            have hok2 : Hid (apK ls hs (k + 1) = true) := hid (by
              rw [apK_succ, hok.out, hap.out, hne.out, hno.out, List.drop_of_length_le (by rw [hh2.out]; exact Nat.le_refl _)]; rfl)
            rw [← hsn.out] at hBq
            obtain ⟨U, hU⟩ : ∃ U, sB ls (hs.take (k + 1)) = U := ⟨_, rfl⟩
            have hnz : sameB U 0 = false := by
              cases hs0 : sameB U 0
              · rfl
              · exfalso
                unfold sameB at hs0
                cases h with
                | nil => exact absurd hh2.out.symm (by simpa using hz)
                | cons x l =>
                  obtain ⟨x0, x8⟩ := hhb.out x (List.mem_cons_self)
                  have h1 := List.all_eq_true.1 hs0 x.toNat (List.mem_range.2 (by omega))
                  have h2 : U.testBit x.toNat = true := by
                    rw [← hU, hsn.out, Nat.testBit_or, bitsL_test fun y hy => (hhb.out y hy).1, has_iff.2 (by rw [show ((x.toNat : Nat) : Int) = x by omega]; exact List.mem_cons_self), Bool.or_true]
                  rw [h2] at h1
                  simp at h1
            have hZ := eqZ (b := U)
            rw [hnz] at hZ
            obtain ⟨d0, d1, d2, d3, d4, d5, d6, d7⟩ := load8 hBq.out
            rw [hU] at d0 d1 d2 d3 d4 d5 d6 d7
            clear hU hnz hht hno hsn hap
            go_wp2
            exact ⟨⟨k + 1, by omega, by go_num, hok2, hBq, hbq⟩, by simp [intOf]; omega⟩
    · obtain rfl : k = m := by omega
      have hf : Hid (apP ls hs = true) := hid (by have := hok.out; unfold apP; rw [hmm.out]; exact this)
      go_wp2
      (try simp only [Exit.noGoto, Exit.inBlock, Exit.then])
      refine bodyPost_ret (v := .bool true) (by first | (simp [results, Tryz.results44, go_sem]; done) | (simp [results, Tryz.results44, go_sem, *]; done) | (simp [results, Tryz.results44, go_sem, World.cell?_setCell_same', *]; done) | (simp [results, Tryz.results44, go_sem]; first | exact ⟨rfl, rfl⟩ | rfl)) rfl ⟨by rw [← Hav.out, hf.out], hbw⟩
end Go.Proofs.YtdgllpcfmkjfhaaGreat.Bl
/- Walks: the most hires that are apart. -/
namespace Go.Proofs.YtdgllpcfmkjfhaaGreat.Bl
open Go.RowKit Go.Shelf
attribute [local go_sem] Oper.semAt_some
set_option maxRecDepth 100000 in
set_option maxHeartbeats 4000000 in
theorem most_any (g : Nat) (I : Int) (A : Option Addr) (n c : Nat) (ls : List (List Int)) (hn : n ≤ 1000) (hbd : ∀ l ∈ ls, isL 8 0 l = true) (r : Nat) :
    ∀ (B : Option Addr) (m d : Nat) (begun : List Int) (from_ : Nat) (w : World), n - from_ = r → from_ ≤ n → Desk w g I A n c ls → InS w w.heap.size B m begun → m ≤ d → (m = 0 → B = none ∧ d = 0) → m ≤ from_ → (∀ x ∈ begun, 0 ≤ x ∧ x < n) →
      Calls Tryz.prog 33 #[.pointer (some ⟨g, 0, none⟩), .slice B m d, .int .i64 from_] w fun e w' => ∃ B' m' d', e = .returned (.slice B' m' d') ∧ InS w' w'.heap.size B' m' (mostP ls begun from_) ∧ Below w.heap.size w w' := by
  induction r using Nat.strongRecOn with
  | _ r ih =>
    intro B m d begun from_ w hr hfn hd hb0 hmd hm0 hmf hbx
    obtain ⟨i0, hi0, hi1, hi2, hi3⟩ := info_parts' infoI
    have I0 := hid hi0; have I1 := hid hi1; have I2 := hid hi2; have I3 := hid hi3
    have hlen := hid hd.2.1
    have hbl := hid hb0.len
    have HB := hid hb0
    have HD := hid hd
    have HX := hid hbx
    have HBD := hid hbd
    have IH := hid ih
    have hlsn : ls.length = n := hd.2.1
    obtain ⟨fin, hfin⟩ : ∃ fin, mostP ls begun from_ = fin := ⟨_, rfl⟩
    have Hfin : Hid (mostL ls (n - from_) begun from_ begun = fin) := hid (by rw [← hfin]; unfold mostP; rw [hlsn])
    rw [hfin]
    clear hi0 hi1 hi2 hi3 hd hb0 hbx ih hfin hlsn
    go_enter Tryz.func33, Tryz.ntmps33
    go_wp2
    go_loopw [7, 8] (fun o i wr => ∃ (k m' d' : Nat) (B' : Option Addr) (ol : List Int), from_ ≤ k ∧ k ≤ n ∧ i = .int .i64 k ∧ o = .slice B' m' d' ∧ Hid (InS wr wr.heap.size B' m' ol) ∧ Hid (mostL ls (n - k) begun k ol = fin) ∧ m' ≤ 1000000 ∧ Below w.heap.size w wr) (fun _ i _ => n - (intOf i).toNat)
    case atStart => exact ⟨from_, m, d, B, begun, Nat.le_refl _, hfn, rfl, rfl, HB, Hfin, by omega, Below.refl _ _⟩
    case round =>
      obtain ⟨k, m', d', B', ol, hfk, hk, rfl, rfl, hol, hfn2, hm6, hbw⟩ := hrel
      have hszw := hbw.size
      have hdw := HD.out.below hbw
      have q0 : wr.cell? ⟨g, 0, none⟩ = some (.int .i64 I) := hdw.1.cell 0
      have q1 : wr.cell? ⟨g, 1, none⟩ = some (.slice A n c) := hdw.1.cell 1
      have lg := hdw.1.lt
      clear hdw
      by_cases hlt : k < n
      · have hlti : (k : Int) < n := by omega
        have hst := hid (mostL_step ls hlt begun ol)
        have zk : IntKind.i64.wrap ((k : Int) + 1) = (k : Int) + 1 := IntWalk.i64_in _ (by omega)
        have hol2 := hid hol.out.len
        rcases Nat.eq_zero_or_pos m with h0 | h0
        · obtain ⟨rfl, rfl⟩ := hm0 h0
          have hbe : begun = [] := List.eq_nil_of_length_eq_zero (by rw [hbl.out, h0])
          have Hbe := hid hbe
          clear hbe
          subst h0
          go_wp2_with (at_builtin; refine wpList_append_cap rfl _ _ 34 rfl w.heap.size 3 i0 _ 1 8 underL I0.out I1.out I2.out I3.out rfl _ 0 [] rfl rfl (Or.inl ⟨rfl, rfl⟩) ⟨wr.heap.size, 0, none⟩ 1 1 [.int .i64 (k : Int)] rfl rfl (fun j u hj => World.news_of_block (Blk.new' rfl) j u hj) (by decide) (by unfold maxLen; omega) (by omega) (by simp; omega) ?_; intro cap w3 ho3 hg3 hz3)
          have hb3 : Below w.heap.size w w3 := (hbw.alloc hszw _).grown hg3 (by simp; omega) (fun _ h => by cases h)
          have hb03 : Below wr.heap.size wr w3 := ((Below.refl _ wr).alloc (Nat.le_refl _) _).grown hg3 (by simp) (fun _ h => by cases h)
          have hc3 := own_cap ho3
          have hi3 : InS w3 w3.heap.size (some ⟨wr.heap.size + 1, 0, none⟩) 1 (begun ++ [(k : Int)]) := by have := Sl.of_own ho3; unfold InS; rw [Hbe.out]; simpa [cI] using this
          have HI3 := hid hi3
          have hol3 := hid (hol.out.below hb03 hb03.size)
          have hx3 : Hid (∀ x ∈ begun ++ [(k : Int)], 0 ≤ x ∧ x < n) := hid (fun x hx => by
            rcases List.mem_append.1 hx with h | h
            · exact HX.out x h
            · rw [List.mem_singleton.1 h]; omega)
          have hD3 := hid (HD.out.below hb3)
          have hap := apart_any g I A (some ⟨wr.heap.size + 1, 0, none⟩) n c 1 cap ls (begun ++ [(k : Int)]) w3 hD3.out hi3 (by omega) (by omega) HBD.out hx3.out
          have hz03 := hb3.size
          clear hi3 ho3 hz3 hg3 hb03
          cases hapv : apP ls (begun ++ [(k : Int)])
          · rw [hapv] at hap
            have hst1 := hst.out
            rw [hapv] at hst1
            simp only [Bool.false_eq_true, if_false] at hst1
            have Hst1 := hid hst1
            have HAP := hid hap
            clear hap hst1 hapv
            go_wp2_with (fail)
            refine HAP.out.mono ?_
            rintro e w4 ⟨rfl, hb4⟩
            have hb5 := hb3.trans (hb4.mono hz03)
            have hol4 := hid (hol3.out.below hb4 hb4.size)
            clear hb4
            go_wp2
            (first | exact ⟨⟨k + 1, m', d', B', ol, by omega, by omega, by go_num, rfl, hol4, hid (by rw [← Hst1.out]; exact hfn2.out), hm6, hb5⟩, (by first | (simp [intOf]; omega) | (simp [intOf]; done))⟩ | (refine ⟨?_, ?_⟩; (focus ((repeat apply Exists.intro); refine ⟨?_, rfl⟩; exact ⟨k + 1, m', d', B', ol, by omega, by omega, by go_num, rfl, hol4, hid (by rw [← Hst1.out]; exact hfn2.out), hm6, hb5⟩)); (first | (simp [intOf]; omega) | (simp [intOf]; done))))
          · rw [hapv] at hap
            have hst1 := hst.out
            rw [hapv] at hst1
            simp only [if_true] at hst1
            have Hst1 := hid hst1
            have HAP := hid hap
            have hmp : Hid (mostP ls (begun ++ [(k : Int)]) (k + 1) = mostL ls (n - (k + 1)) (begun ++ [(k : Int)]) (k + 1) (begun ++ [(k : Int)])) := hid (by unfold mostP; rw [hlen.out])
            obtain ⟨ll, hll⟩ : ∃ ll, mostL ls (n - (k + 1)) (begun ++ [(k : Int)]) (k + 1) (begun ++ [(k : Int)]) = ll := ⟨_, rfl⟩
            rw [hll] at Hst1 hmp
            clear hap hst1 hapv hll hst
            go_wp2_with (fail)
            refine HAP.out.mono ?_
            rintro e w4 ⟨rfl, hb4⟩
            have hb5 := hb3.trans (hb4.mono hz03)
            have hol4 := hid (hol3.out.below hb4 hb4.size)
            have hD4 := hid (hD3.out.below hb4)
            have hI4 := hid (HI3.out.below hb4 hb4.size)
            have hz5 := hb5.size
            clear hb4 hb3
            have hk1 : ((k : Int) + 1) = ((k + 1 : Nat) : Int) := by omega
            have Hk1 := hid hk1
            clear hk1
            go_wp2_with (fail)
            rw [Hk1.out]
            refine (IH.out (n - (k + 1)) (by omega) (some ⟨wr.heap.size + 1, 0, none⟩) 1 cap (begun ++ [(k : Int)]) (k + 1) w4 rfl (by omega) hD4.out hI4.out hc3 (fun h => by omega) (by omega) hx3.out).mono ?_
            rw [hmp.out]
            rintro e w5 ⟨B5, m5, d5, rfl, hi5, hb6⟩
            rw [← Hk1.out]
            have hb7 := hb5.trans (hb6.mono hz5)
            have hol5 := hid (hol4.out.below hb6 hb6.size)
            have hm5 : m5 ≤ 1000000 := by
              have h1 := hi5.len
              have h2 := mostP_len ls (begun ++ [(k : Int)]) (k + 1)
              rw [hmp.out, hlen.out, List.length_append, hbl.out] at h2
              simp at h2
              omega
            have hllm := hid hi5.len
            have HI5 := hid hi5
            clear hi5 hb6 hb5
            by_cases hlt5 : m' < m5
            · have hlt5i : (m' : Int) < m5 := by omega
              have hnx : Hid (mostL ls (n - (k + 1)) begun (k + 1) ll = fin) := hid (by rw [← hfn2.out, Hst1.out, if_pos (by rw [hol2.out, hllm.out]; exact hlt5)])
              go_wp2
              (first | exact ⟨⟨k + 1, m5, d5, B5, ll, by omega, by omega, by go_num, rfl, HI5, hnx, hm5, hb7⟩, (by first | (simp [intOf]; omega) | (simp [intOf]; done))⟩ | (refine ⟨?_, ?_⟩; (focus ((repeat apply Exists.intro); refine ⟨?_, rfl⟩; exact ⟨k + 1, m5, d5, B5, ll, by omega, by omega, by go_num, rfl, HI5, hnx, hm5, hb7⟩)); (first | (simp [intOf]; omega) | (simp [intOf]; done))))
            · have hlt5i : ¬ (m' : Int) < m5 := by omega
              have hnx : Hid (mostL ls (n - (k + 1)) begun (k + 1) ol = fin) := hid (by rw [← hfn2.out, Hst1.out, if_neg (by rw [hol2.out, hllm.out]; exact hlt5)])
              go_wp2
              (first | exact ⟨⟨k + 1, m', d', B', ol, by omega, by omega, by go_num, rfl, hol5, hnx, hm6, hb7⟩, (by first | (simp [intOf]; omega) | (simp [intOf]; done))⟩ | (refine ⟨?_, ?_⟩; (focus ((repeat apply Exists.intro); refine ⟨?_, rfl⟩; exact ⟨k + 1, m', d', B', ol, by omega, by omega, by go_num, rfl, hol5, hnx, hm6, hb7⟩)); (first | (simp [intOf]; omega) | (simp [intOf]; done))))
        · obtain ⟨b2, o2, rfl, hb2'⟩ := ins_some HB.out h0
          have hfull : Hid (Full (wr.alloc (.cells #[.int .i64 (k : Int)] 3)) (.slice (some ⟨b2, o2, none⟩) m m) m (begun.flatMap cI)) := hid (Or.inr ⟨_, rfl, fun j u hj => by
            obtain ⟨b', o', e, hb', hc'⟩ := (HB.out.below hbw hszw).2 h0
            cases e
            rw [add_at]
            exact (World.cell?_alloc_lt _ _ _ hb').trans (hc' j u hj)⟩)
          have hfl : Hid ((begun.flatMap cI).length = m * 1) := hid (by rw [flatI_len', hbl.out, Nat.mul_one])
          go_wp2_with (at_builtin; refine wpList_append_cap rfl _ _ 34 rfl w.heap.size 3 i0 _ 1 8 underL I0.out I1.out I2.out I3.out rfl _ m (begun.flatMap cI) rfl hfl.out hfull.out ⟨wr.heap.size, 0, none⟩ 1 1 [.int .i64 (k : Int)] rfl rfl (fun j u hj => World.news_of_block (Blk.new' rfl) j u hj) (by decide) (by unfold maxLen; omega) (by omega) (by simp; omega) ?_; intro cap w3 ho3 hg3 hz3)
          have hb3 : Below w.heap.size w w3 := (hbw.alloc hszw _).grown hg3 (by simp; omega) (fun _ h => by cases h)
          have hb03 : Below wr.heap.size wr w3 := ((Below.refl _ wr).alloc (Nat.le_refl _) _).grown hg3 (by simp) (fun _ h => by cases h)
          have hc3 := own_cap ho3
          have hi3 : InS w3 w3.heap.size (some ⟨wr.heap.size + 1, 0, none⟩) (m + 1) (begun ++ [(k : Int)]) := by have := Sl.of_own ho3; unfold InS; rw [List.flatMap_append]; simpa [cI] using this
          have HI3 := hid hi3
          have hol3 := hid (hol.out.below hb03 hb03.size)
          have hx3 : Hid (∀ x ∈ begun ++ [(k : Int)], 0 ≤ x ∧ x < n) := hid (fun x hx => by
            rcases List.mem_append.1 hx with h | h
            · exact HX.out x h
            · rw [List.mem_singleton.1 h]; omega)
          have hD3 := hid (HD.out.below hb3)
          have hap := apart_any g I A (some ⟨wr.heap.size + 1, 0, none⟩) n c (m + 1) cap ls (begun ++ [(k : Int)]) w3 hD3.out hi3 (by omega) (by omega) HBD.out hx3.out
          have hz03 := hb3.size
          clear hi3 ho3 hz3 hg3 hb03
          cases hapv : apP ls (begun ++ [(k : Int)])
          · rw [hapv] at hap
            have hst1 := hst.out
            rw [hapv] at hst1
            simp only [Bool.false_eq_true, if_false] at hst1
            have Hst1 := hid hst1
            have HAP := hid hap
            clear hap hst1 hapv
            go_wp2_with (fail)
            refine HAP.out.mono ?_
            rintro e w4 ⟨rfl, hb4⟩
            have hb5 := hb3.trans (hb4.mono hz03)
            have hol4 := hid (hol3.out.below hb4 hb4.size)
            clear hb4
            go_wp2
            (first | exact ⟨⟨k + 1, m', d', B', ol, by omega, by omega, by go_num, rfl, hol4, hid (by rw [← Hst1.out]; exact hfn2.out), hm6, hb5⟩, (by first | (simp [intOf]; omega) | (simp [intOf]; done))⟩ | (refine ⟨?_, ?_⟩; (focus ((repeat apply Exists.intro); refine ⟨?_, rfl⟩; exact ⟨k + 1, m', d', B', ol, by omega, by omega, by go_num, rfl, hol4, hid (by rw [← Hst1.out]; exact hfn2.out), hm6, hb5⟩)); (first | (simp [intOf]; omega) | (simp [intOf]; done))))
          · rw [hapv] at hap
            have hst1 := hst.out
            rw [hapv] at hst1
            simp only [if_true] at hst1
            have Hst1 := hid hst1
            have HAP := hid hap
            have hmp : Hid (mostP ls (begun ++ [(k : Int)]) (k + 1) = mostL ls (n - (k + 1)) (begun ++ [(k : Int)]) (k + 1) (begun ++ [(k : Int)])) := hid (by unfold mostP; rw [hlen.out])
            obtain ⟨ll, hll⟩ : ∃ ll, mostL ls (n - (k + 1)) (begun ++ [(k : Int)]) (k + 1) (begun ++ [(k : Int)]) = ll := ⟨_, rfl⟩
            rw [hll] at Hst1 hmp
            clear hap hst1 hapv hll hst
            go_wp2_with (fail)
            refine HAP.out.mono ?_
            rintro e w4 ⟨rfl, hb4⟩
            have hb5 := hb3.trans (hb4.mono hz03)
            have hol4 := hid (hol3.out.below hb4 hb4.size)
            have hD4 := hid (hD3.out.below hb4)
            have hI4 := hid (HI3.out.below hb4 hb4.size)
            have hz5 := hb5.size
            clear hb4 hb3
            have hk1 : ((k : Int) + 1) = ((k + 1 : Nat) : Int) := by omega
            have Hk1 := hid hk1
            clear hk1
            go_wp2_with (fail)
            rw [Hk1.out]
            refine (IH.out (n - (k + 1)) (by omega) (some ⟨wr.heap.size + 1, 0, none⟩) (m + 1) cap (begun ++ [(k : Int)]) (k + 1) w4 rfl (by omega) hD4.out hI4.out hc3 (fun h => by omega) (by omega) hx3.out).mono ?_
            rw [hmp.out]
            rintro e w5 ⟨B5, m5, d5, rfl, hi5, hb6⟩
            rw [← Hk1.out]
            have hb7 := hb5.trans (hb6.mono hz5)
            have hol5 := hid (hol4.out.below hb6 hb6.size)
            have hm5 : m5 ≤ 1000000 := by
              have h1 := hi5.len
              have h2 := mostP_len ls (begun ++ [(k : Int)]) (k + 1)
              rw [hmp.out, hlen.out, List.length_append, hbl.out] at h2
              simp at h2
              omega
            have hllm := hid hi5.len
            have HI5 := hid hi5
            clear hi5 hb6 hb5
            by_cases hlt5 : m' < m5
            · have hlt5i : (m' : Int) < m5 := by omega
              have hnx : Hid (mostL ls (n - (k + 1)) begun (k + 1) ll = fin) := hid (by rw [← hfn2.out, Hst1.out, if_pos (by rw [hol2.out, hllm.out]; exact hlt5)])
              go_wp2
              (first | exact ⟨⟨k + 1, m5, d5, B5, ll, by omega, by omega, by go_num, rfl, HI5, hnx, hm5, hb7⟩, (by first | (simp [intOf]; omega) | (simp [intOf]; done))⟩ | (refine ⟨?_, ?_⟩; (focus ((repeat apply Exists.intro); refine ⟨?_, rfl⟩; exact ⟨k + 1, m5, d5, B5, ll, by omega, by omega, by go_num, rfl, HI5, hnx, hm5, hb7⟩)); (first | (simp [intOf]; omega) | (simp [intOf]; done))))
            · have hlt5i : ¬ (m' : Int) < m5 := by omega
              have hnx : Hid (mostL ls (n - (k + 1)) begun (k + 1) ol = fin) := hid (by rw [← hfn2.out, Hst1.out, if_neg (by rw [hol2.out, hllm.out]; exact hlt5)])
              go_wp2
              (first | exact ⟨⟨k + 1, m', d', B', ol, by omega, by omega, by go_num, rfl, hol5, hnx, hm6, hb7⟩, (by first | (simp [intOf]; omega) | (simp [intOf]; done))⟩ | (refine ⟨?_, ?_⟩; (focus ((repeat apply Exists.intro); refine ⟨?_, rfl⟩; exact ⟨k + 1, m', d', B', ol, by omega, by omega, by go_num, rfl, hol5, hnx, hm6, hb7⟩)); (first | (simp [intOf]; omega) | (simp [intOf]; done))))
      · obtain rfl : k = n := by omega
        have hf2 : Hid (ol = fin) := hid (by rw [← hfn2.out, Nat.sub_self]; rfl)
        go_wp2
        refine bodyPost_ret (v := .slice B' m' d') (by first | (simp [results, Tryz.results33, go_sem]; done) | (simp [results, Tryz.results33, go_sem, *]; done) | (simp [results, Tryz.results33, go_sem, World.cell?_setCell_same', *]; done) | (simp [results, Tryz.results33, go_sem]; first | exact ⟨rfl, rfl⟩ | rfl)) rfl ⟨B', m', d', rfl, by rw [← hf2.out]; exact hol.out, hbw⟩
end Go.Proofs.YtdgllpcfmkjfhaaGreat.Bl
/- Walks: CheckApart, Apart, All, listed. -/
namespace Go.Proofs.YtdgllpcfmkjfhaaGreat.Bl
open Go.RowKit Go.Shelf
attribute [local go_sem] Oper.semAt_some
def capE (I : Int) (ls : List (List Int)) (hs : List Int) : Int := if chkBook I ls ≠ 0 then chkBook I ls else if isL ls.length 0 hs = false then 3 else if apP ls hs = false then 16 else 0
set_option maxRecDepth 100000 in
set_option maxHeartbeats 1600000 in
theorem checkApart_any (A B : Option Addr) (n c m d : Nat) (ls : List (List Int)) (hs : List Int) (I : Int) (w : World) (hl : LiS w w.heap.size A n ls) (hs0 : InS w w.heap.size B m hs) (hn : n ≤ 1000000) (hw : ∀ l ∈ ls, l.length ≤ 1000000) (hm : m ≤ 1000000) :
    Calls Tryz.prog 16 #[.agg #[.int .i64 I, .slice A n c], .slice B m d] w fun e w' => e = .returned (.int .i64 (capE I ls hs)) ∧ Below w.heap.size w w' := by
  have HL := hid hl
  have HS := hid hs0
  have HW := hid hw
  have hln := hid hl.1
  clear hl hs0 hw
  by_cases he : chkBook I ls = 0
  · obtain ⟨h1, h8, h10, hall⟩ := book_good he
    have HO := hid (fun w h => open_ok A none n c 0 0 ls [] I w h (lis_nil _ _) hn HW.out (by omega) (by simp) (by rw [openE_nil]; exact he))
    have hv : Hid (capE I ls hs = if isL ls.length 0 hs = false then 3 else if apP ls hs = false then 16 else 0) := hid (if_neg (by simpa using he))
    rw [hln.out] at hv
    have hn10 : n ≤ 10 := by rw [← hln.out]; exact h10
    have HR := hid (fun W h => rising_any B m d hs (n : Int) W h hm (by omega) (by omega))
    have H8 := hid (book8 he)
    have He := hid he
    clear he h1 h8 h10 hall
    cases hr : isL (n : Int) 0 hs
    · rw [hr] at hv HR
      clear hr
      go_enter Tryz.func16, Tryz.ntmps16
      go_wp2_with (fail)
      refine (HO.out _ (HL.out.below (by repeat' (first | with_reducible assumption | with_reducible exact Below.refl _ _ | refine Below.alloc ?_ ?_ _ | refine Below.setCell ?_ ?_ _ | refine Below.drew ?_ | refine below_drewN ?_ _ | (simp; done) | (simp; omega) | omega)) (by first | (simp; done) | (simp; omega) | omega))).mono ?_
      rintro e w1 ⟨g, rfl, hg, hd, hb1⟩
      have hbel : Below w.heap.size w w1 := Below.trans (by repeat' (first | with_reducible assumption | with_reducible exact Below.refl _ _ | refine Below.alloc ?_ ?_ _ | refine Below.setCell ?_ ?_ _ | refine Below.drew ?_ | refine below_drewN ?_ _ | (simp; done) | (simp; omega) | omega)) (hb1.mono (by first | (simp; done) | (simp; omega) | omega))
      have c1 : w1.cell? ⟨w.heap.size, 1, none⟩ = some (.slice A n c) := (hb1.cell (p := ⟨w.heap.size, 1, none⟩) (by first | (simp; done) | (simp; omega) | omega)).trans (by go_simp)
      have hq0 : w.heap.size < w1.heap.size := (by have := hb1.size; simp at this; omega)
      clear hd hb1
      go_wp2_with (fail)
      refine (HR.out _ (HS.out.below hbel hbel.size)).mono ?_
      rintro e w2 ⟨rfl, hb2⟩
      go_wp2
      refine bodyPost_ret (v := .int .i64 3) (by first | (simp [results, Tryz.results16, go_sem]; done) | (simp [results, Tryz.results16, go_sem, *]; done) | (simp [results, Tryz.results16, go_sem, World.cell?_setCell_same', *]; done) | (simp [results, Tryz.results16, go_sem]; first | exact ⟨rfl, rfl⟩ | rfl)) rfl ⟨by rw [hv.out]; rfl, hbel.trans (hb2.mono hbel.size)⟩
    · have hri : Hid (∀ i ∈ hs, 0 ≤ i ∧ i < (n : Int)) := hid (isL_bd hr)
      rw [hr] at hv HR
      have HA := hid (fun w g h1 h2 => apart_any g I A B n c m d ls hs w h1 h2 hn hm H8.out hri.out)
      clear hr
      cases ha : apP ls hs
      all_goals
        rw [ha] at hv HA
        clear ha
        go_enter Tryz.func16, Tryz.ntmps16
        go_wp2_with (fail)
        refine (HO.out _ (HL.out.below (by repeat' (first | with_reducible assumption | with_reducible exact Below.refl _ _ | refine Below.alloc ?_ ?_ _ | refine Below.setCell ?_ ?_ _ | refine Below.drew ?_ | refine below_drewN ?_ _ | (simp; done) | (simp; omega) | omega)) (by first | (simp; done) | (simp; omega) | omega))).mono ?_
        rintro e w1 ⟨g, rfl, hg, hd, hb1⟩
        have hbel : Below w.heap.size w w1 := Below.trans (by repeat' (first | with_reducible assumption | with_reducible exact Below.refl _ _ | refine Below.alloc ?_ ?_ _ | refine Below.setCell ?_ ?_ _ | refine Below.drew ?_ | refine below_drewN ?_ _ | (simp; done) | (simp; omega) | omega)) (hb1.mono (by first | (simp; done) | (simp; omega) | omega))
        have c1 : w1.cell? ⟨w.heap.size, 1, none⟩ = some (.slice A n c) := (hb1.cell (p := ⟨w.heap.size, 1, none⟩) (by first | (simp; done) | (simp; omega) | omega)).trans (by go_simp)
        have hq0 : w.heap.size < w1.heap.size := (by have := hb1.size; simp at this; omega)
        have HD := hid hd
        clear hd hb1
        go_wp2_with (fail)
        refine (HR.out _ (HS.out.below hbel hbel.size)).mono ?_
        rintro e w2 ⟨rfl, hb2⟩
        have hbe2 := hbel.trans (hb2.mono hbel.size)
        have hd2 := hid (HD.out.below hb2)
        clear hb2 c1
        go_wp2_with (fail)
        refine (HA.out _ _ hd2.out (HS.out.below hbe2 hbe2.size)).mono ?_
        rintro e w3 ⟨rfl, hb3⟩
        have hbe3 := hbe2.trans (hb3.mono hbe2.size)
        go_wp2
      · refine bodyPost_ret (v := .int .i64 16) (by first | (simp [results, Tryz.results16, go_sem]; done) | (simp [results, Tryz.results16, go_sem, *]; done) | (simp [results, Tryz.results16, go_sem, World.cell?_setCell_same', *]; done) | (simp [results, Tryz.results16, go_sem]; first | exact ⟨rfl, rfl⟩ | rfl)) rfl ⟨by rw [hv.out]; rfl, hbe3⟩
      · refine bodyPost_ret (v := .int .i64 0) (by first | (simp [results, Tryz.results16, go_sem]; done) | (simp [results, Tryz.results16, go_sem, *]; done) | (simp [results, Tryz.results16, go_sem, World.cell?_setCell_same', *]; done) | (simp [results, Tryz.results16, go_sem]; first | exact ⟨rfl, rfl⟩ | rfl)) rfl ⟨by rw [hv.out]; rfl, hbe3⟩
  · have hv : Hid (capE I ls hs = chkBook I ls) := hid (if_pos he)
    have HO := hid (fun w h => open_bad A none n c 0 0 ls [] I w h (lis_nil _ _) hn HW.out (by omega) (by simp) (by rw [openE_nil]; exact he))
    rw [openE_nil] at HO
    obtain ⟨ev, hev⟩ : ∃ ev, chkBook I ls = ev := ⟨_, rfl⟩
    rw [hev] at hv HO he
    have hbi : (ev != 0) = true := by simpa using he
    clear hev
    go_enter Tryz.func16, Tryz.ntmps16
    go_wp2_with (fail)
    refine (HO.out _ (HL.out.below (by repeat' (first | with_reducible assumption | with_reducible exact Below.refl _ _ | refine Below.alloc ?_ ?_ _ | refine Below.setCell ?_ ?_ _ | refine Below.drew ?_ | refine below_drewN ?_ _ | (simp; done) | (simp; omega) | omega)) (by first | (simp; done) | (simp; omega) | omega))).mono ?_
    rintro e w1 ⟨rfl, hb1⟩
    have hbel : Below w.heap.size w w1 := Below.trans (by repeat' (first | with_reducible assumption | with_reducible exact Below.refl _ _ | refine Below.alloc ?_ ?_ _ | refine Below.setCell ?_ ?_ _ | refine Below.drew ?_ | refine below_drewN ?_ _ | (simp; done) | (simp; omega) | omega)) (hb1.mono (by first | (simp; done) | (simp; omega) | omega))
    go_wp2
    refine bodyPost_ret (v := .int .i64 ev) (by first | (simp [results, Tryz.results16, go_sem]; done) | (simp [results, Tryz.results16, go_sem, *]; done) | (simp [results, Tryz.results16, go_sem, World.cell?_setCell_same', *]; done) | (simp [results, Tryz.results16, go_sem]; first | exact ⟨rfl, rfl⟩ | rfl)) rfl ⟨by rw [hv.out], hbel⟩
theorem make_i64 {L : Nat} (hL : L ≤ 100000) (w0 : World) : (Instr.makeSlice 34 (.int .i64 (L : Int)) (.int .i64 (L : Int))).run Tryz.prog w0 = .ok (.slice (some ⟨w0.heap.size, 0, none⟩) L L) (w0.alloc (.cells (madeCells #[.int .i64 0] L) 3)) := by
  obtain ⟨i, hi, hz0, hz1, hz2⟩ := info_parts' infoI
  have := run_makeSlice (P := Tryz.prog) (w := w0) 34 3 i (.int .i64 0) underL hi hz0 .i64 .i64 (L : Int) (L : Int) (by omega) (Int.le_refl _) (by rw [hz1]; omega) (by rw [hz2]; omega) (by omega)
  rw [this, hz1]
  simp
  rfl
theorem cop_src {w : World} {B n : Nat} {A : Option Addr} {xs : List Value} (h : Sl w B 1 A n xs) (hn : 0 < n) {w' : World} (hk : ∀ p : Addr, p.block < B → w'.cell? p = w.cell? p) : ∃ ad, A = some ad ∧ ∀ j v, xs[j]? = some v → w'.cell? (ad.add j) = some v := by
  obtain ⟨b, off, rfl, hb, hc⟩ := h.2 hn
  exact ⟨_, rfl, fun j v hv => by rw [add_at]; exact (hk _ hb).trans (hc j v hv)⟩
theorem splice_all {cur cs : List Value} (h : cs.length = cur.length) : splice cur 0 cs = cs := by
  unfold splice
  rw [List.take_zero, Nat.zero_add, List.drop_of_length_le (by omega)]; simp
def aprV (I : Int) (ls : List (List Int)) : List Int := if chkBook I ls ≠ 0 then [] else mostP ls [] 0
set_option maxRecDepth 100000 in
set_option maxHeartbeats 1600000 in
theorem apartF_any (A : Option Addr) (n c : Nat) (ls : List (List Int)) (I : Int) (w : World) (hl : LiS w w.heap.size A n ls) (hn : n ≤ 1000000) (hw : ∀ l ∈ ls, l.length ≤ 1000000) :
    Calls Tryz.prog 8 #[.agg #[.int .i64 I, .slice A n c]] w fun e w' => ∃ A' m', e = .returned (.tuple #[.slice A' m' m', .int .i64 (chkBook I ls)]) ∧ InS w' w'.heap.size A' m' (aprV I ls) ∧ Below w.heap.size w w' := by
  have HL := hid hl
  have HW := hid hw
  have hln := hid hl.1
  clear hl hw
  by_cases he : chkBook I ls = 0
  · obtain ⟨h1, h8, h10, hall⟩ := book_good he
    have HO := hid (fun w h => open_ok A none n c 0 0 ls [] I w h (lis_nil _ _) hn HW.out (by omega) (by simp) (by rw [openE_nil]; exact he))
    have hv : Hid (aprV I ls = mostP ls [] 0) := hid (if_neg (by simpa using he))
    have hn10 : n ≤ 10 := by rw [← hln.out]; exact h10
    have H8 := hid (book8 he)
    have HMo := hid (fun g w h => most_any g I A n c ls (by omega) H8.out (n - 0) none 0 0 [] 0 w rfl (by omega) h Sl.none_ (by omega) (fun _ => ⟨rfl, rfl⟩) (by omega) (by simp))
    have hmz : (((0 : Nat) : Int)) = 0 := rfl
    rw [hmz] at HMo
    have hml := mostP_len ls [] 0
    rw [hln.out] at hml
    obtain ⟨mv, hmv⟩ : ∃ mv, mostP ls [] 0 = mv := ⟨_, rfl⟩
    rw [hmv] at hv HMo hml
    have hI3 : (Tryz.prog.info? 3).map (·.size) = some 1 := by kernel_rfl
    rw [he]
    clear he h1 h8 h10 hall hmv hmz
    go_enter Tryz.func8, Tryz.ntmps8
    go_wp2_with (fail)
    refine (HO.out _ (HL.out.below (by repeat' (first | with_reducible assumption | with_reducible exact Below.refl _ _ | refine Below.alloc ?_ ?_ _ | refine Below.setCell ?_ ?_ _ | refine Below.drew ?_ | refine below_drewN ?_ _ | (simp; done) | (simp; omega) | omega)) (by first | (simp; done) | (simp; omega) | omega))).mono ?_
    rintro e w1 ⟨g, rfl, hg, hd, hb1⟩
    have hbel : Below w.heap.size w w1 := Below.trans (by repeat' (first | with_reducible assumption | with_reducible exact Below.refl _ _ | refine Below.alloc ?_ ?_ _ | refine Below.setCell ?_ ?_ _ | refine Below.drew ?_ | refine below_drewN ?_ _ | (simp; done) | (simp; omega) | omega)) (hb1.mono (by first | (simp; done) | (simp; omega) | omega))
    have HD := hid hd
    clear hd hb1
    go_wp2_with (fail)
    refine (HMo.out _ _ HD.out).mono ?_
    rintro e w2 ⟨A7, m, c7, rfl, hi2, hb2⟩
    have hbe2 := hbel.trans (hb2.mono hbel.size)
    have hz6 := hbe2.size
    have Hrl := hid hi2.len
    have HS7 := hid hi2
    have hm10 : m ≤ 10 := by have := hi2.len; simp at hml; omega
    have hmk := @make_i64 m (by omega)
    have hms : (madeCells #[.int .i64 0] m).size = m := by simp [madeCells]
    have hfit : 0 + (mv.flatMap cI).length ≤ (madeCells #[.int .i64 0] m).toList.length := by rw [flatI_len', Hrl.out]; simp [madeCells]
    have hfit2 : (mv.flatMap cI).length = (madeCells #[.int .i64 0] m).toList.length := by rw [flatI_len', Hrl.out]; simp [madeCells]
    clear hi2 hb2 hml
    go_wp2_with (refine wpList_copy_splice rfl _ _ 34 34 rfl 3 underL hI3 (some ⟨w2.heap.size, 0, none⟩) A7 m m m c7 rfl rfl w2.heap.size 0 (madeCells #[.int .i64 0] m).toList 3 (by rw [Array.toArray_toList]; exact heap_alloc_new _ _) (mv.flatMap cI) (by rw [flatI_len', Hrl.out]; exact (Nat.min_self _).symm) (fun h => ⟨rfl, cop_src HS7.out (by rw [flatI_len', Hrl.out] at h; exact h) (fun p hp => World.cell?_alloc_lt _ _ p hp)⟩) hfit (one_flatI _) w.heap.size w (hbe2.alloc hz6 _) hz6 ?_; intro W9 HG9 hb9)
    refine bodyPost_ret (v := .tuple #[.slice (some ⟨w2.heap.size, 0, none⟩) m m, .int .i64 0]) (by first | (simp [results, Tryz.results8, go_sem]; done) | (simp [results, Tryz.results8, go_sem, *]; done) | (simp [results, Tryz.results8, go_sem, World.cell?_setCell_same', *]; done) | (simp [results, Tryz.results8, go_sem]; first | exact ⟨rfl, rfl⟩ | rfl)) rfl ⟨some ⟨w2.heap.size, 0, none⟩, m, rfl, ?_, hb9⟩
    have hG := HG9.out
    rw [splice_all hfit2] at hG
    have hB9 : Blk W9 w2.heap.size 3 (mv.flatMap cI).toArray := hG
    have := ins_blk hB9 hB9.lt
    rw [hv.out]
    rw [Hrl.out] at this
    exact this
  · have hv : Hid (aprV I ls = []) := hid (if_pos he)
    have HO := hid (fun w h => open_bad A none n c 0 0 ls [] I w h (lis_nil _ _) hn HW.out (by omega) (by simp) (by rw [openE_nil]; exact he))
    rw [openE_nil] at HO
    obtain ⟨ev, hev⟩ : ∃ ev, chkBook I ls = ev := ⟨_, rfl⟩
    rw [hev] at HO he ⊢
    have hbi : (ev != 0) = true := by simpa using he
    clear hev
    go_enter Tryz.func8, Tryz.ntmps8
    go_wp2_with (fail)
    refine (HO.out _ (HL.out.below (by repeat' (first | with_reducible assumption | with_reducible exact Below.refl _ _ | refine Below.alloc ?_ ?_ _ | refine Below.setCell ?_ ?_ _ | refine Below.drew ?_ | refine below_drewN ?_ _ | (simp; done) | (simp; omega) | omega)) (by first | (simp; done) | (simp; omega) | omega))).mono ?_
    rintro e w1 ⟨rfl, hb1⟩
    have hbel : Below w.heap.size w w1 := Below.trans (by repeat' (first | with_reducible assumption | with_reducible exact Below.refl _ _ | refine Below.alloc ?_ ?_ _ | refine Below.setCell ?_ ?_ _ | refine Below.drew ?_ | refine below_drewN ?_ _ | (simp; done) | (simp; omega) | omega)) (hb1.mono (by first | (simp; done) | (simp; omega) | omega))
    go_wp2
    refine bodyPost_ret (v := .tuple #[.slice none 0 0, .int .i64 ev]) (by first | (simp [results, Tryz.results8, go_sem]; done) | (simp [results, Tryz.results8, go_sem, *]; done) | (simp [results, Tryz.results8, go_sem, World.cell?_setCell_same', *]; done) | (simp [results, Tryz.results8, go_sem]; first | exact ⟨rfl, rfl⟩ | rfl)) rfl ⟨none, 0, rfl, by rw [hv.out]; exact Sl.none_, hbel⟩
end Go.Proofs.YtdgllpcfmkjfhaaGreat.Bl
/- Walks: Blame and Fewest. -/
namespace Go.Proofs.YtdgllpcfmkjfhaaGreat.Bl
open Go.RowKit Go.Shelf
attribute [local go_sem] Oper.semAt_some
set_option maxRecDepth 100000 in
set_option maxHeartbeats 1600000 in
theorem blame_any (A : Option Addr) (n c : Nat) (ls : List (List Int)) (I : Int) (w : World) (hl : LiS w w.heap.size A n ls) (hn : n ≤ 1000000) (hw : ∀ l ∈ ls, l.length ≤ 1000000) :
    Calls Tryz.prog 10 #[.agg #[.int .i64 I, .slice A n c]] w fun e w' => ∃ A' m' c', e = .returned (.tuple #[.slice A' m' c', .int .i64 (bestE I ls)]) ∧ InS w' w'.heap.size A' m' (bestV I ls) ∧ Below w.heap.size w w' := by
  by_cases he : chkBook I ls = 0
  · obtain ⟨J, rfl⟩ : ∃ J : Nat, I = J := ⟨I.toNat, by have := (book_good he).1; omega⟩
    exact blame_ok A n c ls J w hl hn hw he
  · have HL := hid hl
    have HW := hid hw
    clear hl hw
    have hv : Hid (bestV I ls = []) := hid (if_pos he)
    have hve : Hid (bestE I ls = chkBook I ls) := hid (if_pos he)
    have HO := hid (fun w h => open_bad A none n c 0 0 ls [] I w h (lis_nil _ _) hn HW.out (by omega) (by simp) (by rw [openE_nil]; exact he))
    rw [openE_nil] at HO
    obtain ⟨ev, hev⟩ : ∃ ev, chkBook I ls = ev := ⟨_, rfl⟩
    rw [hev] at HO he hve
    have hbi : (ev != 0) = true := by simpa using he
    clear hev
    (refine (callsIn_wide (n := 9)).1 ?_; refine callsIn_of_wp_marks (F := Wd none) Tryz.func10 rfl trivial ?_ rfl; simp only [Tryz.ntmps10, List.size_toArray, List.length_cons, List.length_nil, Nat.reduceAdd, Nat.reduceSub, Array.replicate_succ, Array.replicate_zero, List.push_toArray, List.append_toArray, List.nil_append, List.cons_append])
    gi_wp2_with (fail)
    obtain ⟨W0, hW0⟩ : ∃ W0, (((w.alloc (.cells #[.int .i64 I, .slice A n c] 31)).alloc (.cells #[.slice none 0 0] 34)).alloc (.cells #[.int .i64 0] 26)) = W0 := ⟨_, rfl⟩
    have hba : Below w.heap.size w W0 := by rw [← hW0]; exact (by repeat' (first | with_reducible assumption | with_reducible exact Below.refl _ _ | refine Below.alloc ?_ ?_ _ | refine Below.setCell ?_ ?_ _ | refine Below.drew ?_ | refine below_drewN ?_ _ | (simp; done) | (simp; omega) | omega))
    have hz0 : W0.heap.size = w.heap.size + 1 + 1 + 1 := by rw [← hW0]; simp
    have B2 : Blk W0 (w.heap.size + 1) 34 #[.slice none 0 0] := by rw [← hW0]; exact (Blk.new' (by first | (simp; done) | (simp; omega) | omega)).alloc _
    have B3 : Blk W0 (w.heap.size + 1 + 1) 26 #[.int .i64 0] := by rw [← hW0]; exact Blk.new' (by first | (simp; done) | (simp; omega) | omega)
    rw [hW0] at ⊢
    clear hW0
    refine (calls_wd (HO.out _ (HL.out.below hba hba.size))).mono ?_
    rintro e W1 ⟨rfl, hb1⟩
    have hbw := hba.trans (hb1.mono hba.size)
    have hb12 : Below W1.heap.size W1 (W1.alloc (.cells #[.pointer none] 65)) := by exact (Below.refl _ _).alloc (Nat.le_refl _) _
    have hb02 := hb1.trans (hb12.mono hb1.size)
    have hbw2 := hba.trans (hb02.mono hba.size)
    replace B2 := B2.below hb02 B2.lt
    replace B3 := B3.below hb02 B3.lt
    obtain ⟨T2, hT2⟩ : ∃ T, w.heap.size + 1 = T := ⟨_, rfl⟩
    obtain ⟨T3, hT3⟩ : ∃ T, T2 + 1 = T := ⟨_, rfl⟩
    rw [hT2, hT3] at B3
    rw [hT2] at B2
    rw [hT2, hT3]
    have c2 := B2.cell 0
    have l2 := B2.lt
    have f2 := B2.frozen 0
    have c3 := B3.cell 0
    have l3 := B3.lt
    have f3 := B3.frozen 0
    have hT2e : T2 ≠ T3 := by omega
    have hB2 : Blk (((W1.alloc (.cells #[.pointer none] 65)).setCell ⟨T2, 0, none⟩ (.slice none 0 0)).setCell ⟨T3, 0, none⟩ (.int .i64 ev)) T2 34 #[.slice none 0 0] := (B2.set_ 0 _).far (by simp; omega) _
    have hB3 : Blk (((W1.alloc (.cells #[.pointer none] 65)).setCell ⟨T2, 0, none⟩ (.slice none 0 0)).setCell ⟨T3, 0, none⟩ (.int .i64 ev)) T3 26 #[.int .i64 ev] := (B3.far (by simp; omega) _).set_ 0 _
    have hbV : Below w.heap.size w (((W1.alloc (.cells #[.pointer none] 65)).setCell ⟨T2, 0, none⟩ (.slice none 0 0)).setCell ⟨T3, 0, none⟩ (.int .i64 ev)) := (hbw2.setCell (by simp; omega) _).setCell (by simp; omega) _
    have HbV := hid hbV
    have H4 := hid hB2
    have H5 := hid hB3
    clear hb1 hb02 hba hbw hbw2 hb12 B2 B3 hB2 hB3 hbV hz0
    gi_wp2
    refine leavesM_marks [] _ (by simp) (by simp) (fun w' ho => ⟨.tuple #[.slice none 0 0, .int .i64 ev], ?_, ?_⟩)
    · have e2 := (ho.cell ⟨T2, 0, none⟩).trans (H4.out.cell 0)
      have e3 := (ho.cell ⟨T3, 0, none⟩).trans (H5.out.cell 0)
      simp [results, Tryz.results10, go_sem, *]
    · exact ⟨none, 0, 0, by rw [hve.out], by rw [hv.out]; exact Sl.none_, ho.below HbV.out (by simp)⟩
def fewE (I : Int) (ls : List (List Int)) : Int := bestE I ls
def fewV (I : Int) (ls : List (List Int)) : Int := (bestV I ls).length
set_option maxRecDepth 100000 in
set_option maxHeartbeats 1600000 in
theorem fewest_any (A : Option Addr) (n c : Nat) (ls : List (List Int)) (I : Int) (w : World) (hl : LiS w w.heap.size A n ls) (hn : n ≤ 1000000) (hw : ∀ l ∈ ls, l.length ≤ 1000000) :
    Calls Tryz.prog 9 #[.agg #[.int .i64 I, .slice A n c]] w fun e w' => e = .returned (.tuple #[.int .i64 (fewV I ls), .int .i64 (fewE I ls)]) ∧ Below w.heap.size w w' := by
  have HL := hid hl
  have HB := hid (fun w h => blame_any A n c ls I w h hn hw)
  clear hl hw
  unfold fewV fewE
  go_enter Tryz.func9, Tryz.ntmps9
  go_wp2_with (fail)
  refine (HB.out _ (HL.out.below (by repeat' (first | with_reducible assumption | with_reducible exact Below.refl _ _ | refine Below.alloc ?_ ?_ _ | refine Below.setCell ?_ ?_ _ | refine Below.drew ?_ | refine below_drewN ?_ _ | (simp; done) | (simp; omega) | omega)) (by first | (simp; done) | (simp; omega) | omega))).mono ?_
  rintro e w1 ⟨A', m', c', rfl, hin, hb1⟩
  have hbel : Below w.heap.size w w1 := Below.trans (by repeat' (first | with_reducible assumption | with_reducible exact Below.refl _ _ | refine Below.alloc ?_ ?_ _ | refine Below.setCell ?_ ?_ _ | refine Below.drew ?_ | refine below_drewN ?_ _ | (simp; done) | (simp; omega) | omega)) (hb1.mono (by first | (simp; done) | (simp; omega) | omega))
  have hlen := hid hin.len
  clear hin hb1
  go_wp2
  refine bodyPost_ret (v := .tuple #[.int .i64 (m' : Int), .int .i64 (bestE I ls)]) (by first | (simp [results, Tryz.results9, go_sem]; done) | (simp [results, Tryz.results9, go_sem, *]; done) | (simp [results, Tryz.results9, go_sem, World.cell?_setCell_same', *]; done) | (simp [results, Tryz.results9, go_sem]; first | exact ⟨rfl, rfl⟩ | rfl)) rfl ⟨by rw [hlen.out], hbel⟩
end Go.Proofs.YtdgllpcfmkjfhaaGreat.Bl
/- Plain law: the search for hires that are apart finds the first of the longest lists. -/
namespace Go.Proofs.YtdgllpcfmkjfhaaGreat.Bl
theorem snocRec {α : Type} {p : List α → Prop} (h0 : p []) (h1 : ∀ l x, p l → p (l ++ [x])) (l : List α) : p l := by
  have : ∀ k, ∀ l : List α, l.length = k → p l := by
    intro k
    induction k with
    | zero => intro l hl; rw [List.eq_nil_of_length_eq_zero hl]; exact h0
    | succ k ih =>
      intro l hl
      rcases List.eq_nil_or_concat l with e | ⟨l', y, e⟩
      · rw [e]; exact h0
      · rw [List.concat_eq_append] at e
        subst e
        exact h1 l' y (ih l' (by rw [List.length_append] at hl; simpa using hl))
  exact this _ l rfl
theorem allCongrM {α : Type} {p q : α → Bool} : ∀ {l : List α}, (∀ x ∈ l, p x = q x) → l.all p = l.all q
  | [], _ => rfl
  | x :: l, h => by
    rw [List.all_cons, List.all_cons, h x (List.mem_cons_self ..), allCongrM fun y hy => h y (List.mem_cons_of_mem _ hy)]
theorem apP_more (ls : List (List Int)) (hs : List Int) (i : Int) : apP ls (hs ++ [i]) = (apP ls hs && (!(hire ls i).isEmpty && !(hire ls i).any fun x => (sB ls hs).testBit x.toNat)) := by
  unfold apP
  rw [List.length_append, List.length_singleton, apK_succ]
  congr 1
  · unfold apK
    refine allCongrM fun k hk => ?_
    have hk' := List.mem_range.1 hk
    unfold ap1
    rw [List.take_append_of_le_length (by omega)]
    have e : (hs ++ [i]).getD k 0 = hs.getD k 0 := by
      rw [List.getD_eq_getElem?_getD, List.getD_eq_getElem?_getD, List.getElem?_append_left hk']
    rw [e]
  · rw [ap1_at (i := i) (by rw [List.getElem?_append_right (Nat.le_refl _)]; simp), List.take_append_of_le_length (Nat.le_refl _), List.take_length]
def BestO (E : List Int → Prop) (r : List Int) : Prop := E r ∧ ∀ l, E l → l.length < r.length ∨ (l.length = r.length ∧ before l r = false)
theorem bestO_uniq {E : List Int → Prop} {r r' : List Int} (h : BestO E r) (h' : BestO E r') : r = r' := by
  rcases h.2 r' h'.1 with h1 | ⟨h1, h2⟩
  · rcases h'.2 r h.1 with h3 | ⟨h3, -⟩ <;> omega
  · rcases h'.2 r h.1 with h3 | ⟨-, h4⟩
    · omega
    · refine Classical.byContradiction fun hne => ?_
      have := before_tot hne h4
      rw [h2] at this; cases this
theorem beforeApp (b : List Int) (x y : List Int) : before (b ++ x) (b ++ y) = before x y := by
  induction b with
  | nil => rfl
  | cons z b ih => rw [List.cons_append, List.cons_append, before_cons, if_pos rfl, ih]
theorem apP_front (ls : List (List Int)) (l t : List Int) : apP ls (l ++ t) = true → apP ls l = true := by
  refine snocRec (p := fun t => apP ls (l ++ t) = true → apP ls l = true) (fun h => by rwa [List.append_nil] at h) (fun t x ih h => ?_) t
  rw [← List.append_assoc, apP_more, Bool.and_eq_true] at h
  exact ih h.1
def FwO (ls : List (List Int)) (i0 i : Nat) (begun l : List Int) : Prop := ∃ t, l = begun ++ t ∧ isL (ls.length : Int) (i0 : Int) t = true ∧ apP ls l = true ∧ ∀ y t', t = y :: t' → y < (i : Int)
theorem FwO.one {ls : List (List Int)} {i : Nat} {begun : List Int} (h : apP ls begun = true) : BestO (FwO ls i i begun) begun := by
  refine ⟨⟨[], by rw [List.append_nil], rfl, h, fun y t' e => by cases e⟩, ?_⟩
  rintro l ⟨t, rfl, ht, -, hy⟩
  cases t with
  | nil => exact .inr ⟨by rw [List.append_nil], by rw [List.append_nil]; exact before_irr _⟩
  | cons y t =>
    have h1 := hy y t rfl
    have h2 := (isL_cons.1 ht).1.1
    omega
theorem mostO_best {ls : List (List Int)} : ∀ (r i : Nat) (begun out : List Int) (i0 : Nat), i + r = ls.length → i0 ≤ i → BestO (FwO ls i0 i begun) out → BestO (FwO ls i0 ls.length begun) (mostL ls r begun i out)
  | 0, i, begun, out, i0, hi, _, h => by
    have : i = ls.length := by omega
    subst this; exact h
  | r + 1, i, begun, out, i0, hi, hi0, h => by
    rw [mostL]
    refine mostO_best r (i + 1) begun _ i0 (by omega) (by omega) ?_
    obtain ⟨⟨t0, ht0, hl0, ha0, hy0⟩, hbest⟩ := h
    have hsplit : ∀ l, FwO ls i0 (i + 1) begun l → FwO ls i0 i begun l ∨ (apP ls (begun ++ [(i : Int)]) = true ∧ FwO ls (i + 1) ls.length (begun ++ [(i : Int)]) l) := by
      rintro l ⟨t, rfl, ht, ha, hy⟩
      cases t with
      | nil => exact .inl ⟨[], rfl, rfl, ha, fun y t' e => by cases e⟩
      | cons y t =>
        have h1 := hy y t rfl
        obtain ⟨⟨h2, h3⟩, h4⟩ := isL_cons.1 ht
        by_cases e : y = i
        · subst e
          right
          have e2 : begun ++ (i : Int) :: t = (begun ++ [(i : Int)]) ++ t := by simp
          refine ⟨apP_front ls _ t (by rw [← e2]; exact ha), t, e2, h4, ha, fun z t' ez => ?_⟩
          subst ez
          exact (isL_cons.1 h4).1.2
        · exact .inl ⟨y :: t, rfl, ht, ha, fun z t' ez => by cases ez; omega⟩
    by_cases hap : apP ls (begun ++ [(i : Int)]) = true
    · rw [if_pos hap]
      have hsub := mostO_best r (i + 1) (begun ++ [(i : Int)]) (begun ++ [(i : Int)]) (i + 1) (by omega) (Nat.le_refl _) (FwO.one hap)
      obtain ⟨sub, hs⟩ : ∃ sub, mostL ls r (begun ++ [(i : Int)]) (i + 1) (begun ++ [(i : Int)]) = sub := ⟨_, rfl⟩
      rw [hs] at hsub ⊢
      obtain ⟨⟨t1, ht1, hl1, ha1, -⟩, hb1⟩ := hsub
      have hsubE : FwO ls i0 (i + 1) begun sub := by
        refine ⟨(i : Int) :: t1, by rw [ht1]; simp, isL_cons.2 ⟨⟨by omega, by omega⟩, hl1⟩, ha1, fun y t' e => by cases e; omega⟩
      by_cases hlt : out.length < sub.length
      · rw [if_pos hlt]
        refine ⟨hsubE, fun l hl => ?_⟩
        rcases hsplit l hl with h1 | ⟨-, h1⟩
        · left
          rcases hbest l h1 with h2 | ⟨h2, -⟩ <;> omega
        · exact hb1 l h1
      · rw [if_neg hlt]
        refine ⟨⟨t0, ht0, hl0, ha0, fun y t' e => by have := hy0 y t' e; omega⟩, fun l hl => ?_⟩
        rcases hsplit l hl with h1 | ⟨-, h1⟩
        · exact hbest l h1
        · have hle : l.length ≤ sub.length := by rcases hb1 l h1 with h2 | ⟨h2, -⟩ <;> omega
          rcases Nat.lt_or_ge l.length out.length with h2 | h2
          · exact .inl h2
          · right
            refine ⟨by omega, ?_⟩
            obtain ⟨t, rfl, -, -, -⟩ := h1
            have e2 : (begun ++ [(i : Int)]) ++ t = begun ++ (i : Int) :: t := by simp
            rw [ht0, e2, beforeApp]
            cases t0 with
            | nil =>
              rw [ht0, e2] at h2
              simp at h2
              have h3 := hlt
              rw [ht0] at h3
              rw [e2] at hle
              simp at h3 hle
              omega
            | cons y t' =>
              have h3 := hy0 y t' rfl
              rw [before_cons, if_neg (by omega)]
              simp; omega
    · rw [if_neg hap]
      refine ⟨⟨t0, ht0, hl0, ha0, fun y t' e => by have := hy0 y t' e; omega⟩, fun l hl => ?_⟩
      rcases hsplit l hl with h1 | ⟨h1, -⟩
      · exact hbest l h1
      · exact absurd h1 hap
theorem most_best (ls : List (List Int)) : BestO (fun l => isL (ls.length : Int) 0 l = true ∧ apP ls l = true) (mostP ls [] 0) := by
  obtain ⟨⟨t, ht, hl, ha, -⟩, hb⟩ := mostO_best (ls := ls) ls.length 0 [] [] 0 (by omega) (Nat.le_refl _) (FwO.one rfl)
  have e : mostP ls [] 0 = mostL ls ls.length [] 0 [] := rfl
  rw [List.nil_append] at ht
  rw [e]
  refine ⟨⟨by rw [ht]; exact hl, ha⟩, fun l hl => hb l ⟨l, rfl, hl.1, hl.2, fun y t' e => ?_⟩⟩
  subst e
  exact (isL_cons.1 hl.1).1.2
end Go.Proofs.YtdgllpcfmkjfhaaGreat.Bl
/- Plain law: the set that the program returns is one of the smallest that hit all hires. -/
namespace Go.Proofs.YtdgllpcfmkjfhaaGreat.Bl
theorem isL_end {I f : Nat} {t : List Int} (h : isL (I : Int) (f : Int) t = true) (hf : I ≤ f) : t = [] := by
  cases t with
  | nil => rfl
  | cons y t => have := (isL_cons.1 h).1; omega
theorem mem_gooF {I m : Nat} : ∀ (d f : Nat) (b : List Int) {l : List Int}, I ≤ f + d → (l ∈ gooF I m d f b ↔ ∃ t, l = b ++ t ∧ isL (I : Int) (f : Int) t = true ∧ l.length = m)
  | 0, f, b, l, h => by
    rw [gooF]
    constructor
    · intro hl
      split at hl
      · rename_i hb
        rw [List.mem_singleton.1 hl]
        exact ⟨[], by rw [List.append_nil], rfl, hb⟩
      · cases hl
    · rintro ⟨t, rfl, ht, hm⟩
      have ht0 := isL_end ht (by omega)
      subst ht0
      rw [List.append_nil] at hm ⊢
      rw [if_pos hm]; exact List.mem_singleton.2 rfl
  | d + 1, f, b, l, h => by
    rw [gooF]
    by_cases hb : b.length = m
    · rw [if_pos hb, List.mem_singleton]
      constructor
      · rintro rfl
        exact ⟨[], by rw [List.append_nil], rfl, hb⟩
      · rintro ⟨t, rfl, -, hm⟩
        have : t = [] := List.eq_nil_of_length_eq_zero (by rw [List.length_append] at hm; omega)
        rw [this, List.append_nil]
    · rw [if_neg hb, List.mem_flatMap]
      constructor
      · rintro ⟨i, hi, hl⟩
        rw [List.mem_range'_1] at hi
        obtain ⟨t, rfl, ht, hm⟩ := (mem_gooF d (i + 1) (b ++ [(i : Int)]) (by omega)).1 hl
        exact ⟨(i : Int) :: t, by simp, isL_cons.2 ⟨⟨by omega, by omega⟩, ht⟩, hm⟩
      · rintro ⟨t, rfl, ht, hm⟩
        cases t with
        | nil => rw [List.append_nil] at hm; exact absurd hm hb
        | cons y t =>
          obtain ⟨⟨h1, h2⟩, h3⟩ := isL_cons.1 ht
          obtain ⟨i, rfl⟩ : ∃ i : Nat, y = i := ⟨y.toNat, by omega⟩
          refine ⟨i, by rw [List.mem_range'_1]; omega, (mem_gooF d (i + 1) (b ++ [(i : Int)]) (by omega)).2 ⟨t, by simp, h3, hm⟩⟩
theorem len_sets (I : Nat) : ∀ k, (setsTo I k).Pairwise fun a b => a.length ≤ b.length
  | 0 => List.Pairwise.nil
  | k + 1 => by
    rw [setsTo_next, List.pairwise_append]
    refine ⟨len_sets I k, List.Pairwise.imp_of_mem (R := fun _ _ => True) (fun {a b} ha hb _ => ?_) (List.pairwise_of_forall (fun _ _ => trivial)), fun a ha b hb => ?_⟩
    · obtain ⟨-, -, -, e1⟩ := (mem_gooF I 0 [] (by omega)).1 ha
      obtain ⟨-, -, -, e2⟩ := (mem_gooF I 0 [] (by omega)).1 hb
      omega
    · unfold setsTo at ha
      obtain ⟨m, hm, ha⟩ := List.mem_flatMap.1 ha
      have hm := List.mem_range.1 hm
      obtain ⟨-, -, -, e1⟩ := (mem_gooF I 0 [] (by omega)).1 ha
      obtain ⟨-, -, -, e2⟩ := (mem_gooF I 0 [] (by omega)).1 hb
      omega
theorem mem_setsTo {I : Nat} {l : List Int} : l ∈ setsTo I (I + 1) ↔ isL (I : Int) 0 l = true := by
  unfold setsTo
  rw [List.mem_flatMap]
  constructor
  · rintro ⟨m, -, h⟩
    obtain ⟨t, rfl, ht, -⟩ := (mem_gooF I 0 [] (by omega)).1 h
    exact ht
  · intro h
    have := isL_len8 h (by omega)
    exact ⟨l.length, List.mem_range.2 (by omega), (mem_gooF I 0 [] (by omega)).2 ⟨l, rfl, h, rfl⟩⟩
theorem find_len {p : List Int → Bool} : ∀ {L : List (List Int)} {r : List Int}, L.Pairwise (fun a b => a.length ≤ b.length) → L.find? p = some r → r ∈ L ∧ p r = true ∧ ∀ l ∈ L, p l = true → r.length ≤ l.length
  | [], r, _, h => by cases h
  | x :: L, r, hs, h => by
    obtain ⟨h1, h2⟩ := List.pairwise_cons.1 hs
    rw [List.find?_cons] at h
    cases hp : p x
    · rw [hp] at h
      obtain ⟨h3, h4, h5⟩ := find_len h2 h
      refine ⟨List.mem_cons_of_mem _ h3, h4, fun l hl hpl => ?_⟩
      rcases List.mem_cons.1 hl with rfl | hl
      · rw [hp] at hpl; cases hpl
      · exact h5 l hl hpl
    · rw [hp] at h
      cases h
      refine ⟨List.mem_cons_self .., hp, fun l hl _ => ?_⟩
      rcases List.mem_cons.1 hl with rfl | hl
      · exact Nat.le_refl _
      · exact h1 l hl
theorem best_firstB {I : Nat} {ls : List (List Int)} {r : List Int} (h : bestO I ls = some r) : isL (I : Int) 0 r = true ∧ isB ls r = true ∧ ∀ l, isL (I : Int) 0 l = true → isB ls l = true → r.length ≤ l.length := by
  obtain ⟨h1, h2, h3⟩ := find_len (len_sets I (I + 1)) h
  exact ⟨mem_setsTo.1 h1, h2, fun l hl hh => h3 l (mem_setsTo.2 hl) hh⟩
theorem best_noneB {I : Nat} {ls : List (List Int)} (h : bestO I ls = none) {l : List Int} (hl : isL (I : Int) 0 l = true) : isB ls l = false := by
  have := List.find?_eq_none.1 h l (mem_setsTo.2 hl)
  simpa using this
theorem isB_iff {ls : List (List Int)} {l : List Int} : isB ls l = true ↔ ∀ x ∈ ls, ∃ y ∈ x, inB (bitsL l) y = true := by
  unfold isB missI idxA
  rw [decide_eq_true_eq]
  cases h : ls.findIdx? (fun l' => !l'.any (inB (bitsL l))) with
  | none =>
    rw [List.findIdx?_eq_none_iff] at h
    refine ⟨fun _ x hx => ?_, fun _ => by decide⟩
    have := h x hx
    rw [Bool.not_eq_false'] at this
    exact List.any_eq_true.1 this
  | some k =>
    rw [List.findIdx?_eq_some_iff_getElem] at h
    obtain ⟨h1, h2, -⟩ := h
    refine ⟨fun h => by simp at h; omega, fun h => ?_⟩
    have h3 := h _ (List.getElem_mem h1)
    rw [Bool.not_eq_true', List.any_eq_false] at h2
    obtain ⟨y, hy, hyb⟩ := h3
    exact absurd hyb (h2 y hy)
end Go.Proofs.YtdgllpcfmkjfhaaGreat.Bl
/- Plain law: wants of moulds as hires: lists that are apart are a day's lists; the smallest blames are covers, with as many numbers as the best lists. -/
namespace Go.Proofs.YtdgllpcfmkjfhaaGreat.Bl
theorem isL_iff {b : Int} : ∀ {l : List Int} {nx : Int}, isL b nx l = true ↔ (∀ x ∈ l, nx ≤ x ∧ x < b) ∧ l.Pairwise (· < ·)
  | [], _ => ⟨fun _ => ⟨fun x hx => (by cases hx), List.Pairwise.nil⟩, fun _ => rfl⟩
  | x :: l, nx => by
    rw [isL_cons, isL_iff, List.pairwise_cons]
    constructor
    · rintro ⟨h1, h2, h3⟩
      refine ⟨fun y hy => ?_, fun y hy => ?_, h3⟩
      · rcases List.mem_cons.1 hy with rfl | hy
        · exact h1
        · have := h2 y hy; omega
      · have := h2 y hy; omega
    · rintro ⟨h1, h2, h3⟩
      refine ⟨h1 x (List.mem_cons_self ..), fun y hy => ?_, h3⟩
      have := h1 y (List.mem_cons_of_mem _ hy)
      have := h2 y hy
      omega
theorem toI_pair {l : List Nat} : (toI l).Pairwise (· < ·) ↔ l.Pairwise (· < ·) := by
  unfold toI
  rw [List.pairwise_map]
  exact ⟨fun h => h.imp fun h => by omega, fun h => h.imp fun h => by omega⟩
theorem mem_toI {l : List Nat} {x : Int} : x ∈ toI l ↔ ∃ i : Nat, x = i ∧ i ∈ l := by
  unfold toI
  rw [List.mem_map]
  exact ⟨fun ⟨i, h, e⟩ => ⟨i, e.symm, h⟩, fun ⟨i, e, h⟩ => ⟨i, h, e.symm⟩⟩
theorem isL_toI {n : Nat} {l : List Nat} : isL (n : Int) 0 (toI l) = true ↔ (∀ i ∈ l, i < n) ∧ l.Pairwise (· < ·) := by
  rw [isL_iff, toI_pair]
  refine and_congr_left fun _ => ⟨fun h i hi => ?_, fun h x hx => ?_⟩
  · have := h i (mem_toI.2 ⟨i, rfl, hi⟩); omega
  · obtain ⟨i, rfl, hi⟩ := mem_toI.1 hx
    have := h i hi
    omega
theorem toI_of {b : Int} {l : List Int} (h : isL b 0 l = true) : ∃ l' : List Nat, l = toI l' := by
  refine ⟨l.map Int.toNat, ?_⟩
  unfold toI
  rw [List.map_map]
  refine (List.map_id _).symm.trans (List.map_congr_left fun x hx => ?_)
  have := (isL_iff.1 h).1 x hx
  simp; omega
theorem toI_len (l : List Nat) : (toI l).length = l.length := by simp [toI]
theorem toI_snoc (l : List Nat) (i : Nat) : toI (l ++ [i]) = toI l ++ [(i : Int)] := by simp [toI]
def hirL (S : Int) (ws : List (Int × Int)) : List (List Int) := ws.map fun x => [x.1, S + x.2]
theorem hir_len {S : Int} {ws : List (Int × Int)} : (hirL S ws).length = ws.length := by simp [hirL]
section
variable {S M : Nat} {ws : List (Int × Int)}
theorem want_at (hb : MBook S M ws) {i : Nat} (hi : i < ws.length) : ws[i] ∈ ws ∧ ws[i].1 = (sF ws i : Int) ∧ ws[i].2 = (mF ws i : Int) ∧ sF ws i < S ∧ mF ws i < M := by
  have hx : ws[i]? = some ws[i] := List.getElem?_eq_getElem hi
  have hm := List.mem_of_getElem? hx
  have := hb.w _ hm
  unfold sF mF
  rw [getD_of hx]
  exact ⟨hm, by omega, by omega, by omega, by omega⟩
theorem hire_at (hb : MBook S M ws) {i : Nat} (hi : i < ws.length) : hire (hirL S ws) (i : Int) = [(sF ws i : Int), ((S + mF ws i : Nat) : Int)] := by
  obtain ⟨-, h1, h2, -⟩ := want_at hb hi
  unfold hire hirL
  rw [Int.toNat_natCast, List.getD_eq_getElem?_getD, List.getElem?_map, List.getElem?_eq_getElem hi]
  simp [h1, h2]
theorem hir_chk (hb : MBook S M ws) (h8 : S + M ≤ 8) (h10 : ws.length ≤ 10) : chkBook ((S : Int) + M) (hirL S ws) = 0 := by
  have h1 := hb.s
  have h2 := hb.m
  unfold chkBook
  rw [if_neg (by rw [hir_len]; omega), if_neg]
  rw [Bool.not_eq_false]
  refine List.all_eq_true.2 fun l hl => ?_
  unfold hirL at hl
  obtain ⟨x, hx, rfl⟩ := List.mem_map.1 hl
  have := hb.w x hx
  exact isL_cons.2 ⟨by omega, isL_cons.2 ⟨by omega, rfl⟩⟩
theorem sB_hir (hb : MBook S M ws) (k : Nat) (l : List Nat) : (∀ i ∈ l, i < ws.length) → (sB (hirL S ws) (toI l)).testBit k = l.any fun j => sF ws j == k || S + mF ws j == k := by
  refine snocRec (p := fun l : List Nat => (∀ i ∈ l, i < ws.length) → (sB (hirL S ws) (toI l)).testBit k = l.any fun j => sF ws j == k || S + mF ws j == k) (fun _ => by simp [toI, sB]) (fun l i ih hl => ?_) l
  have hi := hl i (by simp)
  have e : sB (hirL S ws) (toI l ++ [(i : Int)]) = sB (hirL S ws) (toI l) ||| bitsL (hire (hirL S ws) (i : Int)) := by unfold sB; rw [List.foldl_append]; rfl
  rw [toI_snoc, e, Nat.testBit_or, ih fun j hj => hl j (by simp [hj]), hire_at hb hi, bitsL_test (by intro x hx; simp at hx; omega), List.any_append]
  congr 1
  have e1 : ∀ a : Nat, ((a : Int) == (k : Int)) = (a == k) := fun a => by rw [Bool.eq_iff_iff, beq_iff_eq, beq_iff_eq]; omega
  simp only [has, List.any_cons, List.any_nil, Bool.or_false, e1]
theorem apP_free (hb : MBook S M ws) (l : List Nat) : (∀ i ∈ l, i < ws.length) → (apP (hirL S ws) (toI l) = true ↔ Free (sF ws) (mF ws) l) := by
  refine snocRec (p := fun l : List Nat => (∀ i ∈ l, i < ws.length) → (apP (hirL S ws) (toI l) = true ↔ Free (sF ws) (mF ws) l)) (fun _ => ⟨fun _ => List.Pairwise.nil, fun _ => rfl⟩) (fun l i ih hl => ?_) l
  have hi := hl i (by simp)
  have hl' : ∀ j ∈ l, j < ws.length := fun j hj => hl j (by simp [hj])
  rw [toI_snoc, apP_more, Bool.and_eq_true, ih hl', hire_at hb hi, free_app]
  obtain ⟨-, -, -, hsi, hmi⟩ := want_at hb hi
  simp only [List.isEmpty_cons, Bool.not_false, Bool.true_and, List.any_cons, List.any_nil, Bool.or_false, Int.toNat_natCast, sB_hir hb _ l hl']
  refine and_congr_right fun _ => ?_
  constructor
  · intro h
    rw [Bool.not_eq_true', Bool.or_eq_false_iff, List.any_eq_false, List.any_eq_false] at h
    refine ⟨by simp [Free], fun j hj k hk => ?_⟩
    rw [List.mem_singleton.1 hk]
    have h1 := h.1 j hj
    have h2 := h.2 j hj
    simp at h1 h2
    exact ⟨h1.1, h2.2⟩
  · rintro ⟨-, h⟩
    rw [Bool.not_eq_true', Bool.or_eq_false_iff, List.any_eq_false, List.any_eq_false]
    refine ⟨fun j hj => ?_, fun j hj => ?_⟩
    all_goals
      obtain ⟨h1, h2⟩ := h j hj i (by simp)
      obtain ⟨-, -, -, hsj, hmj⟩ := want_at hb (hl' j hj)
      simp
      omega
theorem hung_free : ∀ (l : List Nat) (H : Nat → Nat → Bool), hungL ws l H = true ↔ (∀ i ∈ l, H 0 (sF ws i) = false ∧ H 1 (mF ws i) = false) ∧ Free (sF ws) (mF ws) l
  | [], H => ⟨fun _ => ⟨fun i hi => (by cases hi), List.Pairwise.nil⟩, fun _ => rfl⟩
  | i :: l, H => by
    unfold hungL Free
    rw [Bool.and_eq_true, hung_free l, List.pairwise_cons]
    unfold okH upH
    simp only [Bool.and_eq_true, Bool.not_eq_true', Bool.or_eq_false_iff, List.mem_cons, forall_eq_or_imp]
    constructor
    · rintro ⟨h1, h2, h3⟩
      refine ⟨⟨h1, fun j hj => ?_⟩, fun j hj => ?_, h3⟩
      · exact ⟨(h2 j hj).1.2.2, (h2 j hj).2.2.2⟩
      · have := h2 j hj
        simp at this
        exact ⟨this.1.1, this.2.1⟩
    · rintro ⟨⟨h1, h2⟩, h3, h4⟩
      refine ⟨h1, fun j hj => ?_, h4⟩
      have h5 := h2 j hj
      have h6 := h3 j hj
      simp [h5.1, h5.2, h6.1, h6.2]
theorem apr_list (hb : MBook S M ws) (h8 : S + M ≤ 8) (h10 : ws.length ≤ 10) : aprV ((S : Int) + M) (hirL S ws) = toI (listW (sF ws) (mF ws) M S ws.length) := by
  have e : aprV ((S : Int) + M) (hirL S ws) = mostP (hirL S ws) [] 0 := by unfold aprV; rw [if_neg (by rw [hir_chk hb h8 h10]; simp)]
  rw [e]
  have hbest := list_best (S := sF ws) (M := mF ws) (N := M) (n := S) (k := ws.length) (fun j hj => (want_at hb hj).2.2.2.2) (fun j hj => (want_at hb hj).2.2.2.1)
  refine bestO_uniq (most_best _) ?_
  have hE : ∀ l : List Nat, (isL ((hirL S ws).length : Int) 0 (toI l) = true ∧ apP (hirL S ws) (toI l) = true) ↔ Day (sF ws) (mF ws) ws.length l := fun l => by
    rw [hir_len, isL_toI]
    constructor
    · rintro ⟨⟨h1, h2⟩, h3⟩
      exact ⟨h2, h1, (apP_free hb l h1).1 h3⟩
    · rintro ⟨h1, h2, h3⟩
      exact ⟨⟨h2, h1⟩, (apP_free hb l h2).2 h3⟩
  refine ⟨(hE _).2 hbest.1, fun l hl => ?_⟩
  obtain ⟨l', rfl⟩ := toI_of hl.1
  rw [toI_len, toI_len]
  exact hbest.2.2 l' ((hE l').1 hl)
def shopsL (S : Int) (s : List Int) : List Int := s.filter fun x => decide (x < S)
def mouldsL (S : Int) (s : List Int) : List Int := (s.filter fun x => !decide (x < S)).map fun x => x - S
theorem parts_len (S : Int) (s : List Int) : (shopsL S s).length + (mouldsL S s).length = s.length := by
  unfold shopsL mouldsL
  rw [List.length_map]
  exact (filter_split _ s).symm
theorem shops_isL {s : List Int} (h : isL ((S : Int) + M) 0 s = true) : isL (S : Int) 0 (shopsL S s) = true := by
  rw [isL_iff] at h ⊢
  refine ⟨fun x hx => ?_, h.2.sublist List.filter_sublist⟩
  obtain ⟨h1, h2⟩ := List.mem_filter.1 hx
  have := h.1 x h1
  have := of_decide_eq_true h2
  omega
theorem moulds_isL {s : List Int} (h : isL ((S : Int) + M) 0 s = true) : isL (M : Int) 0 (mouldsL S s) = true := by
  rw [isL_iff] at h ⊢
  refine ⟨fun x hx => ?_, List.pairwise_map.2 ((h.2.sublist List.filter_sublist).imp fun h => by omega)⟩
  obtain ⟨y, hy, rfl⟩ := List.mem_map.1 hx
  obtain ⟨h1, h2⟩ := List.mem_filter.1 hy
  have := h.1 y h1
  have : ¬ y < (S : Int) := by simpa using h2
  omega
theorem isB_parts (hb : MBook S M ws) {s : List Int} (h : isL ((S : Int) + M) 0 s = true) : isB (hirL S ws) s = true ↔ ∀ x ∈ ws, has (shopsL S s) x.1 = true ∨ has (mouldsL S s) x.2 = true := by
  have hs0 : ∀ x ∈ s, 0 ≤ x := fun x hx => ((isL_iff.1 h).1 x hx).1
  have hin : ∀ y : Int, 0 ≤ y → (inB (bitsL s) y = true ↔ y ∈ s) := fun y hy => by
    unfold inB
    rw [bitsL_test hs0, has_iff, Int.toNat_of_nonneg hy]
  rw [isB_iff]
  constructor
  · intro hh x hx
    have hw := hb.w x hx
    obtain ⟨y, hy, hyb⟩ := hh [x.1, (S : Int) + x.2] (List.mem_map.2 ⟨x, hx, rfl⟩)
    rcases List.mem_cons.1 hy with rfl | hy
    · left
      rw [has_iff]
      exact List.mem_filter.2 ⟨(hin _ (by omega)).1 hyb, decide_eq_true (by omega)⟩
    · right
      rw [List.mem_singleton.1 hy] at hyb
      rw [has_iff]
      refine List.mem_map.2 ⟨(S : Int) + x.2, List.mem_filter.2 ⟨(hin _ (by omega)).1 hyb, ?_⟩, by omega⟩
      rw [Bool.not_eq_true', decide_eq_false_iff_not]; omega
  · intro hh l hl
    obtain ⟨x, hx, rfl⟩ := List.mem_map.1 hl
    have hw := hb.w x hx
    rcases hh x hx with h1 | h1
    · exact ⟨x.1, by simp, (hin _ (by omega)).2 (List.mem_filter.1 (has_iff.1 h1)).1⟩
    · obtain ⟨y, hy, e⟩ := List.mem_map.1 (has_iff.1 h1)
      have : (S : Int) + x.2 = y := by omega
      exact ⟨(S : Int) + x.2, by simp, (hin _ (by omega)).2 (by rw [this]; exact (List.mem_filter.1 hy).1)⟩
structure SmallF (S M : Nat) (ws : List (Int × Int)) (s : List Int) (m : Nat) : Prop where
  good : bestE ((S : Int) + M) (hirL S ws) = 0
  val : bestV ((S : Int) + M) (hirL S ws) = s
  is : isL ((S : Int) + M) 0 s = true
  len : s.length = m
  sh : isL (S : Int) 0 (shopsL S s) = true
  mo : isL (M : Int) 0 (mouldsL S s) = true
  cov : ∀ x ∈ ws, has (shopsL S s) x.1 = true ∨ has (mouldsL S s) x.2 = true
theorem nodup_pig {b : Int} {I C : List Int} (h : isL b 0 I = true) (hC : ∀ i ∈ I, i ∈ C) : I.length ≤ C.length := by
  obtain ⟨l, rfl⟩ := toI_of h
  rw [toI_len]
  exact pig (f := fun i : Nat => (i : Int)) ((toI_pair.1 (isL_iff.1 h).2).imp fun h => by omega) fun i hi => hC _ (mem_toI.2 ⟨i, rfl, hi⟩)
theorem small_blame (hb : MBook S M ws) (h8 : S + M ≤ 8) (h10 : ws.length ≤ 10) : ∃ s, SmallF S M ws s (listW (sF ws) (mF ws) M S ws.length).length := by
  have hchk := hir_chk hb h8 h10
  have eJ : ((S : Int) + M).toNat = S + M := by omega
  have eI : ((S + M : Nat) : Int) = (S : Int) + M := by omega
  have hMl : ∀ j, j < ws.length → mF ws j < M := fun j hj => (want_at hb hj).2.2.2.2
  have hSl : ∀ j, j < ws.length → sF ws j < S := fun j hj => (want_at hb hj).2.2.2.1
  obtain ⟨hday, hnu, -⟩ := list_best (S := sF ws) (M := mF ws) (N := M) (n := S) (k := ws.length) hMl hSl
  obtain ⟨C, D, hC, hD, hCn, hDn, hcov, hlen⟩ := konig (S := sF ws) (M := mF ws) (L := List.range ws.length) (N := M) (n := S) (fun i hi => hMl i (List.mem_range.1 hi)) (fun i hi => hSl i (List.mem_range.1 hi))
  -- the cover as a set
  obtain ⟨q, hq⟩ : ∃ q, toI (C ++ D.map fun d => S + d) = q := ⟨_, rfl⟩
  have hq0 : ∀ x ∈ q, 0 ≤ x := fun x hx => by rw [← hq] at hx; obtain ⟨i, rfl, -⟩ := mem_toI.1 hx; omega
  obtain ⟨s0, hs0⟩ : ∃ s0, listed (bitsL q) (S + M) = s0 := ⟨_, rfl⟩
  have hms0 : ∀ i : Nat, (i : Int) ∈ s0 ↔ i < S + M ∧ (i : Int) ∈ q := fun i => by
    rw [← hs0, mem_listed]
    constructor
    · rintro ⟨j, e, h1, h2⟩
      obtain rfl : i = j := by omega
      rw [bitsL_test hq0, has_iff] at h2
      exact ⟨h1, h2⟩
    · rintro ⟨h1, h2⟩
      exact ⟨i, rfl, h1, by rw [bitsL_test hq0, has_iff]; exact h2⟩
  have hi0 : isL ((S : Int) + M) 0 s0 = true := by rw [← hs0, ← eI]; exact isL_listed' _ _
  have hl0 : s0.length ≤ C.length + D.length := by
    have h1 : s0.length ≤ q.length := nodup_pig hi0 fun x hx => by
      obtain ⟨h2, -⟩ := (isL_iff.1 hi0).1 x hx
      obtain ⟨i, rfl⟩ : ∃ i : Nat, x = i := ⟨x.toNat, by omega⟩
      exact ((hms0 i).1 hx).2
    rw [← hq, toI_len, List.length_append, List.length_map] at h1
    exact h1
  have hb0 : isB (hirL S ws) s0 = true := by
    rw [isB_parts hb hi0]
    intro x hx
    obtain ⟨i, hi, rfl⟩ := List.mem_iff_getElem.1 hx
    obtain ⟨-, e1, e2, h3, h4⟩ := want_at hb hi
    rcases hcov i (List.mem_range.2 hi) with h5 | h5
    · left
      rw [has_iff, e1]
      exact List.mem_filter.2 ⟨(hms0 _).2 ⟨by omega, by rw [← hq]; exact mem_toI.2 ⟨_, rfl, List.mem_append.2 (.inl h5)⟩⟩, decide_eq_true (by omega)⟩
    · right
      rw [has_iff, e2]
      refine List.mem_map.2 ⟨((S + mF ws i : Nat) : Int), List.mem_filter.2 ⟨(hms0 _).2 ⟨by omega, by rw [← hq]; exact mem_toI.2 ⟨_, rfl, List.mem_append.2 (.inr (List.mem_map.2 ⟨_, h5, rfl⟩))⟩⟩, ?_⟩, by omega⟩
      rw [Bool.not_eq_true', decide_eq_false_iff_not]; omega
  have hE : bestE ((S : Int) + M) (hirL S ws) = if (bestO (S + M) (hirL S ws)).isSome then 0 else 21 := by unfold bestE; rw [if_neg (by rw [hchk]; simp), eJ]
  have hV : bestV ((S : Int) + M) (hirL S ws) = (bestO (S + M) (hirL S ws)).getD [] := by unfold bestV; rw [if_neg (by rw [hchk]; simp), eJ]
  cases hr : bestO (S + M) (hirL S ws) with
  | none =>
    have := best_noneB hr (by rw [eI]; exact hi0)
    rw [hb0] at this; cases this
  | some r =>
    obtain ⟨h1, h2, h3⟩ := best_firstB hr
    rw [eI] at h1 h3
    rw [hr] at hE hV
    have h4 := h3 s0 hi0 hb0
    have hp := (isB_parts hb h1).1 h2
    have hshop : ∀ y ∈ shopsL S r, 0 ≤ y := fun y hy => ((isL_iff.1 (shops_isL h1)).1 y hy).1
    have hmould : ∀ y ∈ mouldsL S r, 0 ≤ y := fun y hy => ((isL_iff.1 (moulds_isL h1)).1 y hy).1
    have hw := weak (S := sF ws) (M := mF ws) (L := List.range ws.length) (I := listW (sF ws) (mF ws) M S ws.length) (C := (shopsL S r).map Int.toNat) (D := (mouldsL S r).map Int.toNat) hday.2.2 (fun i hi => List.mem_range.2 (hday.2.1 i hi)) (fun i hi => by
      obtain ⟨hm, e1, e2, h5, h6⟩ := want_at hb (List.mem_range.1 hi)
      rcases hp _ hm with h7 | h7
      · left
        rw [e1] at h7
        exact List.mem_map.2 ⟨_, has_iff.1 h7, by omega⟩
      · right
        rw [e2] at h7
        exact List.mem_map.2 ⟨_, has_iff.1 h7, by omega⟩)
    rw [List.length_map, List.length_map, parts_len] at hw
    unfold nu at hnu
    exact ⟨r, by rw [hE]; rfl, by rw [hV]; rfl, h1, by omega, shops_isL h1, moulds_isL h1, hp⟩
theorem list_apart (hb : MBook S M ws) (h8 : S + M ≤ 8) (h10 : ws.length ≤ 10) {l : List Nat} (hl : isL (ws.length : Int) 0 (toI l) = true) :
    capE ((S : Int) + M) (hirL S ws) (toI l) = if hungL ws l (fun _ _ => false) then 0 else 16 := by
  have h1 := (isL_toI.1 hl).1
  have e : hungL ws l (fun _ _ => false) = apP (hirL S ws) (toI l) := by
    rw [Bool.eq_iff_iff, hung_free, apP_free hb l h1]
    exact ⟨fun h => h.2, fun h => ⟨fun _ _ => ⟨rfl, rfl⟩, h⟩⟩
  unfold capE
  rw [if_neg (by rw [hir_chk hb h8 h10]; simp), hir_len, hl, if_neg (by simp), e]
  cases apP (hirL S ws) (toI l) <;> rfl
end
end Go.Proofs.YtdgllpcfmkjfhaaGreat.Bl
