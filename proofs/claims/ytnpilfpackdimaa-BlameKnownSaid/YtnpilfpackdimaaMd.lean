/- Texts of the proof, laid together by program. -/
import Derived.Test.YtnpilfpackdimaaMc
import Derived.Maps.OwnIn
import Derived.Maps.OwnSet
import Derived.Maps.OwnOps
import Derived.Maps.RangeWalk
import Derived.DeepKeys4
import Derived.Test.YtnpilfpackdimaaProg
import Derived.Shelf.SlSortCmp.NoneTotal
import Derived.ChangeKeysEq
import Derived.Laws.StructEq
import Derived.Test.YtnpilfpackdimaaMa
set_option linter.unusedSimpArgs false
set_option linter.unusedVariables false
/- Walk: the sets of so many inns: goOn, a recursion that yields. -/
namespace Go.Proofs.Ytnpilfpackdimaa
open Go.RowKit Go.Shelf
attribute [local go_sem] Oper.semAt_some
/-- What goOn promises. -/
def GoP (J Jx : List PE → Foot → World → Prop) (pre : List PE) (L : List (List Int)) (own : Foot) (W : World) (e : Ending) (W' : World) : Prop :=
  ∃ bv : Bool, e = .returned (.bool bv) ∧ (bv = true → ∃ xs own', xs.map PE.l = L ∧ J (pre ++ xs) own' W' ∧ Grow own W own' W') ∧ (bv = false → ∃ p own', p.map PE.l <+: L ∧ Jx (pre ++ p) own' W' ∧ Grow own W own' W')
theorem gooTo_pre {I m d f i j : Nat} {b : List Int} (h : i ≤ j) : gooTo I m d f b i <+: gooTo I m d f b j := by
  induction j with
  | zero => rw [Nat.le_zero.1 h]; exact List.prefix_rfl
  | succ j ih =>
    rcases Nat.eq_or_lt_of_le h with h1 | h1
    · rw [h1]; exact List.prefix_rfl
    · refine (ih (by omega)).trans ?_
      by_cases hf : f ≤ j
      · rw [gooTo_next hf]; exact List.prefix_append _ _
      · unfold gooTo
        rw [show j - f = 0 by omega, show j + 1 - f = 0 by omega]; exact List.prefix_rfl
theorem own_capN' {w : World} {base n c : Nat} {e : TypeId} {size : Nat} {A : Option Addr} {xs : List Value} (ho : w.ownsRow base e size (.slice A n c) n xs) : n ≤ c := by
  rcases ho.2 with ⟨e1, e2⟩ | ⟨g, cap, cur, e1, -, -, h, -⟩
  · cases e1; omega
  · cases e1; exact h
set_option maxRecDepth 100000 in
set_option maxHeartbeats 4000000 in
theorem goOn_walk (I m g l s Nb : Nat) (hI8 : I ≤ 8) (hm8 : m ≤ 8) (J Jx : List PE → Foot → World → Prop) (hJs : Stab s J) (hJxs : Stab s Jx) (hT : Takes (Wd none) Try.prog l encP (RdP m) Nb J Jx) :
    ∀ (d f : Nat) (b : List Int) (pre : List PE) (own : Foot) (W : World) (A : Option Addr) (k c D : Nat), I ≤ f + d → f ≤ 9 → b.length = k → k ≤ f → (k = 0 → A = none ∧ c = 0) → (∀ x ∈ b, 0 ≤ x ∧ x < 8) → k ≤ c → GIn W own g I → InO W own A k b → J pre own W → pre.length + (gooF I m d f b).length ≤ Nb → (∀ q, own q → q < W.heap.size) → s ≤ W.heap.size →
      CallsIn (Wd none) D Try.prog 77 #[.pointer (some ⟨g, 0, none⟩), .slice A k c, .int .i64 (f : Int), .int .i64 (m : Int), .func (.yield l) #[] #[]] W (GoP J Jx pre (gooF I m d f b) own W) := by
  have HJs := hid hJs
  have HJxs := hid hJxs
  have HT := hid hT
  have hd0 : (Wd none).depth = none := rfl
  clear hJs hJxs hT
  intro d
  induction d with
  | zero =>
    intro f b pre own W A k c D hfd hf9 hbl hkf hA hb8 hkc hG hIn hJ hNb hlt hsz
    have Hlt := hid hlt
    have HJ := hid hJ
    have HG := hid hG
    have HIn := hid hIn
    have Hb8 := hid hb8
    have HA := hid hA
    have Hbl := hid hbl
    clear hlt hJ hG hIn hb8 hA hbl
    by_cases hkm : k = m
    · subst hkm
      have hg : Hid (gooF I k 0 f b = [b]) := hid (by rw [gooF, if_pos Hbl.out])
      rw [hg.out] at hNb
      refine callsIn_of_wp_marks (F := Wd none) Try.func77 rfl trivial ?_ rfl
      simp only [Try.ntmps77, List.size_toArray, List.length_cons, List.length_nil, Nat.reduceAdd, Nat.reduceSub, Array.replicate_succ, Array.replicate_zero, List.push_toArray, List.append_toArray, List.nil_append, List.cons_append]
      obtain ⟨fn, tmps, asg, bdy, hy, hR⟩ := YieldAt.one hd0 (D - 1) (HT.out D pre own ⟨.slice A k c, b⟩ W HJ.out (by simp only [List.length_singleton] at hNb; omega) Hlt.out ⟨A, c, rfl, HIn.out.1, HA.out, Hb8.out, fun bb off e => ⟨(HIn.out.2 bb off e).1, (HIn.out.2 bb off e).2.2⟩⟩)
      simp only [encP] at hy
      gi_wp2_with (refine RoundIn.mono hR ?_; rintro e w3 ⟨bv, rfl, ht, hf⟩)
      refine leavesM_marks [] _ (by simp) (by simp) (fun w' ho' => ⟨.bool bv, by simp [results, Try.results77, go_sem], bv, rfl, fun h => ?_, fun h => ?_⟩)
      · obtain ⟨own', hj, hg'⟩ := ht h
        rw [hg.out]
        exact ⟨[⟨.slice A k c, b⟩], own', rfl, stab_off HJs.out hj ho' (by simp), grow_off hg' ho' (by simp)⟩
      · obtain ⟨own', hj, hg'⟩ := hf h
        rw [hg.out]
        exact ⟨[⟨.slice A k c, b⟩], own', List.prefix_rfl, stab_off HJxs.out hj ho' (by simp), grow_off hg' ho' (by simp)⟩
    · have hgf : Hid (gooF I m 0 f b = []) := hid (by rw [gooF, if_neg (by rw [Hbl.out]; exact hkm)])
      have hkmi : ((k : Int) == (m : Int)) = false := beq_eq_false_iff_ne.2 (by omega)
      refine callsIn_of_wp_marks (F := Wd none) Try.func77 rfl trivial ?_ rfl
      simp only [Try.ntmps77, List.size_toArray, List.length_cons, List.length_nil, Nat.reduceAdd, Nat.reduceSub, Array.replicate_succ, Array.replicate_zero, List.push_toArray, List.append_toArray, List.nil_append, List.cons_append]
      gi_wp2
      gi_loopw [11] (fun v w4 => v = .int .i64 (f : Int) ∧ w4 = W) (fun v _ => 0)
      case atStart => exact ⟨rfl, rfl⟩
      case round =>
        obtain ⟨rfl, rfl⟩ := hrel
        have c0 := HG.out.hI
        have lg := HG.out.lt
        have hcI : ¬ (f : Int) < I := by omega
        gi_wp2
        refine leavesM_marks [] _ (by simp) (by simp) (fun w' ho' => ⟨.bool true, by simp [results, Try.results77, go_sem], true, rfl, fun _ => ?_, fun h => absurd h (by decide)⟩)
        rw [hgf.out]
        exact ⟨[], own, rfl, by rw [List.append_nil]; exact stab_off HJs.out HJ.out ho' (by simp), grow_off (Grow.refl Hlt.out) ho' (by simp)⟩
  | succ d ih =>
    intro f b pre own W A k c D hfd hf9 hbl hkf hA hb8 hkc hG hIn hJ hNb hlt hsz
    have IH := hid ih
    have Hlt := hid hlt
    have HJ := hid hJ
    have HG := hid hG
    have HIn := hid hIn
    have Hb8 := hid hb8
    have HA := hid hA
    have Hbl := hid hbl
    clear ih hlt hJ hG hIn hb8 hA hbl
    by_cases hkm : k = m
    · subst hkm
      have hg : Hid (gooF I k (d + 1) f b = [b]) := hid (by rw [gooF, if_pos Hbl.out])
      rw [hg.out] at hNb
      refine callsIn_of_wp_marks (F := Wd none) Try.func77 rfl trivial ?_ rfl
      simp only [Try.ntmps77, List.size_toArray, List.length_cons, List.length_nil, Nat.reduceAdd, Nat.reduceSub, Array.replicate_succ, Array.replicate_zero, List.push_toArray, List.append_toArray, List.nil_append, List.cons_append]
      obtain ⟨fn, tmps, asg, bdy, hy, hR⟩ := YieldAt.one hd0 (D - 1) (HT.out D pre own ⟨.slice A k c, b⟩ W HJ.out (by simp only [List.length_singleton] at hNb; omega) Hlt.out ⟨A, c, rfl, HIn.out.1, HA.out, Hb8.out, fun bb off e => ⟨(HIn.out.2 bb off e).1, (HIn.out.2 bb off e).2.2⟩⟩)
      simp only [encP] at hy
      gi_wp2_with (refine RoundIn.mono hR ?_; rintro e w3 ⟨bv, rfl, ht, hf⟩)
      refine leavesM_marks [] _ (by simp) (by simp) (fun w' ho' => ⟨.bool bv, by simp [results, Try.results77, go_sem], bv, rfl, fun h => ?_, fun h => ?_⟩)
      · obtain ⟨own', hj, hg'⟩ := ht h
        rw [hg.out]
        exact ⟨[⟨.slice A k c, b⟩], own', rfl, stab_off HJs.out hj ho' (by simp), grow_off hg' ho' (by simp)⟩
      · obtain ⟨own', hj, hg'⟩ := hf h
        rw [hg.out]
        exact ⟨[⟨.slice A k c, b⟩], own', List.prefix_rfl, stab_off HJxs.out hj ho' (by simp), grow_off hg' ho' (by simp)⟩
    · have hgf : Hid (gooF I m (d + 1) f b = gooTo I m d f b I) := hid (by rw [gooF, if_neg (by rw [Hbl.out]; exact hkm)]; rfl)
      have hkmi : ((k : Int) == (m : Int)) = false := beq_eq_false_iff_ne.2 (by omega)
      refine callsIn_of_wp_marks (F := Wd none) Try.func77 rfl trivial ?_ rfl
      simp only [Try.ntmps77, List.size_toArray, List.length_cons, List.length_nil, Nat.reduceAdd, Nat.reduceSub, Array.replicate_succ, Array.replicate_zero, List.push_toArray, List.append_toArray, List.nil_append, List.cons_append]
      gi_wp2
      gi_loopw [11] (fun v w4 => ∃ (i : Nat) (xs : List PE) (own' : Foot), f ≤ i ∧ i ≤ max f I ∧ v = .int .i64 (i : Int) ∧ Hid (xs.map PE.l = gooTo I m d f b i) ∧ Hid (J (pre ++ xs) own' w4) ∧ Hid (Grow own W own' w4)) (fun v _ => I - (intOf v).toNat)
      case atStart => exact ⟨f, [], own, Nat.le_refl _, by omega, rfl, hid (by simp [gooTo]), hid (by rw [List.append_nil]; exact HJ.out), hid (Grow.refl Hlt.out)⟩
      case round =>
        obtain ⟨i, xs, own', hfi, hiI, rfl, hxs, hJx, hgr⟩ := hrel
        have HGr := HG.out.grow hgr.out
        have c0 := HGr.hI
        have lg := HGr.lt
        have HInr := hid (HIn.out.grow hgr.out)
        have HG2 := hid HGr
        clear HGr
        have hz1 := hgr.out.size
        by_cases hlt : i < I
        · have hlti : (i : Int) < I := by omega
          have hci : ((i + 1 : Nat) : Int) = (i : Int) + 1 := by omega
          have hbi : ∀ x ∈ b ++ [(i : Int)], 0 ≤ x ∧ x < 8 := fun x hx => by
            rcases List.mem_append.1 hx with h | h
            · exact Hb8.out x h
            · rw [List.mem_singleton.1 h]; omega
          have hNi : (pre ++ xs).length + (gooF I m d (i + 1) (b ++ [(i : Int)])).length ≤ Nb := by
            have h1 := congrArg List.length hxs.out
            have h2 := gooTo_len (I := I) (m := m) (d := d) (f := f) (b := b) (show i + 1 ≤ I by omega)
            rw [gooTo_next hfi, List.length_append] at h2
            rw [hgf.out] at hNb
            rw [List.length_map] at h1
            rw [List.length_append]
            omega
          have hih := fun (V : World) (q cap : Nat) h1 h2 h3 h4 h5 => IH.out (i + 1) (b ++ [(i : Int)]) (pre ++ xs) own' V (some ⟨q, 0, none⟩) (k + 1) cap (D - 1) (by omega) (by omega) (by rw [List.length_append, Hbl.out]; rfl) (by omega) (by omega) hbi h1 h2 h3 h4 hNi h5 
          rw [hci] at hih
          have Hih := hid hih
          have HF := hid (fun (W : World) (h : InS W W.heap.size A k b) => full_of_ins h (fun h0 => (HA.out h0).1))
          have Hfl : Hid ((b.flatMap cI).length = k * 1) := hid (by rw [flatI_len', Hbl.out, Nat.mul_one])
          obtain ⟨i0, hi0, hi1, hi2, hi3⟩ := info_parts' infoI
          have I0 := hid hi0; have I1 := hid hi1; have I2 := hid hi2; have I3 := hid hi3
          have hb4 : Below wr.heap.size wr (wr.alloc (.cells #[.int .i64 (i : Int)] 3)) := (Below.refl _ _).alloc (Nat.le_refl _) _
          have HI4 := hid (HInr.out.1.below hb4 hb4.size)
          have Hfb4 := hid (HF.out _ HI4.out)
          have hcase : (A = none ∧ k = 0 ∧ c = 0) ∨ ∃ bb off, A = some ⟨bb, off, none⟩ ∧ 0 < k := by
            rcases Nat.eq_zero_or_pos k with h0 | h0
            · exact .inl ⟨(HA.out h0).1, h0, (HA.out h0).2⟩
            · obtain ⟨bb, off, e, -⟩ := ins_some HInr.out.1 h0
              exact .inr ⟨bb, off, e, h0⟩
          clear hi0 hi1 hi2 hi3 hih hNi hbi HF hb4
          have hkm8 : k < 8 := by omega
          obtain ⟨Q, hQ⟩ : ∃ Q, gooF I m d (i + 1) (b ++ [(i : Int)]) = Q := ⟨_, rfl⟩
          have hnext : Hid (gooTo I m d f b (i + 1) = gooTo I m d f b i ++ Q) := hid (by rw [gooTo_next hfi, hQ])
          rw [hQ] at Hih
          clear hQ
          rcases hcase with ⟨rfl, rfl, rfl⟩ | ⟨bb, off, rfl, hk0⟩
          · gi_wp2_with (first | (gi_at_builtin; refine wpListIn_append_cap rfl _ _ 25 rfl 0 3 i0 _ 1 8 underL I0.out I1.out I2.out I3.out rfl _ 0 (b.flatMap cI) rfl Hfl.out Hfb4.out ⟨wr.heap.size, 0, none⟩ 1 1 [.int .i64 (i : Int)] rfl rfl (fun j u hj => World.news_of_block (Blk.new' rfl) j u hj) (by decide) (by unfold maxLen; omega) (by omega) (Nat.zero_le _) ?_; intro cap w9 ho9 hg9 hz9))
            have hb9 : Below wr.heap.size wr w9 := below_grown0 ((Below.refl _ _).alloc (Nat.le_refl _) _) hg9 (Nat.le_refl _)
            have hgw : Grow own' wr own' w9 := grow_below hgr.out.lt hb9
            have hsz9 : s ≤ w9.heap.size := by have := hb9.size; omega
            have hin9 : InO w9 own' (some ⟨wr.heap.size + 1, 0, none⟩) (0 + 1) (b ++ [(i : Int)]) := by
              refine ⟨?_, fun bb' off' e => ?_⟩
              · have h9 := Sl.of_own ho9
                rw [show b.flatMap cI ++ [Value.int .i64 (i : Int)] = (b ++ [(i : Int)]).flatMap cI by rw [List.flatMap_append]; rfl, World.size_alloc] at h9
                exact h9
              · cases e
                refine ⟨by simpa using hz9, fun h => ?_, by have h9 := own_cellsAt ho9; rw [World.size_alloc] at h9; exact h9⟩
                have := hgr.out.lt _ h
                omega
            have hj9 : J (pre ++ xs) own' w9 := HJs.out _ own' wr w9 hJx.out (fun j _ hlt' => hb9.block j hlt') hb9.size hb9.os hb9.tape hb9.output
            have hcap9 : 0 + 1 ≤ cap := by have h9 := own_capN' ho9; simpa using h9
            have hcall := Hih.out w9 (wr.heap.size + 1) cap hcap9 (HG2.out.grow hgw) hin9 hj9 (fun q hq => Nat.lt_of_lt_of_le (hgr.out.lt q hq) hb9.size) hsz9
            have Hgw := hid hgw
            clear hin9 hj9 hcap9 hgw ho9 hg9
            refine CallsIn.mono hcall ?_
            rintro e w5 ⟨bv, rfl, ht, hf⟩
            cases bv
            · obtain ⟨p, own2, hp, hj2, hg2⟩ := hf rfl
              clear ht hf
              gi_wp2
              refine leavesM_marks [] _ (by simp) (by simp) (fun w' ho' => ⟨.bool false, by simp [results, Try.results77, go_sem], false, rfl, fun h => absurd h (by decide), fun _ => ?_⟩)
              rw [hgf.out]
              refine ⟨xs ++ p, own2, ?_, by rw [← List.append_assoc]; exact stab_off HJxs.out hj2 ho' (by simp), grow_off (hgr.out.trans (Hgw.out.trans hg2)) ho' (by simp)⟩
              rw [List.map_append, hxs.out]
              exact (List.prefix_append_right_inj _).2 hp |>.trans (by rw [← hnext.out]; exact gooTo_pre (by omega))
            · obtain ⟨ys, own2, hp, hj2, hg2⟩ := ht rfl
              have Hj2 := hid hj2
              have Hg2 := hid (hgr.out.trans (Hgw.out.trans hg2))
              have Hp := hid hp
              clear ht hf hj2 hg2 hp
              gi_wp2
              (first | exact ⟨⟨i + 1, xs ++ ys, own2, by omega, by omega, by go_num, hid (by rw [List.map_append, hxs.out, Hp.out, hnext.out]), hid (by rw [← List.append_assoc]; exact Hj2.out), Hg2⟩, (by first | (simp [intOf]; omega) | (simp [intOf]; done))⟩ | (refine ⟨?_, ?_⟩; (focus ((repeat apply Exists.intro); refine ⟨?_, rfl⟩; exact ⟨i + 1, xs ++ ys, own2, by omega, by omega, by go_num, hid (by rw [List.map_append, hxs.out, Hp.out, hnext.out]), hid (by rw [← List.append_assoc]; exact Hj2.out), Hg2⟩)); (first | (simp [intOf]; omega) | (simp [intOf]; done))))
          · gi_wp2_with (first | (gi_at_builtin; refine wpListIn_append_cap rfl _ _ 25 rfl 0 3 i0 _ 1 8 underL I0.out I1.out I2.out I3.out rfl _ k (b.flatMap cI) rfl Hfl.out Hfb4.out ⟨wr.heap.size, 0, none⟩ 1 1 [.int .i64 (i : Int)] rfl rfl (fun j u hj => World.news_of_block (Blk.new' rfl) j u hj) (by decide) (by unfold maxLen; omega) (by omega) (Nat.zero_le _) ?_; intro cap w9 ho9 hg9 hz9))
            have hb9 : Below wr.heap.size wr w9 := below_grown0 ((Below.refl _ _).alloc (Nat.le_refl _) _) hg9 (Nat.le_refl _)
            have hgw : Grow own' wr own' w9 := grow_below hgr.out.lt hb9
            have hsz9 : s ≤ w9.heap.size := by have := hb9.size; omega
            have hin9 : InO w9 own' (some ⟨wr.heap.size + 1, 0, none⟩) (k + 1) (b ++ [(i : Int)]) := by
              refine ⟨?_, fun bb' off' e => ?_⟩
              · have h9 := Sl.of_own ho9
                rw [show b.flatMap cI ++ [Value.int .i64 (i : Int)] = (b ++ [(i : Int)]).flatMap cI by rw [List.flatMap_append]; rfl, World.size_alloc] at h9
                exact h9
              · cases e
                refine ⟨by simpa using hz9, fun h => ?_, by have h9 := own_cellsAt ho9; rw [World.size_alloc] at h9; exact h9⟩
                have := hgr.out.lt _ h
                omega
            have hj9 : J (pre ++ xs) own' w9 := HJs.out _ own' wr w9 hJx.out (fun j _ hlt' => hb9.block j hlt') hb9.size hb9.os hb9.tape hb9.output
            have hcap9 : k + 1 ≤ cap := by have h9 := own_capN' ho9; simpa using h9
            have hcall := Hih.out w9 (wr.heap.size + 1) cap hcap9 (HG2.out.grow hgw) hin9 hj9 (fun q hq => Nat.lt_of_lt_of_le (hgr.out.lt q hq) hb9.size) hsz9
            have Hgw := hid hgw
            clear hin9 hj9 hcap9 hgw ho9 hg9
            refine CallsIn.mono hcall ?_
            rintro e w5 ⟨bv, rfl, ht, hf⟩
            cases bv
            · obtain ⟨p, own2, hp, hj2, hg2⟩ := hf rfl
              clear ht hf
              gi_wp2
              refine leavesM_marks [] _ (by simp) (by simp) (fun w' ho' => ⟨.bool false, by simp [results, Try.results77, go_sem], false, rfl, fun h => absurd h (by decide), fun _ => ?_⟩)
              rw [hgf.out]
              refine ⟨xs ++ p, own2, ?_, by rw [← List.append_assoc]; exact stab_off HJxs.out hj2 ho' (by simp), grow_off (hgr.out.trans (Hgw.out.trans hg2)) ho' (by simp)⟩
              rw [List.map_append, hxs.out]
              exact (List.prefix_append_right_inj _).2 hp |>.trans (by rw [← hnext.out]; exact gooTo_pre (by omega))
            · obtain ⟨ys, own2, hp, hj2, hg2⟩ := ht rfl
              have Hj2 := hid hj2
              have Hg2 := hid (hgr.out.trans (Hgw.out.trans hg2))
              have Hp := hid hp
              clear ht hf hj2 hg2 hp
              gi_wp2
              (first | exact ⟨⟨i + 1, xs ++ ys, own2, by omega, by omega, by go_num, hid (by rw [List.map_append, hxs.out, Hp.out, hnext.out]), hid (by rw [← List.append_assoc]; exact Hj2.out), Hg2⟩, (by first | (simp [intOf]; omega) | (simp [intOf]; done))⟩ | (refine ⟨?_, ?_⟩; (focus ((repeat apply Exists.intro); refine ⟨?_, rfl⟩; exact ⟨i + 1, xs ++ ys, own2, by omega, by omega, by go_num, hid (by rw [List.map_append, hxs.out, Hp.out, hnext.out]), hid (by rw [← List.append_assoc]; exact Hj2.out), Hg2⟩)); (first | (simp [intOf]; omega) | (simp [intOf]; done))))
        · have hcI : ¬ (i : Int) < I := by omega
          have hfin : Hid (xs.map PE.l = gooTo I m d f b I) := hid (by
            rw [hxs.out]
            rcases Nat.le_total f I with h | h
            · rw [show i = I by omega]
            · unfold gooTo; rw [show i - f = 0 by omega, show I - f = 0 by omega])
          gi_wp2
          refine leavesM_marks [] _ (by simp) (by simp) (fun w' ho' => ⟨.bool true, by simp [results, Try.results77, go_sem], true, rfl, fun _ => ?_, fun h => absurd h (by decide)⟩)
          rw [hgf.out]
          exact ⟨xs, own', hfin.out, stab_off HJs.out hJx.out ho' (by simp), grow_off hgr.out ho' (by simp)⟩
end Go.Proofs.Ytnpilfpackdimaa
/- Walk: the sets of so many inns: the iterator and who makes it. -/
namespace Go.Proofs.Ytnpilfpackdimaa
open Go.RowKit Go.Shelf
attribute [local go_sem] Oper.semAt_some run_store_func
/-- What the iterator of sets reads. -/
structure SIn (W : World) (own : Foot) (Bd Bm g I m : Nat) : Prop where
  hd : W.cell? ⟨Bd, 0, none⟩ = some (.pointer (some ⟨g, 0, none⟩))
  hm : W.cell? ⟨Bm, 0, none⟩ = some (.int .i64 (m : Int))
  ld : Bd < W.heap.size
  lm : Bm < W.heap.size
  od : ¬ own Bd
  om : ¬ own Bm
  gi : GIn W own g I
theorem SIn.grow {W W' : World} {own own' : Foot} {Bd Bm g I m : Nat} (h : SIn W own Bd Bm g I m) (hg : Grow own W own' W') : SIn W' own' Bd Bm g I m :=
  ⟨(World.cell?_of_block (hg.same _ h.ld h.od)).trans h.hd, (World.cell?_of_block (hg.same _ h.lm h.om)).trans h.hm, Nat.lt_of_lt_of_le h.ld hg.size, Nat.lt_of_lt_of_le h.lm hg.size, no_grow hg h.ld h.od, no_grow hg h.lm h.om, h.gi.grow hg⟩
theorem enSets1 : ∀ args w, (callFunc 76 args).run Try.prog w = .ok (.enter 76 args) w := enters_of Try.func76 (by kernel_rfl) rfl
set_option maxRecDepth 100000 in
set_option maxHeartbeats 2000000 in
theorem sets_gives (W : World) (own₀ : Foot) (Bd Bm g I m : Nat) (hI8 : I ≤ 8) (hm8 : m ≤ 8) (hin : SIn W own₀ Bd Bm g I m) :
    Gives (Wd none) Try.prog 76 #[.pointer (some ⟨Bd, 0, none⟩), .pointer (some ⟨Bm, 0, none⟩)] encP (RdP m) (gooF I m I 0 []).length (fun xs => xs.map PE.l = gooF I m I 0 []) (fun p => p.map PE.l <+: gooF I m I 0 []) own₀ W := by
  intro D l J Jx hJs hJxs hT hown h0
  have HIN := hid hin
  have Hown := hid hown
  have c1 := hin.hd
  have c2 := hin.hm
  have l1 := hin.ld
  have l2 := hin.lm
  have hdr : Below W.heap.size W W.drew := (Below.refl _ _).drew
  have HG := hid (fun (V : World) (hb : Below W.heap.size W V) => goOn_walk I m g l W.heap.size (gooF I m I 0 []).length hI8 hm8 J Jx hJs hJxs hT I 0 [] [] own₀ V none 0 0 (D - 1) (by omega) (by omega) rfl (by omega) (fun _ => ⟨rfl, rfl⟩) (by simp) (by omega) (HIN.out.gi.grow (grow_below Hown.out hb)) ⟨Sl.none_, fun _ _ e => by cases e⟩ (hJs [] own₀ W V h0 (fun k _ hlt => hb.block k hlt) hb.size hb.os hb.tape hb.output) (by simp) (fun q hq => Nat.lt_of_lt_of_le (Hown.out q hq) hb.size) hb.size)
  have HJs := hid hJs
  have HJxs := hid hJxs
  clear hin hown hT h0 hJs hJxs
  refine callsIn_of_wp_marks (F := Wd none) Try.func76 rfl trivial ?_ rfl
  simp only [Try.ntmps76, List.size_toArray, List.length_cons, List.length_nil, Nat.reduceAdd, Nat.reduceSub, Array.replicate_succ, Array.replicate_zero, List.push_toArray, List.append_toArray, List.nil_append, List.cons_append]
  gi_wp2_with (gi_at_call 77; refine CallsIn.mono (HG.out _ (Below.refl _ _)) ?_; rintro e w5 ⟨bv, rfl, ht, hf⟩)
  refine leavesM_marks [] _ (by simp) (by simp) (fun w' ho' => ⟨_, results_none rfl _ _ _, ⟨_, rfl⟩, ?_⟩)
  cases bv with
  | true =>
    obtain ⟨xs, own', hx, hj, hgr⟩ := ht rfl
    exact .inl ⟨xs, own', hx, stab_off HJs.out (by simpa using hj) ho' (by simp), grow_off hgr ho' (by simp)⟩
  | false =>
    obtain ⟨p, own', hx, hj, hgr⟩ := hf rfl
    exact .inr ⟨p, own', hx, stab_off HJxs.out (by simpa using hj) ho' (by simp), grow_off hgr ho' (by simp)⟩
set_option maxRecDepth 100000 in
theorem sets_any (w : World) (g m : Nat) :
    Calls Try.prog 51 #[.pointer (some ⟨g, 0, none⟩), .int .i64 (m : Int)] w fun e w' => ∃ Bd Bm, e = .returned (.func (.func 76) #[] #[.pointer (some ⟨Bd, 0, none⟩), .pointer (some ⟨Bm, 0, none⟩)]) ∧ w'.cell? ⟨Bd, 0, none⟩ = some (.pointer (some ⟨g, 0, none⟩)) ∧ w'.cell? ⟨Bm, 0, none⟩ = some (.int .i64 (m : Int)) ∧ w.heap.size ≤ Bd ∧ w.heap.size ≤ Bm ∧ Bd < w'.heap.size ∧ Bm < w'.heap.size ∧ Below w.heap.size w w' := by
  go_enter Try.func51, Try.ntmps51
  go_wp2
  refine bodyPost_ret (v := .func (.func 76) #[] #[.pointer (some ⟨w.heap.size, 0, none⟩), .pointer (some ⟨w.heap.size + 1, 0, none⟩)]) (by simp [results, Try.results51, go_sem]) rfl ⟨_, _, rfl, by go_simp, by go_simp, by simp, by simp, by simp; omega, by simp, (by repeat' (first | with_reducible assumption | with_reducible exact Below.refl _ _ | refine Below.alloc ?_ ?_ _ | refine Below.setCell ?_ ?_ _ | refine Below.drew ?_ | refine below_drewN ?_ _ | (simp; done) | (simp; omega) | omega))⟩
end Go.Proofs.Ytnpilfpackdimaa
/- Walk: Blame: the first of the smallest blames. -/
namespace Go.Proofs.Ytnpilfpackdimaa
open Go.RowKit Go.Shelf
attribute [local go_sem] Oper.semAt_some
/-- A set is a blame. -/
def isB (ls : List (List Int)) (l : List Int) : Bool := decide (missI ls (bitsL l) < 0)
/-- All sets of fewer than k inns, as the program looks at them. -/
def setsTo (I k : Nat) : List (List Int) := (List.range k).flatMap fun m => gooF I m I 0 []
theorem setsTo_next (I k : Nat) : setsTo I (k + 1) = setsTo I k ++ gooF I k I 0 [] := by
  unfold setsTo
  rw [List.range_succ, List.flatMap_append]; simp
def bestO (I : Nat) (ls : List (List Int)) : Option (List Int) := (setsTo I (I + 1)).find? (isB ls)
def bestE (I : Int) (ls : List (List Int)) : Int := if chkBook I ls ≠ 0 then chkBook I ls else if (bestO I.toNat ls).isSome then 0 else 21
def bestV (I : Int) (ls : List (List Int)) : List Int := if chkBook I ls ≠ 0 then [] else (bestO I.toNat ls).getD []
/-- A set stays while only blocks of another type turn. -/
theorem rdP_blocks {n : Nat} (x : PE) (W W' : World) (h : RdP n x W) (hk : ∀ (b : Nat) (o : Obj), W.heap[b]? = some o → (∃ cs fr, o = .cells cs 3 fr) → W'.heap[b]? = some o) (hz : W.heap.size ≤ W'.heap.size) : RdP n x W' := by
  obtain ⟨A, c, h1, h2, h4, h8, h9⟩ := h
  refine ⟨A, c, h1, ins_at h2 hz (fun b off e _ => ?_), h4, h8, fun b off e => ⟨Nat.lt_of_lt_of_le (h9 b off e).1 hz, by obtain ⟨-, cs, fr, h6⟩ := h9 b off e; exact ⟨cs, fr, hk _ _ h6 ⟨cs, fr, rfl⟩⟩⟩⟩
  obtain ⟨-, cs, fr, h6⟩ := h9 b off e
  rw [h6, hk _ _ h6 ⟨cs, fr, rfl⟩]
theorem rdP_set {n g i : Nat} {t : TypeId} {cs : Array Value} {u : Value} (x : PE) (W : World) (h : RdP n x W) (hb : Blk W g t cs) (ht : t ≠ 3) : RdP n x (W.setCell ⟨g, i, none⟩ u) := by
  refine rdP_blocks x W _ h (fun b o hh ⟨cs', fr, ho⟩ => ?_) (by simp [World.setCell])
  refine (Below.heap_setCell _ _ _ _ (fun e => ?_)).trans hh
  have e' : b = g := e
  subst e'
  unfold Blk at hb
  rw [hb, ho] at hh
  cases hh
  exact ht rfl
theorem setsTo_split {I k : Nat} : ∀ {m : Nat}, k < m → ∃ r, setsTo I m = setsTo I k ++ gooF I k I 0 [] ++ r
  | 0, h => by omega
  | m + 1, h => by
    rcases Nat.eq_or_lt_of_le (Nat.le_of_lt_succ h) with h1 | h1
    · subst h1; exact ⟨[], by rw [setsTo_next, List.append_nil]⟩
    · obtain ⟨r, hr⟩ := setsTo_split h1
      exact ⟨r ++ gooF I m I 0 [], by rw [setsTo_next, hr, List.append_assoc]⟩
theorem best_some {I k : Nat} {ls : List (List Int)} {p : List (List Int)} {y : List Int} (hk : k ≤ I) (h0 : ∀ l ∈ setsTo I k, isB ls l = false) (hp : p ++ [y] <+: gooF I k I 0 []) (h1 : ∀ z ∈ p, isB ls z = false) (hy : isB ls y = true) : bestO I ls = some y := by
  obtain ⟨r, hr⟩ := setsTo_split (I := I) (show k < I + 1 by omega)
  obtain ⟨t, ht⟩ := hp
  unfold bestO
  have e1 : (setsTo I k).find? (isB ls) = none := List.find?_eq_none.2 fun l hl => by rw [h0 l hl]; decide
  have e2 : p.find? (isB ls) = none := List.find?_eq_none.2 fun l hl => by rw [h1 l hl]; decide
  rw [hr, ← ht]
  simp only [List.find?_append, e1, e2, Option.none_or]
  rw [List.find?_cons_of_pos hy]
  rfl
theorem best_none {I : Nat} {ls : List (List Int)} (h : ∀ l ∈ setsTo I (I + 1), isB ls l = false) : bestO I ls = none := List.find?_eq_none.2 fun l hl => by rw [h l hl]; decide
theorem rdP_off {n : Nat} {x : PE} {W W' : World} {Ds : List Nat} (h : RdP n x W) (ho : Off Ds W W') : ∃ A c, x.v = .slice A n c ∧ InS W' W'.heap.size A n x.l := by
  obtain ⟨A, c, h1, h2, -⟩ := h
  refine ⟨A, c, h1, h2.1, fun hn => ?_⟩
  obtain ⟨b, off, e, hb, hc⟩ := h2.2 hn
  exact ⟨b, off, e, by rw [ho.size]; exact hb, fun j u hu => (ho.cell ⟨b, off + j, none⟩).trans (hc j u hu)⟩
set_option maxRecDepth 100000 in
set_option maxHeartbeats 4000000 in
theorem blame_ok (A : Option Addr) (n c : Nat) (ls : List (List Int)) (I : Nat) (w : World) (hl : LiS w w.heap.size A n ls) (hn : n ≤ 1000000) (hw : ∀ l ∈ ls, l.length ≤ 1000000) (he : chkBook I ls = 0) :
    Calls Try.prog 20 #[.agg #[.int .i64 (I : Int), .slice A n c]] w fun e w' => ∃ A' m' c', e = .returned (.tuple #[.slice A' m' c', .int .i64 (bestE I ls)]) ∧ InS w' w'.heap.size A' m' (bestV I ls) ∧ Below w.heap.size w w' := by
  have HL := hid hl
  have HW := hid hw
  have HO := hid (fun w h => open_ok A none n c 0 0 ls [] (I : Int) w h (lis_nil _ _) hn HW.out (by omega) (by simp) (by rw [openE_nil]; exact he))
  have hI1 : 1 ≤ I := by have := (book_good he).1; omega
  have hI8 : I ≤ 8 := by have := (book_good he).2.1; omega
  have hbe : Hid (bestE I ls = if (bestO I ls).isSome then 0 else 21) := hid (if_neg (by simpa using he))
  have hbv : Hid (bestV I ls = (bestO I ls).getD []) := hid (if_neg (by simpa using he))
  have HM := hid (fun g w b h => missed_any g I A n c ls b w h hn (book8 he))
  clear hl hw he
  (refine (callsIn_wide (n := 9)).1 ?_; refine callsIn_of_wp_marks (F := Wd none) Try.func20 rfl trivial ?_ rfl; simp only [Try.ntmps20, List.size_toArray, List.length_cons, List.length_nil, Nat.reduceAdd, Nat.reduceSub, Array.replicate_succ, Array.replicate_zero, List.push_toArray, List.append_toArray, List.nil_append, List.cons_append])
  gi_wp2_with (fail)
  obtain ⟨W0, hW0⟩ : ∃ W0, (((w.alloc (.cells #[.int .i64 (I : Int), .slice A n c] 24)).alloc (.cells #[.slice none 0 0] 25)).alloc (.cells #[.int .i64 0] 28)) = W0 := ⟨_, rfl⟩
  have hba : Below w.heap.size w W0 := by rw [← hW0]; exact (by repeat' (first | with_reducible assumption | with_reducible exact Below.refl _ _ | refine Below.alloc ?_ ?_ _ | refine Below.setCell ?_ ?_ _ | refine Below.drew ?_ | refine below_drewN ?_ _ | (simp; done) | (simp; omega) | omega))
  have hz0 : W0.heap.size = w.heap.size + 1 + 1 + 1 := by rw [← hW0]; simp
  have B1 : Blk W0 w.heap.size 24 #[.int .i64 (I : Int), .slice A n c] := by rw [← hW0]; exact ((Blk.new' rfl).alloc _).alloc _
  have B2 : Blk W0 (w.heap.size + 1) 25 #[.slice none 0 0] := by rw [← hW0]; exact (Blk.new' (by first | (simp; done) | (simp; omega) | omega)).alloc _
  have B3 : Blk W0 (w.heap.size + 1 + 1) 28 #[.int .i64 0] := by rw [← hW0]; exact Blk.new' (by first | (simp; done) | (simp; omega) | omega)
  rw [hW0] at ⊢
  clear hW0
  refine (calls_wd (HO.out _ (HL.out.below hba hba.size))).mono ?_
  rintro e W1 ⟨g, rfl, hg, hd, hb1⟩
  have hbw := hba.trans (hb1.mono hba.size)
  obtain ⟨W2, hW2⟩ : ∃ W2, W1.alloc (.cells #[.pointer (some ⟨g, 0, none⟩)] 52) = W2 := ⟨_, rfl⟩
  have hb12 : Below W1.heap.size W1 W2 := by rw [← hW2]; exact (Below.refl _ _).alloc (Nat.le_refl _) _
  have hb02 := hb1.trans (hb12.mono hb1.size)
  have hbw2 := hba.trans (hb02.mono hba.size)
  replace B1 := B1.below hb02 B1.lt
  replace B2 := B2.below hb02 B2.lt
  replace B3 := B3.below hb02 B3.lt
  have B4 : Blk W2 W1.heap.size 52 #[.pointer (some ⟨g, 0, none⟩)] := by rw [← hW2]; exact Blk.new' rfl
  have Bg := hd.1.below hb12 hd.1.lt
  have hgT : w.heap.size + 1 + 1 < g := by omega
  have hg4 : g < W1.heap.size := hd.1.lt
  have hz2 : W2.heap.size = W1.heap.size + 1 := by rw [← hW2]; simp
  obtain ⟨T1, hT1⟩ : ∃ T, w.heap.size = T := ⟨_, rfl⟩
  obtain ⟨T2, hT2⟩ : ∃ T, T1 + 1 = T := ⟨_, rfl⟩
  obtain ⟨T3, hT3⟩ : ∃ T, T2 + 1 = T := ⟨_, rfl⟩
  obtain ⟨T4, hT4⟩ : ∃ T, W1.heap.size = T := ⟨_, rfl⟩
  rw [hT1, hT2, hT3] at B3 hgT
  rw [hT1, hT2] at B2
  rw [hT1] at B1
  rw [hT4] at B4 hg4 hz2
  rw [hT1, hT2, hT3]
  have c10 := B1.cell 0
  have c11 := B1.cell 1
  have l1 := B1.lt
  have c2 := B2.cell 0
  have l2 := B2.lt
  have f2 := B2.frozen 0
  have c3 := B3.cell 0
  have l3 := B3.lt
  have f3 := B3.frozen 0
  have HB2 := hid B2
  have HB3 := hid B3
  have HB4 := hid B4
  have HBg := hid Bg
  have Hbw2 := hid hbw2
  clear hd hb1 hb02 hba hbw hbw2 hb12 B2 B3 B4 Bg hz0 hg
  gi_wp2
  have Ho0 : Hid (∀ j, (fun j => j = T2 ∨ j = T3) j → j < W2.heap.size) := hid (by rintro j (h | h) <;> omega)
  refine wpIn_loop (fun a' wr => ∃ (ds : List Deferred) (u6 u7 u8 u9 u10 u11 u12 u13 u14 u15 u16 u17 u19 u20 u21 u22 u23 u24 u25 u26 u27 u28 u29 u30 u31 u32 : Value), (∃ (k : Nat) (own : Foot), k ≤ I + 1 ∧ u19 = .int .i64 (k : Int) ∧ Hid (∀ l ∈ setsTo I k, isB ls l = false) ∧ Hid (own T2 ∧ own T3 ∧ Blk wr T2 25 #[.slice none 0 0] ∧ Blk wr T3 28 #[.int .i64 0]) ∧ Hid (Grow (fun j => j = T2 ∨ j = T3) W2 own wr) ∧ Hid (MarksO own W2.heap.size wr.heap.size wr ds)) ∧ a' = { tmps := #[.agg #[.int .i64 (I : Int), .slice A n c], .pointer (some ⟨T1, 0, none⟩), .pointer (some ⟨T2, 0, none⟩), .pointer (some ⟨T3, 0, none⟩), .pointer (some ⟨T4, 0, none⟩), .int .i64 0, u6, u7, u8, u9, u10, u11, u12, u13, u14, u15, u16, u17, .int .i64 ((I : Int) + 1), u19, u20, u21, u22, u23, u24, u25, u26, u27, u28, u29, u30, u31, u32], defers := ds }) (fun a' wr => I + 1 - (intOf (a'.tmps.getD 19 undef)).toNat) ?_ ?_
  · (repeat apply Exists.intro); refine ⟨?_, rfl⟩
    exact ⟨0, _, by omega, rfl, hid (fun l hl => by simp [setsTo] at hl), hid ⟨Or.inl rfl, Or.inr rfl, HB2.out, HB3.out⟩, hid (Grow.refl Ho0.out), hid (MarksO.nil _ _ _ _)⟩
  · intro _ wr hinv; obtain ⟨ds, hinv⟩ := hinv; obtain ⟨u6, hinv⟩ := hinv; obtain ⟨u7, hinv⟩ := hinv; obtain ⟨u8, hinv⟩ := hinv; obtain ⟨u9, hinv⟩ := hinv; obtain ⟨u10, hinv⟩ := hinv; obtain ⟨u11, hinv⟩ := hinv; obtain ⟨u12, hinv⟩ := hinv; obtain ⟨u13, hinv⟩ := hinv; obtain ⟨u14, hinv⟩ := hinv; obtain ⟨u15, hinv⟩ := hinv; obtain ⟨u16, hinv⟩ := hinv; obtain ⟨u17, hinv⟩ := hinv; obtain ⟨u19, hinv⟩ := hinv; obtain ⟨u20, hinv⟩ := hinv; obtain ⟨u21, hinv⟩ := hinv; obtain ⟨u22, hinv⟩ := hinv; obtain ⟨u23, hinv⟩ := hinv; obtain ⟨u24, hinv⟩ := hinv; obtain ⟨u25, hinv⟩ := hinv; obtain ⟨u26, hinv⟩ := hinv; obtain ⟨u27, hinv⟩ := hinv; obtain ⟨u28, hinv⟩ := hinv; obtain ⟨u29, hinv⟩ := hinv; obtain ⟨u30, hinv⟩ := hinv; obtain ⟨u31, hinv⟩ := hinv; obtain ⟨u32, hinv⟩ := hinv; obtain ⟨hrel, ha⟩ := hinv; subst ha; dsimp only
    obtain ⟨k, own, hkI, rfl, hno, hown, hgr, hmk⟩ := hrel
    have hoT4 : ¬ own T4 := no_grow hgr.out (by omega) (by omega)
    have hog : ¬ own g := no_grow hgr.out (by omega) (by omega)
    have B4r : Blk wr T4 52 #[.pointer (some ⟨g, 0, none⟩)] := (hgr.out.same _ HB4.out.lt (by omega)).trans HB4.out
    have Bgr : Blk wr g 84 #[.int .i64 (I : Int), .slice A n c] := (hgr.out.same _ HBg.out.lt (by omega)).trans HBg.out
    have hbr : Below w.heap.size w wr := below_grow Hbw2.out hgr.out Hbw2.out.size (by rintro j (h | h) <;> omega)
    have c4 := B4r.cell 0
    have l4 := B4r.lt
    have HB4r := hid B4r
    have HBgr := hid Bgr
    have Hbr := hid hbr
    have hzr := hgr.out.size
    clear B4r Bgr hbr c10 c11 l1 c2 l2 f2 c3 l3 f3
    by_cases hlt : k < I + 1
    · have hlti : (k : Int) < (I : Int) + 1 := by omega
      gi_wp2_with (fail)
      refine (calls_wd (sets_any wr g k)).mono ?_
      rintro e X6 ⟨Bd, Bm, rfl, d1, d2, d3, d4, d5, d6, hb6⟩
      have hbX := Hbr.out.trans (hb6.mono Hbr.out.size)
      have hzX := hb6.size
      have hoX : ∀ j, own j → j < wr.heap.size := hgr.out.lt
      have HB4x := hid (HB4r.out.below hb6 HB4r.out.lt)
      have HBgx := hid (HBgr.out.below hb6 HBgr.out.lt)
      have HB2x := hid (hown.out.2.2.1.below hb6 hown.out.2.2.1.lt)
      have HB3x := hid (hown.out.2.2.2.below hb6 hown.out.2.2.2.lt)
      have hSIn : SIn X6 (fun j => own j ∨ j = X6.heap.size ∨ j = X6.heap.size + 1) Bd Bm g I k := ⟨d1, d2, d5, d6, by rintro (h | h | h); have := hoX _ h; omega; omega; omega, by rintro (h | h | h); have := hoX _ h; omega; omega; omega, ⟨HBgx.out.cell 0, HBgx.out.lt, by
        have := HBgr.out.lt
        rintro (h | h | h); exact hog h; omega; omega⟩⟩
      have Hb6 := hid hb6
      have HbX := hid hbX
      have HSIn := hid hSIn
      have hk8 : k ≤ 8 := by omega
      have hT23 : T2 < wr.heap.size ∧ T3 < wr.heap.size ∧ T4 < wr.heap.size ∧ g < wr.heap.size := ⟨hown.out.2.2.1.lt, hown.out.2.2.2.lt, HB4r.out.lt, HBgr.out.lt⟩
      clear d1 d2 hb6 hbX hSIn c4 l4
      gi_wp2
      refine with_frame fun TT hTT => ?_
      refine wpIn_rangeFunc_foot (F := Wd none) (α := PE) X6.heap.size rfl rfl rfl (gf := 76) (lb := #[.pointer (some ⟨Bd, 0, none⟩), .pointer (some ⟨Bm, 0, none⟩)]) (by rw [hTT]; rfl) trivial enSets1
        (encs := encP) (Rd := RdP k) (Nb := (gooF I k I 0 []).length) (S := fun ys => ys.map PE.l = gooF I k I 0 []) (Sp := fun ys => ys.map PE.l <+: gooF I k I 0 []) own (fun j hj => by have := hoX j hj; omega) ?hseq rdP_keep (fun _ => rfl)
        (fun ys ow V => (∀ y ∈ ys, isB ls y.l = false) ∧ Below X6.heap.size X6 V ∧ ow T2 ∧ ow T3 ∧ ¬ ow T4 ∧ ¬ ow g) (fun c' ys ow V => c' = .ret ∧ ∃ ys0 y, ys = ys0 ++ [y] ∧ (∀ z ∈ ys0, isB ls z.l = false) ∧ isB ls y.l = true ∧ RdP k y V ∧ Blk V T2 25 #[y.v] ∧ Blk V T3 28 #[.int .i64 0] ∧ ow T2 ∧ ow T3) ?hI ?hIx ⟨fun y hy => (by cases hy), Below.refl _ _, hown.out.1, hown.out.2.1, hoT4, hog⟩
        (fun x a' V => a' = { tmps := (TT.setIfInBounds 25 x.v).setIfInBounds 7 x.v, defers := [] }) ?assign (fun x a' V o h => h) ?body ?done ?stop
      case hseq =>
        intro W' hW'
        exact sets_gives W' _ Bd Bm g I k hI8 hk8 ⟨(hW'.cell (p := ⟨Bd, 0, none⟩) d5).trans HSIn.out.hd, (hW'.cell (p := ⟨Bm, 0, none⟩) d6).trans HSIn.out.hm, Nat.lt_of_lt_of_le d5 hW'.size, Nat.lt_of_lt_of_le d6 hW'.size, HSIn.out.od, HSIn.out.om, ⟨(hW'.cell (p := ⟨g, 0, none⟩) HBgx.out.lt).trans HSIn.out.gi.hI, Nat.lt_of_lt_of_le HBgx.out.lt hW'.size, HSIn.out.gi.no⟩⟩
      case hI =>
        rintro ys ow V V' ⟨h0, h1, h2, h3, h4, h5⟩ hk hz e1 e2 e3
        exact ⟨h0, stab_below h1 (Nat.le_refl _) (Nat.le_refl _) (fun q hq hq' => hk q (.inl hq) hq') hz e1 e2 e3, h2, h3, h4, h5⟩
      case hIx =>
        rintro c' ys ow V V' ⟨hc', ys0, y, h0, h1, h2, h3, h4, h5, h6, h7⟩ hk hz e1 e2 e3
        exact ⟨hc', ys0, y, h0, h1, h2, rdP_keep y V V' h3 (fun q o ho hc => (hk q (.inr (.inr ⟨o, ho, hc⟩)) (Array.getElem?_eq_some_iff.1 ho).1).trans ho) hz, (hk _ (.inr (.inl h6)) h4.lt).trans h4, (hk _ (.inr (.inl h7)) h5.lt).trans h5, h6, h7⟩
      case assign =>
        rintro l x V Kk hrd hV hK
        simp only [encP, hTT]
        gi_wp2
        exact hK _ _ (Below.refl _ _) (by rw [hTT]; rfl)
      case body =>
        rintro l pre ow x a' V ⟨h0, h1, h2, h3, h4, h5⟩ hNb hlt' hnB hrd rfl hV
        obtain ⟨xv, xl⟩ := x
        obtain ⟨Ax, cx, hxv, hxin, hxn, hxb, hxc⟩ := hrd
        have hxv' : xv = .slice Ax k cx := hxv
        subst hxv'
        have hxin' : InS V V.heap.size Ax k xl := hxin
        have hxb' : ∀ v ∈ xl, 0 ≤ v ∧ v < 8 := hxb
        have q4 := (HB4x.out.below h1 HB4x.out.lt).cell 0
        have l4 := (HB4x.out.below h1 HB4x.out.lt).lt
        have Hbg := hid (HBgx.out.below h1 HBgx.out.lt)
        have HbV := hid (HbX.out.trans (h1.mono HbX.out.size))
        have HX := hid hxin'
        have HXb := hid hxb'
        have HRd : Hid (RdP k ⟨.slice Ax k cx, xl⟩ V) := hid ⟨Ax, cx, rfl, hxin, hxn, hxb, hxc⟩
        have H0 := hid h0
        have H1 := hid h1
        have Hlv := hid (fun (W : World) (h : Below V.heap.size V W) => HL.out.below (HbV.out.trans (h.mono HbV.out.size)) (Nat.le_trans HbV.out.size h.size))
        clear hxin hxin' h0 h1 hxb hxb' hxc hxn
        simp only [hTT, List.setIfInBounds_toArray, List.set_cons_zero, List.set_cons_succ]
        gi_wp2
        refine wpIn_region_hd_all (fun W => Below V.heap.size V W) (by kernel_rfl) (by kernel_rfl) ((Below.refl _ _).drew) ?_
        (refine wpHd_val (v := ?_) (by rfl) (fun W hW => ?_) ?_; rotate_left; (· obtain ⟨hcW, hfW⟩ := bcell hW; go_simp; with_reducible rfl); simp only [Act.put, List.setIfInBounds_toArray, List.set_cons_zero, List.set_cons_succ])
        (refine wpHd_val (v := ?_) (by rfl) (fun W hW => ?_) ?_; rotate_left; (· obtain ⟨hcW, hfW⟩ := bcell hW; go_simp; with_reducible rfl); simp only [Act.put, List.setIfInBounds_toArray, List.set_cons_zero, List.set_cons_succ])
        (refine wpHd_callB (by rfl) (fun W hW => (marked_any Ax k cx xl W (HX.out.below hW hW.size) (by omega) HXb.out)) (fun W hW => ?_) ?_; (· obtain ⟨hcW, hfW⟩ := bcell hW; go_simp); simp only [Act.put, List.setIfInBounds_toArray, List.set_cons_zero, List.set_cons_succ])
        (refine wpHd_callB (by rfl) (fun W hW => (HM.out g W (bitsL xl) ⟨Hbg.out.below hW Hbg.out.lt, Hlv.out W hW⟩)) (fun W hW => ?_) ?_; (· obtain ⟨hcW, hfW⟩ := bcell hW; go_simp); simp only [Act.put, List.setIfInBounds_toArray, List.set_cons_zero, List.set_cons_succ])
        cases hm : isB ls xl
        · have hmi : ¬ missI ls (bitsL xl) < 0 := of_decide_eq_false hm
          have h0' : Hid (∀ y ∈ pre ++ [(⟨.slice Ax k cx, xl⟩ : PE)], isB ls y.l = false) := hid (fun y hy => by
            rcases List.mem_append.1 hy with h | h
            · exact H0.out y h
            · rw [List.mem_singleton.1 h]; exact hm)
          clear hm
          obtain ⟨mv, hmv⟩ : ∃ mv, missI ls (bitsL xl) = mv := ⟨_, rfl⟩
          rw [hmv] at hmi ⊢
          clear hmv
          (refine wpHd_val (v := ?_) (by rfl) (fun W hW => ?_) ?_; rotate_left; (· obtain ⟨hcW, hfW⟩ := bcell hW; go_simp; with_reducible rfl); simp only [Act.put, List.setIfInBounds_toArray, List.set_cons_zero, List.set_cons_succ])
          refine wpHd_nil ?_
          intro W9 hW9
          clear q4
          gi_wp2
          exact ⟨ow, ⟨h0'.out, H1.out.trans (hW9.mono H1.out.size), h2, h3, h4, h5⟩, grow_below hlt' hW9⟩
        · have hmi : missI ls (bitsL xl) < 0 := of_decide_eq_true hm
          have Hm := hid hm
          clear hm
          obtain ⟨mv, hmv⟩ : ∃ mv, missI ls (bitsL xl) = mv := ⟨_, rfl⟩
          rw [hmv] at hmi ⊢
          clear hmv
          (refine wpHd_val (v := ?_) (by rfl) (fun W hW => ?_) ?_; rotate_left; (· obtain ⟨hcW, hfW⟩ := bcell hW; go_simp; with_reducible rfl); simp only [Act.put, List.setIfInBounds_toArray, List.set_cons_zero, List.set_cons_succ])
          refine wpHd_nil ?_
          intro W9 hW9
          have b2 := (HB2x.out.below H1.out HB2x.out.lt).below hW9 (HB2x.out.below H1.out HB2x.out.lt).lt
          have b3 := (HB3x.out.below H1.out HB3x.out.lt).below hW9 (HB3x.out.below H1.out HB3x.out.lt).lt
          have q2 := b2.cell 0
          have q3 := b3.cell 0
          have p2 := b2.lt
          have p3 := b3.lt
          have f2 := b2.frozen 0
          have f3 := b3.frozen 0
          have hg9 : Grow ow V ow W9 := grow_below hlt' hW9
          have HRd9 : RdP k ⟨.slice Ax k cx, xl⟩ W9 := rdP_keep _ V W9 HRd.out (fun q o ho _ => (hW9.block q (Array.getElem?_eq_some_iff.1 ho).1).trans ho) hW9.size
          have hT2e : T2 ≠ T3 := by omega
          clear q4
          gi_wp2
          refine ⟨ow, ⟨rfl, pre, _, rfl, H0.out, Hm.out, ?_, ?_, ?_, h2, h3⟩, grow_set (grow_set hg9 h2 _) h3 _⟩
          · exact rdP_set _ _ (rdP_set _ _ HRd9 b2 (by decide)) (b3.far (by simp; omega) _) (by decide)
          · exact (b2.set_ 0 _).far (by simp; omega) _
          · exact (b3.far (by simp; omega) _).set_ 0 _
      case done =>
        rintro Dm ys ow V hDm hys ⟨h0, h1, h2, h3, h4, h5⟩ hg hnB rfl hK
        have hgx : Grow own wr ow V := (grow_below hoX Hb6.out).trans hg
        have hmx : MarksO ow W2.heap.size X6.heap.size V ds := hmk.out.step hzX (fun E hE hn h => by
          rcases hgx.from_ E h with h4 | h4
          · exact hn h4
          · omega) (fun E hE hn => hgx.same E hE hn)
        have hmx2 := hmx.push (by omega : W2.heap.size ≤ X6.heap.size) (Nat.le_refl _) (fun h => (hnB _ h).1 rfl) hK
        have hVlt : X6.heap.size < V.heap.size := (Array.getElem?_eq_some_iff.1 hK).1
        have hmx3 := hid (hmx2.step (M' := V.heap.size) (W' := V) (by omega) (fun _ _ h => h) (fun _ _ _ => rfl))
        have hno2 : Hid (∀ l ∈ setsTo I (k + 1), isB ls l = false) := hid (fun l hl => by
          rw [setsTo_next] at hl
          rcases List.mem_append.1 hl with h | h
          · exact hno.out l h
          · rw [← hys] at h
            obtain ⟨y, hy, rfl⟩ := List.mem_map.1 h
            exact h0 y hy)
        have hgr2 := hid (hgr.out.trans hgx)
        have hB2 := hid (HB2x.out.below h1 HB2x.out.lt)
        have hB3 := hid (HB3x.out.below h1 HB3x.out.lt)
        simp only [hTT]
        clear hmx hmx2 hgx hys h0 h1
        gi_wp2
        (first | exact ⟨⟨k + 1, ow, by omega, by go_num, hno2, hid ⟨h2, h3, hB2.out, hB3.out⟩, hgr2, hmx3⟩, (by first | (simp [intOf]; omega) | (simp [intOf]; done))⟩ | (refine ⟨?_, ?_⟩; (focus ((repeat apply Exists.intro); refine ⟨?_, rfl⟩; exact ⟨k + 1, ow, by omega, by go_num, hno2, hid ⟨h2, h3, hB2.out, hB3.out⟩, hgr2, hmx3⟩)); (first | (simp [intOf]; omega) | (simp [intOf]; done))))
      case stop =>
        rintro Dm c' ys ow V hDm hpre ⟨rfl, ys0, y, h0, h1, h2, h3, h4, h5, h6, h7⟩ hg hnB rfl hK
        have hgx : Grow own wr ow V := (grow_below hoX Hb6.out).trans hg
        have hmx : MarksO ow W2.heap.size X6.heap.size V ds := hmk.out.step hzX (fun E hE hn h => by
          rcases hgx.from_ E h with h4 | h4
          · exact hn h4
          · omega) (fun E hE hn => hgx.same E hE hn)
        have hmx2 := hmx.push (by omega : W2.heap.size ≤ X6.heap.size) (Nat.le_refl _) (fun h => (hnB _ h).1 rfl) hK
        obtain ⟨yv, yl⟩ := y
        have hpre' : ys0.map PE.l ++ [yl] <+: gooF I k I 0 [] := by rw [h0, List.map_append] at hpre; exact hpre
        have hbo := best_some (by omega) hno.out hpre' (fun z hz => by obtain ⟨q, hq, rfl⟩ := List.mem_map.1 hz; exact h1 q hq) h2
        have hgr2 := hid (hgr.out.trans hgx)
        have hbV : Below w.heap.size w V := below_grow Hbw2.out hgr2.out Hbw2.out.size (by rintro j (h | h) <;> omega)
        have HbV := hid hbV
        have H3 := hid h3
        have H4 := hid h4
        have H5 := hid h5
        have Hbe : Hid (bestE I ls = 0) := hid (by rw [hbe.out, hbo]; rfl)
        have Hbv : Hid (bestV I ls = yl) := hid (by rw [hbv.out, hbo]; rfl)
        simp only [hTT]
        clear hmx hgx hpre hpre' h0 h1 h2 h3 h4 h5 hbo hbV
        gi_wp2
        refine hmx2.leaves (fun Ds w' hDs ho => ⟨.tuple #[yv, .int .i64 0], ?_, ?_⟩)
        · have e2 := (ho.cell ⟨T2, 0, none⟩).trans (H4.out.cell 0)
          have e3 := (ho.cell ⟨T3, 0, none⟩).trans (H5.out.cell 0)
          simp [results, Try.results20, go_sem, *]
        · obtain ⟨A', c', hyv, hin⟩ := rdP_off H3.out ho
          have hyv' : yv = .slice A' k c' := hyv
          subst hyv'
          exact ⟨A', k, ⟨c', by rw [Hbe.out]⟩, by rw [Hbv.out]; exact hin, ho.below (by have h9 := HbV.out; rw [hT1] at h9; exact h9) (fun D hD => by have := (hDs D hD).1; have := Hbw2.out.size; omega)⟩
    · obtain rfl : k = I + 1 := by omega
      have hlti : ¬ ((I : Int) + 1 < (I : Int) + 1) := by omega
      have hbo := best_none hno.out
      have Hbe : Hid (bestE I ls = 21) := hid (by rw [hbe.out, hbo]; rfl)
      have Hbv : Hid (bestV I ls = []) := hid (by rw [hbv.out, hbo]; rfl)
      have b2 := hown.out.2.2.1
      have b3 := hown.out.2.2.2
      have q2 := b2.cell 0
      have q3 := b3.cell 0
      have p2 := b2.lt
      have p3 := b3.lt
      have f2 := b2.frozen 0
      have f3 := b3.frozen 0
      have hT2e : T2 ≠ T3 := by omega
      have hmk2 := hmk.out.step (M' := wr.heap.size) (W' := (wr.setCell ⟨T2, 0, none⟩ (.slice none 0 0)).setCell ⟨T3, 0, none⟩ (.int .i64 21)) (Nat.le_refl _) (fun _ _ h => h) (fun D hD hn => (Below.heap_setCell _ _ _ _ (fun e => hn (by have e' : D = T3 := e; rw [e']; exact hown.out.2.1))).trans (Below.heap_setCell _ _ _ _ (fun e => hn (by have e' : D = T2 := e; rw [e']; exact hown.out.1))))
      have hB2 : Blk ((wr.setCell ⟨T2, 0, none⟩ (.slice none 0 0)).setCell ⟨T3, 0, none⟩ (.int .i64 21)) T2 25 #[.slice none 0 0] := (b2.set_ 0 _).far (by simp; omega) _
      have hB3 : Blk ((wr.setCell ⟨T2, 0, none⟩ (.slice none 0 0)).setCell ⟨T3, 0, none⟩ (.int .i64 21)) T3 28 #[.int .i64 21] := (b3.far (by simp; omega) _).set_ 0 _
      have hbV : Below w.heap.size w ((wr.setCell ⟨T2, 0, none⟩ (.slice none 0 0)).setCell ⟨T3, 0, none⟩ (.int .i64 21)) := (Hbr.out.setCell (by simp; omega) _).setCell (by simp; omega) _
      have HbV := hid hbV
      have H4 := hid hB2
      have H5 := hid hB3
      clear c4 l4 hbo hbV hB2 hB3
      gi_wp2
      refine hmk2.leaves (fun Ds w' hDs ho => ⟨.tuple #[.slice none 0 0, .int .i64 21], ?_, ?_⟩)
      · have e2 := (ho.cell ⟨T2, 0, none⟩).trans (H4.out.cell 0)
        have e3 := (ho.cell ⟨T3, 0, none⟩).trans (H5.out.cell 0)
        simp [results, Try.results20, go_sem, *]
      · exact ⟨none, 0, ⟨0, by rw [Hbe.out]⟩, by rw [Hbv.out]; exact Sl.none_, ho.below (by have h9 := HbV.out; rw [hT1] at h9; exact h9) (fun D hD => by have := (hDs D hD).1; have := Hbw2.out.size; omega)⟩
end Go.Proofs.Ytnpilfpackdimaa
/- Keys of the map of sets that were found. -/
namespace Go.Proofs.Ytnpilfpackdimaa
open Go.RowKit Go.WideMaps
open Go.Maps (Keyed)
attribute [local go_sem] Oper.semAt_some
theorem laidOut : laidOutB Try.prog = true := by kernel_rfl
set_option maxRecDepth 100000 in
theorem rowF : (94 : TypeId) < Try.prog.types.size := by
  have : decide ((94 : TypeId) < Try.prog.types.size) = true := by kernel_rfl
  exact of_decide_eq_true this
set_option maxRecDepth 100000 in
theorem wideF : (match Try.prog.underlying 94 with | some (.array _ _) | some (.struct _) => true | _ => false) = true := by kernel_rfl
set_option maxRecDepth 100000 in
theorem lawF : KeyLaw Try.prog 94 := deep_law_laid laidOut (m := 3) (by omega) rowF (by kernel_rfl) wideF
theorem KF : Keyed Try.prog 94 := Maps.Keyed.of_law lawF
theorem underM : Try.prog.underlying 92 = some (.map 94 3) := by kernel_rfl
theorem underI : Try.prog.underlying 3 = some (.int .i64) := by kernel_rfl
@[irreducible] noncomputable def klB (b : Nat) : Lit := (keyOf Try.prog 94 (.agg (mkB b))).getD (.bool false)
set_option maxRecDepth 100000 in
theorem keys_some : ((List.range 256).all fun b => (keyOf Try.prog 94 (.agg (mkB b))).isSome) = true := by kernel_rfl
theorem key_klB {b : Nat} (hb : b < 256) : keyOf Try.prog 94 (.agg (mkB b)) = some (klB b) := by
  have h := List.all_eq_true.1 keys_some b (List.mem_range.2 hb)
  unfold klB
  cases hk : keyOf Try.prog 94 (.agg (mkB b)) with
  | none => rw [hk] at h; cases h
  | some k => rfl
theorem key_klE {b : Nat} (hb : b < 256) : keyOf Try.prog 94 (.agg #[bv b 0, bv b 1, bv b 2, bv b 3, bv b 4, bv b 5, bv b 6, bv b 7]) = some (klB b) := key_klB hb
theorem mkB_inj {a b : Nat} (ha : a < 256) (hb : b < 256) (h : mkB a = mkB b) : a = b := by
  have hbit : ∀ i, i < 8 → a.testBit i = b.testBit i := fun i hi => by
    have h1 : bv a i = bv b i := by
      have := congrArg (fun x : Array Value => x[i]?) h
      simp only [mkB_at hi] at this
      exact Option.some.inj this
    unfold bv at h1
    cases h2 : a.testBit i <;> cases h3 : b.testBit i <;> simp [h2, h3] at h1 ⊢
  exact bits8_ext ha hb hbit
theorem klB_inj {a b : Nat} (ha : a < 256) (hb : b < 256) (h : klB a = klB b) : a = b := by
  have x := key_klB ha
  have y := key_klB hb
  rw [h] at x
  have e := KF.inj x y
  have e := Value.agg.inj e
  exact mkB_inj ha hb e
set_option maxRecDepth 100000 in
theorem klB_is {b : Nat} (hb : b < 256) : WideAt.IsKeyLit (klB b) := KF.key (v := .agg (mkB b)) (l := klB b) (key_klB hb)
end Go.Proofs.Ytnpilfpackdimaa
/- Contracts of the library, laid at this program: tables of numbers, and that the texts are the same. -/
namespace Go.Proofs
open Go.Shelf
def Try.sortL_ren : Go.Shelf.Ren := ⟨fun | 6 => 81 | 15 => 86 | 14 => 85 | 28 => 96 | 29 => 97 | 20 => 88 | 21 => 89 | 22 => 90 | 23 => 91 | 24 => 92 | 25 => 93 | 26 => 94 | 27 => 95 | 46 => 99 | 47 => 100 | 48 => 101 | 49 => 102 | 50 => 103 | 57 => 104 | n => n, fun | 22 => 22 | 24 => 25 | 25 => 96 | 3 => 3 | 39 => 100 | 0 => 0 | 53 => 110 | 55 => 112 | 4 => 4 | 46 => 104 | 45 => 103 | 50 => 61 | 5 => 5 | 9 => 9 | 66 => 113 | 70 => 117 | 76 => 119 | 77 => 120 | n => n, fun | n => n⟩
theorem Try.sortL : Go.Proofs.SlLaysF.n6 Try.prog Try.sortL_ren :=
  { mixed := by kernel_rfl,
    f6 := ⟨Try.f81.name, by decide, Try.func81.trans (congrArg some (by kernel_rfl))⟩,
    f14 := ⟨Try.f85.name, by decide, Try.func85.trans (congrArg some (by kernel_rfl))⟩,
    f15 := Try.func86.trans (congrArg some (by kernel_rfl)),
    f20 := ⟨Try.f88.name, by decide, Try.func88.trans (congrArg some (by kernel_rfl))⟩,
    f21 := ⟨Try.f89.name, by decide, Try.func89.trans (congrArg some (by kernel_rfl))⟩,
    f22 := ⟨Try.f90.name, by decide, Try.func90.trans (congrArg some (by kernel_rfl))⟩,
    f23 := ⟨Try.f91.name, by decide, Try.func91.trans (congrArg some (by kernel_rfl))⟩,
    f24 := ⟨Try.f92.name, by decide, Try.func92.trans (congrArg some (by kernel_rfl))⟩,
    f25 := ⟨Try.f93.name, by decide, Try.func93.trans (congrArg some (by kernel_rfl))⟩,
    f26 := ⟨Try.f94.name, by decide, Try.func94.trans (congrArg some (by kernel_rfl))⟩,
    f27 := ⟨Try.f95.name, by decide, Try.func95.trans (congrArg some (by kernel_rfl))⟩,
    f28 := Try.func96.trans (congrArg some (by kernel_rfl)),
    f29 := Try.func97.trans (congrArg some (by kernel_rfl)),
    f46 := ⟨Try.f99.name, by decide, Try.func99.trans (congrArg some (by kernel_rfl))⟩,
    f47 := Try.func100.trans (congrArg some (by kernel_rfl)),
    f48 := Try.func101.trans (congrArg some (by kernel_rfl)),
    f49 := ⟨Try.f102.name, by decide, Try.func102.trans (congrArg some (by kernel_rfl))⟩,
    f50 := ⟨Try.f103.name, by decide, Try.func103.trans (congrArg some (by kernel_rfl))⟩,
    f57 := ⟨Try.f104.name, by decide, Try.func104.trans (congrArg some (by kernel_rfl))⟩,
    t0 := Try.underlying0,
    a0 := Try.isAgg0,
    z0 := Try.sizeOf0,
    v0 := Try.zeroValue0,
    t3 := Try.underlying3,
    a3 := Try.isAgg3,
    z3 := Try.sizeOf3,
    v3 := Try.zeroValue3,
    t4 := Try.underlying4,
    a4 := Try.isAgg4,
    z4 := Try.sizeOf4,
    v4 := Try.zeroValue4,
    t5 := Try.underlying5,
    a5 := Try.isAgg5,
    z5 := Try.sizeOf5,
    v5 := Try.zeroValue5,
    t9 := Try.underlying9,
    a9 := Try.isAgg9,
    z9 := Try.sizeOf9,
    v9 := Try.zeroValue9,
    t22 := Try.underlying22,
    a22 := Try.isAgg22,
    z22 := Try.sizeOf22,
    v22 := Try.zeroValue22,
    a24 := Try.isAgg25,
    z24 := Try.sizeOf25,
    t25 := Try.underlying96,
    a25 := Try.isAgg96,
    z25 := Try.sizeOf96,
    v25 := Try.zeroValue96,
    t39 := Try.underlying100,
    a39 := Try.isAgg100,
    z39 := Try.sizeOf100,
    v39 := Try.zeroValue100,
    t45 := Try.underlying103,
    a45 := Try.isAgg103,
    z45 := Try.sizeOf103,
    v45 := Try.zeroValue103,
    t46 := Try.underlying104,
    a46 := Try.isAgg104,
    z46 := Try.sizeOf104,
    v46 := Try.zeroValue104,
    t50 := Try.underlying61,
    a50 := Try.isAgg61,
    z50 := Try.sizeOf61,
    v50 := Try.zeroValue61,
    t53 := Try.underlying110,
    a53 := Try.isAgg110,
    z53 := Try.sizeOf110,
    v53 := Try.zeroValue110,
    t55 := Try.underlying112,
    a55 := Try.isAgg112,
    z55 := Try.sizeOf112,
    v55 := Try.zeroValue112,
    t66 := Try.underlying113,
    a66 := Try.isAgg113,
    z66 := Try.sizeOf113,
    v66 := Try.zeroValue113,
    t70 := Try.underlying117,
    a70 := Try.isAgg117,
    z70 := Try.sizeOf117,
    v70 := Try.zeroValue117,
    t76 := Try.underlying119,
    a76 := Try.isAgg119,
    z76 := Try.sizeOf119,
    v76 := Try.zeroValue119,
    t77 := Try.underlying120,
    a77 := Try.isAgg120,
    z77 := Try.sizeOf120,
    v77 := Try.zeroValue120 }
end Go.Proofs
/- Walks: slices.Compare; the order of sets. -/
namespace Go.Proofs.Ytnpilfpackdimaa
open Go.RowKit Go.Shelf
attribute [local go_sem] Oper.semAt_some
def cmpI (x y : Int) : Int := if x < y then -1 else if y < x then 1 else 0
theorem isNaN_any (x : Int) (w : World) : Calls Try.prog 98 #[.int .i64 x] w fun e w' => e = .returned (.bool false) ∧ w = w' := by
  go_enter Try.func98, Try.ntmps98
  go_wp2
  go_ret
  exact ⟨by first | rfl | simp, rfl⟩
set_option maxHeartbeats 800000 in
theorem cmpCompare_any (x y : Int) (w : World) : Calls Try.prog 87 #[.int .i64 x, .int .i64 y] w fun e w' => e = .returned (.int .i64 (cmpI x y)) ∧ w = w' := by
  have hv : Hid (cmpI x y = if x < y then -1 else if y < x then 1 else 0) := rfl
  by_cases h1 : x < y
  · rw [if_pos h1] at hv
    go_enter Try.func87, Try.ntmps87
    go_wp2_with (go_at_call 98; refine (isNaN_any _ _).mono ?_; rintro e w1 ⟨rfl, rfl⟩)
    refine bodyPost_ret (v := .int .i64 (-1)) (by first | (simp [results, Try.results87, go_sem]; done) | (simp [results, Try.results87, go_sem, *]; done) | (simp [results, Try.results87, go_sem, World.cell?_setCell_same', *]; done) | (simp [results, Try.results87, go_sem]; first | exact ⟨rfl, rfl⟩ | rfl)) rfl ⟨by rw [hv.out], rfl⟩
  · rw [if_neg h1] at hv
    by_cases h2 : y < x
    · rw [if_pos h2] at hv
      go_enter Try.func87, Try.ntmps87
      go_wp2_with (go_at_call 98; refine (isNaN_any _ _).mono ?_; rintro e w1 ⟨rfl, rfl⟩)
      refine bodyPost_ret (v := .int .i64 1) (by first | (simp [results, Try.results87, go_sem]; done) | (simp [results, Try.results87, go_sem, *]; done) | (simp [results, Try.results87, go_sem, World.cell?_setCell_same', *]; done) | (simp [results, Try.results87, go_sem]; first | exact ⟨rfl, rfl⟩ | rfl)) rfl ⟨by rw [hv.out], rfl⟩
    · rw [if_neg h2] at hv
      go_enter Try.func87, Try.ntmps87
      go_wp2_with (go_at_call 98; refine (isNaN_any _ _).mono ?_; rintro e w1 ⟨rfl, rfl⟩)
      refine bodyPost_ret (v := .int .i64 0) (by first | (simp [results, Try.results87, go_sem]; done) | (simp [results, Try.results87, go_sem, *]; done) | (simp [results, Try.results87, go_sem, World.cell?_setCell_same', *]; done) | (simp [results, Try.results87, go_sem]; first | exact ⟨rfl, rfl⟩ | rfl)) rfl ⟨by rw [hv.out], rfl⟩
/-- How two lists lie. -/
def cmpL (a b : List Int) : Int := if before a b then -1 else if a = b then 0 else 1
theorem before_pre : ∀ {k : Nat} {a b : List Int}, a.take k = b.take k → before a b = before (a.drop k) (b.drop k)
  | 0, _, _, _ => by simp
  | k + 1, [], [], _ => rfl
  | k + 1, [], _ :: _, h => by simp at h
  | k + 1, _ :: _, [], h => by simp at h
  | k + 1, x :: a, y :: b, h => by
    simp only [List.take_succ_cons, List.cons.injEq] at h
    rw [before_cons, if_pos h.1, before_pre h.2, List.drop_succ_cons, List.drop_succ_cons]
theorem drop_at {α : Type} {l : List α} {k : Nat} {x : α} (h : l[k]? = some x) : l.drop k = x :: l.drop (k + 1) := by
  obtain ⟨hk, e⟩ := List.getElem?_eq_some_iff.1 h
  rw [List.drop_eq_getElem_cons hk, e]
theorem cmpL_lt {a b : List Int} {k : Nat} {x y : Int} (h : a.take k = b.take k) (ha : a[k]? = some x) (hb : b[k]? = some y) (hne : x ≠ y) : cmpL a b = if x < y then -1 else 1 := by
  have hb2 : before a b = decide (x < y) := by rw [before_pre h, drop_at ha, drop_at hb, before_cons, if_neg hne]
  have he : a ≠ b := ne_of_at ha hb hne
  unfold cmpL
  rw [hb2, if_neg he]
  by_cases hl : x < y <;> simp [hl]
theorem cmpL_long {a b : List Int} {k : Nat} {x : Int} (h : a.take k = b.take k) (ha : a[k]? = some x) (hb : b.length ≤ k) : cmpL a b = 1 := by
  have hb2 : before a b = false := by rw [before_pre h, drop_at ha, List.drop_of_length_le hb]; rfl
  have he : a ≠ b := fun e => by
    have := (List.getElem?_eq_some_iff.1 ha).1
    rw [e] at this; omega
  unfold cmpL
  rw [hb2, if_neg he]; rfl
theorem cmpL_end {a b : List Int} (h : a = b.take a.length) : cmpL a b = if a.length < b.length then -1 else 0 := by
  by_cases hl : a.length < b.length
  · have hb2 : before a b = true := by
      rw [before_pre (k := a.length) (by rw [List.take_length]; exact h), List.drop_length, List.drop_eq_getElem_cons hl]; rfl
    unfold cmpL
    rw [hb2, if_pos hl]; rfl
  · have he : a = b := by rw [h, List.take_of_length_le]; omega
    unfold cmpL
    rw [if_neg hl, he, before_irr]; simp
set_option maxRecDepth 10000 in
set_option maxHeartbeats 1600000 in
theorem compare_any (A B : Option Addr) (n c m d : Nat) (a b : List Int) (w : World) (ha : InS w w.heap.size A n a) (hb : InS w w.heap.size B m b) (hn : n ≤ 1000000) (hm1 : m ≤ 1000000) :
    Calls Try.prog 83 #[.slice A n c, .slice B m d] w fun e w' => e = .returned (.int .i64 (cmpL a b)) ∧ w = w' := by
  have hla := hid ha.len
  have hlb := hid hb.len
  have HA := hid ha
  have HB := hid hb
  obtain ⟨cv, hcv⟩ : ∃ cv, cmpL a b = cv := ⟨_, rfl⟩
  have Hcv := hid hcv
  rw [hcv]
  clear ha hb hcv
  go_enter Try.func83, Try.ntmps83
  go_wp2
  go_loopw [11] (fun i wr => ∃ k : Nat, k ≤ n ∧ i = .int .i64 k ∧ Hid (a.take k = b.take k) ∧ w = wr) (fun i _ => n - (intOf i).toNat)
  case atStart => exact ⟨0, by omega, rfl, hid (by simp), rfl⟩
  case round =>
    obtain ⟨k, hk, rfl, heq, rfl⟩ := hrel
    by_cases hlt : k < n
    · obtain ⟨b1, o1, x, rfl, hb1, hx, c1⟩ := HA.out.at_ hlt
      have Hx := hid hx
      have hlti : (k : Int) < n := by omega
      clear hx
      by_cases hkm : k < m
      · obtain ⟨b2, o2, y, rfl, hb2, hy, c2⟩ := HB.out.at_ hkm
        have Hy := hid hy
        have hkmi : ¬ (m : Int) ≤ k := by omega
        have hkmi2 : (k : Int) < m := by omega
        have Hc : Hid (cmpI x y = if x < y then -1 else if y < x then 1 else 0) := rfl
        clear hy
        by_cases h1 : x < y
        · rw [if_pos h1] at Hc
          have Hf : Hid (cmpL a b = -1) := hid (by rw [cmpL_lt heq.out Hx.out Hy.out (by omega), if_pos h1])
          go_wp2_with (go_at_call 87; refine (cmpCompare_any x y _).mono ?_; rw [Hc.out]; rintro e w1 ⟨rfl, rfl⟩)
          refine bodyPost_ret (v := .int .i64 (-1)) (by first | (simp [results, Try.results83, go_sem]; done) | (simp [results, Try.results83, go_sem, *]; done) | (simp [results, Try.results83, go_sem, World.cell?_setCell_same', *]; done) | (simp [results, Try.results83, go_sem]; first | exact ⟨rfl, rfl⟩ | rfl)) rfl ⟨by rw [← Hcv.out, Hf.out], rfl⟩
        · rw [if_neg h1] at Hc
          by_cases h2 : y < x
          · rw [if_pos h2] at Hc
            have Hf : Hid (cmpL a b = 1) := hid (by rw [cmpL_lt heq.out Hx.out Hy.out (by omega), if_neg h1])
            go_wp2_with (go_at_call 87; refine (cmpCompare_any x y _).mono ?_; rw [Hc.out]; rintro e w1 ⟨rfl, rfl⟩)
            refine bodyPost_ret (v := .int .i64 1) (by first | (simp [results, Try.results83, go_sem]; done) | (simp [results, Try.results83, go_sem, *]; done) | (simp [results, Try.results83, go_sem, World.cell?_setCell_same', *]; done) | (simp [results, Try.results83, go_sem]; first | exact ⟨rfl, rfl⟩ | rfl)) rfl ⟨by rw [← Hcv.out, Hf.out], rfl⟩
          · rw [if_neg h2] at Hc
            obtain rfl : x = y := by omega
            have Hs := hid (take_eq_succ heq.out Hx.out Hy.out)
            clear h1 h2
            go_wp2_with (go_at_call 87; refine (cmpCompare_any x x _).mono ?_; rw [Hc.out]; rintro e w1 ⟨rfl, rfl⟩)
            exact ⟨⟨k + 1, by omega, by go_num, Hs, trivial⟩, by simp [intOf]; omega⟩
      · have hkmi : (m : Int) ≤ k := by omega
        have Hf : Hid (cmpL a b = 1) := hid (cmpL_long heq.out Hx.out (by rw [hlb.out]; omega))
        go_wp2
        refine bodyPost_ret (v := .int .i64 1) (by first | (simp [results, Try.results83, go_sem]; done) | (simp [results, Try.results83, go_sem, *]; done) | (simp [results, Try.results83, go_sem, World.cell?_setCell_same', *]; done) | (simp [results, Try.results83, go_sem]; first | exact ⟨rfl, rfl⟩ | rfl)) rfl ⟨by rw [← Hcv.out, Hf.out], rfl⟩
    · obtain rfl : k = n := by omega
      have He : Hid (cmpL a b = if k < m then -1 else 0) := hid (by
        have := heq.out
        rw [List.take_of_length_le (by rw [hla.out]; exact Nat.le_refl _)] at this
        rw [cmpL_end (by rw [hla.out]; exact this), hla.out, hlb.out])
      by_cases hkm : k < m
      · have hkmi : (k : Int) < m := by omega
        rw [if_pos hkm] at He
        go_wp2
        refine bodyPost_ret (v := .int .i64 (-1)) (by first | (simp [results, Try.results83, go_sem]; done) | (simp [results, Try.results83, go_sem, *]; done) | (simp [results, Try.results83, go_sem, World.cell?_setCell_same', *]; done) | (simp [results, Try.results83, go_sem]; first | exact ⟨rfl, rfl⟩ | rfl)) rfl ⟨by rw [← Hcv.out, He.out], rfl⟩
      · have hkmi : ¬ (k : Int) < m := by omega
        rw [if_neg hkm] at He
        go_wp2
        refine bodyPost_ret (v := .int .i64 0) (by first | (simp [results, Try.results83, go_sem]; done) | (simp [results, Try.results83, go_sem, *]; done) | (simp [results, Try.results83, go_sem, World.cell?_setCell_same', *]; done) | (simp [results, Try.results83, go_sem]; first | exact ⟨rfl, rfl⟩ | rfl)) rfl ⟨by rw [← Hcv.out, He.out], rfl⟩
theorem least1_any (A B : Option Addr) (n c m d : Nat) (a b : List Int) (w : World) (ha : InS w w.heap.size A n a) (hb : InS w w.heap.size B m b) (hn : n ≤ 1000000) (hm1 : m ≤ 1000000) :
    Calls Try.prog 82 #[.slice A n c, .slice B m d] w fun e w' => e = .returned (.int .i64 (cmpL a b)) ∧ w = w' := by
  have hc := compare_any A B n c m d a b w ha hb hn hm1
  obtain ⟨cv, hcv⟩ : ∃ cv, cmpL a b = cv := ⟨_, rfl⟩
  rw [hcv] at hc ⊢
  clear hcv ha hb
  go_enter Try.func82, Try.ntmps82
  go_wp2_with (go_at_call 83; refine hc.mono ?_; rintro e w1 ⟨rfl, rfl⟩)
  go_ret
  exact ⟨rfl, rfl⟩
end Go.Proofs.Ytnpilfpackdimaa
/- Walks: lists of sets are sorted. -/
namespace Go.Proofs.Ytnpilfpackdimaa
open Go.RowKit Go.Shelf Go.Sort
attribute [local go_sem] Oper.semAt_some
/-- A slice that reads as a list, but not in one block. -/
def OkE (w : World) (lo blk : Nat) (x : Value × List Int) : Prop := ∃ (A : Option Addr) (m c : Nat), x.1 = .slice A m c ∧ m ≤ 1000000 ∧ InS w w.heap.size A m x.2 ∧ ∀ b off, A = some ⟨b, off, none⟩ → b ≠ blk ∧ b < w.heap.size ∧ lo ≤ b
abbrev SE (w : World) (lo blk : Nat) : Type := { x : Value × List Int // OkE w lo blk x }
instance (w : World) (lo blk : Nat) : Inhabited (SE w lo blk) := ⟨⟨(.slice none 0 0, []), none, 0, 0, rfl, by omega, Sl.none_, fun _ _ h => by cases h⟩⟩
def encE {w : World} {lo blk : Nat} (x : SE w lo blk) : Value := x.1.1
def lstE {w : World} {lo blk : Nat} (x : SE w lo blk) : List Int := x.1.2
def cfE {w : World} {lo blk : Nat} (x y : SE w lo blk) : Int := cmpL x.1.2 y.1.2
theorem se_list {w : World} {lo blk : Nat} : ∀ (vs : List Value) (ls : List (List Int)), vs.length = ls.length → (∀ (k : Nat) (l : List Int), ls[k]? = some l → ∃ v, vs[k]? = some v ∧ OkE w lo blk (v, l)) → ∃ d : List (SE w lo blk), d.map encE = vs ∧ d.map lstE = ls
  | [], [], _, _ => ⟨[], rfl, rfl⟩
  | [], _ :: _, h, _ => by simp at h
  | _ :: _, [], h, _ => by simp at h
  | v :: vs, l :: ls, h, hk => by
    obtain ⟨d, h1, h2⟩ := se_list vs ls (by simpa using h) fun k l' hl => by simpa using hk (k + 1) l' (by simpa using hl)
    obtain ⟨v', hv, hok⟩ := hk 0 l rfl
    obtain rfl : v = v' := by simpa using hv
    exact ⟨⟨(v, l), hok⟩ :: d, by simp [encE, ← h1], by simp [lstE, ← h2]⟩
theorem oneE (w : World) (lo blk : Nat) : OneCell (encE (w := w) (lo := lo) (blk := blk)) := fun x => by
  obtain ⟨⟨v, l⟩, A, m, c, h, -⟩ := x
  have : v = .slice A m c := h
  show v.oneCell' = true
  rw [this]; rfl
theorem cmpL_neg {a b : List Int} : cmpL a b < 0 ↔ before a b = true := by
  unfold cmpL
  cases before a b
  · by_cases e : a = b <;> simp [e]
  · simp
theorem ltE {w : World} {lo blk : Nat} (x y : SE w lo blk) : ltOf cfE x y = before x.1.2 y.1.2 := by
  unfold ltOf cfE
  rw [Bool.eq_iff_iff, decide_eq_true_eq, cmpL_neg]
theorem swoE (w : World) (lo blk : Nat) : SWO (ltOf (cfE (w := w) (lo := lo) (blk := blk))) where
  irrefl x := by rw [ltE]; exact before_irr _
  trans x y z h1 h2 := by rw [ltE] at *; exact before_trans h1 h2
  ntrans x y z h1 h2 := by
    rw [ltE] at *
    cases h : before x.1.2 z.1.2
    · rfl
    · exfalso
      by_cases e : x.1.2 = y.1.2
      · rw [e, h2] at h; cases h
      · have := before_trans (before_tot e h1) h
        rw [h2] at this; cases this
section
variable {w : World} {lo blk off m : Nat} {dk : Array (SE w lo blk)} {os : Array Obj}
theorem sw_grown (hb : blk < w.heap.size) : w.grownBy (sortWorld encE w blk off m dk os) (some blk) := by
  refine ⟨rfl, rfl, rfl, ?_, fun k hk hne => ?_⟩
  · simp [sortWorld, grow, putRow, mapBlock, ahead]
  · have hne' : blk ≠ k := fun e => hne (by rw [e])
    show (w.heap.modify blk (onCells (putCells encE off dk)) ++ os)[k]? = _
    rw [Array.getElem?_append_left (by simpa using hk), Array.getElem?_modify, if_neg hne']
theorem sw_ins (hb : blk < w.heap.size) {A : Option Addr} {n : Nat} {l : List Int} (h : InS w w.heap.size A n l) (hA : ∀ b off, A = some ⟨b, off, none⟩ → b ≠ blk) : InS (sortWorld encE w blk off m dk os) (sortWorld encE w blk off m dk os).heap.size A n l :=
  h.grown (sw_grown hb) (fun b off e e' => hA b off e (Option.some.inj e').symm) (sw_grown (off := off) (m := m) (dk := dk) (os := os) hb).size
end
theorem enLeast1 : ∀ args w, (callFunc 82 args).run Try.prog w = .ok (.enter 82 args) w := enters_of Try.func82 (by kernel_rfl) rfl
theorem cmpLays (w : World) (lo blk size : Nat) (hb : blk < w.heap.size) : CmpLays1 Try.prog 82 #[] (encE (w := w) (lo := lo) (blk := blk)) cfE blk 0 size w := CmpReads.lays fun m os dk _ x y => by
  obtain ⟨⟨v, l⟩, A, n, c, h1, h2, h3, h4⟩ := x
  obtain ⟨⟨v', l'⟩, A', n', c', h1', h2', h3', h4'⟩ := y
  obtain rfl : v = .slice A n c := h1
  obtain rfl : v' = .slice A' n' c' := h1'
  refine (least1_any A A' n c n' c' l l' _ (sw_ins hb h3 fun b off e => (h4 b off e).1) (sw_ins hb h3' fun b off e => (h4' b off e).1) h2 h2').mono ?_
  rintro e w1 ⟨rfl, rfl⟩
  exact ⟨rfl, 0, rfl⟩
theorem sort_some (w : World) (lo g n c base : Nat) (vs : List Value) (ls : List (List Int)) (ho : w.ownsRow base 25 1 (.slice (some ⟨g, 0, none⟩) n c) n vs) (hl : LiAt w vs ls (some g)) (hn : n = ls.length) (hn2 : n ≤ 1000000) (hw : ∀ l ∈ ls, l.length ≤ 1000000) (hlv : ∀ x ∈ vs, lowV lo x) (hlg : lo ≤ g) :
    Calls Try.prog 81 #[.slice (some ⟨g, 0, none⟩) n c, .func (.func 82) #[] #[]] w fun e w' => e = .returned (.tuple #[]) ∧ ∃ ls' : List (List Int), ls'.Perm ls ∧ ls'.Pairwise (fun a b => before b a = false) ∧ LiF w' lo w'.heap.size (some ⟨g, 0, none⟩) n ls' ∧ w.grownBy w' (some g) := by
  obtain ⟨hg, cur, fr⟩ : g < w.heap.size ∧ (∀ j u, vs[j]? = some u → w.cell? ⟨g, j, none⟩ = some u) ∧ ∀ j, w.frozen? ⟨g, j, none⟩ = false := by
    refine ⟨?_, fun j u hu => own_cell ho hu, ?_⟩
    · rcases ho.2 with ⟨h1, -⟩ | ⟨g', cap, cur, h1, hb, hg, -⟩
      · cases h1
      · cases h1; exact (Array.getElem?_eq_some_iff.1 hg).1
    · intro j
      rcases ho.2 with ⟨h1, -⟩ | ⟨g', cap, cur, h1, hb, hg, -⟩
      · cases h1
      · cases h1; simp [World.frozen?, hg]
  obtain ⟨d, hd1, hd2⟩ := se_list (w := w) (lo := lo) (blk := g) vs ls hl.1 fun k l hk => by
    obtain ⟨A, m, c', h1, h2, h3⟩ := hl.2 k l hk
    exact ⟨_, h1, A, m, c', rfl, by have := hw l (List.mem_of_getElem? hk); have := h2.len; omega, h2, fun b off e => ⟨fun e' => (h3 b off e).2 (by rw [e']), (h3 b off e).1, hlv _ (List.mem_of_getElem? h1) A m c' b off rfl e⟩⟩
  have hdl : d.length = n := by rw [hn, ← hd2, List.length_map]
  have hH : Holds encE w g 0 d.toArray := fun j hj => by
    have hj' : j < d.length := by simpa using hj
    refine ⟨?_, fr _⟩
    rw [Nat.zero_add]
    refine cur j _ ?_
    rw [← hd1, List.getElem?_map, List.getElem?_eq_getElem hj', getElem!_pos d.toArray j (by simpa using hj')]
    rfl
  have hc := Any.slices_SortFunc Try.sortL encE (oneE w lo g) cfE (swoE w lo g) 82 #[] g 0 c d.toArray w enLeast1 (cmpLays w lo g _ hg) hH hg (by simp; omega)
  change Calls Try.prog 81 _ _ _ at hc
  rw [show d.toArray.size = n by simpa using hdl] at hc
  refine hc.mono ?_
  rintro e w' ⟨rfl, d', q, os, ⟨hp1, -, hp3⟩, hs, rfl⟩
  refine ⟨rfl, d'.toList.map lstE, ?_, ?_, ?_, sw_grown hg⟩
  · rw [← hd2]
    refine List.Perm.map _ ?_
    have e1 : d'.extract 0 n = d' := by rw [show n = d'.size by rw [hp1]; simp [hdl]]; exact Array.extract_size
    have e2 : d.toArray.extract 0 n = d.toArray := by rw [show n = d.toArray.size by simp [hdl]]; exact Array.extract_size
    rw [e1, e2] at hp3
    simpa using hp3
  · rw [List.pairwise_map, List.pairwise_iff_getElem]
    intro i j hi hj hij
    have hsz : d'.size = n := by rw [hp1]; simp [hdl]
    have hi' : i < d'.size := by simpa using hi
    have hj' : j < d'.size := by simpa using hj
    have := hs i j (Nat.zero_le _) hij (by omega)
    rw [ltE, getElem!_pos d' i hi', getElem!_pos d' j hj'] at this
    simpa [lstE] using this
  · have hsz : d'.size = n := by rw [hp1]; simp [hdl]
    have hHo := SW.holds (enc := encE) (w0 := w) (blk := g) (off := 0) (dk := d') (W := sortWorld encE w g 0 q d' os) ⟨q, os, rfl⟩ hg hH (by rw [hp1])
    have hsize := (sw_grown (off := 0) (m := q) (dk := d') (os := os) hg).size
    refine ⟨by simp [hsz], fun _ b off e => by cases e; exact hlg, d'.toList.map encE, ⟨by simp [hsz], fun _ => ⟨g, 0, rfl, by omega, fun j u hu => ?_⟩⟩, fun k l hk => ?_⟩
    · rw [List.getElem?_map] at hu
      have hj : j < d'.size := by
        rcases Nat.lt_or_ge j d'.size with h | h
        · exact h
        · rw [List.getElem?_eq_none (by simpa using h)] at hu; cases hu
      rw [(hHo j hj).1, getElem!_pos d' j hj]
      rw [List.getElem?_eq_getElem (by simpa using hj)] at hu
      simpa using hu
    · rw [List.getElem?_map] at hk
      have hj : k < d'.size := by
        rcases Nat.lt_or_ge k d'.size with h | h
        · exact h
        · rw [List.getElem?_eq_none (by simpa using h)] at hk; cases hk
      rw [List.getElem?_eq_getElem (by simpa using hj)] at hk
      obtain ⟨A, m, c', h1, h2, h3, h4⟩ := d'[k].2
      refine ⟨A, m, c', ?_, ?_, fun b off e => ⟨(h4 b off e).2.2, Nat.lt_of_lt_of_le (h4 b off e).2.1 hsize⟩⟩
      · rw [List.getElem?_map, List.getElem?_eq_getElem (by simpa using hj)]
        simp only [Option.map_some, Array.getElem_toList]
        exact congrArg some h1
      · have hl' : l = d'[k].1.2 := by simpa [lstE] using hk.symm
        rw [hl']
        exact sw_ins hg h3 fun b off e => (h4 b off e).1
theorem sort_none (w : World) (A : Option Addr) (c : Nat) : Calls Try.prog 81 #[.slice A 0 c, .func (.func 82) #[] #[]] w fun e w' => e = .returned (.tuple #[]) ∧ w' = w := by
  have h := AnyF.slices_SortFunc_none (P := Try.prog) (ρ := Try.sortL_ren) { Try.sortL with } A c (.func (.func 82) #[] #[]) w
  change Calls Try.prog 81 _ _ _ at h
  exact h
end Go.Proofs.Ytnpilfpackdimaa
/- Marks compared; what a map of sets holds; a step of a range over it. -/
namespace Go.Proofs.Ytnpilfpackdimaa
open Go.RowKit Go.WideMaps Go.Shelf
open Go.Maps (Keyed)
attribute [local go_sem] Oper.semAt_some
theorem cellsI : Try.prog.cellsOf 3 = 1 := by kernel_rfl
theorem eqItem1 (W : World) (d i : Nat) (xs ys : Array Value) (is : List Nat) (a b : Int) (hx : xs[i]? = some (.int .i64 a)) (hy : ys[i]? = some (.int .i64 b)) (r : Bool) (hr : (Op.eqItems (d + 1) 3 1 xs ys is).run Try.prog W = .ok r W) : (Op.eqItems (d + 1) 3 1 xs ys (i :: is)).run Try.prog W = .ok (a == b && r) W := by
  simp only [Op.eqItems, Nat.mul_one]
  have e1 : (part 3 xs i).run Try.prog W = .ok (.int .i64 a) W := by go_simp
  have e2 : (part 3 ys i).run Try.prog W = .ok (.int .i64 b) W := by go_simp
  have e3 : (Op.equalIn (d + 1) 3 (.int .i64 a) (.int .i64 b)).run Try.prog W = .ok (a == b) W := by go_simp
  simp only [Sem.run_bind, e1, e2, e3, Result.andThen_ok]
  cases h : (a == b)
  · simp
  · simpa using hr
def sameB (a b : Nat) : Bool := (List.range 8).all fun i => a.testBit i == b.testBit i
theorem sameB_eq {a b : Nat} (ha : a < 256) (hb : b < 256) : sameB a b = decide (a = b) := by
  rw [Bool.eq_iff_iff, decide_eq_true_eq]
  unfold sameB
  rw [List.all_eq_true]
  constructor
  · intro h
    exact bits8_ext ha hb fun i hi => by simpa using h i (List.mem_range.2 hi)
  · rintro rfl i _
    simp
def aggB (b : Nat) : Value := .agg #[bv b 0, bv b 1, bv b 2, bv b 3, bv b 4, bv b 5, bv b 6, bv b 7]
theorem eqMarks (W : World) (d : Nat) (a b : Nat) : (Op.equalIn (d + 2) 57 (aggB a) (aggB b)).run Try.prog W = .ok (sameB a b) W := by
  obtain ⟨i0, hi0, hi1, hi2, hi3⟩ := info_parts' infoI
  unfold aggB bv
  rw [run_equalIn_array W (d + 1) (t := 57) (e := 3) (n := 8) (i := i0) _ _ (by kernel_rfl) hi0, cellsI]
  rw [show List.range 8 = [0, 1, 2, 3, 4, 5, 6, 7] from rfl]
  refine (eqItem1 W d 0 _ _ _ _ _ rfl rfl _ (eqItem1 W d 1 _ _ _ _ _ rfl rfl _ (eqItem1 W d 2 _ _ _ _ _ rfl rfl _ (eqItem1 W d 3 _ _ _ _ _ rfl rfl _ (eqItem1 W d 4 _ _ _ _ _ rfl rfl _ (eqItem1 W d 5 _ _ _ _ _ rfl rfl _ (eqItem1 W d 6 _ _ _ _ _ rfl rfl _ (eqItem1 W d 7 _ _ _ _ _ rfl rfl true ?_)))))))).trans ?_
  · simp [Op.eqItems]
  · have e : ∀ i : Nat, (((if a.testBit i = true then (1 : Int) else 0) == (if b.testBit i = true then (1 : Int) else 0))) = (a.testBit i == b.testBit i) := fun i => by cases a.testBit i <;> cases b.testBit i <;> rfl
    simp only [sameB, e]
    simp [List.range, List.range.loop]
set_option maxRecDepth 10000 in
theorem neqF (W : World) (a b : Nat) : (binOp .neq 94 (aggB a) (aggB b)).run Try.prog W = .ok (.bool (!sameB a b)) W := by
  have hm : (Op.equalIn 9999 57 (aggB a) (aggB b)).run Try.prog W = .ok (sameB a b) W := eqMarks W 9997 a b
  have hf : (match Try.prog.underlying 94 with | some (.struct fs) => fs.toList.map (fun f => (f.type, f.offset, f.name != "_")) | _ => []) = [(57, 0, true)] := by kernel_rfl
  have hp : Try.prog.stoodInHeld 94 = false := by kernel_rfl
  have hcm : (Try.prog.info? 57).map (·.size) = some 8 := by kernel_rfl
  have h : (Op.equalIn 10000 94 (aggB a) (aggB b)).run Try.prog W = .ok (sameB a b) W := by
    cases hu : Try.prog.underlying 94 with
    | none => rw [hu] at hf; cases hf
    | some T =>
      cases T with
      | struct fs =>
        rw [hu] at hf
        have hfo : Try.prog.fieldsOf 94 = fs := by unfold Program.fieldsOf; rw [hu]
        unfold aggB at hm ⊢
        rw [run_equalIn_struct W 9999 94 _ _ (by rw [hfo]; exact hu) hp, hfo]
        obtain ⟨fl⟩ := fs
        rcases fl with _ | ⟨f1, _ | ⟨f2, r⟩⟩
        · simp at hf
        · simp only [List.map_cons, List.map_nil, List.cons.injEq, Prod.mk.injEq, and_true] at hf
          obtain ⟨a1, a2, a3⟩ := hf
          have a3' : f1.name ≠ "_" := by simpa using a3
          have p1 : ∀ z : Nat, (part f1.type #[bv z 0, bv z 1, bv z 2, bv z 3, bv z 4, bv z 5, bv z 6, bv z 7] f1.offset).run Try.prog W = .ok (.agg #[bv z 0, bv z 1, bv z 2, bv z 3, bv z 4, bv z 5, bv z 6, bv z 7]) W := fun z => by
            rw [a1, a2]; go_simp
          simp only [Op.eqFields, if_pos a3', Sem.run_bind, p1, Result.andThen_ok]
          rw [a1, hm]
          simp only [Result.andThen_ok]
          cases sameB a b <;> simp
        · simp at hf
      | _ => rw [hu] at hf; cases hf
  unfold aggB at h ⊢
  go_simp
/-! What a map of sets holds. -/
abbrev MF (w : World) (mp n : Nat) (D : DataW Unit) : Prop := w.ownsMap Try.prog 94 (plainElem (H := Unit) Try.prog 3) mp n D
abbrev RF (w : World) (mp r n : Nat) (D : DataW Unit) (left : Lit → Bool) (cnt : Nat) : Prop := w.ranges Try.prog 94 (plainElem (H := Unit) Try.prog 3) mp r n D left cnt
structure SetM (D : DataW Unit) (S : Nat → Bool) : Prop where
  has : ∀ x, x < 256 → Maps.has D (klB x) = S x
  keys : ∀ kl, Maps.has D kl = true → ∃ x, x < 256 ∧ klB x = kl
theorem SetM.nil : SetM (.map []) fun _ => false := ⟨fun _ _ => rfl, fun kl h => by simp [Maps.has] at h⟩
theorem SetM.put {D : DataW Unit} {S : Nat → Bool} (h : SetM D S) (hD : Maps.IsMap D) {x : Nat} (hx : x < 256) (d : DataW Unit) : SetM (D.put (klB x) d) fun y => S y || y == x := by
  refine ⟨fun y hy => ?_, fun kl hk => ?_⟩
  · by_cases e : y = x
    · subst e
      rw [Maps.has_put_same hD (klB_is hx)]; simp
    · rw [Maps.has_put_other fun e' => e (klB_inj hy hx e'), h.has y hy]
      simp [e]
  · by_cases e : kl = klB x
    · exact ⟨x, hx, e.symm⟩
    · rw [Maps.has_put_other e] at hk
      exact h.keys kl hk
theorem SetM.del {D : DataW Unit} {S : Nat → Bool} (h : SetM D S) {x : Nat} (hx : x < 256) : SetM (D.del (klB x)) fun y => S y && y != x := by
  refine ⟨fun y hy => ?_, fun kl hk => ?_⟩
  · by_cases e : y = x
    · subst e
      rw [Maps.has_del_same]; simp
    · rw [Maps.has_del_other fun e' => e (klB_inj hy hx e'), h.has y hy]
      simp [e]
  · by_cases e : kl = klB x
    · rw [e, Maps.has_del_same] at hk; cases hk
    · rw [Maps.has_del_other e] at hk
      exact h.keys kl hk
theorem SetM.congr {D : DataW Unit} {S S' : Nat → Bool} (h : SetM D S) (hS : ∀ x, x < 256 → S' x = S x) : SetM D S' := ⟨fun x hx => by rw [h.has x hx, hS x hx], h.keys⟩
theorem sameKey_klB {x y : Nat} (hx : x < 256) (hy : y < 256) : (klB x).sameKey (klB y) = decide (x = y) := by
  by_cases e : x = y
  · subst e
    rw [WideAt.sameKey_self (klB_is hx)]; simp
  · rw [Maps.sameKey_ne fun e' => e (klB_inj hx hy e')]; simp [e]
theorem rf_below {w w' : World} {mp r n : Nat} {D : DataW Unit} {left : Lit → Bool} {cnt : Nat} (h : RF w mp r n D left cnt) (hb : Below w.heap.size w w') : RF w' mp r n D left cnt :=
  h.kept (row := none) ⟨hb.os, hb.tape, hb.output, hb.size, fun k hk _ => hb.block k hk⟩ (by simp) (by simp)
theorem rf_has {w : World} {mp r n : Nat} {D : DataW Unit} {left : Lit → Bool} {cnt : Nat} (h : RF w mp r n D left cnt) {x : Nat} (hx : x < 256) (hl : left (klB x) = true) : Maps.has D (klB x) = true := by
  obtain ⟨es, clock, since, seen, c0, -, -, -, hD, -, -, -, -, h2, -⟩ := h
  obtain ⟨e, he, hek⟩ := h2 _ hl
  rw [hD]
  exact List.any_eq_true.2 ⟨_, mem_sorted.2 (List.mem_map.2 ⟨e, he, rfl⟩), by rw [hek]; exact WideAt.sameKey_self (klB_is hx)⟩
/-- Who is still to come, by bits. -/
def Lf (left : Lit → Bool) (T : Nat → Bool) : Prop := (∀ x, x < 256 → left (klB x) = T x) ∧ ∀ kl, left kl = true → ∃ x, x < 256 ∧ klB x = kl
theorem Lf.start {D : DataW Unit} {S : Nat → Bool} (h : SetM D S) : Lf (Maps.has D) S := ⟨h.has, h.keys⟩
theorem Lf.next {left : Lit → Bool} {T : Nat → Bool} (h : Lf left T) {x : Nat} (hx : x < 256) : Lf (fun z => left z && !z.sameKey (klB x)) fun y => T y && y != x := by
  refine ⟨fun y hy => ?_, fun kl hk => ?_⟩
  · show (left (klB y) && !(klB y).sameKey (klB x)) = _
    rw [h.1 y hy, sameKey_klB hy hx]
    by_cases e : y = x <;> simp [e]
  · simp only [Bool.and_eq_true] at hk
    exact h.2 kl hk.1
theorem Lf.done {left : Lit → Bool} {T : Nat → Bool} (h : Lf left T) (h0 : ∀ kl, left kl = false) : ∀ x, x < 256 → T x = false := fun x hx => by rw [← h.1 x hx, h0]
section
variable {w : World} {ops : Array Oper} {rest : List Oper} {o : Oper} {a : Act} {Q : Exit → Act → World → Prop}
/-- The next set of a range over the map. -/
theorem wpList_next_found (hg : o.guard = none) (it : Operand) (hop : o.op = Op.next it false) (b r n : Nat) (D : DataW Unit) (left : Lit → Bool) (cnt : Nat) (T : Nat → Bool)
    (hit : a.eval it = .pointer (some ⟨r, 0, none⟩)) (h : RF w b r n D left cnt) (hT : Lf left T)
    (hDone : (∀ x, x < 256 → T x = false) → wpList Try.prog ops Q rest (a.put o.dst (.tuple #[.bool false])) w)
    (hMore : ∀ (x : Nat) (c : Int) (left' : Lit → Bool) (w' : World) (cnt' : Nat), x < 256 → T x = true → RF w' b r n D left' cnt' → Lf left' (fun y => T y && y != x) → cnt' < cnt →
      w.grownBy w' (some r) → w'.heap.size = w.heap.size → (Instr.entry (.pointer (some ⟨r, 0, none⟩))).run Try.prog w' = .ok (.tuple #[aggB x, .int .i64 c]) w' → wpList Try.prog ops Q rest (a.put o.dst (.tuple #[.bool true, aggB x, .int .i64 c])) w') :
    wpList Try.prog ops Q (o :: rest) a w := by
  refine wpList_plain hg fun K' hK' => ?_
  unfold Oper.wp
  rcases h.next KF o.type with ⟨h0, hl, hrun⟩ | ⟨key, v, kl, y, w', cnt', hkey, hlk, hv, hat, hrun, hrg, hlt, hgr, hsz, hen⟩
  · simp [execOp, hop, hit, hrun, Result.andThen]
    exact hK' _ _ (hDone (hT.done hl))
  · obtain ⟨x, hx, rfl⟩ := hT.2 kl hlk
    obtain ⟨c, rfl, -⟩ := plainElem_int_inv underI hv
    have hk : key = aggB x := KF.inj hkey (key_klB hx)
    subst hk
    have hTx : T x = true := by rw [← hT.1 x hx]; exact hlk
    have hrest := hMore x c _ w' cnt' hx hTx hrg (hT.next hx) hlt hgr hsz hen
    simp [execOp, hop, hit, hrun, Result.andThen]
    exact hK' _ _ hrest
end
end Go.Proofs.Ytnpilfpackdimaa
/- Plain law: the least ones of some sets. -/
namespace Go.Proofs.Ytnpilfpackdimaa
/-- A set stands among some. -/
def S0 (ls : List (List Int)) (x : Nat) : Bool := ls.any fun l => bitsL l == x
/-- Set y is a part of set x, or the whole. -/
def subB (y x : Nat) : Bool := (listed y 8).all fun i => x.testBit i.toNat
theorem subB_iff {y x : Nat} (hy : y < 256) : subB y x = true ↔ ∀ i, y.testBit i = true → x.testBit i = true := by
  unfold subB
  rw [List.all_eq_true]
  constructor
  · intro h i hi
    by_cases h8 : i < 8
    · have := h (i : Int) (mem_listed.2 ⟨i, rfl, h8, hi⟩)
      simpa using this
    · have e8 : (256 : Nat) ≤ 2 ^ i := Nat.le_trans (by decide : 256 ≤ 2 ^ 8) (Nat.pow_le_pow_right (by omega) (by omega))
      rw [Nat.testBit_lt_two_pow (Nat.lt_of_lt_of_le hy e8)] at hi; cases hi
  · intro h x hx
    obtain ⟨i, rfl, -, hi⟩ := mem_listed.1 hx
    simpa using h i hi
theorem subB_refl {x : Nat} (hx : x < 256) : subB x x = true := (subB_iff hx).2 fun _ h => h
theorem subB_trans {x y z : Nat} (hx : x < 256) (hy : y < 256) (h : subB x y = true) (h' : subB y z = true) : subB x z = true := (subB_iff hx).2 fun i hi => (subB_iff hy).1 h' i ((subB_iff hx).1 h i hi)
theorem subB_anti {x y : Nat} (hx : x < 256) (hy : y < 256) (h : subB x y = true) (h' : subB y x = true) : x = y := by
  refine bits8_ext hx hy fun i _ => ?_
  cases h1 : x.testBit i <;> cases h2 : y.testBit i
  · rfl
  · rw [(subB_iff hy).1 h' i h2] at h1; cases h1
  · rw [(subB_iff hx).1 h i h1] at h2; cases h2
  · rfl
/-- No other one that stands is a part of it. -/
def minB (S : Nat → Bool) (x : Nat) : Bool := S x && (List.range 256).all fun y => !(S y && y != x && subB y x)
theorem minB_iff {S : Nat → Bool} {x : Nat} : minB S x = true ↔ S x = true ∧ ∀ y, y < 256 → S y = true → y ≠ x → subB y x = false := by
  unfold minB
  rw [Bool.and_eq_true, List.all_eq_true]
  constructor
  · rintro ⟨h1, h2⟩
    refine ⟨h1, fun y hy hS hne => ?_⟩
    have := h2 y (List.mem_range.2 hy)
    simp only [hS, Bool.true_and] at this
    cases h : subB y x
    · rfl
    · rw [h] at this; simp [hne] at this
  · rintro ⟨h1, h2⟩
    refine ⟨h1, fun y hy => ?_⟩
    cases hS : S y
    · simp
    · by_cases e : y = x
      · simp [e]
      · rw [h2 y (List.mem_range.1 hy) hS e]; simp
theorem subB_le {x y : Nat} (hy : y < 256) (h : subB y x = true) : y ≤ x := by
  have e : y &&& x = y := Nat.eq_of_testBit_eq fun i => by
    rw [Nat.testBit_and]
    cases hi : y.testBit i
    · rfl
    · rw [(subB_iff hy).1 h i hi]; rfl
  rw [← e]
  exact Nat.and_le_right
/-- In each one that stands there is one that is least. -/
theorem minB_below {S : Nat → Bool} (x : Nat) : x < 256 → S x = true → ∃ y, y < 256 ∧ minB S y = true ∧ subB y x = true := by
  induction x using Nat.strongRecOn with
  | _ x ih =>
    intro hx hS
    cases hm : minB S x
    · have : ∃ y, y < 256 ∧ S y = true ∧ y ≠ x ∧ subB y x = true := by
        rcases Classical.em (∃ y, y < 256 ∧ S y = true ∧ y ≠ x ∧ subB y x = true) with h | h
        · exact h
        · exfalso
          have : minB S x = true := minB_iff.2 ⟨hS, fun y hy hs hne => by
            cases hb : subB y x
            · rfl
            · exact absurd ⟨y, hy, hs, hne, hb⟩ h⟩
          rw [hm] at this; cases this
      obtain ⟨y, hy, hs, hne, hb⟩ := this
      have hle := subB_le hy hb
      obtain ⟨z, hz, hm', hb'⟩ := ih y (by omega) hy hs
      exact ⟨z, hz, hm', subB_trans hz hy hb' hb⟩
    · exact ⟨x, hx, hm, subB_refl hx⟩
/-- The least ones, in order. -/
def ordL (S : Nat → Bool) : List (List Int) := sortL (((List.range 256).filter S).map fun x => listed x 8)
def leastL (ls : List (List Int)) : List (List Int) := ordL (minB (S0 ls))
theorem listed_inj {x y : Nat} (hx : x < 256) (hy : y < 256) (h : listed x 8 = listed y 8) : x = y := by
  rw [← bits_listed (n := 8) hx, ← bits_listed (n := 8) hy, h]
theorem map_listed_nodup {xs : List Nat} (hn : xs.Nodup) (hx : ∀ x ∈ xs, x < 256) : (xs.map fun x => listed x 8).Nodup := by
  refine List.pairwise_map.2 (List.Pairwise.imp_of_mem ?_ hn)
  intro a b ha hb hne e
  exact hne (listed_inj (hx a ha) (hx b hb) e)
theorem ordL_srt (S : Nat → Bool) : Srt (ordL S) := sortL_srt (map_listed_nodup (List.Pairwise.sublist List.filter_sublist List.nodup_range) fun x hx => List.mem_range.1 (List.mem_filter.1 hx).1)
theorem mem_ordL {S : Nat → Bool} {l : List Int} : l ∈ ordL S ↔ ∃ x, x < 256 ∧ S x = true ∧ listed x 8 = l := by
  unfold ordL
  rw [mem_sortL, List.mem_map]
  constructor
  · rintro ⟨x, hx, rfl⟩
    have := List.mem_filter.1 hx
    exact ⟨x, List.mem_range.1 this.1, this.2, rfl⟩
  · rintro ⟨x, hx, hS, rfl⟩
    exact ⟨x, List.mem_filter.2 ⟨List.mem_range.2 hx, hS⟩, rfl⟩
theorem ordL_congr {S S' : Nat → Bool} (h : ∀ x, x < 256 → S x = S' x) : ordL S = ordL S' := by
  refine srt_ext (ordL_srt S) (ordL_srt S') fun l => ?_
  rw [mem_ordL, mem_ordL]
  constructor
  · rintro ⟨x, hx, hS, e⟩
    exact ⟨x, hx, by rw [← h x hx]; exact hS, e⟩
  · rintro ⟨x, hx, hS, e⟩
    exact ⟨x, hx, by rw [h x hx]; exact hS, e⟩
/-- Sets that were collected, and sorted. -/
theorem ordL_of {S : Nat → Bool} {xs : List Nat} {L : List (List Int)} (hn : xs.Nodup) (hx : ∀ x ∈ xs, x < 256) (hm : ∀ x, x < 256 → (x ∈ xs ↔ S x = true)) (hp : L.Perm (xs.map fun x => listed x 8)) (hs : L.Pairwise fun a b => before b a = false) : L = ordL S := by
  have hnd : L.Nodup := hp.nodup_iff.2 (map_listed_nodup hn hx)
  refine srt_ext ?_ (ordL_srt S) fun l => ?_
  · refine List.Pairwise.imp_of_mem ?_ (List.Pairwise.and hs hnd)
    rintro a b _ _ ⟨h1, h2⟩
    exact before_tot (Ne.symm h2) h1
  · rw [hp.mem_iff, mem_ordL, List.mem_map]
    constructor
    · rintro ⟨x, h, rfl⟩
      exact ⟨x, hx x h, (hm x (hx x h)).1 h, rfl⟩
    · rintro ⟨x, hx', hS, rfl⟩
      exact ⟨x, (hm x hx').2 hS, rfl⟩
/-! The sets are struck out, one by one. -/
structure Str (S0 S T : Nat → Bool) : Prop where
  sub : ∀ x, x < 256 → S x = true → S0 x = true
  off : ∀ x, x < 256 → S0 x = true → S x = false → ∃ y, y < 256 ∧ S0 y = true ∧ y ≠ x ∧ subB y x = true
  kept : ∀ x, x < 256 → S x = true → T x = false → ∀ y, y < 256 → S y = true → y ≠ x → subB y x = false
theorem Str.start (S : Nat → Bool) : Str S S S := ⟨fun _ _ h => h, (fun _ _ h h' => by rw [h] at h'; cases h'), (fun x _ h h' => by rw [h] at h'; cases h')⟩
theorem Str.mins {S0 S T : Nat → Bool} (h : Str S0 S T) {x : Nat} (hx : x < 256) (hm : minB S0 x = true) : S x = true := by
  obtain ⟨h1, h2⟩ := minB_iff.1 hm
  cases hS : S x
  · obtain ⟨y, hy, hs, hne, hb⟩ := h.off x hx h1 hS
    rw [h2 y hy hs hne] at hb; cases hb
  · rfl
theorem Str.done {S0 S T : Nat → Bool} (h : Str S0 S T) (hT : ∀ x, x < 256 → T x = false) : ∀ x, x < 256 → S x = minB S0 x := fun x hx => by
  cases hS : S x
  · cases hm : minB S0 x
    · rfl
    · rw [h.mins hx hm] at hS; cases hS
  · symm
    refine minB_iff.2 ⟨h.sub x hx hS, fun y hy hs hne => ?_⟩
    cases hb : subB y x
    · rfl
    · exfalso
      obtain ⟨z, hz, hm, hbz⟩ := minB_below y hy hs
      have hzx := subB_trans hz hy hbz hb
      by_cases e : z = x
      · subst e
        exact hne (subB_anti hy hx hb hbz)
      · rw [h.kept x hx hS (hT x hx) z hz (h.mins hz hm) e] at hzx; cases hzx
theorem Str.keep {S0 S T : Nat → Bool} (h : Str S0 S T) {x : Nat} (hk : ∀ y, y < 256 → S y = true → y ≠ x → subB y x = false) : Str S0 S fun y => T y && y != x :=
  ⟨h.sub, h.off, fun z hz hS hT y hy hs hne => by
    by_cases e : z = x
    · subst e; exact hk y hy hs hne
    · exact h.kept z hz hS (by simpa [e] using hT) y hy hs hne⟩
theorem Str.strike {S0 S T : Nat → Bool} (h : Str S0 S T) {x y : Nat} (hx : x < 256) (hy : y < 256) (hS : S y = true) (hne : y ≠ x) (hb : subB y x = true) : Str S0 (fun z => S z && z != x) fun z => T z && z != x :=
  ⟨fun z hz hs => h.sub z hz (by simp at hs; exact hs.1), fun z hz h0 hs => by
    by_cases e : z = x
    · subst e
      exact ⟨y, hy, h.sub y hy hS, hne, hb⟩
    · exact h.off z hz h0 (by simpa [e] using hs), fun z hz hs hT v hv hsv hnv => by
    simp only [Bool.and_eq_true, bne_iff_ne, ne_eq] at hs hsv
    exact h.kept z hz hs.1 (by simpa [hs.2] using hT) v hv hsv.1 hnv⟩
end Go.Proofs.Ytnpilfpackdimaa
