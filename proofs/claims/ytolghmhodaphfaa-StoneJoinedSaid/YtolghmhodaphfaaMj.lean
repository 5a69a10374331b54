/- Texts of the proof, laid together by program. -/
import Derived.Test.YtolghmhodaphfaaMi
/- The iterator of the products keeps its promise, whatever the loop: the recursion. -/
namespace Go.Proofs.Ytolghmhodaphfaa
open Go.RowKit Go.Shelf
attribute [local go_sem] Oper.semAt_some
theorem stab_mono {β : Type} {s s' : Nat} {J : β → Foot → World → Prop} (h : Stab s J) (hs : s ≤ s') : Stab s' J := fun x own W W' h0 hk hz e1 e2 e3 => h x own W W' h0 (fun k hk' => hk k (by rcases hk' with h1 | h1; exact .inl (by omega); exact .inr h1)) hz e1 e2 e3
theorem roundIn_wd {r : Nat} {m : Nat} {P : Program} {l : Nat} {f : FuncId} {tmps : Array Value} {assign body : Code} {w : World} {R : Ending → World → Prop} (h : RoundIn (Wd none) m P l f tmps assign body w R) : RoundIn (Wd (some r)) m P l f tmps assign body w R := h
set_option maxRecDepth 100000 in
set_option maxHeartbeats 4000000 in
theorem prod_gives : ∀ (d n : Nat) (b : List Int) (W : World) (own₀ : Foot) (A : Option Addr) (k c Bn Bb : Nat), n ≤ d → 1 ≤ n → k + n ≤ 400 → (n = 1 → 0 < k) → (k = 0 → A = none) → ProdIn W own₀ Bn Bb n A k c b →
    Gives (Wd none) Try.prog 96 #[.pointer (some ⟨Bn, 0, none⟩), .pointer (some ⟨Bb, 0, none⟩)] encP RdP (prodF d n b).length (fun xs => xs.map PE.l = prodF d n b) (fun _ => True) own₀ W := by
  intro d
  induction d with
  | zero => intro n b W own₀ A k c Bn Bb h1 h2; omega
  | succ d ih =>
    intro n b W own₀ A k c Bn Bb hnd hn1 hk4 hk0 hkA hin
    by_cases hne : n = 1
    · subst hne
      exact prod_one d b W own₀ A k c Bn Bb hin (hk0 rfl) (by omega)
    intro D l J Jx hJs hJxs hT hown h0
    obtain ⟨W1, hW1⟩ : ∃ W1, W.alloc (.cells #[.func (.yield l) #[] #[]] 25) = W1 := ⟨_, rfl⟩
    have hb1 : Below W.heap.size W W1 := by rw [← hW1]; exact (by repeat' (first | with_reducible assumption | with_reducible exact Below.refl _ _ | refine Below.alloc ?_ ?_ _ | refine Below.setCell ?_ ?_ _ | refine Below.drew ?_ | refine below_drewN ?_ _ | (simp; done) | (simp; omega) | omega))
    have hz1 : W1.heap.size = W.heap.size + 1 := by rw [← hW1]; simp
    have T3 : Blk W1 W.heap.size 25 #[.func (.yield l) #[] #[]] := by rw [← hW1]; exact Blk.new' rfl
    have hg1 : Grow own₀ W own₀ W1 := grow_below hown hb1
    have hin1 := hin.grow hg1
    have hJ1 : J [] own₀ W1 := hJs [] own₀ W W1 h0 (fun k _ hlt => hb1.block k hlt) hb1.size hb1.os hb1.tape hb1.output
    have c1 := hin1.hn
    have c2 := hin1.hb
    have l1 := hin1.ltn
    have l2 := hin1.ltb
    have c3 := T3.cell 0
    have l3 := T3.lt
    have HIN := hid hin1
    have HT := hid hT
    have HJ := hid hJ1
    have HJs := hid hJs
    have HJxs := hid hJxs
    have IH := hid ih
    have Hg1 := hid hg1
    have hd0 : (Wd none).depth = none := rfl
    have hn1i : ¬ (n : Int) = 1 := by omega
    have Hown := hid hown
    have HT3 := hid T3
    have Hz1 := hid hz1
    clear hin hin1 hT hJ1 h0 hJs hJxs ih hg1 hown T3 hk0 hz1
    refine callsIn_of_wp_marks (F := Wd none) Try.func96 rfl trivial ?_ rfl
    simp only [Try.ntmps96, List.size_toArray, List.length_cons, List.length_nil, Nat.reduceAdd, Nat.reduceSub, Array.replicate_succ, Array.replicate_zero, List.push_toArray, List.append_toArray, List.nil_append, List.cons_append]
    gi_wp2
    refine wpIn_loop (fun a' wr => ∃ (ds : List Deferred) (u4 u5 u6 u7 u8 u9 u10 u11 u12 u13 u14 u15 u16 u17 u18 u19 u20 u21 u22 u23 u24 u25 u26 u27 u28 u29 u30 u31 u32 u33 u34 u35 u36 u37 u38 : Value), (∃ (f : Nat) (xs : List PE) (own : Foot), 2 ≤ f ∧ f ≤ n + 1 ∧ u4 = .int .i64 (f : Int) ∧ Hid (xs.map PE.l = prodTo d n b f) ∧ Hid (J xs own wr) ∧ Hid (Grow own₀ W1 own wr) ∧ Hid (MarksO own W1.heap.size wr.heap.size wr ds)) ∧ a' = { tmps := #[.func (.yield l) #[] #[], .pointer (some ⟨Bn, 0, none⟩), .pointer (some ⟨Bb, 0, none⟩), .pointer (some ⟨W.heap.size, 0, none⟩), u4, u5, u6, u7, u8, u9, u10, u11, u12, u13, u14, u15, u16, u17, u18, u19, u20, u21, u22, u23, u24, u25, u26, u27, u28, u29, u30, u31, u32, u33, u34, u35, u36, u37, u38], defers := ds }) (fun a' wr => n + 1 - (intOf (a'.tmps.getD 4 undef)).toNat) ?_ ?_
    · (repeat apply Exists.intro); refine ⟨?_, rfl⟩
      exact ⟨2, [], own₀, by omega, by omega, rfl, hid rfl, HJ, hid (Grow.refl Hg1.out.lt), hid (MarksO.nil _ _ _ _)⟩
    · intro _ wr hinv; obtain ⟨ds, hinv⟩ := hinv; obtain ⟨u4, hinv⟩ := hinv; obtain ⟨u5, hinv⟩ := hinv; obtain ⟨u6, hinv⟩ := hinv; obtain ⟨u7, hinv⟩ := hinv; obtain ⟨u8, hinv⟩ := hinv; obtain ⟨u9, hinv⟩ := hinv; obtain ⟨u10, hinv⟩ := hinv; obtain ⟨u11, hinv⟩ := hinv; obtain ⟨u12, hinv⟩ := hinv; obtain ⟨u13, hinv⟩ := hinv; obtain ⟨u14, hinv⟩ := hinv; obtain ⟨u15, hinv⟩ := hinv; obtain ⟨u16, hinv⟩ := hinv; obtain ⟨u17, hinv⟩ := hinv; obtain ⟨u18, hinv⟩ := hinv; obtain ⟨u19, hinv⟩ := hinv; obtain ⟨u20, hinv⟩ := hinv; obtain ⟨u21, hinv⟩ := hinv; obtain ⟨u22, hinv⟩ := hinv; obtain ⟨u23, hinv⟩ := hinv; obtain ⟨u24, hinv⟩ := hinv; obtain ⟨u25, hinv⟩ := hinv; obtain ⟨u26, hinv⟩ := hinv; obtain ⟨u27, hinv⟩ := hinv; obtain ⟨u28, hinv⟩ := hinv; obtain ⟨u29, hinv⟩ := hinv; obtain ⟨u30, hinv⟩ := hinv; obtain ⟨u31, hinv⟩ := hinv; obtain ⟨u32, hinv⟩ := hinv; obtain ⟨u33, hinv⟩ := hinv; obtain ⟨u34, hinv⟩ := hinv; obtain ⟨u35, hinv⟩ := hinv; obtain ⟨u36, hinv⟩ := hinv; obtain ⟨u37, hinv⟩ := hinv; obtain ⟨u38, hinv⟩ := hinv; obtain ⟨hrel, ha⟩ := hinv; subst ha; dsimp only
      obtain ⟨f, xs, own, hf2, hfn, rfl, hxs, hJx, hgr, hmk⟩ := hrel
      have hinr := HIN.out.grow hgr.out
      have T3r : Blk wr W.heap.size 25 #[.func (.yield l) #[] #[]] := (hgr.out.same _ HT3.out.lt (fun h => by have := Hown.out _ h; omega)).trans HT3.out
      have r1 := hinr.hn
      have r2 := hinr.hb
      have k1 := hinr.ltn
      have k2 := hinr.ltb
      have HINr := hid hinr
      have HT3r := hid T3r
      have hzr := hgr.out.size
      clear hinr T3r c1 c2 c3 l1 l2 l3
      have hf0 : ¬ (f : Int) = 0 := by omega
      have hf00 : ¬ f = 0 := by omega
      have hmod : (n : Int) % (f : Int) = ((n % f : Nat) : Int) := (Int.natCast_emod n f).symm
      have hdiv : (n : Int) / (f : Int) = ((n / f : Nat) : Int) := (Int.natCast_ediv n f).symm
      by_cases hle : f ≤ n
      · have hlei : (f : Int) ≤ n := by omega
        by_cases hr : n % f = 0
        · have hr1 : ¬ 0 < (n : Int) % f := by rw [hmod, hr]; simp
          have hq1 : 1 ≤ n / f := Nat.div_pos hle (by omega)
          have hq2 : n / f < n := Nat.div_lt_self (by omega) hf2
          obtain ⟨q, hq⟩ : ∃ q, n / f = q := ⟨_, rfl⟩
          rw [hq] at hdiv hq1 hq2
          have zq : IntKind.i64.wrap (q : Int) = q := wrap_ok (by omega)
          have Hmod := hid hmod
          clear hmod
          gi_wp2
          refine wpIn_region_el [0, 1, 2, 3, 4, 5, 6, 7, 8, 9] 3 (by kernel_rfl) (by kernel_rfl) (fun Y hY => ?_)
          have hYX : Below wr.heap.size wr Y := by rw [hY]; exact (Below.refl _ _).drew
          clear hY
          have hsY := hYX.size
          have y1 := ((bcell hYX).1 Bn 0 k1).trans r1
          have y2 := ((bcell hYX).1 Bb 0 k2).trans r2
          have m1 := Nat.lt_of_lt_of_le k1 hsY
          have m2 := Nat.lt_of_lt_of_le k2 hsY
          have hkc := HINr.out.kc
          clear r1 r2 k1 k2
          simp only [pick, List.getElem?_toArray, List.getElem?_cons_zero, List.getElem?_cons_succ]
          iterate 10 (refine wpE_val (v := ?_) (by rfl) (fun W hW => ?_) ?_; rotate_left; (· obtain ⟨hcW, hfW⟩ := bcell hW; go_simp; with_reducible rfl); simp only [Act.put, List.setIfInBounds_toArray, List.set_cons_zero, List.set_cons_succ])
          simp only [wpE]
          (refine wpM_one 10 _ (by simp only [List.getElem?_toArray, List.getElem?_cons_zero, List.getElem?_cons_succ]; rfl) (by kernel_rfl) (by rfl) ?_)
          intro X1 hX1 hX1'
          (go_simp; simp only [LUpon, Act.put]; try simp only [List.setIfInBounds_toArray, List.set_cons_zero, List.set_cons_succ])
          refine ⟨hX1'.alloc hX1'.size _, ?_⟩
          have b9 : Blk (X1.alloc (.cells #[.int .i64 (f : Int)] 2)) X1.heap.size 2 #[.int .i64 (f : Int)] := Blk.new _ _ _
          have hyX1 : Y.heap.size ≤ X1.heap.size := hX1'.size
          have hext1 := hX1'.alloc hX1'.size (.cells #[.int .i64 (f : Int)] 2)
          generalize hB9 : X1.heap.size = B9 at *
          generalize X1.alloc (.cells #[.int .i64 (f : Int)] 2) = X1b at *
          (refine wpM_one 11 _ (by simp only [List.getElem?_toArray, List.getElem?_cons_zero, List.getElem?_cons_succ]; rfl) (by kernel_rfl) (by rfl) ?_)
          intro X2 hX2 hX2'
          have b10 := b9.below hX2 b9.lt
          have hin2 : InS X2 X2.heap.size A k b := HINr.out.hl.below' (hYX.trans (hX2'.mono hsY)) (Nat.le_trans hsY hX2'.size)
          obtain ⟨i0, hi0, hi1, hi2, hi3⟩ := info_parts' info2
          refine lupon_append_cap _ _ _ 23 rfl 0 2 i0 _ 1 8 under23 hi0 hi1 hi2 hi3 rfl _ k (b.flatMap cI) (by rfl) (by rw [flatI_len', hin2.len, Nat.mul_one]) (full_of_ins hin2 hkA) ⟨B9, 0, none⟩ 1 1 [.int .i64 (f : Int)] (by rfl) rfl (fun j u hj => World.news_of_block b10 j u hj) (by decide) (by unfold maxLen; omega) (by omega) (Nat.zero_le _) ?_
          intro cap X3 ho3 hg3 hz3
          have hb23 : Below X2.heap.size X2 X3 := below_grown0 (Below.refl _ _) hg3 (Nat.le_refl _)
          refine ⟨hX2'.trans' hb23, ?_⟩
          simp only [Act.put, List.setIfInBounds_toArray, List.set_cons_zero, List.set_cons_succ]
          have hQ9 : wr.heap.size ≤ X2.heap.size := Nat.le_trans hsY hX2'.size
          generalize hQ : X2.heap.size = Q9 at *
          (refine wpM_one 12 _ (by simp only [List.getElem?_toArray, List.getElem?_cons_zero, List.getElem?_cons_succ]; rfl) (by kernel_rfl) (by rfl) ?_)
          intro X4 hX4 hX4'
          have ho4 := owns_below ho3 hX4
          (go_simp; simp only [LUpon, Act.put]; try simp only [List.setIfInBounds_toArray, List.set_cons_zero, List.set_cons_succ])
          refine (products_any _ _ _ _ _).mono ?_
          rintro e X5 ⟨rfl, hX5⟩
          have hb45 : Below X4.heap.size X4 X5 := by rw [← hX5]; exact (by repeat' (first | with_reducible assumption | with_reducible exact Below.refl _ _ | refine Below.alloc ?_ ?_ _ | refine Below.setCell ?_ ?_ _ | refine Below.drew ?_ | refine below_drewN ?_ _ | (simp; done) | (simp; omega) | omega))
          have N1 : Blk X5 X4.heap.size 2 #[.int .i64 (q : Int)] := by rw [← hX5]; exact (Blk.new' rfl).alloc _
          have N2 : Blk X5 (X4.heap.size + 1) 23 #[.slice (some ⟨Q9, 0, none⟩) (k + 1) cap] := by rw [← hX5]; exact Blk.new' (by first | (simp; done) | (simp; omega) | omega)
          have ho5 := owns_below ho4 hb45
          have hext5 := hX4'.trans' hb45
          refine ⟨_, rfl, hext5, ?_⟩
          have hZ4 : wr.heap.size ≤ X4.heap.size := Nat.le_trans hsY hX4'.size
          clear hX5
          generalize hZ4e : X4.heap.size = Z4 at *
          refine wpM_end (by kernel_rfl) ?_
          intro X6 hX6 hX6'
          have N1' := N1.below hX6 N1.lt
          have N2' := N2.below hX6 N2.lt
          have ho6 := hid (owns_below ho5 hX6)
          have hb06 : Below wr.heap.size wr X6 := hYX.trans (hX6'.mono hsY)
          have HN1 := hid N1'
          have HN2 := hid N2'
          have Hb06 := hid hb06
          have hcap := own_cap ho6.out
          have hin6 := Sl.of_own ho6.out
          have Hin6 := hid hin6
          clear ho3 ho4 ho5 N1 N2 N1' N2' hin6 y1 y2 m1 m2 hX1 hX1' hX2 hX2' hX4 hX4' hX6 hX6' b9 b10 hext1 hext5 hg3 hb23 hb45 hin2
          gi_wp2
          have hB : X6.heap.size = X6.heap.size := rfl
          have hzw6 := Hb06.out.size
          have hownlt : ∀ j, own j → j < wr.heap.size := hgr.out.lt
          have T36 : Blk X6 W.heap.size 25 #[.func (.yield l) #[] #[]] := HT3r.out.below Hb06.out HT3r.out.lt
          have hT3n : ¬ own W.heap.size := fun h => by
            rcases hgr.out.from_ _ h with h1 | h1
            · have := Hown.out _ h1; omega
            · have := Hz1.out; omega
          have hJ6 : J xs own X6 := HJs.out xs own wr X6 hJx.out (fun j _ hlt => Hb06.out.block j hlt) Hb06.out.size Hb06.out.os Hb06.out.tape Hb06.out.output
          have hQ9lt : Q9 < X6.heap.size := by
            obtain ⟨g', c', hv', -, hlt'⟩ := ho6.out.form (Nat.succ_pos _)
            cases hv'; exact hlt'
          have hlenN : ∀ pre : List PE, pre.length < (prodF d q (b ++ [(f : Int)])).length → (xs ++ pre).length < (prodF (d + 1) n b).length := fun pre hpre => by
            have e1 := congrArg List.length hxs.out
            rw [List.length_map] at e1
            have e2 := prodTo_le d n b (f + 1) (n + 1) (by omega)
            have e3 := congrArg List.length (prodTo_in (d := d) (b := b) hf2 hr)
            rw [List.length_append, hq] at e3
            rw [List.length_append, prodTo_all hne]
            omega
          have hWX : W.heap.size ≤ X6.heap.size := by have := Hz1.out; omega
          refine with_frame fun TT hTT => ?_
          refine wpIn_rangeFunc_foot (F := Wd none) (α := PE) X6.heap.size hB hd0 rfl (gf := 96) (lb := #[.pointer (some ⟨Z4, 0, none⟩), .pointer (some ⟨Z4 + 1, 0, none⟩)]) (by rw [hTT]; rfl) trivial (enters_of Try.func96 (by kernel_rfl) rfl)
            (encs := encP) (Rd := RdP) (Nb := (prodF d q (b ++ [(f : Int)])).length) (S := fun ys => ys.map PE.l = prodF d q (b ++ [(f : Int)])) (Sp := fun _ => True) own (fun j hj => by have := hownlt j hj; omega) ?hseq rdP_keep (fun _ => rfl)
            (fun ys ow V => J (xs ++ ys) ow V ∧ Blk V W.heap.size 25 #[.func (.yield l) #[] #[]] ∧ ¬ ow W.heap.size) (fun c ys ow V => c = .ret ∧ Jx (xs ++ ys) ow V) ?hI ?hIx ⟨by rw [List.append_nil]; exact hJ6, T36, hT3n⟩
            (fun x a' V => a' = { tmps := (TT.setIfInBounds 34 x.v).setIfInBounds 5 x.v, defers := [] }) ?assign (fun x a' V o h => h) ?body ?done ?stop
          case hseq =>
            intro W' hW'
            have hb6' : Below wr.heap.size wr W' := Hb06.out.trans (hW'.mono hzw6)
            refine IH.out q (b ++ [(f : Int)]) W' _ (some ⟨Q9, 0, none⟩) (k + 1) cap Z4 (Z4 + 1) (by omega) hq1 (by omega) (fun _ => by omega) (fun h => by omega) ⟨?_, ?_, ?_, hcap, ?_, ?_, ?_, ?_, ?_⟩
            · exact (HN1.out.below hW' HN1.out.lt).cell 0
            · exact (HN2.out.below hW' HN2.out.lt).cell 0
            · have := Hin6.out.below' hW' hW'.size
              have e : b.flatMap cI ++ [.int .i64 (f : Int)] = (b ++ [(f : Int)]).flatMap cI := by rw [List.flatMap_append]; rfl
              rw [e] at this
              exact this
            · exact Nat.lt_of_lt_of_le HN1.out.lt hW'.size
            · exact Nat.lt_of_lt_of_le HN2.out.lt hW'.size
            · have := HN2.out.lt
              rintro (h | h | h)
              · have := hownlt _ h; omega
              · omega
              · omega
            · have := HN2.out.lt
              rintro (h | h | h)
              · have := hownlt _ h; omega
              · omega
              · omega
            · intro bb off e
              cases e
              refine ⟨Nat.lt_of_lt_of_le hQ9lt hW'.size, ?_⟩
              rintro (h | h | h)
              · have := hownlt _ h; omega
              · omega
              · omega
          case hI =>
            rintro ys ow V V' ⟨h1, h2, h3⟩ hk hz e1 e2 e3
            exact ⟨stab_mono HJs.out hWX _ ow V V' h1 hk hz e1 e2 e3, (hk _ (.inl (by have := T36.lt; omega)) h2.lt).trans h2, h3⟩
          case hIx =>
            rintro c' ys ow V V' ⟨h1, h2⟩ hk hz e1 e2 e3
            exact ⟨h1, stab_mono HJxs.out hWX _ ow V V' h2 hk hz e1 e2 e3⟩
          case assign =>
            rintro l' x V K hrd hV hK
            simp only [encP, hTT]
            gi_wp2
            exact hK _ _ (Below.refl _ _) (by rw [hTT]; rfl)
          case body =>
            rintro l' pre ow x a' V ⟨h1, h2, h3⟩ hNb hlt hnB hrd rfl hV
            have q3 := h2.cell 0
            have p3 := h2.lt
            obtain ⟨fn, tmps, asg, bdy, hy, hR⟩ := HT.out (D - 1 - 1 - 1) (xs ++ pre) ow x V h1 (hlenN pre hNb) hlt hrd
            simp only [encP] at hy
            have hT3 := hid h2
            have hJJ := hid h1
            clear h1 h2
            simp only [hTT, List.setIfInBounds_toArray, List.set_cons_zero, List.set_cons_succ]
            gi_wp2_with (refine RoundIn.mono (roundIn_wd hR) ?_; rintro e V3 (⟨rfl, ow', hj', hg'⟩ | ⟨rfl, ow', hj', hg'⟩))
            · refine ⟨ow', ⟨by rw [← List.append_assoc]; exact hj', (hg'.same _ hT3.out.lt h3).trans hT3.out, fun h => ?_⟩, hg'⟩
              rcases hg'.from_ _ h with h4 | h4
              · exact h3 h4
              · have := hT3.out.lt; omega
            · exact ⟨ow', ⟨rfl, by rw [← List.append_assoc]; exact hj'⟩, hg'⟩
          case done =>
            rintro Dm ys ow V hDm hys ⟨h1, h2, h3⟩ hg hnB rfl hK
            have hgx : Grow own wr ow V := (grow_below hownlt Hb06.out).trans hg
            have hmx : MarksO ow W1.heap.size X6.heap.size V ds := hmk.out.step hzw6 (fun E hE hn h => by
              rcases hgx.from_ E h with h4 | h4
              · exact hn h4
              · omega) (fun E hE hn => hgx.same E hE hn)
            have hmx2 := hmx.push (by omega : W1.heap.size ≤ X6.heap.size) (Nat.le_refl _) (fun h => (hnB _ h).1 rfl) hK
            have hVlt : X6.heap.size < V.heap.size := (Array.getElem?_eq_some_iff.1 hK).1
            have hmx3 := hid (hmx2.step (M' := V.heap.size) (W' := V) (by omega) (fun _ _ h => h) (fun _ _ _ => rfl))
            have hxs2 := hid (show (xs ++ ys).map PE.l = prodTo d n b (f + 1) by rw [List.map_append, hxs.out, hys, ← hq, ← prodTo_in hf2 hr])
            have hgr2 := hid (hgr.out.trans hgx)
            have hJ2 := hid h1
            simp only [hTT]
            clear h1 h2 h3 hmx hmx2 hgx hys
            gi_wp2
            exact ⟨⟨_, .int .i64 ((f : Int) + 1), ⟨f + 1, by omega, by omega, by go_num, xs ++ ys, hxs2, ow, hJ2, hgr2, hmx3⟩, rfl, rfl⟩, by simp [intOf]; omega⟩
          case stop =>
            rintro Dm c' ys ow V hDm - ⟨rfl, h1⟩ hg hnB rfl hK
            have hgx : Grow own wr ow V := (grow_below hownlt Hb06.out).trans hg
            have hmx : MarksO ow W1.heap.size X6.heap.size V ds := hmk.out.step hzw6 (fun E hE hn h => by
              rcases hgx.from_ E h with h4 | h4
              · exact hn h4
              · omega) (fun E hE hn => hgx.same E hE hn)
            have hmx2 := hmx.push (by omega : W1.heap.size ≤ X6.heap.size) (Nat.le_refl _) (fun h => (hnB _ h).1 rfl) hK
            have hgr2 := Hg1.out.trans (hgr.out.trans hgx)
            simp only [hTT]
            gi_wp2
            refine hmx2.leaves (fun Ds w' hDs ho => ⟨_, results_none rfl _ _ _, ⟨_, rfl⟩, .inr ⟨_, ow, stab_off HJxs.out h1 ho (fun E hE => ⟨by have := (hDs E hE).1; have := Hz1.out; omega, (hDs E hE).2⟩), grow_off hgr2 ho (fun E hE => by have := (hDs E hE).1; have := Hz1.out; omega)⟩⟩)
        · have hr1 : 0 < (n : Int) % f := by rw [hmod]; omega
          clear hmod hdiv
          gi_wp2
          (first | exact ⟨⟨f + 1, xs, own, by omega, by omega, by go_num, by rw [prodTo_out hr]; exact hxs, hJx, hgr, hmk⟩, (by first | (simp [intOf]; omega) | (simp [intOf]; done))⟩ | (refine ⟨?_, ?_⟩; (focus ((repeat apply Exists.intro); refine ⟨?_, rfl⟩; exact ⟨f + 1, xs, own, by omega, by omega, by go_num, by rw [prodTo_out hr]; exact hxs, hJx, hgr, hmk⟩)); (first | (simp [intOf]; omega) | (simp [intOf]; done))))
      · obtain rfl : f = n + 1 := by omega
        have hlei : ¬ ((n + 1 : Nat) : Int) ≤ n := by omega
        have hlei2 : ¬ (n : Int) + 1 ≤ n := by omega
        clear hmod hdiv
        gi_wp2
        refine hmk.out.leaves (fun Ds w' hDs ho => ⟨_, results_none rfl _ _ _, ⟨_, rfl⟩, .inl ⟨xs, by rw [hxs.out, prodTo_all hne], own, stab_off HJs.out hJx.out ho (fun E hE => ⟨by have := (hDs E hE).1; have := Hz1.out; omega, (hDs E hE).2⟩), grow_off (Hg1.out.trans hgr.out) ho (fun E hE => by have := (hDs E hE).1; have := Hz1.out; omega)⟩⟩)
end Go.Proofs.Ytolghmhodaphfaa
/- Walks: All. -/
namespace Go.Proofs.Ytolghmhodaphfaa
open Go.RowKit Go.Shelf
attribute [local go_sem] Oper.semAt_some
/-- The set of some factors. -/
def setW (p : Int) : Int → List Int → List Kd
  | _, [] => []
  | w, n :: fs => ⟨w, IntKind.i64.wrap ((IntKind.i64.wrap (n - 1)).tdiv p)⟩ :: setW p (IntKind.i64.wrap (w * n)) fs
def allSets (p a : Int) : List (List Kd) := if ofE p a 60 = 0 then (prodF (p * a + 1).toNat (p * a + 1).toNat []).map (setW p 1) else []
theorem owns_same {V V' : World} {base e s n : Nat} {v : Value} {xs : List Value} (h : V.ownsRow base e s v n xs) (hk : ∀ q, v.ownBlock = some q → V'.heap[q]? = V.heap[q]?) : V'.ownsRow base e s v n xs := by
  refine ⟨h.1, h.2.imp id ?_⟩
  rintro ⟨g', cap, cur, e1, h1, h2, h3⟩
  exact ⟨g', cap, cur, e1, h1, (hk g' (by rw [e1]; rfl)).trans h2, h3⟩
theorem own_ne_blk {V : World} {base e s n g t : Nat} {v : Value} {xs : List Value} {cs : Array Value} (h : V.ownsRow base e s v n xs) (hb : Blk V g t cs) (ht : t ≠ e) : v.ownBlock ≠ some g := by
  rcases h.2 with ⟨rfl, _⟩ | ⟨g', cap, cur, rfl, h1, h2, h3⟩
  · simp [Value.ownBlock]
  · intro e2
    have e3 : some g' = some g := e2
    cases e3
    unfold Blk at hb
    rw [h2] at hb
    cases hb
    exact ht rfl
theorem own_ne_own {V : World} {base e s n base' e' s' n' : Nat} {v v' : Value} {xs xs' : List Value} (h : V.ownsRow base e s v n xs) (h' : V.ownsRow base' e' s' v' n' xs') (ht : e ≠ e') : v.ownBlock = none ∨ v.ownBlock ≠ v'.ownBlock := by
  rcases h.2 with ⟨rfl, _⟩ | ⟨g, cap, cur, rfl, h1, h2, h3⟩
  · exact .inl rfl
  · right
    rcases h'.2 with ⟨rfl, _⟩ | ⟨g', cap', cur', rfl, h4, h5, h6⟩
    · simp [Value.ownBlock]
    · intro e2
      have e3 : some g = some g' := e2
      cases e3
      rw [h2] at h5
      cases h5
      exact ht rfl
/-- What has been gathered. -/
def AllInv (p : Int) (T7 Bo : Nat) (pre : List PE) (ow : Foot) (V : World) : Prop :=
  ∃ (vs : List Value) (A : Option Addr) (c : Nat), vs.length = pre.length ∧ Blk V T7 42 #[.slice A vs.length c] ∧ ow T7 ∧ V.ownsRow Bo 22 1 (.slice A vs.length c) vs.length vs ∧ (∀ q, (Value.slice A vs.length c).ownBlock = some q → ow q) ∧
    ∀ (k : Nat) (x : PE), pre[k]? = some x → ∃ (A' : Option Addr) (m c' : Nat), vs[k]? = some (.slice A' m c') ∧ V.ownsRow Bo 61 2 (.slice A' m c') m ((setW p 1 x.l).flatMap cK) ∧ ∀ q, (Value.slice A' m c').ownBlock = some q → ow q
theorem AllInv.stab (p : Int) (T7 Bo s : Nat) : Stab s (AllInv p T7 Bo) := by
  rintro pre ow V V' ⟨vs, A, c, h1, h2, h3, h4, h5, h6⟩ hk hz e1 e2 e3
  have sm : ∀ q, q < V.heap.size → ow q → V'.heap[q]? = V.heap[q]? := fun q hq ho => hk q (.inr ho) hq
  refine ⟨vs, A, c, h1, (sm _ h2.lt h3).trans h2, h3, owns_same h4 (fun q hq => sm q (h4.lt q hq).2 (h5 q hq)), h5, fun k x hx => ?_⟩
  obtain ⟨A', m, c', q1, q2, q3⟩ := h6 k x hx
  exact ⟨A', m, c', q1, owns_same q2 (fun q hq => sm q (q2.lt q hq).2 (q3 q hq)), q3⟩
theorem info22 : (Try.prog.info? 22).map (fun i => (i.zero, i.size, i.bytes)) = some (some (.slice none 0 0), 1, 24) := by kernel_rfl
theorem under42 : Try.prog.underlying 42 = some (.slice 22) := by kernel_rfl
set_option maxRecDepth 100000 in
set_option maxHeartbeats 4000000 in
theorem all_any (p a : Int) (w : World) : Calls Try.prog 43 #[.int .i64 p, .int .i64 a] w fun e w' => ∃ A n c, e = .returned (.tuple #[.slice A n c, .int .i64 (ofE p a 60)]) ∧ LsS w' w'.heap.size A n (allSets p a) ∧ Below w.heap.size w w' := by
  obtain ⟨i0, hi0, hi1, hi2, hi3⟩ := info_parts' info61
  have I0 := hid hi0; have I1 := hid hi1; have I2 := hid hi2; have I3 := hid hi3
  obtain ⟨j0, hj0, hj1, hj2, hj3⟩ := info_parts' info22
  have J0 := hid hj0; have J1 := hid hj1; have J2 := hid hj2; have J3 := hid hj3
  clear hi0 hi1 hi2 hi3 hj0 hj1 hj2 hj3
  obtain ⟨W1, hW1⟩ : ∃ W1, w.alloc (.cells #[.int .i64 p] 3) = W1 := ⟨_, rfl⟩
  have hb1 : Below w.heap.size w W1 := by rw [← hW1]; exact (by repeat' (first | with_reducible assumption | with_reducible exact Below.refl _ _ | refine Below.alloc ?_ ?_ _ | refine Below.setCell ?_ ?_ _ | refine Below.drew ?_ | refine below_drewN ?_ _ | (simp; done) | (simp; omega) | omega))
  have B2 : Blk W1 w.heap.size 3 #[.int .i64 p] := by rw [← hW1]; exact Blk.new' rfl
  have c2 := B2.cell 0
  have l2 := B2.lt
  cases he : (ofE p a 60 != 0)
  · have he0 : ofE p a 60 = 0 := by simpa using he
    obtain ⟨hp, ha1, ha2⟩ := ofE_zero he0
    obtain ⟨N, hN⟩ : ∃ N : Nat, p * a + 1 = N := ⟨(p * a + 1).toNat, by rcases hp with rfl | rfl <;> omega⟩
    have hNb : 2 ≤ N ∧ N ≤ 121 := by rcases hp with rfl | rfl <;> omega
    have hv : Hid (allSets p a = (prodF N N []).map (setW p 1)) := hid (by unfold allSets; rw [if_pos he0, hN]; rfl)
    have hE := hid he0
    have hpa : p * a = (N : Int) - 1 := by omega
    have z1 : IntKind.i64.wrap (p * a) = (N : Int) - 1 := by rw [hpa]; exact wrap_ok (by omega)
    have z2 : IntKind.i64.wrap ((N : Int) - 1 + 1) = N := by rw [show (N : Int) - 1 + 1 = N by omega]; exact wrap_ok (by omega)
    have hp0 : ¬ p = 0 := by rcases hp with rfl | rfl <;> omega
    obtain ⟨hN1, hN2⟩ := hNb
    clear he he0 hp ha1 ha2 hN hpa
    (refine (callsIn_wide (n := 9)).1 ?_; refine callsIn_of_wp_marks (F := Wd none) Try.func43 rfl trivial ?_ rfl; simp only [Try.ntmps43, List.size_toArray, List.length_cons, List.length_nil, Nat.reduceAdd, Nat.reduceSub, Array.replicate_succ, Array.replicate_zero, List.push_toArray, List.append_toArray, List.nil_append, List.cons_append])
    gi_wp2_with (first | (gi_at_call 86; refine (calls_wd (of_any p a 60 _)).mono ?_; rw [hE.out]; rintro e w1 ⟨rfl, hb1'⟩; have hz1 := hb1'.size; replace B2 := B2.below hb1' l2; have hbw1 : Below w.heap.size w w1 := hb1.trans (hb1'.mono hb1.size); have c2 := B2.cell 0; have l2 := B2.lt; have l2' : w.heap.size < w1.heap.size + 1 := Nat.lt_succ_of_lt l2) | (gi_at_call 87; refine (calls_wd (products_any _ _ _ _ _)).mono ?_; rintro e w5 ⟨rfl, hw5⟩))
    have hz5 : w5.heap.size = w1.heap.size + 3 := by rw [← hw5]; simp
    have hb5 : Below w1.heap.size w1 w5 := by rw [← hw5]; exact (by repeat' (first | with_reducible assumption | with_reducible exact Below.refl _ _ | refine Below.alloc ?_ ?_ _ | refine Below.setCell ?_ ?_ _ | refine Below.drew ?_ | refine below_drewN ?_ _ | (simp; done) | (simp; omega) | omega))
    have X7 : Blk w5 w1.heap.size 42 #[.slice none 0 0] := by rw [← hw5]; exact ((Blk.new' rfl).alloc _).alloc _
    have Xn : Blk w5 (w1.heap.size + 1) 2 #[.int .i64 (N : Int)] := by rw [← hw5]; exact (Blk.new' (by first | (simp; done) | (simp; omega) | omega)).alloc _
    have Xb : Blk w5 (w1.heap.size + 1 + 1) 23 #[.slice none 0 0] := by rw [← hw5]; exact Blk.new' (by first | (simp; done) | (simp; omega) | omega)
    replace B2 := B2.below hb5 l2
    have hbw5 : Below w.heap.size w w5 := hbw1.trans (hb5.mono hbw1.size)
    obtain ⟨T7, hT7⟩ : ∃ T7, w1.heap.size = T7 := ⟨_, rfl⟩
    have hwT : w.heap.size < T7 := by omega
    rw [hT7] at X7 Xn Xb hz5
    obtain ⟨B, hB⟩ : ∃ B, w5.heap.size = B := ⟨_, rfl⟩
    have HB := hid hB
    have Hz5 := hid hz5
    rw [hT7]
    clear hw5 hb5 hbw1 hb1' hz1 c2 l2 l2' hT7 hz5
    refine with_frame fun TT hTT => ?_
    refine wpIn_rangeFunc_foot (F := Wd none) (α := PE) B hB rfl rfl (gf := 96) (lb := #[.pointer (some ⟨T7 + 1, 0, none⟩), .pointer (some ⟨T7 + 1 + 1, 0, none⟩)]) (by rw [hTT]; rfl) trivial (enters_of Try.func96 (by kernel_rfl) rfl)
      (encs := encP) (Rd := RdP) (Nb := (prodF N N []).length) (S := fun ys => ys.map PE.l = prodF N N []) (Sp := fun _ => True) (fun j => j = T7) (fun j hj => by have := Hz5.out; omega) ?hseq rdP_keep (fun _ => rfl)
      (fun ys ow V => AllInv p T7 w.heap.size ys ow V ∧ Blk V w.heap.size 3 #[.int .i64 p] ∧ Below w.heap.size w V ∧ ∀ j, ow j → w.heap.size < j) (fun c ys ow V => False) ?hI (fun c x ow V V' h => h.elim) ?h0
      (fun x a' V => a' = { tmps := (TT.setIfInBounds 24 x.v).setIfInBounds 8 x.v, defers := [] }) ?assign (fun x a' V o h => h) ?body ?done ?stop
    case hseq =>
      intro W' hW'
      have hz := hW'.size
      have hzz := Hz5.out
      rw [HB.out] at hzz
      refine prod_gives N N [] W' _ none 0 0 (T7 + 1) (T7 + 1 + 1) (Nat.le_refl _) (by omega) (by omega) (fun h => by omega) (fun _ => rfl) ⟨?_, ?_, Sl.none_, Nat.le_refl _, ?_, ?_, ?_, ?_, fun bb off e => by cases e⟩
      · exact (Xn.below hW' (by omega)).cell 0
      · exact (Xb.below hW' (by omega)).cell 0
      · omega
      · omega
      · rintro (h | h | h) <;> omega
      · rintro (h | h | h) <;> omega
    case hI =>
      rintro ys ow V V' ⟨h1, h2, h3, h4⟩ hk hz e1 e2 e3
      have hzz := Hz5.out
      rw [HB.out] at hzz
      exact ⟨AllInv.stab p T7 w.heap.size B ys ow V V' h1 hk hz e1 e2 e3, (hk _ (.inl (by omega)) h2.lt).trans h2, h3.trans ⟨e1, e2, e3, hz, fun j hj => hk j (.inl (by omega)) (by have := h3.size; omega)⟩, h4⟩
    case h0 =>
      exact ⟨⟨[], none, 0, rfl, X7, rfl, World.ownsRow_nil _ _ _ _, (fun q hq => by cases hq), (fun k x hx => by simp at hx)⟩, B2, hbw5, fun j hj => by omega⟩
    case assign =>
      rintro l x V K hrd hV hK
      simp only [encP, hTT]
      gi_wp2
      exact hK _ _ (Below.refl _ _) (by rw [hTT]; rfl)
    case stop =>
      rintro Dm c pre own' V _ _ h
      exact h.elim
    case body =>
      rintro l pre ow x a' V ⟨⟨vs, A, c, h1, h2, h3, h4, h5, h6⟩, hB2, hbV, hoB⟩ hNb hlt hnB ⟨Ax, mx, cx, hxv, hxl, hx4⟩ rfl hV
      obtain ⟨xv, xl⟩ := x
      obtain rfl : xv = .slice Ax mx cx := hxv
      have hxl' : InS V V.heap.size Ax mx xl := hxl
      have hlenx := hid hxl'.len
      have hwV : w.heap.size ≤ V.heap.size := hbV.size
      have H2 := hid h2
      have H4 := hid h4
      have H5 := hid h5
      have H6 := hid h6
      have HX := hid hxl'
      have hT7V := h2.lt
      have hvsl : vs.length ≤ 1000 := by have := prodF_few N (by omega); omega
      have H1 := hid h1
      simp only [hTT, List.setIfInBounds_toArray, List.set_cons_zero, List.set_cons_succ]
      clear h1 hNb h2 h4 h5 h6 hxl hxl' X7 Xn Xb B2
      gi_wp2
      gi_loopw [9, 10, 27] (fun v x9 i wr => ∃ (j : Nat) (acc : List Kd) (wj : Int), j ≤ mx ∧ i = .int .i64 j ∧ x9 = .int .i64 wj ∧ acc.length = j ∧ acc ++ setW p wj (xl.drop j) = setW p 1 xl ∧ Below V.heap.size V wr ∧ Hid (wr.ownsRow V.heap.size 61 2 v j (acc.flatMap cK))) (fun _ _ i _ => mx - (intOf i).toNat)
      case atStart => exact ⟨0, [], 1, by omega, rfl, rfl, rfl, by simp, Below.refl _ _, hid (World.ownsRow_nil _ _ _ _)⟩
      case round =>
        obtain ⟨j, acc, wj, hj, rfl, rfl, hacc, heq, hbr, hown⟩ := hrel
        have hszr := hbr.size
        by_cases hjl : j < mx
        · obtain ⟨b, off, y, rfl, hb, hm, c0⟩ := (HX.out.below hbr hszr).at_ hjl
          have hdr : xl.drop j = y :: xl.drop (j + 1) := by
            have hl2 : j < xl.length := by rw [hlenx.out]; exact hjl
            rw [List.drop_eq_getElem_cons hl2]
            rw [List.getElem?_eq_getElem hl2] at hm
            cases hm; rfl
          rw [hdr] at heq
          have HEQ := hid heq
          have hbW := hB2.below hbr hB2.lt
          have q2 := hbW.cell 0
          have p2 := hbW.lt
          have hjli : (j : Int) < mx := by omega
          obtain ⟨yy, hyy⟩ : ∃ yy, IntKind.i64.wrap (y - 1) = yy := ⟨_, rfl⟩
          obtain ⟨mm, hmm⟩ : ∃ mm, IntKind.i64.wrap (yy.tdiv p) = mm := ⟨_, rfl⟩
          obtain ⟨wn, hwn⟩ : ∃ wn, IntKind.i64.wrap (wj * y) = wn := ⟨_, rfl⟩
          have hset : setW p wj (y :: xl.drop (j + 1)) = ⟨wj, mm⟩ :: setW p wn (xl.drop (j + 1)) := by
            show (⟨wj, IntKind.i64.wrap ((IntKind.i64.wrap (y - 1)).tdiv p)⟩ : Kd) :: setW p (IntKind.i64.wrap (wj * y)) (xl.drop (j + 1)) = _
            rw [hyy, hmm, hwn]
          have HSET := hid hset
          clear hm hdr heq hset
          gi_wp2_with (first | (gi_at_builtin; refine wpListIn_append_own _ rfl _ _ 22 rfl V.heap.size 61 i0 _ 2 16 under22 I0.out I1.out I2.out I3.out rfl (by decide) _ j (acc.flatMap cK) rfl (hown.out.alloc (.cells #[.int .i64 wj, .int .i64 mm] 61)) ⟨wr.heap.size, 0, none⟩ 1 1 (cK ⟨wj, mm⟩) rfl rfl (fun j u hj => World.news_of_block (Blk.new' rfl) j u hj) (one_cK _) (by unfold maxLen; omega) (by omega) (by simp; omega) ?_; intro v9 w9 ho9 hg9 hn9))
          have hb9 : Below V.heap.size V w9 := (hbr.alloc hszr _).grown hg9 (by simp; omega) (fun r hr => (World.ownsRow.lt hown.out r hr).1)
          have hfin := hid (show acc ++ ([⟨wj, mm⟩] : List Kd) ++ setW p wn (xl.drop (j + 1)) = setW p 1 xl by rw [← HEQ.out, HSET.out, List.append_assoc]; rfl)
          have hown9 := hid (show w9.ownsRow V.heap.size 61 2 v9 (j + 1) ((acc ++ ([⟨wj, mm⟩] : List Kd)).flatMap cK) by rw [List.flatMap_append]; exact ho9)
          clear ho9
          (first | exact ⟨⟨j + 1, acc ++ [⟨wj, mm⟩], wn, by omega, by go_num, rfl, by rw [List.length_append, hacc]; rfl, hfin.out, hb9, hown9⟩, (by first | (simp [intOf]; omega) | (simp [intOf]; done))⟩ | (refine ⟨?_, ?_⟩; (focus ((repeat apply Exists.intro); refine ⟨?_, rfl⟩; exact ⟨j + 1, acc ++ [⟨wj, mm⟩], wn, by omega, by go_num, rfl, by rw [List.length_append, hacc]; rfl, hfin.out, hb9, hown9⟩)); (first | (simp [intOf]; omega) | (simp [intOf]; done))))
        · obtain rfl : j = mx := by omega
          obtain ⟨A9, c9, hu9, -⟩ := sl_of_owns hown.out
          subst hu9
          have hset : setW p 1 xl = acc := by
            rw [← heq, List.drop_of_length_le (by rw [hlenx.out]; exact Nat.le_refl _)]
            simp [setW]
          have H2r := H2.out.below hbr hT7V
          have q7 := H2r.cell 0
          have p7 := H2r.lt
          have f7 := H2r.frozen 0
          have H4r := hid (owns_below H4.out hbr)
          obtain ⟨w8, hw8⟩ : ∃ w8, wr.alloc (.cells #[.slice A9 j c9] 22) = w8 := ⟨_, rfl⟩
          have H2s : Blk w8 T7 42 #[.slice A vs.length c] := by rw [← hw8]; exact H2r.alloc _
          have BL : Blk w8 wr.heap.size 22 #[.slice A9 j c9] := by rw [← hw8]; exact Blk.new' rfl
          have hown8 := hid (show w8.ownsRow V.heap.size 61 2 (.slice A9 j c9) j (acc.flatMap cK) by rw [← hw8]; exact hown.out.alloc _)
          have hb8 : Below V.heap.size V w8 := by rw [← hw8]; exact hbr.alloc hszr _
          have hb8r : Below wr.heap.size wr w8 := by rw [← hw8]; exact (by repeat' (first | with_reducible assumption | with_reducible exact Below.refl _ _ | refine Below.alloc ?_ ?_ _ | refine Below.setCell ?_ ?_ _ | refine Below.drew ?_ | refine below_drewN ?_ _ | (simp; done) | (simp; omega) | omega))
          have hz8 : wr.heap.size < w8.heap.size := BL.lt
          clear heq
          gi_wp2_with (first | (gi_at_builtin; refine wpListIn_append_own_at _ rfl _ _ 42 rfl w.heap.size 22 j0 _ 1 24 under42 J0.out J1.out J2.out J3.out rfl (by decide) _ vs.length vs rfl (owns_below H4r.out hb8r) ⟨wr.heap.size, 0, none⟩ 1 1 [.slice A9 j c9] rfl rfl (fun j u hj => World.news_of_block BL j u hj) (fun u hu => by rw [List.mem_singleton.1 hu]; rfl) (by unfold maxLen; omega) (by omega) (by have := hb8.size; omega) ?_; intro v10 w10 ho10 hg10 hn10 hat10; obtain ⟨g10, c10, hv10, -, -⟩ := World.ownsRow.form ho10 (Nat.succ_pos _); subst hv10; have H2t := H2s.grown hg10 (own_ne_blk (owns_below H4r.out hb8r) H2s (by decide)).symm; have q10 := H2t.cell 0; have p10 := H2t.lt; have f10 := H2t.frozen 0; have H2t' := hid H2t; clear H2t))
          obtain ⟨w11, hw11⟩ : ∃ w11, w10.setCell ⟨T7, 0, none⟩ (.slice (some ⟨g10, 0, none⟩) (vs.length + 1) c10) = w11 := ⟨_, rfl⟩
          have hz11 : w11.heap.size = w10.heap.size := by rw [← hw11]; simp
          have hz10 := hg10.size
          have howT := h3
          have hrow8 := owns_below H4r.out hb8r
          have hkeep : ∀ q, q < V.heap.size → ¬ ow q → w11.heap[q]? = V.heap[q]? := fun q hq hn => by
            rw [← hw11]
            refine (Below.heap_setCell _ _ _ _ (fun e => hn (by simp only at e; subst e; exact howT))).trans ((hg10.block q (by have := hb8.size; omega) (fun e => hn (H5.out q e.symm))).trans (hb8.block q hq))
          have hos : w11.os = V.os ∧ w11.tape = V.tape ∧ w11.output = V.output := by rw [← hw11]; exact ⟨hg10.os.trans hb8.os, hg10.tape.trans hb8.tape, hg10.output.trans hb8.output⟩
          have hVz : V.heap.size ≤ w11.heap.size := by have := hb8.size; omega
          have hT7n : w.heap.size < T7 := hwT
          have hno : ¬ ow w.heap.size := fun h => by have := hoB _ h; omega
          show footPost _ _ _ ow V .normal _ (w10.setCell ⟨T7, 0, none⟩ (.slice (some ⟨g10, 0, none⟩) (vs.length + 1) c10))
          rw [hw11]
          refine ⟨fun q => (ow q ∨ V.heap.size ≤ q) ∧ q < w11.heap.size, ⟨⟨vs ++ [.slice A9 j c9], some ⟨g10, 0, none⟩, c10, ?_, ?_, ⟨.inl howT, by omega⟩, ?_, ?_, ?_⟩, ?_, ?_, ?_⟩, ⟨hos.1, hos.2.1, hos.2.2, hVz, fun q hq => hq.1, fun q hq => hq.2, hkeep⟩⟩
          · rw [List.length_append, List.length_append, H1.out]; rfl
          · rw [List.length_append, ← hw11]; exact H2t'.out.set_ 0 _
          · rw [List.length_append, ← hw11]; exact own_set2 ho10 H2t'.out _
          · intro q hq
            have hlt10 := (ho10.lt q hq).2
            refine ⟨?_, by omega⟩
            rcases hat10 with h | h
            · exact .inl (H5.out q (h.symm.trans hq))
            · right
              have e2 : some q = some w8.heap.size := hq.symm.trans h
              cases e2
              exact hb8.size
          · intro k x hx
            rcases Nat.lt_or_ge k pre.length with hk | hk
            · rw [List.getElem?_append_left hk] at hx
              obtain ⟨A', m', c', s1, s2, s3⟩ := H6.out k x hx
              have s8 := owns_below s2 hb8
              have s10 := s8.kept hg10 (own_ne_own s8 hrow8 (by decide))
              refine ⟨A', m', c', ?_, by rw [← hw11]; exact own_set2 s10 H2t'.out _, fun q hq => ⟨.inl (s3 q hq), by have := (s10.lt q hq).2; omega⟩⟩
              rw [List.getElem?_append_left (by rw [H1.out]; exact hk)]
              exact s1
            · have hkk : k = pre.length := by
                have := (List.getElem?_eq_some_iff.1 hx).1
                rw [List.length_append] at this
                simp at this
                omega
              subst hkk
              rw [List.getElem?_append_right (Nat.le_refl _), Nat.sub_self] at hx
              obtain rfl : _ = x := by simpa using hx
              have s10 := hown8.out.kept hg10 (own_ne_own hown8.out hrow8 (by decide))
              refine ⟨A9, j, c9, ?_, ?_, fun q hq => ⟨.inr (hown8.out.lt q hq).1, by have := (s10.lt q hq).2; omega⟩⟩
              · rw [List.getElem?_append_right (by rw [H1.out]; exact Nat.le_refl _), H1.out, Nat.sub_self]; rfl
              · show w11.ownsRow w.heap.size 61 2 (.slice A9 j c9) j ((setW p 1 xl).flatMap cK)
                rw [hset, ← hw11]
                exact owns_mono (own_set2 s10 H2t'.out _) hwV
          · exact (hkeep _ hB2.lt hno).trans hB2
          · exact hbV.trans ⟨hos.1, hos.2.1, hos.2.2, hVz, fun q hq => hkeep q (by omega) (fun h => by have := hoB _ h; omega)⟩
          · rintro q ⟨h | h, -⟩
            · exact hoB q h
            · omega
    case done =>
      rintro Dm ys ow V hDm hys ⟨⟨vs, A, c, h1, h2, h3, h4, h5, h6⟩, hB2, hbV, hoB⟩ hg hnB rfl hK
      have q7 := h2.cell 0
      have p7 := h2.lt
      have H4 := hid h4
      have H6 := hid h6
      have hBw : w.heap.size ≤ Dm := by have := Hz5.out; rw [HB.out] at this; omega
      simp only [hTT]
      clear h2 h4 h6 X7 Xn Xb B2
      gi_wp2
      refine leavesM_marks [Dm] _ (by simp) (by simpa using hK) (fun w' ho => ⟨.tuple #[.slice A vs.length c, .int .i64 0], by simp [results, Try.results43, go_sem, *], ?_⟩)
      refine ⟨A, vs.length, c, by rw [hE.out], ?_, ho.below hbV (by simp; omega)⟩
      have hys2 : ys.map (fun x => setW p 1 x.l) = allSets p a := by
        rw [hv.out, ← hys, List.map_map]; rfl
      rw [← hys2]
      refine ⟨by rw [List.length_map, h1], vs, ?_, fun k l hl => ?_⟩
      · exact Sl.of_own (own_off H4.out ho)
      · rw [List.getElem?_map] at hl
        cases hx : ys[k]? with
        | none => rw [hx] at hl; cases hl
        | some x =>
          rw [hx] at hl
          cases hl
          obtain ⟨A', m', c', s1, s2, -⟩ := H6.out k x hx
          exact ⟨A', m', c', s1, Sl.of_own (own_off s2 ho)⟩
  · have he0 : ofE p a 60 ≠ 0 := by simpa using he
    have hv : Hid (allSets p a = []) := hid (if_neg he0)
    go_enter Try.func43, Try.ntmps43
    go_wp2_with (first | (go_at_call 86; refine (of_any p a 60 _).mono ?_; rintro e w1 ⟨rfl, hb1'⟩))
    refine bodyPost_ret (v := .tuple #[.slice none 0 0, .int .i64 (ofE p a 60)]) (by first | (simp [results, Try.results43, go_sem]; done) | (simp [results, Try.results43, go_sem, *]; done) | (simp [results, Try.results43, go_sem, World.cell?_setCell_same', *]; done) | (simp [results, Try.results43, go_sem]; first | exact ⟨rfl, rfl⟩ | rfl)) rfl ⟨none, 0, 0, rfl, by rw [hv.out]; exact ⟨rfl, [], Sl.none_, fun k l h => by simp at h⟩, hb1.trans (hb1'.mono hb1.size)⟩
end Go.Proofs.Ytolghmhodaphfaa
