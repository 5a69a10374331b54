/- Texts of the proof, laid together by program. -/
import Derived.Test.YtnpilfpackdimaaMa
import Derived.Test.YtnpilfpackdimaaMe
import Derived.Test.YtnpilfpackdimaaMc
import Derived.RangeFuncBound
set_option linter.unusedSimpArgs false
set_option linter.unusedVariables false
/- Worlds that grew, but for one block. -/
namespace Go.Proofs.Ytnpilfpackdimaa
open Go.RowKit
theorem grownM_trans {w X Y : World} {M : Nat} {row : Option Nat} (h : w.grownBy X (some M)) (hg : X.grownBy Y row) (hr : ∀ r, row = some r → w.heap.size ≤ r ∨ r = M) : w.grownBy Y (some M) :=
  ⟨hg.os.trans h.os, hg.tape.trans h.tape, hg.output.trans h.output, Nat.le_trans h.size hg.size, fun k hk hne => (hg.block k (Nat.lt_of_lt_of_le hk h.size) (fun e => by rcases hr k e.symm with h1 | h1; omega; exact hne (by rw [h1]))).trans (h.block k hk hne)⟩
theorem grownM_below {w X : World} {M : Nat} (h : Below w.heap.size w X) : w.grownBy X (some M) := ⟨h.os, h.tape, h.output, h.size, fun k hk _ => h.block k hk⟩
theorem grown_of_below' {X Y : World} (h : Below X.heap.size X Y) : X.grownBy Y none := ⟨h.os, h.tape, h.output, h.size, fun k hk _ => h.block k hk⟩
theorem grownM_then {w X Y : World} {M : Nat} (h : w.grownBy X (some M)) (hb : Below X.heap.size X Y) : w.grownBy Y (some M) := grownM_trans h (grown_of_below' hb) (fun _ e => by cases e)
theorem grownM_setCell {w X : World} {M g o : Nat} (h : w.grownBy X (some M)) (hg : w.heap.size ≤ g ∨ g = M) (u : Value) : w.grownBy (X.setCell ⟨g, o, none⟩ u) (some M) :=
  ⟨h.os, h.tape, h.output, by have := h.size; simpa [World.setCell] using this, fun k hk hne => (Below.heap_setCell _ _ _ _ (by simp only; rintro rfl; rcases hg with h | h; omega; exact hne (by rw [h]))).trans (h.block k hk hne)⟩
theorem sl_grownM {w w' : World} {B size n M : Nat} {A : Option Addr} {xs : List Value} (h : Sl w B size A n xs) (hg : w.grownBy w' (some M)) (hB : B ≤ w.heap.size) (hM : B ≤ M) : Sl w' B size A n xs :=
  ⟨h.1, fun hn => by
    obtain ⟨b, off, e, hb, hc⟩ := h.2 hn
    exact ⟨b, off, e, hb, fun j u hu => (World.cell?_of_block (hg.block b (by omega) (fun e2 => by have := Option.some.inj e2; omega))).trans (hc j u hu)⟩⟩
theorem kpg_grownM {W W' : World} {M n₀ : Nat} {G : Nat → Prop} (h : W.grownBy W' (some M)) (hn : n₀ ≤ W.heap.size) (hG : G M) : KpG n₀ G W W' := ⟨h.size, fun k hk hk' => h.block k (by omega) (fun e => hk' (Option.some.inj e ▸ hG))⟩
/-- Below the block all is as it was. -/
theorem below_grownM {w w' : World} {M : Nat} (h : w.grownBy w' (some M)) (hM : M ≤ w.heap.size) : Below M w w' := ⟨h.os, h.tape, h.output, h.size, fun k hk => h.block k (by omega) (fun e => by have := Option.some.inj e; omega)⟩
theorem gcell {w w' : World} {M : Nat} (h : w.grownBy w' (some M)) : ∀ b o, b < w.heap.size → b ≠ M → w'.cell? ⟨b, o, none⟩ = w.cell? ⟨b, o, none⟩ := fun b o hb hne => World.cell?_of_block (h.block b hb (fun e => hne (Option.some.inj e)))
end Go.Proofs.Ytnpilfpackdimaa
/- Walks: Clone, DeleteFunc, EqualFunc of lists of sets; the first that is good. -/
namespace Go.Proofs.Ytnpilfpackdimaa
open Go.RowKit Go.Shelf
attribute [local go_sem] Oper.semAt_some
theorem eq_nilLL (a : Addr) (n c : Nat) (W : World) : (binOp .eql 22 (.slice (some a) n c) (.slice none 0 0)).run Try.prog W = .ok (.bool false) W := by
  have h : ∀ d : Nat, (Op.equalIn (d + 1) 22 (.slice (some a) n c) (.slice none 0 0)).run Try.prog W = .ok false W := fun d => by
    unfold Op.equalIn
    simp only [Sem.run_bind, run_underlying underLL, Result.andThen_ok]
    rfl
  simp only [binOp]
  simp [Op.equal, Op.maxDepth, h 9999]
set_option maxRecDepth 10000 in
set_option maxHeartbeats 800000 in
theorem cloneL_any (A : Option Addr) (n c : Nat) (ls : List (List Int)) (w : World) (hl : LiP w w.heap.size A n ls) (hn0 : 1 ≤ n) (hn : n ≤ 1000) :
    Calls Try.prog 60 #[.slice A n c] w fun e w' => ∃ v, e = .returned v ∧ NewLi w' w.heap.size v ls ∧ Below w.heap.size w w' := by
  obtain ⟨i0, hi0, hi1, hi2, hi3⟩ := info_parts' infoL
  have I0 := hid hi0; have I1 := hid hi1; have I2 := hid hi2; have I3 := hid hi3
  clear hi0 hi1 hi2 hi3
  obtain ⟨h1, vs, h2, h3⟩ := hl
  obtain ⟨b, off, rfl, hb, hc⟩ := h2.2 (by omega)
  have HS := hid h2
  have H3 := hid h3
  have Hc := hid hc
  have H1 := hid h1
  have hvl : vs.length = n := by have := h2.1; omega
  have Hvl := hid hvl
  have hone : ∀ u ∈ vs, u.oneCell' = true := fun u hu => by
    obtain ⟨j, hj⟩ := List.getElem?_of_mem hu
    have hjl := (List.getElem?_eq_some_iff.1 hj).1
    obtain ⟨A', m, c', e, -⟩ := h3 j (ls[j]'(by omega)) (List.getElem?_eq_getElem _)
    rw [hj] at e; cases e; rfl
  have Hone := hid hone
  clear h1 h2 h3 hc hvl hone
  have heq := eq_nilLL ⟨b, off, none⟩ n c w
  go_enter Try.func60, Try.ntmps60
  go_wp2_with (at_builtin; refine wpList_append_cap rfl _ _ 22 rfl w.heap.size 25 i0 _ 1 24 underLL I0.out I1.out I2.out I3.out rfl _ 0 [] rfl rfl (Or.inr ⟨_, rfl, fun j u hj => by simp at hj⟩) ⟨b, off, none⟩ n c vs rfl (by rw [Hvl.out, Nat.mul_one]) (fun j u hu => by rw [add_at]; exact (World.cell?_alloc_lt _ _ _ hb).trans (Hc.out j u hu)) hn0 (by unfold maxLen; omega) (by omega) (by simp) ?_; intro cap w2 ho2 hg2 hz2)
  obtain ⟨g, cap', hv, hg, hlt⟩ := World.ownsRow.form ho2 (by omega)
  cases hv
  have ho3 := hid ho2
  clear ho2
  go_wp2
  have hb2 : Below w.heap.size w w2 := below_grown0 ((Below.refl _ _).alloc (Nat.le_refl _) _) hg2 (Nat.le_refl _)
  refine bodyPost_ret (v := .slice (some ⟨w.heap.size + 1, 0, none⟩) n cap) (by simp [results, Try.results60, go_sem]) rfl ⟨_, rfl, ⟨vs, ?_, ?_, fun k l hk => ?_⟩, hb2⟩
  · have h9 := ho3.out
    rw [Nat.zero_add, World.size_alloc] at h9
    rw [H1.out]
    exact h9
  · rw [Hvl.out, H1.out]
  · have hkn : k < n := by have := (List.getElem?_eq_some_iff.1 hk).1; have := H1.out; omega
    obtain ⟨A', m, c', e, h4, h5⟩ := H3.out k l hk
    refine ⟨A', m, c', e, h4.below hb2 hb2.size, fun b' off' hA => ?_⟩
    have hlt' := h5 b' off' hA
    refine ⟨Nat.lt_of_lt_of_le hlt' hb2.size, fun e2 => ?_⟩
    have e3 : some (w.heap.size + 1) = some b' := e2
    have := Option.some.inj e3
    omega
theorem filt_next {α : Type} {p : α → Bool} {l : List α} {k : Nat} {x : α} (h : l[k]? = some x) : (l.take (k + 1)).filter p = (l.take k).filter p ++ (if p x then [x] else []) := by
  rw [List.take_add_one, h, List.filter_append]
  congr 1
  cases hp : p x <;> simp [hp]
theorem zeroL (W : World) : (zeroValue 25).run Try.prog W = .ok (.slice none 0 0) W := by go_simp
theorem zeroL_row (n : Nat) : (Builtin.zeroCells (Value.slice none 0 0).cells n).toList = List.replicate n (Value.slice none 0 0) := by
  have : (Value.slice none 0 0).cells = #[Value.slice none 0 0] := by rfl
  rw [this]
  simp [Builtin.zeroCells, Nat.mod_one, List.map_const']
set_option maxRecDepth 10000 in
set_option maxHeartbeats 4000000 in
theorem delL_any (w0 w : World) (q n cap : Nat) (ls : List (List Int)) (gf : Nat) (cb : Array Value) (eg : ∀ args w, (callFunc gf args).run Try.prog w = .ok (.enter gf args) w) (p : List Int → Bool) (hp : ∀ x ∈ ls, ∀ (A' : Option Addr) (m c' : Nat) (W : World), Below w0.heap.size w0 W → InS W W.heap.size A' m x → Calls Try.prog gf (#[.slice A' m c'] ++ cb) W fun e w' => e = .returned (.bool (p x)) ∧ Below W.heap.size W w') (hbw : Below w0.heap.size w0 w) (hN : NewLi w w0.heap.size (.slice (some ⟨q, 0, none⟩) n cap) ls) (hnl : ls.length = n) (hn : n ≤ 1000) :
    Calls Try.prog 59 #[.slice (some ⟨q, 0, none⟩) n cap, .func (.func gf) #[] cb] w fun e w' => ∃ A' n' c', e = .returned (.slice A' n' c') ∧ n' = (ls.filter fun x => !p x).length ∧ Below w0.heap.size w0 w' := by
  have hsz0 := hbw.size
  obtain ⟨A0, c0', e0, hlip⟩ := newLi_lip hN
  rw [hnl] at e0 hlip
  have hlis := hlip.lis
  cases e0
  obtain ⟨vs, ho, hat⟩ := hN
  rw [hnl] at ho
  obtain ⟨hvl, ⟨hx, -⟩ | ⟨q', cap', cur, e1, hq0, hgq, hnc, hcm, hcs, htk⟩⟩ := ho
  · cases hx
  cases e1
  have hq1 : q < w.heap.size := (Array.getElem?_eq_some_iff.1 hgq).1
  rw [Nat.mul_one] at hvl hcs htk
  have hpat : ∀ k, k < n → ∃ x A' m' c', vs[k]? = some (.slice A' m' c') ∧ ls[k]? = some x ∧ InS w w.heap.size A' m' x ∧ ∀ b off, A' = some ⟨b, off, none⟩ → b < w.heap.size ∧ q ≠ b := fun k hk => by
    have hx : ls[k]? = some (ls[k]'(by omega)) := List.getElem?_eq_getElem _
    obtain ⟨A', m', c', h1, h2, h3⟩ := hat.2 k _ hx
    exact ⟨_, A', m', c', h1, hx, h2, fun b off e => ⟨(h3 b off e).1, fun e2 => (h3 b off e).2 (by rw [← e2]; rfl)⟩⟩
  have Hpat := hid hpat
  have HP := hid hp
  have Hgq : Hid (Blk w q 25 cur) := hid hgq
  have Htk := hid htk
  have Hnl := hid hnl
  have Hiz := hid (idxFL_any gf cb eg p (some ⟨q, 0, none⟩) n cap ls w hlis (by omega) (fun x hx A' m c' W hW hin => hp x hx A' m c' W (hbw.trans (hW.mono hsz0)) hin))
  clear hpat hp hlis hlip hgq htk hat hnl
  cases hany : ls.any p
  · have Hz := hid (idxA_none hany)
    have hf : Hid (n = (ls.filter fun x => !p x).length) := hid (by
      rw [List.filter_eq_self.2 fun x hx => by have := List.any_eq_false.1 hany x hx; simpa using this, Hnl.out])
    clear hany
    go_enter Try.func59, Try.ntmps59
    go_wp2_with (go_at_call 75; refine (Hiz.out).mono ?_; rw [Hz.out]; rintro e w1 ⟨rfl, hb1⟩)
    refine bodyPost_ret (v := .slice (some ⟨q, 0, none⟩) n cap) (by first | (simp [results, Try.results59, go_sem]; done) | (simp [results, Try.results59, go_sem, *]; done) | (simp [results, Try.results59, go_sem, World.cell?_setCell_same', *]; done) | (simp [results, Try.results59, go_sem]; first | exact ⟨rfl, rfl⟩ | rfl)) rfl ⟨_, n, cap, rfl, hf.out, hbw.trans (hb1.mono hsz0)⟩
  · obtain ⟨i0, hi0, hiz, hi1, hi2⟩ : ∃ i0, i0 < n ∧ idxA p ls = i0 ∧ (ls.take i0).any p = false ∧ (∀ x, ls[i0]? = some x → p x = true) := by
      cases h : ls.findIdx? p with
      | none =>
        rw [List.findIdx?_eq_none_iff] at h
        obtain ⟨x, hx, hpx⟩ := List.any_eq_true.1 hany
        rw [h x hx] at hpx; cases hpx
      | some i0 =>
        have h9 := h
        rw [List.findIdx?_eq_some_iff_getElem] at h9
        obtain ⟨k1, k2, k3⟩ := h9
        refine ⟨i0, by have := Hnl.out; omega, by unfold idxA; rw [h], ?_, fun x hx => ?_⟩
        · rw [List.any_eq_false]
          intro x hx
          obtain ⟨t, ht, hte⟩ := List.getElem_of_mem hx
          rw [List.getElem_take] at hte
          rw [List.length_take] at ht
          have := k3 t (by omega)
          rw [hte] at this
          exact this
        · obtain ⟨ht2, e⟩ := List.getElem?_eq_some_iff.1 hx
          rw [e] at k2
          exact k2
    have Hz := hid hiz
    have hst : i0 = ((ls.take (i0 + 1)).filter fun x => !p x).length := by
      have hx : ls[i0]? = some (ls[i0]'(by have := Hnl.out; omega)) := List.getElem?_eq_getElem _
      rw [filt_next hx, hi2 _ hx]
      simp only [Bool.not_true, Bool.false_eq_true, if_false, List.append_nil]
      rw [List.filter_eq_self.2 fun x hx => by have := List.any_eq_false.1 hi1 x hx; simpa using this, List.length_take]
      have := Hnl.out
      omega
    have Hst := hid hst
    have z1 : IntKind.i64.wrap ((i0 : Int) + 1) = (i0 : Int) + 1 := IntWalk.i64_in _ (by omega)
    have hz2 : ¬ (i0 : Int) = -1 := by omega
    have hnni : ¬ i0 = cap := by omega
    clear hiz hi1 hi2 hany hst
    go_enter Try.func59, Try.ntmps59
    go_wp2_with (go_at_call 75; refine (Hiz.out).mono ?_; rw [Hz.out]; rintro e w1 ⟨rfl, hb1⟩)
    have hg1 : w.grownBy w1 (some q) := grownM_below hb1
    have B1 : Hid (Blk w1 q 25 cur) := hid (Hgq.out.below hb1 hq1)
    go_loopw [5, 6] (fun i j wr => ∃ (i' j' : Nat) (cu : Array Value), i' < j' ∧ j' ≤ n ∧ i = .int .i64 i' ∧ j = .int .i64 j' ∧ Hid (Blk wr q 25 cu) ∧ cu.size = cap ∧ Hid (i' = ((ls.take j').filter fun x => !p x).length) ∧ Hid (∀ t, j' ≤ t → t < n → cu[t]? = vs[t]?) ∧ w.grownBy wr (some q)) (fun _ j _ => n - (intOf j).toNat)
    case atStart =>
      refine ⟨i0, i0 + 1, cur, by omega, by omega, rfl, by go_num, B1, hcs, Hst, hid (fun t ht htn => ?_), hg1⟩
      rw [← Htk.out, List.getElem?_take_of_lt htn, Array.getElem?_toList]
    case round =>
      obtain ⟨i, j, cu, hij, hjn, rfl, rfl, hBq, hcu, hk1, hk2, hgw⟩ := hrel
      have hzw := hgw.size
      have hb0 : Below w0.heap.size w0 wr := hbw.grown hgw hsz0 (fun r hr => by cases hr; exact hq0)
      have hsz1 := hb0.size
      have lq : q < wr.heap.size := by omega
      by_cases hlt : j < n
      · obtain ⟨x, A', m', c', h2, h3, hin, hne⟩ := Hpat.out j hlt
        have hlti : (j : Int) < n := by omega
        have hcj := (hBq.out.cell j).trans ((hk2.out j (Nat.le_refl _) hlt).trans h2)
        have hinr : InS wr wr.heap.size A' m' x := hin.grown hgw (fun b off e e2 => (hne b off e).2 (Option.some.inj e2)) hgw.size
        have zj : IntKind.i64.wrap ((j : Int) + 1) = (j : Int) + 1 := IntWalk.i64_in _ (by omega)
        have zi : IntKind.i64.wrap ((i : Int) + 1) = (i : Int) + 1 := IntWalk.i64_in _ (by omega)
        have hc := HP.out x (List.mem_of_getElem? h3) A' m' c' wr hb0 hinr
        have H3 := hid h3
        clear hin hinr h2 h3 hne
        cases hqv : p x
        all_goals
          rw [hqv] at hc
          have Hqv := hid hqv
          clear hqv
        · have hci : i < cu.size := by omega
          have hcell : cu[i]? = some cu[i] := Array.getElem?_eq_getElem hci
          go_wp2_with (go_at_fn gf; refine hc.mono ?_; rintro e w5 ⟨rfl, hb5⟩; have B5 : Blk w5 q 25 cu := hBq.out.below hb5 lq; have d5 := (B5.cell i).trans hcell; have f5 := B5.frozen i; have l5 := B5.lt)
          have B5 : Blk w5 q 25 cu := hBq.out.below hb5 lq
          have hgw5 := grownM_setCell (o := i) (grownM_then hgw hb5) (.inr rfl : w.heap.size ≤ q ∨ q = q) (.slice A' m' c')
          have B6 := B5.set_ i (.slice A' m' c')
          have hlen : Hid (i + 1 = ((ls.take (j + 1)).filter fun x => !p x).length) := hid (by rw [filt_next H3.out, List.length_append, ← hk1.out, Hqv.out]; rfl)
          (first | exact ⟨⟨i + 1, j + 1, cu.setIfInBounds i (.slice A' m' c'), by omega, by omega, by go_num, by go_num, hid B6, by rw [Array.size_setIfInBounds]; exact hcu, hlen, hid (fun t ht htn => by rw [Array.getElem?_setIfInBounds_ne (by omega)]; exact hk2.out t (by omega) htn), hgw5⟩, (by first | (simp [intOf]; omega) | (simp [intOf]; done))⟩ | (refine ⟨?_, ?_⟩; (focus ((repeat apply Exists.intro); refine ⟨?_, rfl⟩; exact ⟨i + 1, j + 1, cu.setIfInBounds i (.slice A' m' c'), by omega, by omega, by go_num, by go_num, hid B6, by rw [Array.size_setIfInBounds]; exact hcu, hlen, hid (fun t ht htn => by rw [Array.getElem?_setIfInBounds_ne (by omega)]; exact hk2.out t (by omega) htn), hgw5⟩)); (first | (simp [intOf]; omega) | (simp [intOf]; done))))
        · go_wp2_with (go_at_fn gf; refine hc.mono ?_; rintro e w5 ⟨rfl, hb5⟩)
          have hgw5 := grownM_then hgw hb5
          have B5 : Hid (Blk w5 q 25 cu) := hid (hBq.out.below hb5 lq)
          have hlen : Hid (i = ((ls.take (j + 1)).filter fun x => !p x).length) := hid (by rw [filt_next H3.out, List.length_append, ← hk1.out, Hqv.out]; rfl)
          (first | exact ⟨⟨i, j + 1, cu, by omega, by omega, rfl, by go_num, B5, hcu, hlen, hid (fun t ht htn => hk2.out t (by omega) htn), hgw5⟩, (by first | (simp [intOf]; omega) | (simp [intOf]; done))⟩ | (refine ⟨?_, ?_⟩; (focus ((repeat apply Exists.intro); refine ⟨?_, rfl⟩; exact ⟨i, j + 1, cu, by omega, by omega, rfl, by go_num, B5, hcu, hlen, hid (fun t ht htn => hk2.out t (by omega) htn), hgw5⟩)); (first | (simp [intOf]; omega) | (simp [intOf]; done))))
      · obtain rfl : j = n := by omega
        have hlti : ¬ (j : Int) < j := by omega
        have hci : ¬ cap = i := by omega
        have hcl := run_clear_sz (P := Try.prog) wr 22 0 25 (.slice none 0 0) q i (j - i) (cap - i) cu 25 underLL (zeroL _) (by omega) hBq.out (List.replicate (j - i) (Value.slice none 0 0)) (zeroL_row _) (by rw [List.length_replicate]; omega) (fun v hv => by rw [(List.mem_replicate.1 hv).2]; rfl)
        have hbr := below_setRow hb0 hq0 (cu.toList.take i ++ List.replicate (j - i) (Value.slice none 0 0) ++ cu.toList.drop (i + (List.replicate (j - i) (Value.slice none 0 0)).length)).toArray
        generalize hZ : wr.setRow q (cu.toList.take i ++ List.replicate (j - i) (Value.slice none 0 0) ++ cu.toList.drop (i + (List.replicate (j - i) (Value.slice none 0 0)).length)).toArray = W9 at *
        have Hlen : Hid (i = (ls.filter fun x => !p x).length) := hid (by have := hk1.out; rwa [List.take_of_length_le (by rw [Hnl.out]; exact Nat.le_refl _)] at this)
        have hij2 : (i : Int) ≤ j := by omega
        clear hZ
        go_wp2
        refine bodyPost_ret (v := .slice (some ⟨q, 0, none⟩) i cap) (by first | (simp [results, Try.results59, go_sem]; done) | (simp [results, Try.results59, go_sem, *]; done) | (simp [results, Try.results59, go_sem, World.cell?_setCell_same', *]; done) | (simp [results, Try.results59, go_sem]; first | exact ⟨rfl, rfl⟩ | rfl)) rfl ⟨_, _, ⟨_, rfl⟩, Hlen.out, hbr⟩
set_option maxRecDepth 10000 in
theorem delL_nil (gf : Nat) (cb : Array Value) (eg : ∀ args w, (callFunc gf args).run Try.prog w = .ok (.enter gf args) w) (w : World) : Calls Try.prog 59 #[.slice none 0 0, .func (.func gf) #[] cb] w fun e w' => e = .returned (.slice none 0 0) ∧ Below w.heap.size w w' := by
  have h := idxFL_any gf cb eg (fun _ => false) none 0 0 [] w (lis_nil _ _) (by omega) (fun x hx => by cases hx)
  have hz : idxA (fun _ : List Int => false) [] = -1 := rfl
  rw [hz] at h
  clear hz
  go_enter Try.func59, Try.ntmps59
  go_wp2_with (go_at_call 75; refine h.mono ?_; rintro e w1 ⟨rfl, hb1⟩)
  refine bodyPost_ret (v := .slice none 0 0) (by first | (simp [results, Try.results59, go_sem]; done) | (simp [results, Try.results59, go_sem, *]; done) | (simp [results, Try.results59, go_sem, World.cell?_setCell_same', *]; done) | (simp [results, Try.results59, go_sem]; first | exact ⟨rfl, rfl⟩ | rfl)) rfl ⟨rfl, hb1⟩
theorem eq_nilNN (W : World) : (binOp .eql 22 (.slice none 0 0) (.slice none 0 0)).run Try.prog W = .ok (.bool true) W := by
  have h : ∀ d : Nat, (Op.equalIn (d + 1) 22 (.slice none 0 0) (.slice none 0 0)).run Try.prog W = .ok true W := fun d => by
    unfold Op.equalIn
    simp only [Sem.run_bind, run_underlying underLL, Result.andThen_ok]
    rfl
  simp only [binOp]
  simp [Op.equal, Op.maxDepth, h 9999]
set_option maxRecDepth 10000 in
theorem cloneL_nil (w : World) : Calls Try.prog 60 #[.slice none 0 0] w fun e w' => e = .returned (.slice none 0 0) ∧ w = w' := by
  have heq := eq_nilNN w
  go_enter Try.func60, Try.ntmps60
  go_wp2
  refine bodyPost_ret (v := .slice none 0 0) (by first | (simp [results, Try.results60, go_sem]; done) | (simp [results, Try.results60, go_sem, *]; done) | (simp [results, Try.results60, go_sem, World.cell?_setCell_same', *]; done) | (simp [results, Try.results60, go_sem]; first | exact ⟨rfl, rfl⟩ | rfl)) rfl ⟨rfl, rfl⟩
end Go.Proofs.Ytnpilfpackdimaa
/- Walks: listed, CheckAll, Forgotten. -/
namespace Go.Proofs.Ytnpilfpackdimaa
open Go.RowKit Go.Shelf
attribute [local go_sem] Oper.semAt_some run_store_func
/-- The error of a book and a list of sets. -/
def lisE (I : Int) (ls ss : List (List Int)) : Int := if chkBook I ls ≠ 0 then chkBook I ls else if 80 < ss.length then 6 else openE I ls ss
set_option maxRecDepth 100000 in
set_option maxHeartbeats 1600000 in
theorem listedP_bad (A B : Option Addr) (n c m d : Nat) (ls ss : List (List Int)) (I : Int) (w : World) (hl : LiS w w.heap.size A n ls) (hs : LiS w w.heap.size B m ss) (hn : n ≤ 1000000) (hw : ∀ l ∈ ls, l.length ≤ 1000000) (hm : m ≤ 1000000) (hws : ∀ l ∈ ss, l.length ≤ 1000000) (he : lisE I ls ss ≠ 0) :
    Calls Try.prog 54 #[.agg #[.int .i64 I, .slice A n c], .slice B m d] w fun e w' => e = .returned (.tuple #[.pointer none, .int .i64 (lisE I ls ss)]) ∧ Below w.heap.size w w' := by
  have HL := hid hl
  have HS := hid hs
  have HW := hid hw
  have hmm := hs.1
  clear hl hs
  by_cases hc : chkBook I ls = 0
  · have hv : lisE I ls ss = if 80 < ss.length then 6 else openE I ls ss := if_neg (by simpa using hc)
    rw [hmm] at hv
    have Hc := hid hc
    by_cases h80 : 80 < m
    · have h80i : (80 : Int) < m := by omega
      have hf : Hid (lisE I ls ss = 6) := hid (by rw [hv, if_pos h80])
      clear hv he hc
      go_enter Try.func54, Try.ntmps54
      go_wp2_with (fail)
      refine (checkBook_any A n c ls I _ (HL.out.below (by repeat' (first | with_reducible assumption | with_reducible exact Below.refl _ _ | refine Below.alloc ?_ ?_ _ | refine Below.setCell ?_ ?_ _ | refine Below.drew ?_ | refine below_drewN ?_ _ | (simp; done) | (simp; omega) | omega)) (by first | (simp; done) | (simp; omega) | omega)) hn HW.out).mono ?_
      rw [Hc.out]
      rintro e w1 ⟨rfl, hb1⟩
      have hbel : Below w.heap.size w w1 := Below.trans (by repeat' (first | with_reducible assumption | with_reducible exact Below.refl _ _ | refine Below.alloc ?_ ?_ _ | refine Below.setCell ?_ ?_ _ | refine Below.drew ?_ | refine below_drewN ?_ _ | (simp; done) | (simp; omega) | omega)) (hb1.mono (by first | (simp; done) | (simp; omega) | omega))
      go_wp2
      refine bodyPost_ret (v := .tuple #[.pointer none, .int .i64 6]) (by first | (simp [results, Try.results54, go_sem]; done) | (simp [results, Try.results54, go_sem, *]; done) | (simp [results, Try.results54, go_sem, World.cell?_setCell_same', *]; done) | (simp [results, Try.results54, go_sem]; first | exact ⟨rfl, rfl⟩ | rfl)) rfl ⟨by rw [hf.out], hbel⟩
    · have h80i : ¬ (80 : Int) < m := by omega
      rw [if_neg h80] at hv
      have HO := hid (fun w h1 h2 => open_bad A B n c m d ls ss I w h1 h2 hn hw hm hws (by rw [← hv]; exact he))
      rw [hv] at he
      obtain ⟨ev, hev⟩ : ∃ ev, openE I ls ss = ev := ⟨_, rfl⟩
      rw [hev] at HO hv
      have hf := hid hv
      clear hv he hc hev
      go_enter Try.func54, Try.ntmps54
      go_wp2_with (fail)
      refine (checkBook_any A n c ls I _ (HL.out.below (by repeat' (first | with_reducible assumption | with_reducible exact Below.refl _ _ | refine Below.alloc ?_ ?_ _ | refine Below.setCell ?_ ?_ _ | refine Below.drew ?_ | refine below_drewN ?_ _ | (simp; done) | (simp; omega) | omega)) (by first | (simp; done) | (simp; omega) | omega)) hn HW.out).mono ?_
      rw [Hc.out]
      rintro e w1 ⟨rfl, hb1⟩
      have hbel : Below w.heap.size w w1 := Below.trans (by repeat' (first | with_reducible assumption | with_reducible exact Below.refl _ _ | refine Below.alloc ?_ ?_ _ | refine Below.setCell ?_ ?_ _ | refine Below.drew ?_ | refine below_drewN ?_ _ | (simp; done) | (simp; omega) | omega)) (hb1.mono (by first | (simp; done) | (simp; omega) | omega))
      have c0 : w1.cell? ⟨w.heap.size, 0, none⟩ = some (.int .i64 I) := (hb1.cell (p := ⟨w.heap.size, 0, none⟩) (by first | (simp; done) | (simp; omega) | omega)).trans (by go_simp)
      have c1 : w1.cell? ⟨w.heap.size, 1, none⟩ = some (.slice A n c) := (hb1.cell (p := ⟨w.heap.size, 1, none⟩) (by first | (simp; done) | (simp; omega) | omega)).trans (by go_simp)
      have hq0 : w.heap.size < w1.heap.size := (by have := hb1.size; simp at this; omega)
      clear hb1
      go_wp2_with (fail)
      refine (HO.out _ (HL.out.below hbel hbel.size) (HS.out.below hbel hbel.size)).mono ?_
      rintro e w2 ⟨rfl, hb2⟩
      go_wp2
      refine bodyPost_ret (v := .tuple #[.pointer none, .int .i64 ev]) (by first | (simp [results, Try.results54, go_sem]; done) | (simp [results, Try.results54, go_sem, *]; done) | (simp [results, Try.results54, go_sem, World.cell?_setCell_same', *]; done) | (simp [results, Try.results54, go_sem]; first | exact ⟨rfl, rfl⟩ | rfl)) rfl ⟨by rw [hf.out], hbel.trans (hb2.mono hbel.size)⟩
  · have hf : Hid (lisE I ls ss = chkBook I ls) := hid (if_pos hc)
    obtain ⟨ev, hev⟩ : ∃ ev, chkBook I ls = ev := ⟨_, rfl⟩
    rw [hev] at hf hc
    have Hev := hid hev
    have hbi : (ev != 0) = true := by simpa using hc
    clear hev he
    go_enter Try.func54, Try.ntmps54
    go_wp2_with (fail)
    refine (checkBook_any A n c ls I _ (HL.out.below (by repeat' (first | with_reducible assumption | with_reducible exact Below.refl _ _ | refine Below.alloc ?_ ?_ _ | refine Below.setCell ?_ ?_ _ | refine Below.drew ?_ | refine below_drewN ?_ _ | (simp; done) | (simp; omega) | omega)) (by first | (simp; done) | (simp; omega) | omega)) hn HW.out).mono ?_
    rw [Hev.out]
    rintro e w1 ⟨rfl, hb1⟩
    have hbel : Below w.heap.size w w1 := Below.trans (by repeat' (first | with_reducible assumption | with_reducible exact Below.refl _ _ | refine Below.alloc ?_ ?_ _ | refine Below.setCell ?_ ?_ _ | refine Below.drew ?_ | refine below_drewN ?_ _ | (simp; done) | (simp; omega) | omega)) (hb1.mono (by first | (simp; done) | (simp; omega) | omega))
    go_wp2
    refine bodyPost_ret (v := .tuple #[.pointer none, .int .i64 ev]) (by first | (simp [results, Try.results54, go_sem]; done) | (simp [results, Try.results54, go_sem, *]; done) | (simp [results, Try.results54, go_sem, World.cell?_setCell_same', *]; done) | (simp [results, Try.results54, go_sem]; first | exact ⟨rfl, rfl⟩ | rfl)) rfl ⟨by rw [hf.out], hbel⟩
theorem lisE_good {I : Int} {ls ss : List (List Int)} (h : lisE I ls ss = 0) : chkBook I ls = 0 ∧ ss.length ≤ 80 ∧ openE I ls ss = 0 := by
  unfold lisE at h
  split at h
  · rename_i h1; exact absurd h h1
  · split at h
    · cases h
    · rename_i h1 h2
      exact ⟨by simpa using h1, by omega, h⟩
set_option maxRecDepth 100000 in
set_option maxHeartbeats 1600000 in
theorem listedP_ok (A B : Option Addr) (n c m d : Nat) (ls ss : List (List Int)) (I : Int) (w : World) (hl : LiS w w.heap.size A n ls) (hs : LiS w w.heap.size B m ss) (hn : n ≤ 1000000) (hw : ∀ l ∈ ls, l.length ≤ 1000000) (hm : m ≤ 1000000) (hws : ∀ l ∈ ss, l.length ≤ 1000000) (he : lisE I ls ss = 0) :
    Calls Try.prog 54 #[.agg #[.int .i64 I, .slice A n c], .slice B m d] w fun e w' => ∃ g, e = .returned (.tuple #[.pointer (some ⟨g, 0, none⟩), .int .i64 0]) ∧ w.heap.size ≤ g ∧ Desk w' g I A n c ls ∧ Below w.heap.size w w' := by
  have HL := hid hl
  have HS := hid hs
  have HW := hid hw
  have hmm := hs.1
  obtain ⟨hc, h80, ho⟩ := lisE_good he
  have h80i : ¬ (80 : Int) < m := by omega
  have HO := hid (fun w h1 h2 => open_ok A B n c m d ls ss I w h1 h2 hn hw hm hws ho)
  have Hc := hid hc
  clear hl hs he hc h80 ho hmm
  go_enter Try.func54, Try.ntmps54
  go_wp2_with (fail)
  refine (checkBook_any A n c ls I _ (HL.out.below (by repeat' (first | with_reducible assumption | with_reducible exact Below.refl _ _ | refine Below.alloc ?_ ?_ _ | refine Below.setCell ?_ ?_ _ | refine Below.drew ?_ | refine below_drewN ?_ _ | (simp; done) | (simp; omega) | omega)) (by first | (simp; done) | (simp; omega) | omega)) hn HW.out).mono ?_
  rw [Hc.out]
  rintro e w1 ⟨rfl, hb1⟩
  have hbel : Below w.heap.size w w1 := Below.trans (by repeat' (first | with_reducible assumption | with_reducible exact Below.refl _ _ | refine Below.alloc ?_ ?_ _ | refine Below.setCell ?_ ?_ _ | refine Below.drew ?_ | refine below_drewN ?_ _ | (simp; done) | (simp; omega) | omega)) (hb1.mono (by first | (simp; done) | (simp; omega) | omega))
  have c0 : w1.cell? ⟨w.heap.size, 0, none⟩ = some (.int .i64 I) := (hb1.cell (p := ⟨w.heap.size, 0, none⟩) (by first | (simp; done) | (simp; omega) | omega)).trans (by go_simp)
  have c1 : w1.cell? ⟨w.heap.size, 1, none⟩ = some (.slice A n c) := (hb1.cell (p := ⟨w.heap.size, 1, none⟩) (by first | (simp; done) | (simp; omega) | omega)).trans (by go_simp)
  have hq0 : w.heap.size < w1.heap.size := (by have := hb1.size; simp at this; omega)
  clear hb1
  go_wp2_with (fail)
  refine (HO.out _ (HL.out.below hbel hbel.size) (HS.out.below hbel hbel.size)).mono ?_
  rintro e w2 ⟨g, rfl, hg, hd, hb2⟩
  have hsz := hbel.size
  go_wp2
  refine bodyPost_ret (v := .tuple #[.pointer (some ⟨g, 0, none⟩), .int .i64 0]) (by first | (simp [results, Try.results54, go_sem]; done) | (simp [results, Try.results54, go_sem, *]; done) | (simp [results, Try.results54, go_sem, World.cell?_setCell_same', *]; done) | (simp [results, Try.results54, go_sem]; first | exact ⟨rfl, rfl⟩ | rfl)) rfl ⟨g, rfl, by omega, hd, hbel.trans (hb2.mono hbel.size)⟩
theorem checkAll1_any (A B : Option Addr) (n c m d : Nat) (a b : List Int) (w : World) (ha : InS w w.heap.size A n a) (hb : InS w w.heap.size B m b) (hn : n ≤ 1000000) :
    Calls Try.prog 65 #[.slice A n c, .slice B m d] w fun e w' => e = .returned (.bool (eqI a b)) ∧ Below w.heap.size w w' := by
  have hc := equal_any w A B n c m d a b ha hb hn
  obtain ⟨bv, hbv⟩ : ∃ bv, eqI a b = bv := ⟨_, rfl⟩
  rw [hbv] at hc ⊢
  clear hbv ha hb
  go_enter Try.func65, Try.ntmps65
  go_wp2_with (go_at_call 66; refine hc.mono ?_; rintro e w1 ⟨rfl, hb1⟩)
  go_ret
  exact ⟨rfl, hb1⟩
def eqLL (a b : List (List Int)) : Bool := decide (a = b)
set_option maxRecDepth 10000 in
set_option maxHeartbeats 1600000 in
theorem equalFunc_any (A B : Option Addr) (n c m d : Nat) (a b : List (List Int)) (w : World) (ha : LiS w w.heap.size A n a) (hb : LiS w w.heap.size B m b) (hn : n ≤ 1000000) (hw : ∀ l ∈ a, l.length ≤ 1000000) :
    Calls Try.prog 64 #[.slice A n c, .slice B m d, .func (.func 65) #[] #[]] w fun e w' => e = .returned (.bool (eqLL a b)) ∧ Below w.heap.size w w' := by
  have la := hid ha.1
  have lb := hid hb.1
  have HA := hid ha
  have HB := hid hb
  have HW := hid hw
  obtain ⟨ev, hev⟩ : ∃ ev, eqLL a b = ev := ⟨_, rfl⟩
  have Hev := hid hev
  rw [hev]
  clear ha hb hw hev
  by_cases hnm : n = m
  · subst hnm
    have t0 : ((n : Int) != (n : Int)) = false := by simp
    go_enter Try.func64, Try.ntmps64
    go_wp2
    go_loopw [17] (fun i wr => ∃ k : Nat, k ≤ n ∧ i = .int .i64 k ∧ Hid (a.take k = b.take k) ∧ Below w.heap.size w wr) (fun i _ => n - (intOf i).toNat)
    case atStart => exact ⟨0, by omega, rfl, hid (by simp), Below.refl _ _⟩
    case round =>
      obtain ⟨k, hk, rfl, heq, hbw⟩ := hrel
      have hszw := hbw.size
      by_cases hlt : k < n
      · obtain ⟨b1, o1, x, A1, m1, c1, rfl, hb1, hx, q1, hi1⟩ := (HA.out.below hbw hszw).at_ hlt
        obtain ⟨b2, o2, y, A2, m2, c2, rfl, hb2, hy, q2, hi2⟩ := (HB.out.below hbw hszw).at_ hlt
        have hlti : (k : Int) < n := by omega
        have hm1 : m1 ≤ 1000000 := by have := hi1.len; have := HW.out x (List.mem_of_getElem? hx); omega
        have Hx := hid hx
        have Hy := hid hy
        have HI1 := hid hi1
        have HI2 := hid hi2
        clear hx hy hi1 hi2
        by_cases hxy : x = y
        · subst hxy
          have he := hid (eqI_t.2 (rfl : x = x))
          have Hs := hid (take_eq_succ heq.out Hx.out Hy.out)
          go_wp2_with (go_at_call 65; refine (checkAll1_any A1 A2 m1 c1 m2 c2 x x _ HI1.out HI2.out hm1).mono ?_; rw [he.out]; rintro e w1 ⟨rfl, hb1⟩)
          exact ⟨⟨k + 1, by omega, by go_num, Hs, hbw.trans (hb1.mono hszw)⟩, by simp [intOf]; omega⟩
        · have he : Hid (eqI x y = false) := hid (by simpa [eqI] using hxy)
          have Hf : Hid (eqLL a b = false) := hid (decide_eq_false (ne_of_at Hx.out Hy.out hxy))
          go_wp2_with (go_at_call 65; refine (checkAll1_any A1 A2 m1 c1 m2 c2 x y _ HI1.out HI2.out hm1).mono ?_; rw [he.out]; rintro e w1 ⟨rfl, hb1⟩)
          refine bodyPost_ret (v := .bool false) (by first | (simp [results, Try.results64, go_sem]; done) | (simp [results, Try.results64, go_sem, *]; done) | (simp [results, Try.results64, go_sem, World.cell?_setCell_same', *]; done) | (simp [results, Try.results64, go_sem]; first | exact ⟨rfl, rfl⟩ | rfl)) rfl ⟨by rw [← Hev.out, Hf.out], hbw.trans (hb1.mono hszw)⟩
      · obtain rfl : k = n := by omega
        have Hf : Hid (eqLL a b = true) := hid (decide_eq_true (by
          have := heq.out
          rwa [List.take_of_length_le (by rw [la.out]; exact Nat.le_refl _), List.take_of_length_le (by rw [lb.out]; exact Nat.le_refl _)] at this))
        go_wp2
        refine bodyPost_ret (v := .bool true) (by first | (simp [results, Try.results64, go_sem]; done) | (simp [results, Try.results64, go_sem, *]; done) | (simp [results, Try.results64, go_sem, World.cell?_setCell_same', *]; done) | (simp [results, Try.results64, go_sem]; first | exact ⟨rfl, rfl⟩ | rfl)) rfl ⟨by rw [← Hev.out, Hf.out], hbw⟩
  · have hnmi : ¬ (n : Int) = m := by omega
    have Hf : Hid (eqLL a b = false) := hid (decide_eq_false (fun e => hnm (by rw [← la.out, ← lb.out, e])))
    have t0 : ((n : Int) != (m : Int)) = true := bne_iff_ne.2 hnmi
    go_enter Try.func64, Try.ntmps64
    go_wp2
    refine bodyPost_ret (v := .bool false) (by first | (simp [results, Try.results64, go_sem]; done) | (simp [results, Try.results64, go_sem, *]; done) | (simp [results, Try.results64, go_sem, World.cell?_setCell_same', *]; done) | (simp [results, Try.results64, go_sem]; first | exact ⟨rfl, rfl⟩ | rfl)) rfl ⟨by rw [← Hev.out, Hf.out], Below.refl _ _⟩
/-- CheckAll's answer. -/
def callE (I : Int) (ls ss : List (List Int)) : Int := if lisE I ls ss ≠ 0 then lisE I ls ss else if allP ls = ss then 0 else 14
theorem allP_short (ls : List (List Int)) : ∀ l ∈ allP ls, l.length ≤ 1000000 := fun l hl => by
  have := isL_len8 (allP_isL ls l hl) (by omega); omega
set_option maxRecDepth 100000 in
set_option maxHeartbeats 1600000 in
theorem checkAll_any (A B : Option Addr) (n c m d : Nat) (ls ss : List (List Int)) (I : Int) (w : World) (hl : LiS w w.heap.size A n ls) (hs : LiS w w.heap.size B m ss) (hn : n ≤ 1000000) (hw : ∀ l ∈ ls, l.length ≤ 1000000) (hm : m ≤ 1000000) (hws : ∀ l ∈ ss, l.length ≤ 1000000) :
    Calls Try.prog 29 #[.agg #[.int .i64 I, .slice A n c], .slice B m d] w fun e w' => e = .returned (.int .i64 (callE I ls ss)) ∧ Below w.heap.size w w' := by
  have HL := hid hl
  have HS := hid hs
  clear hl hs
  by_cases he : lisE I ls ss = 0
  · have HO := hid (fun w h1 h2 => listedP_ok A B n c m d ls ss I w h1 h2 hn hw hm hws he)
    have hv : Hid (callE I ls ss = if allP ls = ss then 0 else 14) := hid (if_neg (by simpa using he))
    have HA := hid (fun g w h => all_any g I A n c ls w h hn (book8 (lisE_good he).1))
    have hal := allP_len ls
    have hsh := allP_short ls
    have HE := hid (fun w A' n' c' (h1 : LiS w w.heap.size A' n' (allP ls)) h2 => equalFunc_any A' B n' c' m d (allP ls) ss w h1 h2 (by have := h1.1; omega) hsh)
    have hev : Hid (eqLL (allP ls) ss = decide (allP ls = ss)) := rfl
    obtain ⟨mv, hmv⟩ : ∃ mv, allP ls = mv := ⟨_, rfl⟩
    rw [hmv] at hv HA HE hev
    clear he hmv hal hsh
    by_cases hms : mv = ss
    all_goals
      first | rw [if_pos hms] at hv | rw [if_neg hms] at hv
      first | rw [decide_eq_true hms] at hev | rw [decide_eq_false hms] at hev
      clear hms
      go_enter Try.func29, Try.ntmps29
      go_wp2_with (fail)
      refine (HO.out _ (HL.out.below (by repeat' (first | with_reducible assumption | with_reducible exact Below.refl _ _ | refine Below.alloc ?_ ?_ _ | refine Below.setCell ?_ ?_ _ | refine Below.drew ?_ | refine below_drewN ?_ _ | (simp; done) | (simp; omega) | omega)) (by first | (simp; done) | (simp; omega) | omega)) (HS.out.below (by repeat' (first | with_reducible assumption | with_reducible exact Below.refl _ _ | refine Below.alloc ?_ ?_ _ | refine Below.setCell ?_ ?_ _ | refine Below.drew ?_ | refine below_drewN ?_ _ | (simp; done) | (simp; omega) | omega)) (by first | (simp; done) | (simp; omega) | omega))).mono ?_
      rintro e w1 ⟨g, rfl, hg, hd, hb1⟩
      have hbel : Below w.heap.size w w1 := Below.trans (by repeat' (first | with_reducible assumption | with_reducible exact Below.refl _ _ | refine Below.alloc ?_ ?_ _ | refine Below.setCell ?_ ?_ _ | refine Below.drew ?_ | refine below_drewN ?_ _ | (simp; done) | (simp; omega) | omega)) (hb1.mono (by first | (simp; done) | (simp; omega) | omega))
      have HD := hid hd
      clear hd hb1
      go_wp2_with (fail)
      refine (HA.out _ _ HD.out).mono ?_
      rintro e w2 ⟨A7, m7, c7, rfl, -, hi2, hb2⟩
      have hbe2 := hbel.trans (hb2.mono hbel.size)
      have HI := hid hi2.lis
      clear hi2 hb2
      go_wp2_with (fail)
      refine (HE.out _ A7 m7 c7 HI.out (HS.out.below hbe2 hbe2.size)).mono ?_
      rw [hev.out]
      rintro e w3 ⟨rfl, hb3⟩
      have hbe3 := hbe2.trans (hb3.mono hbe2.size)
      go_wp2
    · refine bodyPost_ret (v := .int .i64 0) (by first | (simp [results, Try.results29, go_sem]; done) | (simp [results, Try.results29, go_sem, *]; done) | (simp [results, Try.results29, go_sem, World.cell?_setCell_same', *]; done) | (simp [results, Try.results29, go_sem]; first | exact ⟨rfl, rfl⟩ | rfl)) rfl ⟨by rw [hv.out], hbe3⟩
    · refine bodyPost_ret (v := .int .i64 14) (by first | (simp [results, Try.results29, go_sem]; done) | (simp [results, Try.results29, go_sem, *]; done) | (simp [results, Try.results29, go_sem, World.cell?_setCell_same', *]; done) | (simp [results, Try.results29, go_sem]; first | exact ⟨rfl, rfl⟩ | rfl)) rfl ⟨by rw [hv.out], hbe3⟩
  · have hv : Hid (callE I ls ss = lisE I ls ss) := hid (if_pos he)
    have HO := hid (fun w h1 h2 => listedP_bad A B n c m d ls ss I w h1 h2 hn hw hm hws he)
    obtain ⟨ev, hev⟩ : ∃ ev, lisE I ls ss = ev := ⟨_, rfl⟩
    rw [hev] at hv HO he
    have hbi : (ev != 0) = true := by simpa using he
    clear hev
    go_enter Try.func29, Try.ntmps29
    go_wp2_with (fail)
    refine (HO.out _ (HL.out.below (by repeat' (first | with_reducible assumption | with_reducible exact Below.refl _ _ | refine Below.alloc ?_ ?_ _ | refine Below.setCell ?_ ?_ _ | refine Below.drew ?_ | refine below_drewN ?_ _ | (simp; done) | (simp; omega) | omega)) (by first | (simp; done) | (simp; omega) | omega)) (HS.out.below (by repeat' (first | with_reducible assumption | with_reducible exact Below.refl _ _ | refine Below.alloc ?_ ?_ _ | refine Below.setCell ?_ ?_ _ | refine Below.drew ?_ | refine below_drewN ?_ _ | (simp; done) | (simp; omega) | omega)) (by first | (simp; done) | (simp; omega) | omega))).mono ?_
    rintro e w1 ⟨rfl, hb1⟩
    have hbel : Below w.heap.size w w1 := Below.trans (by repeat' (first | with_reducible assumption | with_reducible exact Below.refl _ _ | refine Below.alloc ?_ ?_ _ | refine Below.setCell ?_ ?_ _ | refine Below.drew ?_ | refine below_drewN ?_ _ | (simp; done) | (simp; omega) | omega)) (hb1.mono (by first | (simp; done) | (simp; omega) | omega))
    go_wp2
    refine bodyPost_ret (v := .int .i64 ev) (by first | (simp [results, Try.results29, go_sem]; done) | (simp [results, Try.results29, go_sem, *]; done) | (simp [results, Try.results29, go_sem, World.cell?_setCell_same', *]; done) | (simp [results, Try.results29, go_sem]; first | exact ⟨rfl, rfl⟩ | rfl)) rfl ⟨by rw [hv.out], hbel⟩
end Go.Proofs.Ytnpilfpackdimaa
/- Walks: Forgotten, Kind, Core, Dual. -/
namespace Go.Proofs.Ytnpilfpackdimaa
open Go.RowKit Go.Shelf
attribute [local go_sem] Oper.semAt_some run_store_func
/-- A set holds none of some. -/
def forgB (ss : List (List Int)) (l : List Int) : Bool := !ss.any fun part => part.all (inB (bitsL l))
theorem enForgotten11 : ∀ args w, (callFunc 56 args).run Try.prog w = .ok (.enter 56 args) w := enters_of Try.func56 (by kernel_rfl) rfl
theorem enForgotten1 : ∀ args w, (callFunc 55 args).run Try.prog w = .ok (.enter 55 args) w := enters_of Try.func55 (by kernel_rfl) rfl
set_option maxRecDepth 100000 in
set_option maxHeartbeats 800000 in
theorem forgotten11_any (A B : Option Addr) (n c m d g : Nat) (p l : List Int) (w : World) (hp : InS w w.heap.size A n p) (hl : InS w w.heap.size B m l) (c0 : w.cell? ⟨g, 0, none⟩ = some (.slice B m d)) (hn : n ≤ 1000000) (hm : m ≤ 1000000) (hpb : ∀ x ∈ p, 0 ≤ x ∧ x < 8) (hlb : ∀ x ∈ l, 0 ≤ x ∧ x < 8) (lg : g < w.heap.size) :
    Calls Try.prog 56 #[.slice A n c, .pointer (some ⟨g, 0, none⟩)] w fun e w' => e = .returned (.bool (p.all (inB (bitsL l)))) ∧ Below w.heap.size w w' := by
  have HP := hid hp
  have HL := hid hl
  have Hlb := hid hlb
  have HM := hid (fun W h => marksHas_any (bitsL l) A n c p W h hn hpb)
  obtain ⟨bw, hbw⟩ : ∃ bw, p.all (inB (bitsL l)) = bw := ⟨_, rfl⟩
  rw [hbw] at HM ⊢
  clear hp hl hlb hpb hbw
  go_enter Try.func56, Try.ntmps56
  go_wp2_with (fail)
  refine (marked_any B m d l _ HL.out hm Hlb.out).mono ?_
  rintro e w1 ⟨rfl, hb1⟩
  go_wp2_with (fail)
  refine (HM.out _ (HP.out.below hb1 hb1.size)).mono ?_
  rintro e w2 ⟨rfl, hb2⟩
  go_wp2
  refine bodyPost_ret (v := .bool bw) (by first | (simp [results, Try.results56, go_sem]; done) | (simp [results, Try.results56, go_sem, *]; done) | (simp [results, Try.results56, go_sem, World.cell?_setCell_same', *]; done) | (simp [results, Try.results56, go_sem]; first | exact ⟨rfl, rfl⟩ | rfl)) rfl ⟨rfl, hb1.trans (hb2.mono hb1.size)⟩
set_option maxRecDepth 100000 in
set_option maxHeartbeats 800000 in
theorem forgotten1_any (A B : Option Addr) (n c m d g : Nat) (l : List Int) (ss : List (List Int)) (w : World) (hl : InS w w.heap.size A n l) (hs : LiS w w.heap.size B m ss) (c0 : w.cell? ⟨g, 0, none⟩ = some (.slice B m d)) (hn : n ≤ 1000000) (hm : m ≤ 1000000) (hlb : ∀ x ∈ l, 0 ≤ x ∧ x < 8) (hsb : ∀ p ∈ ss, isL 8 0 p = true) (lg : g < w.heap.size) :
    Calls Try.prog 55 #[.slice A n c, .pointer (some ⟨g, 0, none⟩)] w fun e w' => e = .returned (.bool (forgB ss l)) ∧ Below w.heap.size w w' := by
  obtain ⟨W2, hW2⟩ : ∃ W2, w.alloc (.cells #[.slice A n c] 25) = W2 := ⟨_, rfl⟩
  have hb2 : Below w.heap.size w W2 := by rw [← hW2]; exact (Below.refl _ _).alloc (Nat.le_refl _) _
  have B2 : Blk W2 w.heap.size 25 #[.slice A n c] := by rw [← hW2]; exact Blk.new' rfl
  have c1 : W2.cell? ⟨g, 0, none⟩ = some (.slice B m d) := (hb2.cell (p := ⟨g, 0, none⟩) lg).trans c0
  have lg2 : g < W2.heap.size := Nat.lt_of_lt_of_le lg hb2.size
  have hc := conFL_any 56 #[.pointer (some ⟨w.heap.size, 0, none⟩)] enForgotten11 (fun part => part.all (inB (bitsL l))) B m d ss W2 (hs.below hb2 hb2.size) hm (fun x hx A' m' c' W hW hin => by
    have hxv := hsb x hx
    exact forgotten11_any A' A m' c' n c w.heap.size x l W hin (hl.below (hb2.trans (hW.mono hb2.size)) (Nat.le_trans hb2.size hW.size)) ((hW.cell (p := ⟨w.heap.size, 0, none⟩) B2.lt).trans (B2.cell 0)) (by have := isL_len8 hxv (by omega); have := hin.len; omega) hn (isL_bd hxv) hlb (Nat.lt_of_lt_of_le B2.lt hW.size))
  have hf : Hid (forgB ss l = !ss.any fun part => part.all (inB (bitsL l))) := rfl
  obtain ⟨bw, hbw⟩ : ∃ bw, ss.any (fun part => part.all (inB (bitsL l))) = bw := ⟨_, rfl⟩
  rw [hbw] at hc hf
  clear hbw hl hs hlb hsb c0 B2
  go_enter Try.func55, Try.ntmps55
  go_wp2_with (go_at_call 46; refine hc.mono ?_; rintro e w1 ⟨rfl, hb1⟩)
  refine bodyPost_ret (v := .bool (!bw)) (by first | (simp [results, Try.results55, go_sem]; done) | (simp [results, Try.results55, go_sem, *]; done) | (simp [results, Try.results55, go_sem, World.cell?_setCell_same', *]; done) | (simp [results, Try.results55, go_sem]; first | exact ⟨rfl, rfl⟩ | rfl)) rfl ⟨by rw [hf.out], hb2.trans (hb1.mono hb2.size)⟩
set_option maxRecDepth 10000 in
set_option maxHeartbeats 800000 in
theorem findL_any (g : Nat) (cb : Array Value) (eg : ∀ args w, (callFunc g args).run Try.prog w = .ok (.enter g args) w) (p : List Int → Bool) (A : Option Addr) (n c : Nat) (ls : List (List Int)) (w : World) (hl : LiS w w.heap.size A n ls) (hn : n ≤ 1000000) (hp : ∀ x ∈ ls, ∀ (A' : Option Addr) (m c' : Nat) (W : World), Below w.heap.size w W → InS W W.heap.size A' m x → Calls Try.prog g (#[.slice A' m c'] ++ cb) W fun e w' => e = .returned (.bool (p x)) ∧ Below W.heap.size W w') :
    Calls Try.prog 58 #[.slice A n c, .func (.func g) #[] cb] w fun e w' => ∃ A' m' c', e = .returned (.tuple #[.slice A' m' c', .bool (ls.find? p).isSome]) ∧ InS w' w'.heap.size A' m' ((ls.find? p).getD []) ∧ Below w.heap.size w w' := by
  have hlen := hid hl.1
  have HL := hid hl
  have HP := hid hp
  clear hp hl
  obtain ⟨fv, hfv⟩ : ∃ fv, ls.find? p = fv := ⟨_, rfl⟩
  have Hfv := hid hfv
  rw [hfv]
  clear hfv
  go_enter Try.func58, Try.ntmps58
  go_wp2
  go_loopw [11] (fun i wr => ∃ k : Nat, k ≤ n ∧ i = .int .i64 k ∧ Hid ((ls.take k).find? p = none) ∧ Below w.heap.size w wr) (fun i _ => n - (intOf i).toNat)
  case atStart => exact ⟨0, by omega, rfl, hid (by simp), Below.refl _ _⟩
  case round =>
    obtain ⟨k, hk, rfl, hno, hbw⟩ := hrel
    have hszw := hbw.size
    by_cases hlt : k < n
    · obtain ⟨b, off, x, A', m, c', rfl, hb, hm, c0, hin⟩ := (HL.out.below hbw hszw).at_ hlt
      have Hm := hid hm
      have hlti : (k : Int) < n := by omega
      have hc := HP.out x (List.mem_of_getElem? hm) A' m c' wr hbw hin
      have HI := hid hin
      clear hm hin
      cases hx : p x
      · have Hs := hid (find_off hno.out Hm.out hx)
        rw [hx] at hc
        clear hx
        go_wp2_with (go_at_fn g; refine hc.mono ?_; rintro e w1 ⟨rfl, hb1⟩)
        exact ⟨⟨k + 1, by omega, by go_num, Hs, hbw.trans (hb1.mono hszw)⟩, by simp [intOf]; omega⟩
      · have Hf := hid (find_hit hno.out Hm.out hx)
        rw [hx] at hc
        clear hx
        go_wp2_with (go_at_fn g; refine hc.mono ?_; rintro e w1 ⟨rfl, hb1⟩)
        have hfx : fv = some x := by rw [← Hfv.out, Hf.out]
        refine bodyPost_ret (v := .tuple #[.slice A' m c', .bool true]) (by first | (simp [results, Try.results58, go_sem]; done) | (simp [results, Try.results58, go_sem, *]; done) | (simp [results, Try.results58, go_sem, World.cell?_setCell_same', *]; done) | (simp [results, Try.results58, go_sem]; first | exact ⟨rfl, rfl⟩ | rfl)) rfl ⟨A', m, c', by rw [hfx]; rfl, by rw [hfx]; exact HI.out.below hb1 hb1.size, hbw.trans (hb1.mono hszw)⟩
    · obtain rfl : k = n := by omega
      have Hf : Hid (fv = none) := hid (by rw [← Hfv.out]; have := hno.out; rwa [List.take_of_length_le (by rw [hlen.out]; exact Nat.le_refl _)] at this)
      go_wp2
      refine bodyPost_ret (v := .tuple #[.slice none 0 0, .bool false]) (by first | (simp [results, Try.results58, go_sem]; done) | (simp [results, Try.results58, go_sem, *]; done) | (simp [results, Try.results58, go_sem, World.cell?_setCell_same', *]; done) | (simp [results, Try.results58, go_sem]; first | exact ⟨rfl, rfl⟩ | rfl)) rfl ⟨none, 0, 0, by rw [Hf.out]; rfl, by rw [Hf.out]; exact Sl.none_, hbw⟩
/-- Forgotten's answer. -/
def forO (ls ss : List (List Int)) : Option (List Int) := (allP ls).find? (forgB ss)
def forE (I : Int) (ls ss : List (List Int)) : Int := if lisE I ls ss ≠ 0 then lisE I ls ss else if (forO ls ss).isSome then 0 else 5
def forV (I : Int) (ls ss : List (List Int)) : List Int := if lisE I ls ss ≠ 0 then [] else (forO ls ss).getD []
set_option maxRecDepth 100000 in
set_option maxHeartbeats 1600000 in
theorem forgotten_any (A B : Option Addr) (n c m d : Nat) (ls ss : List (List Int)) (I : Int) (w : World) (hl : LiS w w.heap.size A n ls) (hs : LiS w w.heap.size B m ss) (hn : n ≤ 1000000) (hw : ∀ l ∈ ls, l.length ≤ 1000000) (hm : m ≤ 1000000) (hws : ∀ l ∈ ss, l.length ≤ 1000000) :
    Calls Try.prog 23 #[.agg #[.int .i64 I, .slice A n c], .slice B m d] w fun e w' => ∃ A' m' c', e = .returned (.tuple #[.slice A' m' c', .int .i64 (forE I ls ss)]) ∧ InS w' w'.heap.size A' m' (forV I ls ss) ∧ Below w.heap.size w w' := by
  have HL := hid hl
  have HS := hid hs
  clear hl hs
  by_cases he : lisE I ls ss = 0
  · obtain ⟨hcb, h80, ho⟩ := lisE_good he
    obtain ⟨-, hsv⟩ := openE_good ho
    have hs8 : ∀ l ∈ ss, isL 8 0 l = true := fun l hl => isL8 (hsv l hl) (book_good hcb).2.1
    have HO := hid (fun w h1 h2 => listedP_ok A B n c m d ls ss I w h1 h2 hn hw hm hws he)
    have hv : Hid (forE I ls ss = if (forO ls ss).isSome then 0 else 5) := hid (if_neg (by simpa using he))
    have hv2 : Hid (forV I ls ss = (forO ls ss).getD []) := hid (if_neg (by simpa using he))
    have HA := hid (fun g w h => all_any g I A n c ls w h hn (book8 hcb))
    have hal := allP_len ls
    have HF := hid (fun W (g2 : Nat) (A' : Option Addr) (n' c' : Nat) (h1 : LiS W W.heap.size A' n' (allP ls)) (h2 : LiS W W.heap.size B m ss) (q2 : W.cell? ⟨g2, 0, none⟩ = some (.slice B m d)) (l2 : g2 < W.heap.size) => findL_any 55 #[.pointer (some ⟨g2, 0, none⟩)] enForgotten1 (forgB ss) A' n' c' (allP ls) W h1 (by have := h1.1; omega) (fun x hx A3 m3 c3 V hV hin => by
      have hxv := allP_isL ls x hx
      exact forgotten1_any A3 B m3 c3 m d g2 x ss V hin (h2.below hV hV.size) ((hV.cell (p := ⟨g2, 0, none⟩) l2).trans q2) (by have := isL_len8 hxv (by omega); have := hin.len; omega) hm (isL_bd hxv) hs8 (Nat.lt_of_lt_of_le l2 hV.size)))
    have hfo : Hid ((allP ls).find? (forgB ss) = forO ls ss) := rfl
    obtain ⟨mv, hmv⟩ : ∃ mv, allP ls = mv := ⟨_, rfl⟩
    obtain ⟨fo, hfoe⟩ : ∃ fo, forO ls ss = fo := ⟨_, rfl⟩
    rw [hmv] at HA HF hfo
    rw [hfoe] at hv hv2 hfo
    rw [hfo.out] at HF
    clear he hmv hal hcb h80 ho hsv hs8 hfoe hfo
    go_enter Try.func23, Try.ntmps23
    go_wp2_with (fail)
    refine (HO.out _ (HL.out.below (by repeat' (first | with_reducible assumption | with_reducible exact Below.refl _ _ | refine Below.alloc ?_ ?_ _ | refine Below.setCell ?_ ?_ _ | refine Below.drew ?_ | refine below_drewN ?_ _ | (simp; done) | (simp; omega) | omega)) (by first | (simp; done) | (simp; omega) | omega)) (HS.out.below (by repeat' (first | with_reducible assumption | with_reducible exact Below.refl _ _ | refine Below.alloc ?_ ?_ _ | refine Below.setCell ?_ ?_ _ | refine Below.drew ?_ | refine below_drewN ?_ _ | (simp; done) | (simp; omega) | omega)) (by first | (simp; done) | (simp; omega) | omega))).mono ?_
    rintro e w1 ⟨g, rfl, hg, hd, hb1⟩
    have hbel : Below w.heap.size w w1 := Below.trans (by repeat' (first | with_reducible assumption | with_reducible exact Below.refl _ _ | refine Below.alloc ?_ ?_ _ | refine Below.setCell ?_ ?_ _ | refine Below.drew ?_ | refine below_drewN ?_ _ | (simp; done) | (simp; omega) | omega)) (hb1.mono (by first | (simp; done) | (simp; omega) | omega))
    have c3 : w1.cell? ⟨w.heap.size + 1, 0, none⟩ = some (.slice B m d) := (hb1.cell (p := ⟨w.heap.size + 1, 0, none⟩) (by first | (simp; done) | (simp; omega) | omega)).trans (by go_simp)
    have hq1 : w.heap.size + 1 < w1.heap.size := (by have := hb1.size; simp at this; omega)
    have HD := hid hd
    clear hd hb1
    go_wp2_with (fail)
    refine (HA.out _ _ HD.out).mono ?_
    rintro e w2 ⟨A7, m7, c7, rfl, -, hi2, hb2⟩
    have hbe2 := hbel.trans (hb2.mono hbel.size)
    have HI := hid hi2.lis
    have c4 : w2.cell? ⟨w.heap.size + 1, 0, none⟩ = some (.slice B m d) := (hb2.cell (p := ⟨w.heap.size + 1, 0, none⟩) hq1).trans c3
    have hq2 : w.heap.size + 1 < w2.heap.size := Nat.lt_of_lt_of_le hq1 hb2.size
    have C4 := hid c4
    clear hi2 hb2 c3 c4
    go_wp2_with (fail)
    refine (HF.out _ (w.heap.size + 1) A7 m7 c7 HI.out (HS.out.below hbe2 hbe2.size) C4.out hq2).mono ?_
    rintro e w3 ⟨A8, m8, c8, rfl, hi3, hb3⟩
    have hbe3 := hbe2.trans (hb3.mono hbe2.size)
    have HI3 := hid hi3
    clear hi3 hb3
    cases fo with
    | none =>
      simp only [Option.isSome_none]
      go_wp2
      refine bodyPost_ret (v := .tuple #[.slice none 0 0, .int .i64 5]) (by first | (simp [results, Try.results23, go_sem]; done) | (simp [results, Try.results23, go_sem, *]; done) | (simp [results, Try.results23, go_sem, World.cell?_setCell_same', *]; done) | (simp [results, Try.results23, go_sem]; first | exact ⟨rfl, rfl⟩ | rfl)) rfl ⟨none, 0, 0, by rw [hv.out]; rfl, by rw [hv2.out]; exact Sl.none_, hbe3⟩
    | some x =>
      simp only [Option.isSome_some]
      go_wp2
      refine bodyPost_ret (v := .tuple #[.slice A8 m8 c8, .int .i64 0]) (by first | (simp [results, Try.results23, go_sem]; done) | (simp [results, Try.results23, go_sem, *]; done) | (simp [results, Try.results23, go_sem, World.cell?_setCell_same', *]; done) | (simp [results, Try.results23, go_sem]; first | exact ⟨rfl, rfl⟩ | rfl)) rfl ⟨A8, m8, c8, by rw [hv.out]; rfl, by rw [hv2.out]; exact HI3.out, hbe3⟩
  · have hv : Hid (forE I ls ss = lisE I ls ss) := hid (if_pos he)
    have hv2 : Hid (forV I ls ss = []) := hid (if_pos he)
    have HO := hid (fun w h1 h2 => listedP_bad A B n c m d ls ss I w h1 h2 hn hw hm hws he)
    obtain ⟨ev, hev⟩ : ∃ ev, lisE I ls ss = ev := ⟨_, rfl⟩
    rw [hev] at hv HO he
    have hbi : (ev != 0) = true := by simpa using he
    clear hev
    go_enter Try.func23, Try.ntmps23
    go_wp2_with (fail)
    refine (HO.out _ (HL.out.below (by repeat' (first | with_reducible assumption | with_reducible exact Below.refl _ _ | refine Below.alloc ?_ ?_ _ | refine Below.setCell ?_ ?_ _ | refine Below.drew ?_ | refine below_drewN ?_ _ | (simp; done) | (simp; omega) | omega)) (by first | (simp; done) | (simp; omega) | omega)) (HS.out.below (by repeat' (first | with_reducible assumption | with_reducible exact Below.refl _ _ | refine Below.alloc ?_ ?_ _ | refine Below.setCell ?_ ?_ _ | refine Below.drew ?_ | refine below_drewN ?_ _ | (simp; done) | (simp; omega) | omega)) (by first | (simp; done) | (simp; omega) | omega))).mono ?_
    rintro e w1 ⟨rfl, hb1⟩
    have hbel : Below w.heap.size w w1 := Below.trans (by repeat' (first | with_reducible assumption | with_reducible exact Below.refl _ _ | refine Below.alloc ?_ ?_ _ | refine Below.setCell ?_ ?_ _ | refine Below.drew ?_ | refine below_drewN ?_ _ | (simp; done) | (simp; omega) | omega)) (hb1.mono (by first | (simp; done) | (simp; omega) | omega))
    go_wp2
    refine bodyPost_ret (v := .tuple #[.slice none 0 0, .int .i64 ev]) (by first | (simp [results, Try.results23, go_sem]; done) | (simp [results, Try.results23, go_sem, *]; done) | (simp [results, Try.results23, go_sem, World.cell?_setCell_same', *]; done) | (simp [results, Try.results23, go_sem]; first | exact ⟨rfl, rfl⟩ | rfl)) rfl ⟨none, 0, 0, by rw [hv.out], by rw [hv2.out]; exact Sl.none_, hbel⟩
end Go.Proofs.Ytnpilfpackdimaa
/- Walks: Kind, Core, Dual. -/
namespace Go.Proofs.Ytnpilfpackdimaa
open Go.RowKit Go.Shelf
attribute [local go_sem] Oper.semAt_some run_store_func
theorem enKind1 : ∀ args w, (callFunc 61 args).run Try.prog w = .ok (.enter 61 args) w := enters_of Try.func61 (by kernel_rfl) rfl
set_option maxHeartbeats 800000 in
theorem kind1_any (A : Option Addr) (n c g : Nat) (l : List Int) (inn : Int) (w : World) (hl : InS w w.heap.size A n l) (c0 : w.cell? ⟨g, 0, none⟩ = some (.int .i64 inn)) (hn : n ≤ 1000000) (lg : g < w.heap.size) :
    Calls Try.prog 61 #[.slice A n c, .pointer (some ⟨g, 0, none⟩)] w fun e w' => e = .returned (.bool (!has l inn)) ∧ Below w.heap.size w w' := by
  have hc := contains_any A n c l inn w hl hn
  obtain ⟨bw, hbw⟩ : ∃ bw, has l inn = bw := ⟨_, rfl⟩
  rw [hbw] at hc ⊢
  clear hbw hl
  go_enter Try.func61, Try.ntmps61
  go_wp2_with (go_at_call 62; refine hc.mono ?_; rintro e w1 ⟨rfl, rfl⟩)
  refine bodyPost_ret (v := .bool (!bw)) (by first | (simp [results, Try.results61, go_sem]; done) | (simp [results, Try.results61, go_sem, *]; done) | (simp [results, Try.results61, go_sem, World.cell?_setCell_same', *]; done) | (simp [results, Try.results61, go_sem]; first | exact ⟨rfl, rfl⟩ | rfl)) rfl ⟨rfl, Below.refl _ _⟩
/-- Kind's answer. -/
def kinN (ls : List (List Int)) (inn : Int) : Nat := ((allP ls).filter fun x => has x inn).length
def kinE (I : Int) (ls : List (List Int)) (inn : Int) : Int := if chkBook I ls ≠ 0 then chkBook I ls else if inn < 0 ∨ I ≤ inn then 2 else if (allP ls).length = 0 then 21 else 0
def kinV (I : Int) (ls : List (List Int)) (inn : Int) : Int := if chkBook I ls ≠ 0 then 0 else if inn < 0 ∨ I ≤ inn then 0 else if (allP ls).length = 0 then 0 else if kinN ls inn = (allP ls).length then 2 else if kinN ls inn = 0 then 0 else 1
set_option maxRecDepth 100000 in
set_option maxHeartbeats 4000000 in
theorem kind_any (A : Option Addr) (n c : Nat) (ls : List (List Int)) (I inn : Int) (w : World) (hl : LiS w w.heap.size A n ls) (hn : n ≤ 1000000) (hw : ∀ l ∈ ls, l.length ≤ 1000000) :
    Calls Try.prog 24 #[.agg #[.int .i64 I, .slice A n c], .int .i64 inn] w fun e w' => e = .returned (.tuple #[.int .i64 (kinV I ls inn), .int .i64 (kinE I ls inn)]) ∧ Below w.heap.size w w' := by
  have HL := hid hl
  have HW := hid hw
  clear hl hw
  by_cases he : chkBook I ls = 0
  · obtain ⟨h1, h8, h10, -⟩ := book_good he
    have HO := hid (fun w h => open_ok A none n c 0 0 ls [] I w h (lis_nil _ _) hn HW.out (by omega) (by simp) (by rw [openE_nil]; exact he))
    have hv : Hid (kinE I ls inn = if inn < 0 ∨ I ≤ inn then 2 else if (allP ls).length = 0 then 21 else 0) := hid (if_neg (by simpa using he))
    have hv2 : Hid (kinV I ls inn = if inn < 0 ∨ I ≤ inn then 0 else if (allP ls).length = 0 then 0 else if kinN ls inn = (allP ls).length then 2 else if kinN ls inn = 0 then 0 else 1) := hid (if_neg (by simpa using he))
    have z1 : IntKind.i64.wrap (I - 1) = I - 1 := IntWalk.i64_in _ (by omega)
    cases hr : inR 0 (I - 1) inn
    · have hr' := inR_f.1 hr
      rw [if_pos (by omega)] at hv hv2
      have Hr := hid ((all_one (p := inR 0 (I - 1)) inn).trans hr)
      clear hr hr' he h10
      go_enter Try.func24, Try.ntmps24
      go_wp2_with (fail)
      refine (HO.out _ (HL.out.below (by repeat' (first | with_reducible assumption | with_reducible exact Below.refl _ _ | refine Below.alloc ?_ ?_ _ | refine Below.setCell ?_ ?_ _ | refine Below.drew ?_ | refine below_drewN ?_ _ | (simp; done) | (simp; omega) | omega)) (by first | (simp; done) | (simp; omega) | omega))).mono ?_
      rintro e w1 ⟨g, rfl, hg, hd, hb1⟩
      have hbel : Below w.heap.size w w1 := Below.trans (by repeat' (first | with_reducible assumption | with_reducible exact Below.refl _ _ | refine Below.alloc ?_ ?_ _ | refine Below.setCell ?_ ?_ _ | refine Below.drew ?_ | refine below_drewN ?_ _ | (simp; done) | (simp; omega) | omega)) (hb1.mono (by first | (simp; done) | (simp; omega) | omega))
      have c2 : w1.cell? ⟨w.heap.size, 0, none⟩ = some (.int .i64 I) := (hb1.cell (p := ⟨w.heap.size, 0, none⟩) (by first | (simp; done) | (simp; omega) | omega)).trans (by go_simp)
      have c3 : w1.cell? ⟨w.heap.size + 1, 0, none⟩ = some (.int .i64 inn) := (hb1.cell (p := ⟨w.heap.size + 1, 0, none⟩) (by first | (simp; done) | (simp; omega) | omega)).trans (by go_simp)
      have hq1 : w.heap.size + 1 < w1.heap.size := (by have := hb1.size; simp at this; omega)
      have hq0 : w.heap.size < w1.heap.size := by omega
      clear hd hb1
      go_wp2_with (fail)
      refine (within_any _ 1 1 [inn] 0 (I - 1) _ (inS_lit1 inn (by first | (simp; done) | (simp; omega) | omega) (by first | (simp; done) | (simp; omega) | omega)) (by omega)).mono ?_
      rw [Hr.out]
      rintro e w2 ⟨rfl, hb2⟩
      have hsz := hbel.size
      have hbe2 : Below w.heap.size w w2 := (hbel.alloc hsz (.cells #[.int .i64 inn] 3)).trans (hb2.mono (by simp; omega))
      go_wp2
      refine bodyPost_ret (v := .tuple #[.int .i64 0, .int .i64 2]) (by first | (simp [results, Try.results24, go_sem]; done) | (simp [results, Try.results24, go_sem, *]; done) | (simp [results, Try.results24, go_sem, World.cell?_setCell_same', *]; done) | (simp [results, Try.results24, go_sem]; first | exact ⟨rfl, rfl⟩ | rfl)) rfl ⟨by rw [hv.out, hv2.out], hbe2⟩
    · have hr' := inR_t.1 hr
      rw [if_neg (by omega)] at hv hv2
      have Hr := hid ((all_one (p := inR 0 (I - 1)) inn).trans hr)
      have HA := hid (fun g w h => all_any g I A n c ls w h hn (book8 he))
      have hal := allP_len ls
      have hsh := allP_short ls
      have HCl := hid (fun A' n' c' W (h : LiP W W.heap.size A' n' (allP ls)) h1 => cloneL_any A' n' c' (allP ls) W h h1 (by have := h.1; omega))
      have HDe := hid (fun (w0 W : World) (q n' cap g : Nat) hb hN hnl (q3 : w0.cell? ⟨g, 0, none⟩ = some (.int .i64 inn)) (lg : g < w0.heap.size) => delL_any w0 W q n' cap (allP ls) 61 #[.pointer (some ⟨g, 0, none⟩)] enKind1 (fun x => !has x inn) (fun x hx A3 m3 c3 V hV hin => kind1_any A3 m3 c3 g x inn V hin ((hV.cell (p := ⟨g, 0, none⟩) lg).trans q3) (by have := hsh x hx; have := hin.len; omega) (Nat.lt_of_lt_of_le lg hV.size)) hb hN hnl (by omega))
      have HDn := hid (fun W (g : Nat) => delL_nil 61 #[.pointer (some ⟨g, 0, none⟩)] enKind1 W)
      have hkn : Hid (kinN ls inn = ((allP ls).filter fun x => !!has x inn).length) := hid (by unfold kinN; simp)
      have hkl : kinN ls inn ≤ (allP ls).length := List.length_filter_le _ _
      obtain ⟨mv, hmv⟩ : ∃ mv, allP ls = mv := ⟨_, rfl⟩
      rw [hmv] at hv hv2 HA HCl HDe hkn hal hkl
      obtain ⟨kn, hkne⟩ : ∃ kn, kinN ls inn = kn := ⟨_, rfl⟩
      rw [hkne] at hv2 hkn hkl
      obtain ⟨mn, hmn⟩ : ∃ mn, mv.length = mn := ⟨_, rfl⟩
      have Hmn := hid hmn
      rw [hmn] at hv hv2 hal hkl
      clear he hmv hsh hr hkne hmn h10
      go_enter Try.func24, Try.ntmps24
      go_wp2_with (fail)
      refine (HO.out _ (HL.out.below (by repeat' (first | with_reducible assumption | with_reducible exact Below.refl _ _ | refine Below.alloc ?_ ?_ _ | refine Below.setCell ?_ ?_ _ | refine Below.drew ?_ | refine below_drewN ?_ _ | (simp; done) | (simp; omega) | omega)) (by first | (simp; done) | (simp; omega) | omega))).mono ?_
      rintro e w1 ⟨g, rfl, hg, hd, hb1⟩
      have hbel : Below w.heap.size w w1 := Below.trans (by repeat' (first | with_reducible assumption | with_reducible exact Below.refl _ _ | refine Below.alloc ?_ ?_ _ | refine Below.setCell ?_ ?_ _ | refine Below.drew ?_ | refine below_drewN ?_ _ | (simp; done) | (simp; omega) | omega)) (hb1.mono (by first | (simp; done) | (simp; omega) | omega))
      have c2 : w1.cell? ⟨w.heap.size, 0, none⟩ = some (.int .i64 I) := (hb1.cell (p := ⟨w.heap.size, 0, none⟩) (by first | (simp; done) | (simp; omega) | omega)).trans (by go_simp)
      have c3 : w1.cell? ⟨w.heap.size + 1, 0, none⟩ = some (.int .i64 inn) := (hb1.cell (p := ⟨w.heap.size + 1, 0, none⟩) (by first | (simp; done) | (simp; omega) | omega)).trans (by go_simp)
      have hq1 : w.heap.size + 1 < w1.heap.size := (by have := hb1.size; simp at this; omega)
      have hq0 : w.heap.size < w1.heap.size := by omega
      have C3 := hid c3
      have HD := hid hd
      have hsz := hbel.size
      clear hd hb1
      go_wp2_with (fail)
      refine (within_any _ 1 1 [inn] 0 (I - 1) _ (inS_lit1 inn (by first | (simp; done) | (simp; omega) | omega) (by first | (simp; done) | (simp; omega) | omega)) (by omega)).mono ?_
      rw [Hr.out]
      rintro e w2 ⟨rfl, hb2⟩
      have hb12 : Below w1.heap.size w1 w2 := ((Below.refl _ _).alloc (Nat.le_refl _) (.cells #[.int .i64 inn] 3)).trans (hb2.mono (by simp))
      have hbe2 : Below w.heap.size w w2 := hbel.trans (hb12.mono hsz)
      have hd2 := hid (HD.out.below hb12)
      clear hb2 c2 c3
      go_wp2_with (fail)
      refine (HA.out _ _ hd2.out).mono ?_
      rintro e w3 ⟨A7, m7, c7, rfl, hnil, hi2, hb3⟩
      have hb13 := hb12.trans (hb3.mono hb12.size)
      have hbe3 := hbe2.trans (hb3.mono hbe2.size)
      have HI := hid hi2
      have hm7 : m7 = mn := by have := hi2.1; have := Hmn.out; omega
      subst hm7
      clear hi2 hb3 hb12
      by_cases h0 : m7 = 0
      · obtain ⟨rfl, rfl⟩ := hnil h0
        rw [if_pos h0] at hv hv2
        subst h0
        clear hnil
        go_wp2_with (fail)
        refine (cloneL_nil _).mono ?_
        rintro e w4 ⟨rfl, rfl⟩
        go_wp2_with (fail)
        refine (HDn.out _ _).mono ?_
        rintro e w5 ⟨rfl, hb5⟩
        go_wp2
        refine bodyPost_ret (v := .tuple #[.int .i64 0, .int .i64 21]) (by first | (simp [results, Try.results24, go_sem]; done) | (simp [results, Try.results24, go_sem, *]; done) | (simp [results, Try.results24, go_sem, World.cell?_setCell_same', *]; done) | (simp [results, Try.results24, go_sem]; first | exact ⟨rfl, rfl⟩ | rfl)) rfl ⟨by rw [hv.out, hv2.out], hbe3.trans (hb5.mono hbe3.size)⟩
      · rw [if_neg h0] at hv hv2
        have h0i : ((m7 : Int) == 0) = false := by simpa using h0
        have h0j : ¬ (m7 : Int) = 0 := by omega
        clear hnil
        go_wp2_with (fail)
        refine (HCl.out A7 m7 c7 _ HI.out.lip (by omega)).mono ?_
        rintro e w4 ⟨v4, rfl, hN4, hb4⟩
        obtain ⟨vs, ho4, hat4⟩ := hN4
        obtain ⟨q4, cap4, rfl, hq4, hq4'⟩ := own_form2 ho4 (by rw [Hmn.out]; omega)
        have hN4 : NewLi w4 w3.heap.size _ mv := ⟨vs, ho4, hat4⟩
        have hN5 := hN4.mono (base' := w1.heap.size) hb13.size
        rw [Hmn.out] at hN5 ⊢
        have HN := hid hN5
        have hb14 := hb13.trans (hb4.mono hb13.size)
        have hbe4 := hbe3.trans (hb4.mono hbe3.size)
        clear ho4 hat4 hN4 hN5 hb4
        go_wp2_with (fail)
        refine (HDe.out w1 w4 q4 m7 cap4 (w.heap.size + 1) hb14 HN.out Hmn.out C3.out hq1).mono ?_
        rintro e w5 ⟨A5, n5, c5, rfl, hn5, hb5⟩
        have hbe5 := hbel.trans (hb5.mono hsz)
        have hn5' : n5 = kn := by rw [hn5, hkn.out]
        subst hn5'
        clear hn5 hb5 hkn
        by_cases h2 : n5 = m7
        · rw [if_pos h2] at hv2
          subst h2
          go_wp2
          refine bodyPost_ret (v := .tuple #[.int .i64 2, .int .i64 0]) (by first | (simp [results, Try.results24, go_sem]; done) | (simp [results, Try.results24, go_sem, *]; done) | (simp [results, Try.results24, go_sem, World.cell?_setCell_same', *]; done) | (simp [results, Try.results24, go_sem]; first | exact ⟨rfl, rfl⟩ | rfl)) rfl ⟨by rw [hv.out, hv2.out], hbe5⟩
        · rw [if_neg h2] at hv2
          have h2j : ¬ (n5 : Int) = m7 := by omega
          have h2i : ((n5 : Int) == (m7 : Int)) = false := beq_eq_false_iff_ne.2 h2j
          by_cases h3 : n5 = 0
          · rw [if_pos h3] at hv2
            have h3j : (n5 : Int) = 0 := by omega
            have h3i : ((n5 : Int) == 0) = true := beq_iff_eq.2 h3j
            have H3 := hid h3
            clear h3 h3j
            go_wp2
            refine bodyPost_ret (v := .tuple #[.int .i64 0, .int .i64 0]) (by first | (simp [results, Try.results24, go_sem]; done) | (simp [results, Try.results24, go_sem, *]; done) | (simp [results, Try.results24, go_sem, World.cell?_setCell_same', *]; done) | (simp [results, Try.results24, go_sem]; first | exact ⟨rfl, rfl⟩ | rfl)) rfl ⟨by rw [hv.out, hv2.out], hbe5⟩
          · rw [if_neg h3] at hv2
            have h3i : ((n5 : Int) == 0) = false := by simpa using h3
            have h3j : ¬ (n5 : Int) = 0 := by omega
            go_wp2
            refine bodyPost_ret (v := .tuple #[.int .i64 1, .int .i64 0]) (by first | (simp [results, Try.results24, go_sem]; done) | (simp [results, Try.results24, go_sem, *]; done) | (simp [results, Try.results24, go_sem, World.cell?_setCell_same', *]; done) | (simp [results, Try.results24, go_sem]; first | exact ⟨rfl, rfl⟩ | rfl)) rfl ⟨by rw [hv.out, hv2.out], hbe5⟩
  · have hv : Hid (kinE I ls inn = chkBook I ls) := hid (if_pos he)
    have hv2 : Hid (kinV I ls inn = 0) := hid (if_pos he)
    have HO := hid (fun w h => open_bad A none n c 0 0 ls [] I w h (lis_nil _ _) hn HW.out (by omega) (by simp) (by rw [openE_nil]; exact he))
    rw [openE_nil] at HO
    obtain ⟨ev, hev⟩ : ∃ ev, chkBook I ls = ev := ⟨_, rfl⟩
    rw [hev] at hv HO he
    have hbi : (ev != 0) = true := by simpa using he
    clear hev
    go_enter Try.func24, Try.ntmps24
    go_wp2_with (fail)
    refine (HO.out _ (HL.out.below (by repeat' (first | with_reducible assumption | with_reducible exact Below.refl _ _ | refine Below.alloc ?_ ?_ _ | refine Below.setCell ?_ ?_ _ | refine Below.drew ?_ | refine below_drewN ?_ _ | (simp; done) | (simp; omega) | omega)) (by first | (simp; done) | (simp; omega) | omega))).mono ?_
    rintro e w1 ⟨rfl, hb1⟩
    have hbel : Below w.heap.size w w1 := Below.trans (by repeat' (first | with_reducible assumption | with_reducible exact Below.refl _ _ | refine Below.alloc ?_ ?_ _ | refine Below.setCell ?_ ?_ _ | refine Below.drew ?_ | refine below_drewN ?_ _ | (simp; done) | (simp; omega) | omega)) (hb1.mono (by first | (simp; done) | (simp; omega) | omega))
    go_wp2
    refine bodyPost_ret (v := .tuple #[.int .i64 0, .int .i64 ev]) (by first | (simp [results, Try.results24, go_sem]; done) | (simp [results, Try.results24, go_sem, *]; done) | (simp [results, Try.results24, go_sem, World.cell?_setCell_same', *]; done) | (simp [results, Try.results24, go_sem]; first | exact ⟨rfl, rfl⟩ | rfl)) rfl ⟨by rw [hv.out, hv2.out], hbel⟩
end Go.Proofs.Ytnpilfpackdimaa
/- Walks: Core, Dual. -/
namespace Go.Proofs.Ytnpilfpackdimaa
open Go.RowKit Go.Shelf
attribute [local go_sem] Oper.semAt_some
def coreV (I : Int) (ls : List (List Int)) : List (List Int) := if chkBook I ls ≠ 0 then [] else leastL ls
def coreI (I : Int) (ls : List (List Int)) : Int := if chkBook I ls ≠ 0 then 0 else I
/-- What stays in Core's and Dual's drawn region. -/
def CS (w : World) (g : Nat) (I : Int) (A : Option Addr) (n c : Nat) (W : World) : Prop :=
  Below w.heap.size w W ∧ W.cell? ⟨w.heap.size, 0, none⟩ = some (.int .i64 I) ∧ W.cell? ⟨g, 1, none⟩ = some (.slice A n c) ∧ g < W.heap.size ∧ w.heap.size + 1 < g ∧ w.heap.size + 1 < W.heap.size ∧ (∃ x, W.cell? ⟨w.heap.size + 1, 0, none⟩ = some x) ∧ (∃ x, W.cell? ⟨w.heap.size + 1, 1, none⟩ = some x) ∧ W.frozen? ⟨w.heap.size + 1, 0, none⟩ = false ∧ W.frozen? ⟨w.heap.size + 1, 1, none⟩ = false
theorem CS.ext {w : World} {g : Nat} {I : Int} {A : Option Addr} {n c : Nat} {X Y : World} (h : CS w g I A n c X) (he : Below X.heap.size X Y) : CS w g I A n c Y := by
  obtain ⟨h1, h2, h3, h3l, h3g, h4, ⟨x, h5⟩, ⟨y, h6⟩, h7, h8⟩ := h
  obtain ⟨-, hf⟩ := bcell he
  exact ⟨h1.trans (he.mono h1.size), (he.cell (p := ⟨w.heap.size, 0, none⟩) (Nat.lt_of_succ_lt h4)).trans h2, (he.cell (p := ⟨g, 1, none⟩) h3l).trans h3, Nat.lt_of_lt_of_le h3l he.size, h3g, Nat.lt_of_lt_of_le h4 he.size, ⟨x, (he.cell (p := ⟨w.heap.size + 1, 0, none⟩) h4).trans h5⟩, ⟨y, (he.cell (p := ⟨w.heap.size + 1, 1, none⟩) h4).trans h6⟩, (hf _ 0 h4).trans h7, (hf _ 1 h4).trans h8⟩
set_option maxRecDepth 100000 in
set_option maxHeartbeats 1600000 in
theorem core_any (A : Option Addr) (n c : Nat) (ls : List (List Int)) (I : Int) (w : World) (hl : LiS w w.heap.size A n ls) (hn : n ≤ 1000000) (hw : ∀ l ∈ ls, l.length ≤ 1000000) :
    Calls Try.prog 30 #[.agg #[.int .i64 I, .slice A n c]] w fun e w' => ∃ A' m' c', e = .returned (.tuple #[.agg #[.int .i64 (coreI I ls), .slice A' m' c'], .int .i64 (chkBook I ls)]) ∧ LiP w' w'.heap.size A' m' (coreV I ls) ∧ Below w.heap.size w w' := by
  have HL := hid hl
  have HW := hid hw
  clear hl hw
  by_cases he : chkBook I ls = 0
  · have HO := hid (fun w h => open_ok A none n c 0 0 ls [] I w h (lis_nil _ _) hn HW.out (by omega) (by simp) (by rw [openE_nil]; exact he))
    have hv : Hid (coreV I ls = leastL ls) := hid (if_neg (by simpa using he))
    have hvi : Hid (coreI I ls = I) := hid (if_neg (by simpa using he))
    have HA := hid (fun w h => least_any A n c ls w h hn (book8 he))
    obtain ⟨mv, hmv⟩ : ∃ mv, leastL ls = mv := ⟨_, rfl⟩
    rw [hmv] at hv HA
    rw [he]
    clear he hmv
    go_enter Try.func30, Try.ntmps30
    go_wp2_with (fail)
    refine (HO.out _ (HL.out.below (by repeat' (first | with_reducible assumption | with_reducible exact Below.refl _ _ | refine Below.alloc ?_ ?_ _ | refine Below.setCell ?_ ?_ _ | refine Below.drew ?_ | refine below_drewN ?_ _ | (simp; done) | (simp; omega) | omega)) (by first | (simp; done) | (simp; omega) | omega))).mono ?_
    rintro e w1 ⟨g, rfl, hg, hd, hb1⟩
    have hbel : Below w.heap.size w w1 := Below.trans (by repeat' (first | with_reducible assumption | with_reducible exact Below.refl _ _ | refine Below.alloc ?_ ?_ _ | refine Below.setCell ?_ ?_ _ | refine Below.drew ?_ | refine below_drewN ?_ _ | (simp; done) | (simp; omega) | omega)) (hb1.mono (by first | (simp; done) | (simp; omega) | omega))
    have k0 : w1.cell? ⟨w.heap.size, 0, none⟩ = some (.int .i64 I) := (hb1.cell (p := ⟨w.heap.size, 0, none⟩) (by first | (simp; done) | (simp; omega) | omega)).trans (by go_simp)
    have k1 : w1.cell? ⟨w.heap.size, 1, none⟩ = some (.slice A n c) := (hb1.cell (p := ⟨w.heap.size, 1, none⟩) (by first | (simp; done) | (simp; omega) | omega)).trans (by go_simp)
    have k2 : w1.cell? ⟨w.heap.size + 1, 0, none⟩ = some (.int .i64 0) := (hb1.cell (p := ⟨w.heap.size + 1, 0, none⟩) (by first | (simp; done) | (simp; omega) | omega)).trans (by go_simp)
    have k3 : w1.cell? ⟨w.heap.size + 1, 1, none⟩ = some (.slice none 0 0) := (hb1.cell (p := ⟨w.heap.size + 1, 1, none⟩) (by first | (simp; done) | (simp; omega) | omega)).trans (by go_simp)
    have k4 : w1.frozen? ⟨w.heap.size + 1, 0, none⟩ = false := ((bcell hb1).2 (w.heap.size + 1) 0 (by first | (simp; done) | (simp; omega) | omega)).trans (by go_simp)
    have k5 : w1.frozen? ⟨w.heap.size + 1, 1, none⟩ = false := ((bcell hb1).2 (w.heap.size + 1) 1 (by first | (simp; done) | (simp; omega) | omega)).trans (by go_simp)
    have hz1 : w.heap.size + 1 < w1.heap.size := (by have := hb1.size; simp at this; omega)
    have k6 := hd.1.cell 1
    have k7 := hd.1.lt
    have k8 : w.heap.size + 1 < g := by simp at hg; omega
    clear hd hb1
    go_wp2
    refine Sx.wp_region_el (CS w g I A n c) (fun X Y h he => h.ext he) [0, 1, 2, 3, 4, 5, 6] 4 (by kernel_rfl) (by kernel_rfl) (CS.ext (X := w1) ⟨hbel, k0, k6, k7, k8, hz1, ⟨_, k2⟩, ⟨_, k3⟩, k4, k5⟩ (Below.refl _ _).drew) ?_
    simp only [pick, List.getElem?_toArray, List.getElem?_cons_zero, List.getElem?_cons_succ]
    iterate 7 (refine Sx.wpE_val (v := ?_) (by rfl) (fun W hW => ?_) ?_; rotate_left; (· obtain ⟨h1W, h2W, h3W, -⟩ := hW; go_simp; with_reducible rfl); simp only [Act.put, List.setIfInBounds_toArray, List.set_cons_zero, List.set_cons_succ])
    simp only [Sx.wpE]
    (refine Sx.wpM_one 7 _ (by simp only [List.getElem?_toArray, List.getElem?_cons_zero, List.getElem?_cons_succ]; rfl) (by kernel_rfl) (by rfl) ?_)
    intro X hX hS
    (go_simp; simp only [LUpon, Act.put]; try simp only [List.setIfInBounds_toArray, List.set_cons_zero, List.set_cons_succ])
    refine (HA.out X (HL.out.below hS.1 hS.1.size)).mono ?_
    rintro e Y ⟨A7, m, c7, rfl, -, hi2, hb2⟩
    have HI := hid (hi2.mono (lo' := w.heap.size + 2) hS.2.2.2.2.2.1)
    refine ⟨_, rfl, hS.ext hb2, ?_⟩
    (refine Sx.wpM_one 8 _ (by simp only [List.getElem?_toArray, List.getElem?_cons_zero, List.getElem?_cons_succ]; rfl) (by kernel_rfl) (by rfl) ?_)
    intro X2 hX2 hS2
    (go_simp; simp only [LUpon, Act.put]; try simp only [List.setIfInBounds_toArray, List.set_cons_zero, List.set_cons_succ])
    refine ⟨hS2, ?_⟩
    (refine Sx.wpM_one 9 _ (by simp only [List.getElem?_toArray, List.getElem?_cons_zero, List.getElem?_cons_succ]; rfl) (by kernel_rfl) (by rfl) ?_)
    intro X3 hX3 hS3
    have HI3 := hid (HI.out.below (hX2.trans (hX3.mono hX2.size)) (Nat.le_trans hX2.size hX3.size))
    obtain ⟨q1, q2, q3, q3l, q3g, q4, ⟨x5, q5⟩, ⟨x6, q6⟩, q7, q8⟩ := hS3
    (go_simp; simp only [LUpon, Act.put]; try simp only [List.setIfInBounds_toArray, List.set_cons_zero, List.set_cons_succ])
    obtain ⟨V, hV⟩ : ∃ V, (X3.setCell ⟨w.heap.size + 1, 0, none⟩ (.int .i64 I)).setCell ⟨w.heap.size + 1, 1, none⟩ (.slice A7 m c7) = V := ⟨_, rfl⟩
    have hqV : X3.heap.size = V.heap.size := by rw [← hV]; simp
    have hbV : Below w.heap.size w V := by rw [← hV]; exact (q1.setCell (by simp) _).setCell (by simp) _
    have hcV : ∀ b off, w.heap.size + 1 < b → V.cell? ⟨b, off, none⟩ = X3.cell? ⟨b, off, none⟩ := fun b off hb => by
      rw [← hV, World.cell?_setCell_other, World.cell?_setCell_other] <;> (intro h; cases h; omega)
    have e0 : V.cell? ⟨w.heap.size, 0, none⟩ = some (.int .i64 I) := by
      rw [← hV, World.cell?_setCell_other, World.cell?_setCell_other] <;> first | exact q2 | (intro h; simp at h)
    have e1 : V.cell? ⟨w.heap.size + 1, 0, none⟩ = some (.int .i64 I) := by
      rw [← hV]
      refine (World.cell?_setCell_other _ _ _ _ ?_).trans (World.cell?_setCell_same _ _ _ q5)
      intro h; simp at h
    have e2 : V.cell? ⟨w.heap.size + 1, 1, none⟩ = some (.slice A7 m c7) := by
      rw [← hV]
      refine World.cell?_setCell_same (u := x6) _ _ _ ((World.cell?_setCell_other _ _ _ _ ?_).trans q6)
      intro h; simp at h
    have hSV : CS w g I A n c V := ⟨hbV, e0, (hcV g 1 q3g).trans q3, by rw [← hqV]; exact q3l, q3g, by rw [← hqV]; exact q4, ⟨_, e1⟩, ⟨_, e2⟩, by rw [← hV]; simpa using q7, by rw [← hV]; simpa using q8⟩
    have HIV := hid (HI3.out.old (w' := V) (fun b off hb => hcV b off (by omega)))
    have HSV := hid hSV
    rw [hqV] at HIV
    rw [hV]
    refine ⟨hSV, ?_⟩
    clear hV hcV hS hS2 hX hX2 hX3 HI3 HI hi2 hb2 q1 q2 q3 q3l q3g q4 q5 q6 q7 q8 e0 hSV hbV
    (refine Sx.wpM_one 10 _ (by simp only [List.getElem?_toArray, List.getElem?_cons_zero, List.getElem?_cons_succ]; rfl) (by kernel_rfl) (by rfl) ?_)
    intro X5 hX5 hS5
    (go_simp; simp only [LUpon, Act.put]; try simp only [List.setIfInBounds_toArray, List.set_cons_zero, List.set_cons_succ])
    refine ⟨hS5, Sx.wpM_end (by kernel_rfl) ?_⟩
    intro X6 hX6 hS6
    have hVX := hX5.trans (hX6.mono hX5.size)
    have f1 := (hVX.cell (p := ⟨w.heap.size + 1, 0, none⟩) HSV.out.2.2.2.2.2.1).trans e1
    have f2 := (hVX.cell (p := ⟨w.heap.size + 1, 1, none⟩) HSV.out.2.2.2.2.2.1).trans e2
    have HI6 := hid (HIV.out.below hVX hVX.size)
    have hb6 := hS6.1
    clear hS5 hX5 hX6 hVX hS6 e1 e2
    go_wp2
    refine bodyPost_ret (v := .tuple #[.agg #[.int .i64 I, .slice A7 m c7], .int .i64 0]) (by first | (simp [results, Try.results30, go_sem]; done) | (simp [results, Try.results30, go_sem, *]; done) | (simp [results, Try.results30, go_sem, World.cell?_setCell_same', *]; done) | (simp [results, Try.results30, go_sem]; first | exact ⟨rfl, rfl⟩ | rfl)) rfl ⟨A7, m, c7, by rw [hvi.out], by rw [hv.out]; exact HI6.out.lip, hb6⟩
  · have hv : Hid (coreV I ls = []) := hid (if_pos he)
    have hvi : Hid (coreI I ls = 0) := hid (if_pos he)
    have HO := hid (fun w h => open_bad A none n c 0 0 ls [] I w h (lis_nil _ _) hn HW.out (by omega) (by simp) (by rw [openE_nil]; exact he))
    rw [openE_nil] at HO
    obtain ⟨ev, hev⟩ : ∃ ev, chkBook I ls = ev := ⟨_, rfl⟩
    rw [hev] at HO he ⊢
    have hbi : (ev != 0) = true := by simpa using he
    clear hev
    go_enter Try.func30, Try.ntmps30
    go_wp2_with (fail)
    refine (HO.out _ (HL.out.below (by repeat' (first | with_reducible assumption | with_reducible exact Below.refl _ _ | refine Below.alloc ?_ ?_ _ | refine Below.setCell ?_ ?_ _ | refine Below.drew ?_ | refine below_drewN ?_ _ | (simp; done) | (simp; omega) | omega)) (by first | (simp; done) | (simp; omega) | omega))).mono ?_
    rintro e w1 ⟨rfl, hb1⟩
    have hbel : Below w.heap.size w w1 := Below.trans (by repeat' (first | with_reducible assumption | with_reducible exact Below.refl _ _ | refine Below.alloc ?_ ?_ _ | refine Below.setCell ?_ ?_ _ | refine Below.drew ?_ | refine below_drewN ?_ _ | (simp; done) | (simp; omega) | omega)) (hb1.mono (by first | (simp; done) | (simp; omega) | omega))
    have k2 : w1.cell? ⟨w.heap.size + 1, 0, none⟩ = some (.int .i64 0) := (hb1.cell (p := ⟨w.heap.size + 1, 0, none⟩) (by first | (simp; done) | (simp; omega) | omega)).trans (by go_simp)
    have k3 : w1.cell? ⟨w.heap.size + 1, 1, none⟩ = some (.slice none 0 0) := (hb1.cell (p := ⟨w.heap.size + 1, 1, none⟩) (by first | (simp; done) | (simp; omega) | omega)).trans (by go_simp)
    have k4 : w1.frozen? ⟨w.heap.size + 1, 0, none⟩ = false := ((bcell hb1).2 (w.heap.size + 1) 0 (by first | (simp; done) | (simp; omega) | omega)).trans (by go_simp)
    have k5 : w1.frozen? ⟨w.heap.size + 1, 1, none⟩ = false := ((bcell hb1).2 (w.heap.size + 1) 1 (by first | (simp; done) | (simp; omega) | omega)).trans (by go_simp)
    go_wp2
    refine bodyPost_ret (v := .tuple #[.agg #[.int .i64 0, .slice none 0 0], .int .i64 ev]) (by first | (simp [results, Try.results30, go_sem]; done) | (simp [results, Try.results30, go_sem, *]; done) | (simp [results, Try.results30, go_sem, World.cell?_setCell_same', *]; done) | (simp [results, Try.results30, go_sem]; first | exact ⟨rfl, rfl⟩ | rfl)) rfl ⟨none, 0, 0, by rw [hvi.out], by rw [hv.out]; exact lip_nil _ _, (hbel.setCell (by simp) _).setCell (by simp) _⟩
end Go.Proofs.Ytnpilfpackdimaa
/- Walks: Dual. -/
namespace Go.Proofs.Ytnpilfpackdimaa
open Go.RowKit Go.Shelf
attribute [local go_sem] Oper.semAt_some
def dualV (I : Int) (ls : List (List Int)) : List (List Int) := if chkBook I ls ≠ 0 then [] else allP ls
set_option maxRecDepth 100000 in
set_option maxHeartbeats 1600000 in
theorem dual_any (A : Option Addr) (n c : Nat) (ls : List (List Int)) (I : Int) (w : World) (hl : LiS w w.heap.size A n ls) (hn : n ≤ 1000000) (hw : ∀ l ∈ ls, l.length ≤ 1000000) :
    Calls Try.prog 31 #[.agg #[.int .i64 I, .slice A n c]] w fun e w' => ∃ A' m' c', e = .returned (.tuple #[.agg #[.int .i64 (coreI I ls), .slice A' m' c'], .int .i64 (chkBook I ls)]) ∧ LiP w' w'.heap.size A' m' (dualV I ls) ∧ Below w.heap.size w w' := by
  have HL := hid hl
  have HW := hid hw
  clear hl hw
  by_cases he : chkBook I ls = 0
  · have HO := hid (fun w h => open_ok A none n c 0 0 ls [] I w h (lis_nil _ _) hn HW.out (by omega) (by simp) (by rw [openE_nil]; exact he))
    have hv : Hid (dualV I ls = allP ls) := hid (if_neg (by simpa using he))
    have hvi : Hid (coreI I ls = I) := hid (if_neg (by simpa using he))
    have HA := hid (fun g w h => all_any g I A n c ls w h hn (book8 he))
    obtain ⟨mv, hmv⟩ : ∃ mv, allP ls = mv := ⟨_, rfl⟩
    rw [hmv] at hv HA
    rw [he]
    clear he hmv
    go_enter Try.func31, Try.ntmps31
    go_wp2_with (fail)
    refine (HO.out _ (HL.out.below (by repeat' (first | with_reducible assumption | with_reducible exact Below.refl _ _ | refine Below.alloc ?_ ?_ _ | refine Below.setCell ?_ ?_ _ | refine Below.drew ?_ | refine below_drewN ?_ _ | (simp; done) | (simp; omega) | omega)) (by first | (simp; done) | (simp; omega) | omega))).mono ?_
    rintro e w1 ⟨g, rfl, hg, hd, hb1⟩
    have hbel : Below w.heap.size w w1 := Below.trans (by repeat' (first | with_reducible assumption | with_reducible exact Below.refl _ _ | refine Below.alloc ?_ ?_ _ | refine Below.setCell ?_ ?_ _ | refine Below.drew ?_ | refine below_drewN ?_ _ | (simp; done) | (simp; omega) | omega)) (hb1.mono (by first | (simp; done) | (simp; omega) | omega))
    have k0 : w1.cell? ⟨w.heap.size, 0, none⟩ = some (.int .i64 I) := (hb1.cell (p := ⟨w.heap.size, 0, none⟩) (by first | (simp; done) | (simp; omega) | omega)).trans (by go_simp)
    have k1 : w1.cell? ⟨w.heap.size, 1, none⟩ = some (.slice A n c) := (hb1.cell (p := ⟨w.heap.size, 1, none⟩) (by first | (simp; done) | (simp; omega) | omega)).trans (by go_simp)
    have k2 : w1.cell? ⟨w.heap.size + 1, 0, none⟩ = some (.int .i64 0) := (hb1.cell (p := ⟨w.heap.size + 1, 0, none⟩) (by first | (simp; done) | (simp; omega) | omega)).trans (by go_simp)
    have k3 : w1.cell? ⟨w.heap.size + 1, 1, none⟩ = some (.slice none 0 0) := (hb1.cell (p := ⟨w.heap.size + 1, 1, none⟩) (by first | (simp; done) | (simp; omega) | omega)).trans (by go_simp)
    have k4 : w1.frozen? ⟨w.heap.size + 1, 0, none⟩ = false := ((bcell hb1).2 (w.heap.size + 1) 0 (by first | (simp; done) | (simp; omega) | omega)).trans (by go_simp)
    have k5 : w1.frozen? ⟨w.heap.size + 1, 1, none⟩ = false := ((bcell hb1).2 (w.heap.size + 1) 1 (by first | (simp; done) | (simp; omega) | omega)).trans (by go_simp)
    have hz1 : w.heap.size + 1 < w1.heap.size := (by have := hb1.size; simp at this; omega)
    have HD := hid (hd.below (Below.refl _ _).drew)
    have k6 := hd.1.cell 1
    have k7 := hd.1.lt
    have k8 : w.heap.size + 1 < g := by simp at hg; omega
    clear hd hb1
    go_wp2
    refine Sx.wp_region_el (CS w g I A n c) (fun X Y h he => h.ext he) [0, 1, 2] 4 (by kernel_rfl) (by kernel_rfl) (CS.ext (X := w1) ⟨hbel, k0, k6, k7, k8, hz1, ⟨_, k2⟩, ⟨_, k3⟩, k4, k5⟩ (Below.refl _ _).drew) ?_
    simp only [pick, List.getElem?_toArray, List.getElem?_cons_zero, List.getElem?_cons_succ]
    iterate 3 (refine Sx.wpE_val (v := ?_) (by rfl) (fun W hW => ?_) ?_; rotate_left; (· obtain ⟨h1W, h2W, h3W, -⟩ := hW; go_simp; with_reducible rfl); simp only [Act.put, List.setIfInBounds_toArray, List.set_cons_zero, List.set_cons_succ])
    simp only [Sx.wpE]
    (refine Sx.wpM_one 3 _ (by simp only [List.getElem?_toArray, List.getElem?_cons_zero, List.getElem?_cons_succ]; rfl) (by kernel_rfl) (by rfl) ?_)
    intro X hX hS
    (go_simp; simp only [LUpon, Act.put]; try simp only [List.setIfInBounds_toArray, List.set_cons_zero, List.set_cons_succ])
    refine (HA.out g X (HD.out.below hX)).mono ?_
    rintro e Y ⟨A7, m, c7, rfl, -, hi2, hb2⟩
    have HI := hid (hi2.mono (lo' := w.heap.size + 2) hS.2.2.2.2.2.1)
    refine ⟨_, rfl, hS.ext hb2, ?_⟩
    (refine Sx.wpM_one 4 _ (by simp only [List.getElem?_toArray, List.getElem?_cons_zero, List.getElem?_cons_succ]; rfl) (by kernel_rfl) (by rfl) ?_)
    intro X2 hX2 hS2
    (go_simp; simp only [LUpon, Act.put]; try simp only [List.setIfInBounds_toArray, List.set_cons_zero, List.set_cons_succ])
    refine ⟨hS2, ?_⟩
    (refine Sx.wpM_one 5 _ (by simp only [List.getElem?_toArray, List.getElem?_cons_zero, List.getElem?_cons_succ]; rfl) (by kernel_rfl) (by rfl) ?_)
    intro X3 hX3 hS3
    have HI3 := hid (HI.out.below (hX2.trans (hX3.mono hX2.size)) (Nat.le_trans hX2.size hX3.size))
    obtain ⟨q1, q2, q3, q3l, q3g, q4, ⟨x5, q5⟩, ⟨x6, q6⟩, q7, q8⟩ := hS3
    (go_simp; simp only [LUpon, Act.put]; try simp only [List.setIfInBounds_toArray, List.set_cons_zero, List.set_cons_succ])
    obtain ⟨V, hV⟩ : ∃ V, (X3.setCell ⟨w.heap.size + 1, 0, none⟩ (.int .i64 I)).setCell ⟨w.heap.size + 1, 1, none⟩ (.slice A7 m c7) = V := ⟨_, rfl⟩
    have hqV : X3.heap.size = V.heap.size := by rw [← hV]; simp
    have hbV : Below w.heap.size w V := by rw [← hV]; exact (q1.setCell (by simp) _).setCell (by simp) _
    have hcV : ∀ b off, w.heap.size + 1 < b → V.cell? ⟨b, off, none⟩ = X3.cell? ⟨b, off, none⟩ := fun b off hb => by
      rw [← hV, World.cell?_setCell_other, World.cell?_setCell_other] <;> (intro h; cases h; omega)
    have e0 : V.cell? ⟨w.heap.size, 0, none⟩ = some (.int .i64 I) := by
      rw [← hV, World.cell?_setCell_other, World.cell?_setCell_other] <;> first | exact q2 | (intro h; simp at h)
    have e1 : V.cell? ⟨w.heap.size + 1, 0, none⟩ = some (.int .i64 I) := by
      rw [← hV]
      refine (World.cell?_setCell_other _ _ _ _ ?_).trans (World.cell?_setCell_same _ _ _ q5)
      intro h; simp at h
    have e2 : V.cell? ⟨w.heap.size + 1, 1, none⟩ = some (.slice A7 m c7) := by
      rw [← hV]
      refine World.cell?_setCell_same (u := x6) _ _ _ ((World.cell?_setCell_other _ _ _ _ ?_).trans q6)
      intro h; simp at h
    have hSV : CS w g I A n c V := ⟨hbV, e0, (hcV g 1 q3g).trans q3, by rw [← hqV]; exact q3l, q3g, by rw [← hqV]; exact q4, ⟨_, e1⟩, ⟨_, e2⟩, by rw [← hV]; simpa using q7, by rw [← hV]; simpa using q8⟩
    have HIV := hid (HI3.out.old (w' := V) (fun b off hb => hcV b off (by omega)))
    have HSV := hid hSV
    rw [hqV] at HIV
    rw [hV]
    refine ⟨hSV, ?_⟩
    clear hV hcV hS hS2 hX hX2 hX3 HI3 HI hi2 hb2 q1 q2 q3 q3l q3g q4 q5 q6 q7 q8 e0 hSV hbV
    (refine Sx.wpM_one 6 _ (by simp only [List.getElem?_toArray, List.getElem?_cons_zero, List.getElem?_cons_succ]; rfl) (by kernel_rfl) (by rfl) ?_)
    intro X5 hX5 hS5
    (go_simp; simp only [LUpon, Act.put]; try simp only [List.setIfInBounds_toArray, List.set_cons_zero, List.set_cons_succ])
    refine ⟨hS5, Sx.wpM_end (by kernel_rfl) ?_⟩
    intro X6 hX6 hS6
    have hVX := hX5.trans (hX6.mono hX5.size)
    have f1 := (hVX.cell (p := ⟨w.heap.size + 1, 0, none⟩) HSV.out.2.2.2.2.2.1).trans e1
    have f2 := (hVX.cell (p := ⟨w.heap.size + 1, 1, none⟩) HSV.out.2.2.2.2.2.1).trans e2
    have HI6 := hid (HIV.out.below hVX hVX.size)
    have hb6 := hS6.1
    clear hS5 hX5 hX6 hVX hS6 e1 e2
    go_wp2
    refine bodyPost_ret (v := .tuple #[.agg #[.int .i64 I, .slice A7 m c7], .int .i64 0]) (by first | (simp [results, Try.results31, go_sem]; done) | (simp [results, Try.results31, go_sem, *]; done) | (simp [results, Try.results31, go_sem, World.cell?_setCell_same', *]; done) | (simp [results, Try.results31, go_sem]; first | exact ⟨rfl, rfl⟩ | rfl)) rfl ⟨A7, m, c7, by rw [hvi.out], by rw [hv.out]; exact HI6.out.lip, hb6⟩
  · have hv : Hid (dualV I ls = []) := hid (if_pos he)
    have hvi : Hid (coreI I ls = 0) := hid (if_pos he)
    have HO := hid (fun w h => open_bad A none n c 0 0 ls [] I w h (lis_nil _ _) hn HW.out (by omega) (by simp) (by rw [openE_nil]; exact he))
    rw [openE_nil] at HO
    obtain ⟨ev, hev⟩ : ∃ ev, chkBook I ls = ev := ⟨_, rfl⟩
    rw [hev] at HO he ⊢
    have hbi : (ev != 0) = true := by simpa using he
    clear hev
    go_enter Try.func31, Try.ntmps31
    go_wp2_with (fail)
    refine (HO.out _ (HL.out.below (by repeat' (first | with_reducible assumption | with_reducible exact Below.refl _ _ | refine Below.alloc ?_ ?_ _ | refine Below.setCell ?_ ?_ _ | refine Below.drew ?_ | refine below_drewN ?_ _ | (simp; done) | (simp; omega) | omega)) (by first | (simp; done) | (simp; omega) | omega))).mono ?_
    rintro e w1 ⟨rfl, hb1⟩
    have hbel : Below w.heap.size w w1 := Below.trans (by repeat' (first | with_reducible assumption | with_reducible exact Below.refl _ _ | refine Below.alloc ?_ ?_ _ | refine Below.setCell ?_ ?_ _ | refine Below.drew ?_ | refine below_drewN ?_ _ | (simp; done) | (simp; omega) | omega)) (hb1.mono (by first | (simp; done) | (simp; omega) | omega))
    have k2 : w1.cell? ⟨w.heap.size + 1, 0, none⟩ = some (.int .i64 0) := (hb1.cell (p := ⟨w.heap.size + 1, 0, none⟩) (by first | (simp; done) | (simp; omega) | omega)).trans (by go_simp)
    have k3 : w1.cell? ⟨w.heap.size + 1, 1, none⟩ = some (.slice none 0 0) := (hb1.cell (p := ⟨w.heap.size + 1, 1, none⟩) (by first | (simp; done) | (simp; omega) | omega)).trans (by go_simp)
    have k4 : w1.frozen? ⟨w.heap.size + 1, 0, none⟩ = false := ((bcell hb1).2 (w.heap.size + 1) 0 (by first | (simp; done) | (simp; omega) | omega)).trans (by go_simp)
    have k5 : w1.frozen? ⟨w.heap.size + 1, 1, none⟩ = false := ((bcell hb1).2 (w.heap.size + 1) 1 (by first | (simp; done) | (simp; omega) | omega)).trans (by go_simp)
    go_wp2
    refine bodyPost_ret (v := .tuple #[.agg #[.int .i64 0, .slice none 0 0], .int .i64 ev]) (by first | (simp [results, Try.results31, go_sem]; done) | (simp [results, Try.results31, go_sem, *]; done) | (simp [results, Try.results31, go_sem, World.cell?_setCell_same', *]; done) | (simp [results, Try.results31, go_sem]; first | exact ⟨rfl, rfl⟩ | rfl)) rfl ⟨none, 0, 0, by rw [hvi.out], by rw [hv.out]; exact lip_nil _ _, (hbel.setCell (by simp) _).setCell (by simp) _⟩
end Go.Proofs.Ytnpilfpackdimaa
/- The examples' numbers, by the kernel. -/
namespace Go.Proofs.Ytnpilfpackdimaa
def bB : List (List Int) := [[0, 1], [1, 2], [2, 3], [0, 3]]
def bC : List (List Int) := [[2], [0, 1, 2], [1, 3]]
def bD : List (List Int) := [[], [0]]
set_option maxRecDepth 100000 in
theorem kA : blmV 5 [[0, 1], [1, 2], [2, 3], [0, 3]] [0, 1, 3] = 3 ∧ blmE 5 [[0, 1], [1, 2], [2, 3], [0, 3]] [0, 1, 3] = 0 ∧ blmV 5 [[0, 1], [1, 2], [2, 3], [0, 3]] [0, 1] = 2 ∧ blmE 5 [[0, 1], [1, 2], [2, 3], [0, 3]] [0, 1] = 21 ∧ blmV 5 [[0, 1], [1, 2], [2, 3], [0, 3]] [5] = 0 ∧ blmE 5 [[0, 1], [1, 2], [2, 3], [0, 3]] [5] = 3 := by decide +kernel
set_option maxRecDepth 100000 in
theorem kB : tgtV 5 [[0, 1], [1, 2], [2, 3], [0, 3]] [0, 2] = 2 ∧ tgtE 5 [[0, 1], [1, 2], [2, 3], [0, 3]] [0, 2] = 0 ∧ tgtV 5 [[0, 1], [1, 2], [2, 3], [0, 3]] [0, 1, 3] = 0 ∧ tgtE 5 [[0, 1], [1, 2], [2, 3], [0, 3]] [0, 1, 3] = 16 ∧ tgtV 2 [[], [0]] [0, 1] = 0 ∧ tgtE 2 [[], [0]] [0, 1] = 21 := by decide +kernel
set_option maxRecDepth 100000 in
theorem kC : fewV 5 [[0, 1], [1, 2], [2, 3], [0, 3]] = 2 ∧ fewE 5 [[0, 1], [1, 2], [2, 3], [0, 3]] = 0 ∧ fewV 2 [[], [0]] = 0 ∧ fewE 2 [[], [0]] = 21 ∧ bestV 4 [[2], [0, 1, 2], [1, 3]] = [1, 2] ∧ bestE 4 [[2], [0, 1, 2], [1, 3]] = 0 := by decide +kernel
set_option maxRecDepth 100000 in
theorem kD : aprV 5 [[0, 1], [1, 2], [2, 3], [0, 3]] = [0, 2] ∧ chkBook 5 [[0, 1], [1, 2], [2, 3], [0, 3]] = 0 ∧ capE 5 [[0, 1], [1, 2], [2, 3], [0, 3]] [0, 1] = 16 ∧ capE 5 [[0, 1], [1, 2], [2, 3], [0, 3]] [2, 0] = 3 ∧ tigV 4 [[2], [0, 1, 2], [1, 3]] [0, 1, 2, 3] = [1, 2] ∧ blmE 4 [[2], [0, 1, 2], [1, 3]] [0, 1, 2, 3] = 0 ∧ chkBook 4 [[2], [0, 1, 2], [1, 3]] = 0 := by decide +kernel
set_option maxRecDepth 100000 in
theorem kE : allV 4 [[2], [0, 1, 2], [1, 3]] = [[1, 2], [2, 3]] ∧ allV 5 [[0, 1], [1, 2], [2, 3], [0, 3]] = [[0, 2], [1, 3]] ∧ coreV 4 [[2], [0, 1, 2], [1, 3]] = [[1, 3], [2]] := by decide +kernel
set_option maxRecDepth 100000 in
theorem kF : callE 5 [[0, 1], [1, 2], [2, 3], [0, 3]] [[0, 2], [1, 3]] = 0 ∧ callE 5 [[0, 1], [1, 2], [2, 3], [0, 3]] [[0, 2]] = 14 ∧ forV 5 [[0, 1], [1, 2], [2, 3], [0, 3]] [[0, 2]] = [1, 3] ∧ forE 5 [[0, 1], [1, 2], [2, 3], [0, 3]] [[0, 2]] = 0 ∧ forE 5 [[0, 1], [1, 2], [2, 3], [0, 3]] [[0], [1]] = 5 ∧ forV 5 [[0, 1], [1, 2], [2, 3], [0, 3]] [[0], [1]] = [] := by decide +kernel
set_option maxRecDepth 100000 in
theorem kG : kinV 4 [[2], [0, 1, 2], [1, 3]] 2 = 2 ∧ kinE 4 [[2], [0, 1, 2], [1, 3]] 2 = 0 ∧ kinV 4 [[2], [0, 1, 2], [1, 3]] 4 = 0 ∧ kinE 4 [[2], [0, 1, 2], [1, 3]] 4 = 2 ∧ dualV 5 [[0, 1], [1, 2], [2, 3], [0, 3]] = [[0, 2], [1, 3]] ∧ coreI 4 [[2], [0, 1, 2], [1, 3]] = 4 ∧ coreI 5 [[0, 1], [1, 2], [2, 3], [0, 3]] = 5 := by decide +kernel
end Go.Proofs.Ytnpilfpackdimaa
/- Walks (reference): CheckBook, Bits, Listed, Missed. -/
namespace Go.Proofs.Ytnpilfpackdimaa
open Go.RowKit Go.Shelf
attribute [local go_sem] Oper.semAt_some
theorem bits_or_i64_nat (a b : Nat) (ha : a < 2 ^ 62) (hb : b < 2 ^ 62) : bits .or .i64 (a : Int) (b : Int) = ((a ||| b : Nat) : Int) := by
  have hx : a ||| b < 2 ^ 62 := Nat.or_lt_two_pow ha hb
  have e62 : (2 : Nat) ^ 62 = 4611686018427387904 := by decide
  rw [e62] at ha hb hx
  have h1 : (BitVec.ofInt 64 (a : Int)).toNat = a := by
    rw [BitVec.ofInt_natCast, BitVec.toNat_ofNat]; exact Nat.mod_eq_of_lt (by omega)
  have h2 : (BitVec.ofInt 64 (b : Int)).toNat = b := by
    rw [BitVec.ofInt_natCast, BitVec.toNat_ofNat]; exact Nat.mod_eq_of_lt (by omega)
  show IntKind.i64.wrap ((BitVec.ofInt 64 (a : Int) ||| BitVec.ofInt 64 (b : Int)).toNat : Int) = _
  rw [BitVec.toNat_or, h1, h2, IntKind.wrap_i64]
  omega
theorem bits_and_i64_nat (a b : Nat) (ha : a < 2 ^ 62) (hb : b < 2 ^ 62) : bits .and .i64 (a : Int) (b : Int) = ((a &&& b : Nat) : Int) := by
  have hx : a &&& b ≤ a := Nat.and_le_left
  have e62 : (2 : Nat) ^ 62 = 4611686018427387904 := by decide
  rw [e62] at ha hb
  have h1 : (BitVec.ofInt 64 (a : Int)).toNat = a := by
    rw [BitVec.ofInt_natCast, BitVec.toNat_ofNat]; exact Nat.mod_eq_of_lt (by omega)
  have h2 : (BitVec.ofInt 64 (b : Int)).toNat = b := by
    rw [BitVec.ofInt_natCast, BitVec.toNat_ofNat]; exact Nat.mod_eq_of_lt (by omega)
  show IntKind.i64.wrap ((BitVec.ofInt 64 (a : Int) &&& BitVec.ofInt 64 (b : Int)).toNat : Int) = _
  rw [BitVec.toNat_and, h1, h2, IntKind.wrap_i64]
  omega
theorem low_bit' (b k : Nat) (hb : b < 2 ^ 62) : bits .and .i64 ((b : Int) / 2 ^ k) 1 = if b.testBit k then 1 else 0 := by
  have hq : (b : Int) / 2 ^ k = ((b / 2 ^ k : Nat) : Int) := by push_cast; rfl
  have hle : b / 2 ^ k ≤ b := Nat.div_le_self _ _
  rw [hq, Nat.testBit_eq_decide_div_mod_eq]
  have h := bits_and_i64_nat (b / 2 ^ k) 1 (by omega) (by decide)
  rw [show ((1 : Nat) : Int) = 1 from rfl] at h
  rw [h, Nat.and_one_is_mod]
  obtain ⟨q, hqe⟩ : ∃ q, b / 2 ^ k = q := ⟨_, rfl⟩
  rw [hqe]
  by_cases h1 : q % 2 = 1 <;> simp [h1] <;> omega
theorem pow_wrap (k : Nat) (hk : k < 62) : IntKind.i64.wrap ((2 : Int) ^ k) = ((2 ^ k : Nat) : Int) := by
  have h : (2 : Nat) ^ k < 2 ^ 62 := Nat.pow_lt_pow_right (by decide) hk
  have e62 : (2 : Nat) ^ 62 = 4611686018427387904 := by decide
  rw [e62] at h
  rw [show (2 : Int) ^ k = ((2 ^ k : Nat) : Int) by push_cast; rfl]
  obtain ⟨q, hq⟩ : ∃ q, 2 ^ k = q := ⟨_, rfl⟩
  rw [hq] at h ⊢
  rw [IntKind.wrap_i64]; omega
theorem bitsL_bd {n : Nat} : ∀ {l : List Int} {b : Nat}, (∀ x ∈ l, 0 ≤ x ∧ x < n) → b < 2 ^ n → l.foldl (fun b x => b ||| 2 ^ x.toNat) b < 2 ^ n
  | [], _, _, hb => hb
  | x :: l, b, h, hb => by
    have hx := h x (List.mem_cons_self ..)
    exact bitsL_bd (n := n) (l := l) (b := b ||| 2 ^ x.toNat) (fun y hy => h y (List.mem_cons_of_mem _ hy)) (Nat.or_lt_two_pow hb (Nat.pow_lt_pow_right (by decide) (by omega)))
set_option maxRecDepth 10000 in
set_option maxHeartbeats 1600000 in
theorem rbits_any (A : Option Addr) (n c : Nat) (l : List Int) (w : World) (hl : InS w w.heap.size A n l) (hn : n ≤ 1000000) (hb : ∀ x ∈ l, 0 ≤ x ∧ x < 16) :
    Calls Try.prog 39 #[.slice A n c] w fun e w' => e = .returned (.int .i64 ((bitsL l : Nat) : Int)) ∧ w = w' := by
  have hlen := hid hl.len
  have HL := hid hl
  have HB := hid hb
  clear hl hb
  go_enter Try.func39, Try.ntmps39
  go_wp2
  go_loopw [3, 4] (fun v i wr => ∃ k : Nat, k ≤ n ∧ v = .int .i64 ((bitsL (l.take k) : Nat) : Int) ∧ i = .int .i64 k ∧ w = wr) (fun _ i _ => n - (intOf i).toNat)
  case atStart => exact ⟨0, by omega, rfl, rfl, rfl⟩
  case round =>
    obtain ⟨k, hk, rfl, rfl, rfl⟩ := hrel
    by_cases hlt : k < n
    · obtain ⟨b, off, x, rfl, hb1, hm, c0⟩ := HL.out.at_ hlt
      obtain ⟨x0, x16⟩ := HB.out x (List.mem_of_getElem? hm)
      obtain ⟨xn, rfl⟩ : ∃ xn : Nat, x = xn := ⟨x.toNat, by omega⟩
      have hlti : (k : Int) < n := by omega
      obtain ⟨N, hN⟩ : ∃ N, bitsL (l.take k) = N := ⟨_, rfl⟩
      have hNl : N < 2 ^ 16 := by
        rw [← hN]
        exact bitsL_bd (fun x hx => HB.out x (List.mem_of_mem_take hx)) (by decide)
      have hs : Hid (bitsL (l.take (k + 1)) = N ||| 2 ^ xn) := hid (by rw [bitsL_take hm, hN]; rfl)
      have Hor : Hid (bits .or .i64 (N : Int) ((2 : Int) ^ xn) = ((N ||| 2 ^ xn : Nat) : Int)) := hid (by rw [show (2 : Int) ^ xn = ((2 ^ xn : Nat) : Int) by push_cast; rfl]; exact bits_or_i64_nat N (2 ^ xn) (by omega) (Nat.pow_lt_pow_right (by decide) (by omega)))
      have hpw := pow_wrap xn (by omega)
      rw [hN]
      clear hm hN hNl
      go_wp2
      exact ⟨⟨k + 1, by omega, by rw [hs.out, Hor.out], by go_num, trivial⟩, by simp [intOf]; omega⟩
    · obtain rfl : n = k := by omega
      go_wp2
      refine bodyPost_ret (v := .int .i64 ((bitsL l : Nat) : Int)) (by rw [List.take_of_length_le (by rw [hlen.out]; exact Nat.le_refl _)]; simp [results, Try.results39, go_sem]) rfl ⟨rfl, rfl⟩
set_option maxRecDepth 10000 in
set_option maxHeartbeats 1600000 in
theorem rlisted_any (b n : Nat) (w : World) (hn : n ≤ 16) (hb : b < 2 ^ 62) :
    Calls Try.prog 44 #[.int .i64 (b : Int), .int .i64 (n : Int)] w fun e w' => ∃ v, e = .returned v ∧ w'.ownsRow w.heap.size 3 1 v (listed b n).length ((listed b n).flatMap cI) ∧ Below w.heap.size w w' := by
  obtain ⟨i0, hi0, hi1, hi2, hi3⟩ := info_parts' infoI
  have I0 := hid hi0; have I1 := hid hi1; have I2 := hid hi2; have I3 := hid hi3
  have HB := hid hb
  clear hi0 hi1 hi2 hi3 hb
  go_enter Try.func44, Try.ntmps44
  go_wp2
  go_loopw [5, 6] (fun v i wr => ∃ k : Nat, k ≤ n ∧ i = .int .i64 k ∧ Below w.heap.size w wr ∧ Hid (wr.ownsRow w.heap.size 3 1 v (listed b k).length ((listed b k).flatMap cI))) (fun _ i _ => n - (intOf i).toNat)
  case atStart => exact ⟨0, by omega, rfl, Below.refl _ _, hid (World.ownsRow_nil _ _ _ _)⟩
  case round =>
    obtain ⟨k, hk2, rfl, hbw, hown⟩ := hrel
    have hszw := hbw.size
    by_cases hlt : k < n
    · have hlti : (k : Int) < n := by omega
      have hll := listed_len b k
      have hs := listed_succ b k
      have hand := low_bit' b k HB.out
      cases ht : b.testBit k
      · rw [ht] at hs hand
        simp only [Bool.false_eq_true, if_false, List.append_nil] at hs hand
        have Hs := hid hs
        clear hs ht
        go_wp2
        exact ⟨⟨k + 1, by omega, by go_num, hbw, hid (by rw [Hs.out]; exact hown.out)⟩, by simp [intOf]; omega⟩
      · rw [ht] at hs hand
        simp only [if_true] at hs hand
        have Hs := hid hs
        have Hl : Hid ((listed b (k + 1)).length = (listed b k).length + 1) := hid (by rw [hs]; simp)
        have Hf : Hid ((listed b (k + 1)).flatMap cI = (listed b k).flatMap cI ++ [.int .i64 k]) := hid (by rw [hs, List.flatMap_append]; rfl)
        clear hs ht
        go_wp2_with (at_builtin; refine wpList_append_own _ rfl _ _ 25 rfl w.heap.size 3 i0 _ 1 8 underL I0.out I1.out I2.out I3.out rfl (by decide) _ (listed b k).length _ rfl (hown.out.alloc (.cells #[.int .i64 k] 3)) ⟨wr.heap.size, 0, none⟩ 1 1 [.int .i64 k] rfl rfl (fun j u hj => World.news_of_block (Blk.new' (by simp)) j u hj) (one1 _) (by unfold maxLen; omega) (by omega) (by simp; omega) ?_; intro v' w3 ho3 hg3 hv3)
        have hb3 : Below w.heap.size w w3 := (hbw.alloc hszw _).grown hg3 (by simp; omega) (fun r hr => (World.ownsRow.lt hown.out r hr).1)
        exact ⟨⟨k + 1, by omega, by go_num, hb3, hid (by rw [Hl.out, Hf.out]; exact ho3)⟩, by simp [intOf]; omega⟩
    · obtain rfl : n = k := by omega
      go_wp2
      refine bodyPost_ret (v := u5) (by first | (simp [results, Try.results44, go_sem]; done) | (simp [results, Try.results44, go_sem, *]; done) | (simp [results, Try.results44, go_sem, World.cell?_setCell_same', *]; done) | (simp [results, Try.results44, go_sem]; first | exact ⟨rfl, rfl⟩ | rfl)) rfl ⟨u5, rfl, hown.out, hbw⟩
/-- What a list of hires answers to bits: the first that is not blamed. -/
theorem bitsL_and {l : List Int} {b : Nat} (h : ∀ x ∈ l, 0 ≤ x) : (bitsL l &&& b = 0) ↔ l.any (inB b) = false := by
  constructor
  · intro e
    rw [List.any_eq_false]
    intro x hx
    have h1 := congrArg (fun n => n.testBit x.toNat) e
    simp only [Nat.testBit_and, Nat.zero_testBit] at h1
    rw [bitsL_test h, has_iff.2 (by rw [Int.toNat_of_nonneg (h x hx)]; exact hx), Bool.true_and] at h1
    simp [inB, h1]
  · intro e
    refine Nat.eq_of_testBit_eq fun i => ?_
    rw [Nat.testBit_and, Nat.zero_testBit, bitsL_test h]
    cases hh : has l (i : Int)
    · rfl
    · have := List.any_eq_false.1 e _ (has_iff.1 hh)
      simpa [inB] using this
set_option maxRecDepth 10000 in
set_option maxHeartbeats 1600000 in
theorem rmissed_any (A : Option Addr) (n c : Nat) (ls : List (List Int)) (I : Int) (b : Nat) (w : World) (hl : LiS w w.heap.size A n ls) (hn : n ≤ 1000000) (hv : ∀ l ∈ ls, isL 8 0 l = true) (hb : b < 2 ^ 62) :
    Calls Try.prog 38 #[.agg #[.int .i64 I, .slice A n c], .int .i64 (b : Int)] w fun e w' => e = .returned (.int .i64 (missI ls b)) ∧ Below w.heap.size w w' := by
  have hlen := hid hl.1
  have HL := hid hl
  have HV := hid hv
  have HB := hid hb
  obtain ⟨iv, hiv⟩ : ∃ iv, missI ls b = iv := ⟨_, rfl⟩
  have Hiv := hid hiv
  rw [hiv]
  clear hl hv hb hiv
  go_enter Try.func38, Try.ntmps38
  have B0 : Blk (w.alloc (.cells #[.int .i64 I, .slice A n c] 24)) w.heap.size 24 #[.int .i64 I, .slice A n c] := Blk.new' rfl
  have hb0 : Below w.heap.size w (w.alloc (.cells #[.int .i64 I, .slice A n c] 24)) := (Below.refl _ _).alloc (Nat.le_refl _) _
  go_wp2
  go_loopw [5] (fun i wr => ∃ k : Nat, k ≤ n ∧ i = .int .i64 k ∧ Hid ((ls.take k).any (fun l => !l.any (inB b)) = false) ∧ Hid (Blk wr w.heap.size 24 #[.int .i64 I, .slice A n c]) ∧ Below w.heap.size w wr) (fun i _ => n - (intOf i).toNat)
  case atStart => exact ⟨0, by omega, rfl, hid (by simp), hid B0, hb0⟩
  case round =>
    clear B0 hb0
    obtain ⟨k, hk, rfl, hno, hB, hbw⟩ := hrel
    have hszw := hbw.size
    have c1 := hB.out.cell 1
    have l1 := hB.out.lt
    by_cases hlt : k < n
    · obtain ⟨b1, off, x, A', m, c', rfl, hb1, hm, c0, hin⟩ := (HL.out.below hbw hszw).at_ hlt
      have hxv := HV.out x (List.mem_of_getElem? hm)
      have hx8 : m ≤ 8 := by have := isL_len8 hxv (by omega); have := hin.len; omega
      have hlti : (k : Int) < n := by omega
      have hcb := rbits_any A' m c' x wr hin (by omega) (fun y hy => by have := isL_bd hxv y hy; omega)
      have hand := bits_and_i64_nat (bitsL x) b (Nat.lt_of_lt_of_le (bitsL_lt (n := 8) hxv) (by decide)) HB.out
      have hiff := bitsL_and (l := x) (b := b) (fun y hy => (isL_bd hxv y hy).1)
      obtain ⟨N, hN⟩ : ∃ N, bitsL x = N := ⟨_, rfl⟩
      rw [hN] at hcb hand hiff
      have Hm := hid hm
      clear hm hin hxv hN
      cases hx : x.any (inB b)
      · have hz : N &&& b = 0 := hiff.2 hx
        have Hf := hid (idxA_hit hno.out Hm.out (by simp [hx]))
        rw [hz] at hand
        clear hx hiff hz
        go_wp2_with (go_at_call 39; refine hcb.mono ?_; rintro e w1 ⟨rfl, rfl⟩)
        refine bodyPost_ret (v := .int .i64 k) (by first | (simp [results, Try.results38, go_sem]; done) | (simp [results, Try.results38, go_sem, *]; done) | (simp [results, Try.results38, go_sem, World.cell?_setCell_same', *]; done) | (simp [results, Try.results38, go_sem]; first | exact ⟨rfl, rfl⟩ | rfl)) rfl ⟨by rw [← Hiv.out]; unfold missI; rw [Hf.out], hbw⟩
      · have hz : ¬ ((N &&& b : Nat) : Int) = 0 := fun e => by
          have := hiff.1 (by omega)
          rw [hx] at this; cases this
        have Hs := hid (any_off hno.out Hm.out (by simp [hx]))
        clear hx hiff
        go_wp2_with (go_at_call 39; refine hcb.mono ?_; rintro e w1 ⟨rfl, rfl⟩)
        exact ⟨⟨k + 1, by omega, by go_num, Hs, hB, hbw⟩, by simp [intOf]; omega⟩
    · obtain rfl : k = n := by omega
      have Hf : Hid (idxA (fun l => !l.any (inB b)) ls = -1) := hid (idxA_none (by have := hno.out; rwa [List.take_of_length_le (by rw [hlen.out]; exact Nat.le_refl _)] at this))
      go_wp2
      refine bodyPost_ret (v := .int .i64 (-1)) (by first | (simp [results, Try.results38, go_sem]; done) | (simp [results, Try.results38, go_sem, *]; done) | (simp [results, Try.results38, go_sem, World.cell?_setCell_same', *]; done) | (simp [results, Try.results38, go_sem]; first | exact ⟨rfl, rfl⟩ | rfl)) rfl ⟨by rw [← Hiv.out]; unfold missI; rw [Hf.out], hbw⟩
end Go.Proofs.Ytnpilfpackdimaa
