/- Texts of the proof, laid together by program. -/
import Derived.Test.YtpgdfipikfbjeaaMl
import Derived.Test.YtpgdfipikfbjeaaMf
import Derived.Test.YtpgdfipikfbjeaaMd
set_option linter.unusedSimpArgs false
set_option linter.unusedVariables false
/- Walks: needed. -/
namespace Go.Proofs.Ytpgdfipikfbjeaa
open Go.RowKit Go.WideMaps Go.Shelf
open Go.Maps (Keyed)
attribute [local go_sem] Oper.semAt_some
theorem onesB (x : Nat) (W : World) (hx : x < 65536) : Calls Try.prog 97 #[.int .u64 (x : Int)] W fun e w' => e = .returned (.int .i64 (cnt x 16 : Nat)) ∧ Below W.heap.size W w' := (ones_any x W hx).mono fun _ _ h => ⟨h.1, by rw [← h.2]; exact Below.refl _ _⟩
theorem lenB (c : Nat) (W : World) (h1 : 1 ≤ c) (hc : c ≤ 16) : Calls Try.prog 87 #[.int .u64 ((c : Int) - 1)] W fun e w' => e = .returned (.int .i64 (Lib.bitLen (c - 1) : Nat)) ∧ Below W.heap.size W w' := (len_any ((c : Int) - 1) W (by omega) (by omega)).mono fun _ _ h => ⟨by rw [h.1, show ((c : Int) - 1).toNat = c - 1 by omega], by rw [← h.2]; exact Below.refl _ _⟩
theorem spS_at {w : World} {B s : Nat} {A : Option Addr} {CL ls : List (List Int)} (h : SpS w B A CL s ls) {k : Nat} {x : List Int} (hx : ls[k]? = some x) : ∃ b off A' m c, A = some ⟨b, off, none⟩ ∧ b < B ∧ InS w B A' m x ∧ w.cell? ⟨b, off + k * 3, none⟩ = some (.slice A' m c) ∧ w.cell? ⟨b, off + k * 3 + 1, none⟩ = some (.int .u64 (withN CL s x CL.length : Nat)) ∧ w.cell? ⟨b, off + k * 3 + 2, none⟩ = some (.int .u64 (gooN CL s x CL.length : Nat)) := by
  obtain ⟨vs, h1, h2, h3⟩ := h
  have hk := (List.getElem?_eq_some_iff.1 hx).1
  obtain ⟨A', m, c, hv, hin⟩ := h3 k x hx
  obtain ⟨b, off, e, hb, hc⟩ := h2.2 (by omega)
  have hz : (vs.zip ls)[k]? = some (Value.slice A' m c, x) := List.getElem?_zip_eq_some.2 ⟨hv, hx⟩
  refine ⟨b, off, A', m, c, e, hb, hin, ?_, ?_, ?_⟩
  · have := hc (k * 3 + 0) _ (by rw [flat_at (s := 3) (spC_len CL s) _ k 0 _ hz (by omega)]; rfl)
    simpa using this
  · have := hc (k * 3 + 1) _ (by rw [flat_at (s := 3) (spC_len CL s) _ k 1 _ hz (by omega)]; rfl)
    rw [Nat.add_assoc]; exact this
  · have := hc (k * 3 + 2) _ (by rw [flat_at (s := 3) (spC_len CL s) _ k 2 _ hz (by omega)]; rfl)
    rw [Nat.add_assoc]; exact this
theorem cnt_ne {x : Nat} (hx : x < 2 ^ 16) (h : x ≠ 0) : 1 ≤ cnt x 16 := by
  rcases Nat.eq_zero_or_pos (cnt x 16) with h1 | h1
  · exact absurd (cnt_zero hx h1) h
  · exact h1
set_option maxRecDepth 100000 in
set_option maxHeartbeats 8000000 in
theorem needed_rec (g P M mp : Nat) (CL pl : List (List Int)) (hP : P ≤ 5) (hM : M ≤ 2) (hCL : casesL P M = CL) : ∀ s : Nat, s < 2 ^ CL.length → ∀ w, Bench w g P M CL pl mp → MemW CL P mp w →
    Calls Try.prog 78 #[.pointer (some ⟨g, 0, none⟩), .agg #[.int .u64 (s : Int)]] w fun e w' => e = .returned (.int .i64 (need CL P s : Nat)) ∧ w.grownBy w' (some mp) ∧ MemW CL P mp w' := by
  have hcl : CL.length ≤ 16 := by rw [← hCL]; exact cases_len5 hP
  have hp16 : 2 ^ CL.length ≤ 2 ^ 16 := Nat.pow_le_pow_right (by omega) hcl
  have e16 : (2 : Nat) ^ 16 = 65536 := by decide
  have HCB := hid (show ∀ x ∈ CL, ∀ v ∈ x, 0 ≤ v ∧ v < 8 from fun x hx v hv => by have := cases_bd (P := P) (M := M) (by omega) hM x (by rw [hCL]; exact hx) v hv; omega)
  have HCS := hid (show ∀ x ∈ CL, x.length ≤ 12 from fun x hx => by have := cases_short P M x (by rw [hCL]; exact hx); omega)
  have HCL := hid hCL
  clear hCL
  intro s
  induction s using Nat.strongRecOn with
  | _ s ih =>
    intro hs w hB hmem
    have IH := hid ih
    clear ih
    have hs16 : s < 65536 := by omega
    have hc2 : Hid (cnt s 16 = 2 → need CL P s = 1) := hid (fun h => by
      have := need_two (P := P) (M := M) (by omega) hM (left := s) (by rw [HCL.out]; exact hs) (by rw [HCL.out]; rw [← cnt_ext hs hcl]; exact h)
      rw [HCL.out] at this; exact this)
    have hc1 : Hid (cnt s 16 ≤ 1 → need CL P s = 0) := hid (fun h => need_one hs (by rw [← cnt_ext hs hcl]; exact h))
    obtain ⟨c, hc⟩ : ∃ c, cnt s 16 = c := ⟨_, rfl⟩
    have hcle : c ≤ 16 := by rw [← hc]; exact cnt_le _ _
    have Hc := hid hc
    rw [hc] at hc1 hc2
    obtain ⟨W1, hW1⟩ : ∃ W1, w.alloc (.cells #[.int .u64 (s : Int)] 88) = W1 := ⟨_, rfl⟩
    have hb1 : Below w.heap.size w W1 := by rw [← hW1]; exact (Below.refl _ _).alloc (Nat.le_refl _) _
    have B3 : Blk W1 w.heap.size 88 #[.int .u64 (s : Int)] := by rw [← hW1]; exact Blk.new' rfl
    have HB1 := hid (hB.below hb1)
    have hm1 := hmem.below hb1
    have Hm1 := hid hm1
    have H3 := hid B3
    have c3 := B3.cell 0
    have l3 := B3.lt
    have hmp := hmem.lt
    clear hc hB B3 hmem
    by_cases hlow : c < 3
    · have hlowi : (c : Int) < 3 := by omega
      have zc : IntKind.i64.wrap ((c : Int) - 1) = (c : Int) - 1 := IntWalk.i64_in _ (by omega)
      have hval : ((need CL P s : Nat) : Int) = max 0 ((c : Int) - 1) := by
        rcases (by omega : c ≤ 1 ∨ c = 2) with h | h
        · rw [hc1.out h, Int.max_def]; split <;> omega
        · rw [hc2.out h, Int.max_def]; split <;> omega
      have Hval := hid hval
      clear hval
      go_enter Try.func78, Try.ntmps78
      go_wp2_with (go_at_call 97; refine (ones_any s _ hs16).mono ?_; rw [Hc.out]; rintro e w1 ⟨rfl, rfl⟩)
      refine bodyPost_ret (v := .int .i64 (max 0 ((c : Int) - 1))) (by first | (simp [results, Try.results78, go_sem]; done) | (simp [results, Try.results78, go_sem, *]; done) | (simp [results, Try.results78, go_sem, World.cell?_setCell_same', *]; done) | (simp [results, Try.results78, go_sem]; first | exact ⟨rfl, rfl⟩ | rfl)) rfl ⟨by rw [Hval.out], grownM_below hb1, Hm1.out⟩
    · have hlowi : ¬ (c : Int) < 3 := by omega
      obtain ⟨D, hown, hmemo⟩ := hm1
      obtain ⟨cv, hat⟩ := look_some hown hs16
      have Hown := hid hown
      have Hmemo := hid hmemo
      have Hat := hid hat
      have hB1 := HB1.out
      obtain ⟨A1, c1, A2, c2, hG, hC, hR8, hcap⟩ := hB1
      have HG := hid hG
      have q4 := hG.cell 4
      have lg := hG.lt
      clear hG hC hR8 hcap hown hmemo hat
      go_enter Try.func78, Try.ntmps78
      go_wp2_with (go_at_call 97; refine (ones_any s _ hs16).mono ?_; rw [Hc.out]; rintro e w1 ⟨rfl, rfl⟩)
      refine wp_region_hd_all (fun W => Below W1.heap.size W1 W) (by kernel_rfl) (by kernel_rfl) ((Below.refl _ _).drew) ?_
      iterate 5 (refine wpHd_val (v := ?_) (by rfl) (fun W hW => ?_) ?_; rotate_left; (· obtain ⟨hcW, hfW⟩ := bcell hW; go_simp; with_reducible rfl); simp only [Act.put, List.setIfInBounds_toArray, List.set_cons_zero, List.set_cons_succ])
      refine wpHd_val (v := .tuple #[.int .i64 cv, .bool (Maps.has D (kS s))]) (by rfl) (fun W hW => ?_) ?_
      · go_simp
        rw [look_okS (map_below Hown.out hW) hs16 Hat.out]
        rfl
      simp only [Act.put, List.setIfInBounds_toArray, List.set_cons_zero, List.set_cons_succ]
      iterate 5 (refine wpHd_val (v := ?_) (by rfl) (fun W hW => ?_) ?_; rotate_left; (· obtain ⟨hcW, hfW⟩ := bcell hW; go_simp; with_reducible rfl); simp only [Act.put, List.setIfInBounds_toArray, List.set_cons_zero, List.set_cons_succ])
      refine wpHd_nil ?_
      intro W2 hW2
      have hb2 : Below w.heap.size w W2 := hb1.trans (hW2.mono hb1.size)
      clear c3 q4 l3 hW1
      cases hh : Maps.has D (kS s)
      · have hB2 := HB1.out.below hW2
        have Hm2 := hid (Hm1.out.below hW2)
        have q2 := (HG.out.below hW2 lg).cell 2
        have lg2 := Nat.lt_of_lt_of_le lg hW2.size
        have H32 := hid (H3.out.below hW2 H3.out.lt)
        have c3 := H32.out.cell 0
        have l3 := H32.out.lt
        have HB2 := hid hB2
        have Hh := hid hh
        clear hB2 hh
        go_wp2_with (go_at_call 83; refine (splits_any g P M mp s CL pl _ HB2.out (by omega) hcl hs16 HCB.out HCS.out).mono ?_; rintro e W3 ⟨A9, c9, rfl, hsp, -, hb3⟩)
        have hb23 : Below w.heap.size w W3 := hb2.trans (hb3.mono hb2.size)
        have Hm3 := hid (Hm2.out.below hb3)
        have HB3 := hid (HB2.out.below hb3)
        have H33 := hid (H32.out.below hb3 l3)
        have HG3 := hid ((HG.out.below hW2 lg).below hb3 lg2)
        have HSP := hid hsp
        obtain ⟨X, hX⟩ : ∃ X, splR CL s P = X := ⟨_, rfl⟩
        have hXl : X.length ≤ 255 := by rw [← hX]; exact splTo_len (by omega) (by omega)
        have hXk : ∀ x ∈ X, keepS CL s x = true := fun x hx => by rw [← hX] at hx; exact (List.mem_filter.1 hx).2
        have hXf : Hid (foldP CL P s X X.length = need CL P s) := hid (by rw [← hX]; exact foldP_need hcl hP hs (by rw [Hc.out]; omega))
        rw [hX] at HSP ⊢
        have HXk := hid hXk
        obtain ⟨es3, cl3, hmap3⟩ := Hm3.out.isMap
        have Hmap3 := hid hmap3
        have hbF := hid (foldP_le CL P s X)
        clear c3 q2 l3 lg2 hsp hX hXk hmap3
        go_loopw [8, 40] (fun o i wr => ∃ k : Nat, k ≤ X.length ∧ i = .int .i64 (k : Int) ∧ o = .int .i64 (foldP CL P s X k : Nat) ∧ W3.grownBy wr (some mp) ∧ Hid (MemW CL P mp wr)) (fun _ i _ => X.length - (intOf i).toNat)
        case atStart => exact ⟨0, by omega, rfl, rfl, grownM_below (Below.refl _ _), Hm3⟩
        case round =>
          obtain ⟨k, hk, rfl, rfl, hgw, hmw⟩ := hrel
          have hzw := hgw.size
          have hbfk := hbF.out k
          by_cases hlt : k < X.length
          · obtain ⟨x, hx⟩ : ∃ x, X[k]? = some x := ⟨_, List.getElem?_eq_getElem hlt⟩
            have hlti : (k : Int) < X.length := by omega
            obtain ⟨b0, off, A', m', c', rfl, hb0, hin, e0, e1, e2⟩ := spS_at (SpS.growM hgw Hmap3.out HSP.out) hx
            have hkx := HXk.out x (List.mem_of_getElem? hx)
            have hstep := foldP_succ (l := CL) (P := P) (s := s) hx
            obtain ⟨kn1, kn2⟩ := (keepS_iff hs x).1 hkx
            have hBlt : withN CL s x CL.length < s := by have := withN_le CL s x CL.length; omega
            have hGe := gooN_sub (l := CL) (rod := x) hs
            have hGlt : gooN CL s x CL.length < s := by rw [hGe]; omega
            have hG0 : gooN CL s x CL.length ≠ 0 := by rw [hGe]; omega
            have hv : vN CL P s x = 1 + max (need CL P (withN CL s x CL.length)) (need CL P (gooN CL s x CL.length)) := rfl
            have hle : leastN CL s x = max (Lib.bitLen (cnt (withN CL s x CL.length) 16 - 1)) (Lib.bitLen (cnt (gooN CL s x CL.length) 16 - 1)) := rfl
            obtain ⟨B0, hBq⟩ : ∃ B0, withN CL s x CL.length = B0 := ⟨_, rfl⟩
            obtain ⟨G0, hGq⟩ : ∃ G0, gooN CL s x CL.length = G0 := ⟨_, rfl⟩
            rw [hBq] at e1 kn1 kn2 hBlt hv hle
            rw [hGq] at e2 hGlt hG0 hv hle
            have nb := need_le CL P B0
            have ng := need_le CL P G0
            have cB1 := cnt_ne (x := B0) (by omega) kn1
            have cG1 := cnt_ne (x := G0) (by omega) hG0
            have cB2 := cnt_le B0 16
            have cG2 := cnt_le G0 16
            have HcB := hid (show ∀ W : World, Calls Try.prog 97 #[.int .u64 (B0 : Int)] W fun e w' => e = .returned (.int .i64 (cnt B0 16 : Nat)) ∧ Below W.heap.size W w' from fun W => onesB B0 W (by omega))
            have HcG := hid (show ∀ W : World, Calls Try.prog 97 #[.int .u64 (G0 : Int)] W fun e w' => e = .returned (.int .i64 (cnt G0 16 : Nat)) ∧ Below W.heap.size W w' from fun W => onesB G0 W (by omega))
            obtain ⟨cB, hcB⟩ : ∃ cB, cnt B0 16 = cB := ⟨_, rfl⟩
            obtain ⟨cG, hcG⟩ : ∃ cG, cnt G0 16 = cG := ⟨_, rfl⟩
            rw [hcB] at HcB cB1 cB2 hle
            rw [hcG] at HcG cG1 cG2 hle
            have HlB := hid (fun W => lenB cB W cB1 cB2)
            have HlG := hid (fun W => lenB cG W cG1 cG2)
            have bB := bit_le (c := cB) (k := 4) (by omega) (by omega)
            have bG := bit_le (c := cG) (k := 4) (by omega) (by omega)
            obtain ⟨lB, hlB⟩ : ∃ lB, Lib.bitLen (cB - 1) = lB := ⟨_, rfl⟩
            obtain ⟨lG, hlG⟩ : ∃ lG, Lib.bitLen (cG - 1) = lG := ⟨_, rfl⟩
            rw [hlB] at HlB bB hle
            rw [hlG] at HlG bG hle
            obtain ⟨nB, hnB⟩ : ∃ nB, need CL P B0 = nB := ⟨_, rfl⟩
            obtain ⟨nG, hnG⟩ : ∃ nG, need CL P G0 = nG := ⟨_, rfl⟩
            have HnB := hid hnB
            have HnG := hid hnG
            rw [hnB] at nb hv
            rw [hnG] at ng hv
            obtain ⟨F0, hF0⟩ : ∃ F0, foldP CL P s X k = F0 := ⟨_, rfl⟩
            rw [hF0] at hstep hbfk ⊢
            unfold stepP at hstep
            rw [hle, hv] at hstep
            obtain ⟨L0, hL0⟩ : ∃ L0, max lB lG = L0 := ⟨_, rfl⟩
            have hL4 : L0 ≤ 4 := by omega
            have hmx : max (lB : Int) (lG : Int) = (L0 : Int) := by rw [← hL0]; omega
            rw [hL0] at hstep
            have zcB : IntKind.i64.wrap ((cB : Int) - 1) = (cB : Int) - 1 := IntWalk.i64_in _ (by omega)
            have zcG : IntKind.i64.wrap ((cG : Int) - 1) = (cG : Int) - 1 := IntWalk.i64_in _ (by omega)
            have zuB : IntKind.u64.wrap ((cB : Int) - 1) = (cB : Int) - 1 := by rw [IntKind.wrap_u64]; omega
            have zuG : IntKind.u64.wrap ((cG : Int) - 1) = (cG : Int) - 1 := by rw [IntKind.wrap_u64]; omega
            have zL : IntKind.i64.wrap ((L0 : Int) + 1) = (L0 : Int) + 1 := IntWalk.i64_in _ (by omega)
            have hmn : max (nB : Int) (nG : Int) = ((max nB nG : Nat) : Int) := by omega
            have zN : IntKind.i64.wrap (1 + ((max nB nG : Nat) : Int)) = 1 + ((max nB nG : Nat) : Int) := IntWalk.i64_in _ (by omega)
            have hmm : min (F0 : Int) (1 + ((max nB nG : Nat) : Int)) = ((min F0 (1 + max nB nG) : Nat) : Int) := by omega
            have Hst := hid hstep
            have hBlt2 : B0 < 2 ^ CL.length := by omega
            have hGlt2 : G0 < 2 ^ CL.length := by omega
            clear hstep hv hle hkx hx hBq hGq hGe hcB hcG hlB hlG hnB hnG hF0 hL0 hin bB bG kn1 kn2
            obtain ⟨T10, hT10⟩ : ∃ T10, wr.heap.size = T10 := ⟨_, rfl⟩
            obtain ⟨Wd, hWd⟩ : ∃ Wd, wr.alloc (.cells #[.slice A' m' c', .int .u64 (B0 : Int), .int .u64 (G0 : Int)] 94) = Wd := ⟨_, rfl⟩
            have hbd : Below wr.heap.size wr Wd := by rw [← hWd]; exact (Below.refl _ _).alloc (Nat.le_refl _) _
            have B10 : Blk Wd T10 94 #[.slice A' m' c', .int .u64 (B0 : Int), .int .u64 (G0 : Int)] := by rw [← hWd]; exact Blk.new' hT10
            have hmd := hid (hmw.out.below hbd)
            have hgd := grownM_then hgw hbd
            have l10 := B10.lt
            have H10 := hid B10
            have r1 := B10.cell 1
            have r2 := B10.cell 2
            have hb0w : b0 < wr.heap.size := by omega
            go_wp2
            refine wp_region_hd_all (fun W => Below Wd.heap.size Wd W) (by kernel_rfl) (by kernel_rfl) ((Below.refl _ _).drew) ?_
            iterate 3 (refine wpHd_val (v := ?_) (by rfl) (fun W hW => ?_) ?_; rotate_left; (· obtain ⟨hcW, hfW⟩ := bcell hW; go_simp; with_reducible rfl); simp only [Act.put, List.setIfInBounds_toArray, List.set_cons_zero, List.set_cons_succ])
            (refine wpHd_callB (by rfl) (fun W hW => HcB.out W) (fun W hW => ?_) ?_; (· obtain ⟨hcW, hfW⟩ := bcell hW; go_simp); simp only [Act.put, List.setIfInBounds_toArray, List.set_cons_zero, List.set_cons_succ])
            iterate 2 (refine wpHd_val (v := ?_) (by rfl) (fun W hW => ?_) ?_; rotate_left; (· obtain ⟨hcW, hfW⟩ := bcell hW; go_simp; with_reducible rfl); simp only [Act.put, List.setIfInBounds_toArray, List.set_cons_zero, List.set_cons_succ])
            (refine wpHd_callB (by rfl) (fun W hW => HlB.out W) (fun W hW => ?_) ?_; (· obtain ⟨hcW, hfW⟩ := bcell hW; go_simp); simp only [Act.put, List.setIfInBounds_toArray, List.set_cons_zero, List.set_cons_succ])
            iterate 3 (refine wpHd_val (v := ?_) (by rfl) (fun W hW => ?_) ?_; rotate_left; (· obtain ⟨hcW, hfW⟩ := bcell hW; go_simp; with_reducible rfl); simp only [Act.put, List.setIfInBounds_toArray, List.set_cons_zero, List.set_cons_succ])
            (refine wpHd_callB (by rfl) (fun W hW => HcG.out W) (fun W hW => ?_) ?_; (· obtain ⟨hcW, hfW⟩ := bcell hW; go_simp); simp only [Act.put, List.setIfInBounds_toArray, List.set_cons_zero, List.set_cons_succ])
            iterate 2 (refine wpHd_val (v := ?_) (by rfl) (fun W hW => ?_) ?_; rotate_left; (· obtain ⟨hcW, hfW⟩ := bcell hW; go_simp; with_reducible rfl); simp only [Act.put, List.setIfInBounds_toArray, List.set_cons_zero, List.set_cons_succ])
            (refine wpHd_callB (by rfl) (fun W hW => HlG.out W) (fun W hW => ?_) ?_; (· obtain ⟨hcW, hfW⟩ := bcell hW; go_simp); simp only [Act.put, List.setIfInBounds_toArray, List.set_cons_zero, List.set_cons_succ])
            iterate 2 (refine wpHd_val (v := ?_) (by rfl) (fun W hW => ?_) ?_; rotate_left; (· obtain ⟨hcW, hfW⟩ := bcell hW; go_simp; with_reducible rfl); simp only [Act.put, List.setIfInBounds_toArray, List.set_cons_zero, List.set_cons_succ])
            refine wpHd_nil ?_
            intro W7 hW7
            have hg7 := grownM_then hgd hW7
            have hm7 := hid (hmd.out.below hW7)
            have H17 := hid (H10.out.below hW7 l10)
            have l17 := H17.out.lt
            clear r1 r2 hWd
            by_cases hlo : L0 + 1 < F0
            · have hloi : (L0 : Int) + 1 < F0 := by omega
              have Hst2 := hid (Hst.out.trans (if_pos hlo))
              obtain ⟨es7, cl7, hmap7⟩ := hm7.out.isMap
              have Hmap7 := hid hmap7
              have hB7 := hid (HB3.out.growM hg7 Hmap3.out)
              clear hmap7
              go_wp2
              refine wp_region_hd_all (fun W => W7.grownBy W (some mp) ∧ MemW CL P mp W) (by kernel_rfl) (by kernel_rfl) ⟨grownM_below ((Below.refl _ _).drew), hm7.out⟩ ?_
              iterate 2 (refine wpHd_val (v := ?_) (by rfl) (fun W hW => ?_) ?_; rotate_left; (· skip; go_simp; with_reducible rfl); simp only [Act.put, List.setIfInBounds_toArray, List.set_cons_zero, List.set_cons_succ])
              iterate 2 (refine wpHd_val (v := ?_) (by rfl) (fun W hW => ?_) ?_; rotate_left; (· have cB := (blk_growM hW.1 Hmap7.out H17.out).cell 1; have lT := Nat.lt_of_lt_of_le l17 hW.1.size; go_simp; with_reducible rfl); simp only [Act.put, List.setIfInBounds_toArray, List.set_cons_zero, List.set_cons_succ])
              (refine wpHd_call (by rfl) (fun W hW => ?_) (fun W hW => (IH.out B0 hBlt hBlt2 W (hB7.out.growM hW.1 Hmap7.out) hW.2).mono (fun e w' ⟨h1, h2, h3⟩ => ⟨by rw [h1, HnB.out], grownM_trans hW.1 h2 (fun r e => .inr (Option.some.inj e).symm), h3⟩)) ?_; (· go_simp); simp only [Act.put, List.setIfInBounds_toArray, List.set_cons_zero, List.set_cons_succ])
              iterate 1 (refine wpHd_val (v := ?_) (by rfl) (fun W hW => ?_) ?_; rotate_left; (· skip; go_simp; with_reducible rfl); simp only [Act.put, List.setIfInBounds_toArray, List.set_cons_zero, List.set_cons_succ])
              iterate 2 (refine wpHd_val (v := ?_) (by rfl) (fun W hW => ?_) ?_; rotate_left; (· have cB := (blk_growM hW.1 Hmap7.out H17.out).cell 2; have lT := Nat.lt_of_lt_of_le l17 hW.1.size; go_simp; with_reducible rfl); simp only [Act.put, List.setIfInBounds_toArray, List.set_cons_zero, List.set_cons_succ])
              (refine wpHd_call (by rfl) (fun W hW => ?_) (fun W hW => (IH.out G0 hGlt hGlt2 W (hB7.out.growM hW.1 Hmap7.out) hW.2).mono (fun e w' ⟨h1, h2, h3⟩ => ⟨by rw [h1, HnG.out], grownM_trans hW.1 h2 (fun r e => .inr (Option.some.inj e).symm), h3⟩)) ?_; (· go_simp); simp only [Act.put, List.setIfInBounds_toArray, List.set_cons_zero, List.set_cons_succ])
              iterate 4 (refine wpHd_val (v := ?_) (by rfl) (fun W hW => ?_) ?_; rotate_left; (· skip; go_simp; with_reducible rfl); simp only [Act.put, List.setIfInBounds_toArray, List.set_cons_zero, List.set_cons_succ])
              refine wpHd_nil ?_
              intro W8 hW8
              obtain ⟨hg8, hm8⟩ := hW8
              have hg8' := grownM_trans hg7 hg8 (fun r e => .inr (Option.some.inj e).symm)
              have Hm8 := hid hm8
              clear hg8 hm8
              go_wp2
              (first | exact ⟨⟨k + 1, by omega, by go_num, by rw [Hst2.out], hg8', Hm8⟩, (by first | (simp [intOf]; omega) | (simp [intOf]; done))⟩ | (refine ⟨?_, ?_⟩; (focus ((repeat apply Exists.intro); refine ⟨?_, rfl⟩; exact ⟨k + 1, by omega, by go_num, by rw [Hst2.out], hg8', Hm8⟩)); (first | (simp [intOf]; omega) | (simp [intOf]; done))))
            · have hloi : ¬ (L0 : Int) + 1 < F0 := by omega
              have Hst2 := hid (Hst.out.trans (if_neg hlo))
              go_wp2
              (first | exact ⟨⟨k + 1, by omega, by go_num, by rw [Hst2.out], hg7, hm7⟩, (by first | (simp [intOf]; omega) | (simp [intOf]; done))⟩ | (refine ⟨?_, ?_⟩; (focus ((repeat apply Exists.intro); refine ⟨?_, rfl⟩; exact ⟨k + 1, by omega, by go_num, by rw [Hst2.out], hg7, hm7⟩)); (first | (simp [intOf]; omega) | (simp [intOf]; done))))
          · have hke : X.length = k := by omega
            have hlti : ¬ (k : Int) < X.length := by omega
            obtain ⟨D7, hown7, hmemo7⟩ := hmw.out
            have Hown7 := hid hown7
            have Hmemo7 := hid hmemo7
            have hq3 := blk_growM hgw Hmap3.out HG3.out
            have hq7 := blk_growM hgw Hmap3.out H33.out
            have q4 := hq3.cell 4
            have lg7 := hq3.lt
            have q3 := hq7.cell 0
            have l3 := hq7.lt
            have HQ3 := hid hq3
            have HQ7 := hid hq7
            have hFk : foldP CL P s X k = need CL P s := by rw [← hke]; exact hXf.out
            have nb := need_le CL P s
            obtain ⟨N, hN⟩ : ∃ N, need CL P s = N := ⟨_, rfl⟩
            have HN := hid hN
            rw [hFk, hN]
            rw [hN] at nb
            have hg9 : w.grownBy wr (some mp) := grownM_trans (grownM_below hb23) hgw (fun r e => .inr (Option.some.inj e).symm)
            have hwf : (Lit.int .i64 (N : Int)).wf = true := by simp [Lit.wf, IntKind.min, IntKind.max, IntKind.signed, IntKind.bits]; omega
            have Hwf := hid hwf
            clear hown7 hmemo7 hq3 hq7 hke hFk hN hwf
            go_wp2
            refine wp_region_hd 6 (fun W => Below wr.heap.size wr W) (by kernel_rfl) (by kernel_rfl) ((Below.refl _ _).drew) ?_
            simp only [List.take_succ_cons, List.take_zero, List.drop_succ_cons, List.drop_zero]
            iterate 6 (refine wpHd_val (v := ?_) (by rfl) (fun W hW => ?_) ?_; rotate_left; (· obtain ⟨hcW, hfW⟩ := bcell hW; go_simp; with_reducible rfl); simp only [Act.put, List.setIfInBounds_toArray, List.set_cons_zero, List.set_cons_succ])
            refine wpHd_nil ?_
            intro W7 hW7
            have h37 := HQ3.out.below hW7 lg7
            have h77 := HQ7.out.below hW7 l3
            have H37 := hid h37
            have H77 := hid h77
            have hg7 := grownM_then hg9 hW7
            have hmp7 : mp < W7.heap.size := by have := hmw.out.lt; have := hW7.size; omega
            clear q3 q4 l3 lg7 h37 h77
            by_cases h3c : c = 3
            · subst h3c
              go_wp2_with (at_mapUpdate; refine wpList_mapUpdate_own _ rfl _ _ _ 73 rfl 88 3 K88 under73 _ mp 65536 D7 rfl (map_below Hown7.out hW7) (by unfold maxLen; omega) _ _ (kS s) rfl rfl (key_kS hs16) _ [] (plainElem_int under3 Hwf.out) ?_; intro W11 hmap11 hgr11)
              have hg11 := grownM_trans hg7 hgr11 (fun r e => .inr (Option.some.inj e).symm)
              have hm11 : MemW CL P mp W11 := MemW.put hs16 Hmemo7.out (by rw [HN.out]; exact hmap11)
              obtain ⟨es9, cl9, hmap9⟩ := (hmw.out.below hW7).isMap
              have h3 := blk_growM hgr11 hmap9 H37.out
              have h7 := blk_growM hgr11 hmap9 H77.out
              have q4 := h3.cell 4
              have lg9 := h3.lt
              have q3 := h7.cell 0
              have l3 := h7.lt
              have Hm11 := hid hm11
              have h3' := hid h3
              have h7' := hid h7
              obtain ⟨D11, hown11, hmemo11⟩ := hm11
              have Hown11 := hid hown11
              have Hmemo11 := hid hmemo11
              clear hmap11 hmap9 h3 h7 hown11 hmemo11
              refine wp_region_hd 5 (fun W => Below W11.heap.size W11 W) (by kernel_rfl) (by kernel_rfl) ((Below.refl _ _).drew) ?_
              simp only [List.take_succ_cons, List.take_zero, List.drop_succ_cons, List.drop_zero]
              iterate 5 (refine wpHd_val (v := ?_) (by rfl) (fun W hW => ?_) ?_; rotate_left; (· obtain ⟨hcW, hfW⟩ := bcell hW; go_simp; with_reducible rfl); simp only [Act.put, List.setIfInBounds_toArray, List.set_cons_zero, List.set_cons_succ])
              refine wpHd_nil ?_
              intro W12 hW12
              have hg12 := grownM_then hg11 hW12
              clear q3 q4 l3 lg9
              go_wp2_with (at_delete; refine wpList_delete_own _ rfl _ _ 73 88 rfl 3 K88 under73 _ mp 65536 D11 rfl (map_below Hown11.out hW12) _ (kS s) rfl (key_kS hs16) ?_; intro W13 hmap13 htn)
              have hm13 : MemW CL P mp W13 := MemW.del hs16 Hmemo11.out hmap13
              have hg13 := grownM_trans hg12 htn.grown (fun r e => .inr (Option.some.inj e).symm)
              refine bodyPost_ret (v := .int .i64 (N : Nat)) (by first | (simp [results, Try.results78, go_sem]; done) | (simp [results, Try.results78, go_sem, *]; done) | (simp [results, Try.results78, go_sem, World.cell?_setCell_same', *]; done) | (simp [results, Try.results78, go_sem]; first | exact ⟨rfl, rfl⟩ | rfl)) rfl ⟨by rw [HN.out], hg13, hm13⟩
            · have h3i : ¬ (c : Int) = 3 := by omega
              have t3 : ((c : Int) == 3) = false := by simp [h3i]
              go_wp2_with (at_mapUpdate; refine wpList_mapUpdate_own _ rfl _ _ _ 73 rfl 88 3 K88 under73 _ mp 65536 D7 rfl (map_below Hown7.out hW7) (by unfold maxLen; omega) _ _ (kS s) rfl rfl (key_kS hs16) _ [] (plainElem_int under3 Hwf.out) ?_; intro W11 hmap11 hgr11)
              have hg11 := grownM_trans hg7 hgr11 (fun r e => .inr (Option.some.inj e).symm)
              have hm11 : MemW CL P mp W11 := MemW.put hs16 Hmemo7.out (by rw [HN.out]; exact hmap11)
              obtain ⟨es9, cl9, hmap9⟩ := (hmw.out.below hW7).isMap
              have h3 := blk_growM hgr11 hmap9 H37.out
              have h7 := blk_growM hgr11 hmap9 H77.out
              have q4 := h3.cell 4
              have lg9 := h3.lt
              have q3 := h7.cell 0
              have l3 := h7.lt
              have Hm11 := hid hm11
              have h3' := hid h3
              have h7' := hid h7
              obtain ⟨D11, hown11, hmemo11⟩ := hm11
              have Hown11 := hid hown11
              have Hmemo11 := hid hmemo11
              clear hmap11 hmap9 h3 h7 hown11 hmemo11
              refine bodyPost_ret (v := .int .i64 (N : Nat)) (by first | (simp [results, Try.results78, go_sem]; done) | (simp [results, Try.results78, go_sem, *]; done) | (simp [results, Try.results78, go_sem, World.cell?_setCell_same', *]; done) | (simp [results, Try.results78, go_sem]; first | exact ⟨rfl, rfl⟩ | rfl)) rfl ⟨by rw [HN.out], hg11, Hm11.out⟩
      · have hcv : cv = (need CL P s : Nat) := by
          have := Hmemo.out.ok s hs16 hh (.lit (.int .i64 0))
          rw [Hat.out] at this
          cases this; rfl
        have Hcv := hid hcv
        have Hm2 := hid (Hm1.out.below hW2)
        clear hcv hh
        go_wp2
        refine bodyPost_ret (v := .int .i64 cv) (by first | (simp [results, Try.results78, go_sem]; done) | (simp [results, Try.results78, go_sem, *]; done) | (simp [results, Try.results78, go_sem, World.cell?_setCell_same', *]; done) | (simp [results, Try.results78, go_sem]; first | exact ⟨rfl, rfl⟩ | rfl)) rfl ⟨by rw [Hcv.out], grownM_below hb2, Hm2.out⟩
end Go.Proofs.Ytpgdfipikfbjeaa
/- Walks: the closures of Next; the best split. -/
namespace Go.Proofs.Ytpgdfipikfbjeaa
open Go.RowKit Go.WideMaps Go.Shelf
attribute [local go_sem] Oper.semAt_some
section
variable (g P M mp : Nat) (CL pl : List (List Int)) (hP : P ≤ 5) (hM : M ≤ 2) (hCL : casesL P M = CL)
include hP hM hCL
set_option maxRecDepth 10000 in
set_option maxHeartbeats 1600000 in
theorem after_any (A : Option Addr) (m c B0 G0 bd : Nat) (w : World) (hB : Bench w g P M CL pl mp) (hmem : MemW CL P mp w) (c1 : w.cell? ⟨bd, 0, none⟩ = some (.pointer (some ⟨g, 0, none⟩))) (lbd : bd < w.heap.size) (h1 : B0 < 2 ^ CL.length) (h2 : G0 < 2 ^ CL.length) :
    Calls Try.prog 81 #[.agg #[.slice A m c, .int .u64 (B0 : Int), .int .u64 (G0 : Int)], .pointer (some ⟨bd, 0, none⟩)] w fun e w' => e = .returned (.int .i64 (max (need CL P B0) (need CL P G0) : Nat)) ∧ w.grownBy w' (some mp) ∧ MemW CL P mp w' := by
  have HR := hid (needed_rec g P M mp CL pl hP hM hCL)
  obtain ⟨W1, hW1⟩ : ∃ W1, w.alloc (.cells #[.slice A m c, .int .u64 (B0 : Int), .int .u64 (G0 : Int)] 94) = W1 := ⟨_, rfl⟩
  have hb1 : Below w.heap.size w W1 := by rw [← hW1]; exact (Below.refl _ _).alloc (Nat.le_refl _) _
  have B2 : Blk W1 w.heap.size 94 #[.slice A m c, .int .u64 (B0 : Int), .int .u64 (G0 : Int)] := by rw [← hW1]; exact Blk.new' rfl
  have hB1 := hid (hB.below hb1)
  have hm1 := hid (hmem.below hb1)
  have H2 := hid B2
  have l2 := B2.lt
  have C1 := hid ((hb1.cell (p := ⟨bd, 0, none⟩) lbd).trans c1)
  have l1 := Nat.lt_of_lt_of_le lbd hb1.size
  obtain ⟨es, cl, hmap⟩ := hm1.out.isMap
  have Hmap := hid hmap
  obtain ⟨nB, hnB⟩ : ∃ nB, need CL P B0 = nB := ⟨_, rfl⟩
  obtain ⟨nG, hnG⟩ : ∃ nG, need CL P G0 = nG := ⟨_, rfl⟩
  have HnB := hid hnB
  have HnG := hid hnG
  have hmn : max (nB : Int) (nG : Int) = ((max nB nG : Nat) : Int) := by omega
  rw [hnB, hnG]
  clear hB hmem B2 c1 hmap hnB hnG
  go_enter Try.func81, Try.ntmps81
  go_wp2
  clear hW1
  refine wp_region_hd_all (fun W => W1.grownBy W (some mp) ∧ MemW CL P mp W) (by kernel_rfl) (by kernel_rfl) ⟨grownM_below ((Below.refl _ _).drew), hm1.out⟩ ?_
  iterate 1 (refine wpHd_val (v := ?_) (by rfl) (fun W hW => ?_) ?_; rotate_left; (· have cB := cell_grownM hW.1 Hmap.out C1.out; have lT := Nat.lt_of_lt_of_le l1 hW.1.size; go_simp; with_reducible rfl); simp only [Act.put, List.setIfInBounds_toArray, List.set_cons_zero, List.set_cons_succ])
  iterate 2 (refine wpHd_val (v := ?_) (by rfl) (fun W hW => ?_) ?_; rotate_left; (· have cB := (blk_growM hW.1 Hmap.out H2.out).cell 1; have lT := Nat.lt_of_lt_of_le l2 hW.1.size; go_simp; with_reducible rfl); simp only [Act.put, List.setIfInBounds_toArray, List.set_cons_zero, List.set_cons_succ])
  (refine wpHd_call (by rfl) (fun W hW => ?_) (fun W hW => (HR.out B0 h1 W (hB1.out.growM hW.1 Hmap.out) hW.2).mono (fun e w' ⟨h1, h2, h3⟩ => ⟨by rw [h1, HnB.out], grownM_trans hW.1 h2 (fun r e => .inr (Option.some.inj e).symm), h3⟩)) ?_; (· go_simp); simp only [Act.put, List.setIfInBounds_toArray, List.set_cons_zero, List.set_cons_succ])
  iterate 1 (refine wpHd_val (v := ?_) (by rfl) (fun W hW => ?_) ?_; rotate_left; (· have cB := cell_grownM hW.1 Hmap.out C1.out; have lT := Nat.lt_of_lt_of_le l1 hW.1.size; go_simp; with_reducible rfl); simp only [Act.put, List.setIfInBounds_toArray, List.set_cons_zero, List.set_cons_succ])
  iterate 2 (refine wpHd_val (v := ?_) (by rfl) (fun W hW => ?_) ?_; rotate_left; (· have cB := (blk_growM hW.1 Hmap.out H2.out).cell 2; have lT := Nat.lt_of_lt_of_le l2 hW.1.size; go_simp; with_reducible rfl); simp only [Act.put, List.setIfInBounds_toArray, List.set_cons_zero, List.set_cons_succ])
  (refine wpHd_call (by rfl) (fun W hW => ?_) (fun W hW => (HR.out G0 h2 W (hB1.out.growM hW.1 Hmap.out) hW.2).mono (fun e w' ⟨h1, h2, h3⟩ => ⟨by rw [h1, HnG.out], grownM_trans hW.1 h2 (fun r e => .inr (Option.some.inj e).symm), h3⟩)) ?_; (· go_simp); simp only [Act.put, List.setIfInBounds_toArray, List.set_cons_zero, List.set_cons_succ])
  iterate 2 (refine wpHd_val (v := ?_) (by rfl) (fun W hW => ?_) ?_; rotate_left; (· skip; go_simp; with_reducible rfl); simp only [Act.put, List.setIfInBounds_toArray, List.set_cons_zero, List.set_cons_succ])
  refine wpHd_nil ?_
  intro W8 hW8
  obtain ⟨hg8, hm8⟩ := hW8
  go_wp2
  refine bodyPost_ret (v := .int .i64 (max nB nG : Nat)) (by first | (simp [results, Try.results81, go_sem]; done) | (simp [results, Try.results81, go_sem, *]; done) | (simp [results, Try.results81, go_sem, World.cell?_setCell_same', *]; done) | (simp [results, Try.results81, go_sem]; first | exact ⟨rfl, rfl⟩ | rfl)) rfl ⟨rfl, grownM_trans (grownM_below hb1) hg8 (fun r e => .inr (Option.some.inj e).symm), hm8⟩
/-- What a rod's results leave to be needed. -/
def aftN (s : Nat) (x : List Int) : Nat := max (need CL P (withN CL s x CL.length)) (need CL P (gooN CL s x CL.length))
set_option maxRecDepth 10000 in
set_option maxHeartbeats 1600000 in
theorem less_any (A A' : Option Addr) (m c m' c' B0 G0 B1 G1 bd bf : Nat) (w : World) (hB : Bench w g P M CL pl mp) (hmem : MemW CL P mp w) (c1 : w.cell? ⟨bd, 0, none⟩ = some (.pointer (some ⟨g, 0, none⟩))) (lbd : bd < w.heap.size) (c2 : w.cell? ⟨bf, 0, none⟩ = some (.func (.func 81) #[] #[.pointer (some ⟨bd, 0, none⟩)])) (lbf : bf < w.heap.size) (h1 : B0 < 2 ^ CL.length) (h2 : G0 < 2 ^ CL.length) (h3 : B1 < 2 ^ CL.length) (h4 : G1 < 2 ^ CL.length) :
    Calls Try.prog 84 #[.agg #[.slice A m c, .int .u64 (B0 : Int), .int .u64 (G0 : Int)], .agg #[.slice A' m' c', .int .u64 (B1 : Int), .int .u64 (G1 : Int)], .pointer (some ⟨bf, 0, none⟩)] w fun e w' => e = .returned (.bool (decide (max (need CL P B0) (need CL P G0) < max (need CL P B1) (need CL P G1)))) ∧ w.grownBy w' (some mp) ∧ MemW CL P mp w' := by
  obtain ⟨W1, hW1⟩ : ∃ W1, (w.alloc (.cells #[.slice A m c, .int .u64 (B0 : Int), .int .u64 (G0 : Int)] 94)).alloc (.cells #[.slice A' m' c', .int .u64 (B1 : Int), .int .u64 (G1 : Int)] 94) = W1 := ⟨_, rfl⟩
  have hb1 : Below w.heap.size w W1 := by rw [← hW1]; exact (by repeat' (first | with_reducible assumption | with_reducible exact Below.refl _ _ | refine Below.alloc ?_ ?_ _ | refine Below.setCell ?_ ?_ _ | refine Below.drew ?_ | refine below_drewN ?_ _ | (simp; done) | (simp; omega) | omega))
  have B2 : Blk W1 w.heap.size 94 #[.slice A m c, .int .u64 (B0 : Int), .int .u64 (G0 : Int)] := by rw [← hW1]; exact (Blk.new' rfl).alloc _
  have B3 : Blk W1 (w.heap.size + 1) 94 #[.slice A' m' c', .int .u64 (B1 : Int), .int .u64 (G1 : Int)] := by rw [← hW1]; exact Blk.new' (by simp)
  have hB1 := hid (hB.below hb1)
  have hm1 := hid (hmem.below hb1)
  have H2 := hid B2
  have H3 := hid B3
  have l2 := B2.lt
  have l3 := B3.lt
  have C1 := hid ((hb1.cell (p := ⟨bd, 0, none⟩) lbd).trans c1)
  have C2 := hid ((hb1.cell (p := ⟨bf, 0, none⟩) lbf).trans c2)
  have l1 := Nat.lt_of_lt_of_le lbd hb1.size
  have l4 := Nat.lt_of_lt_of_le lbf hb1.size
  obtain ⟨es, cl, hmap⟩ := hm1.out.isMap
  have Hmap := hid hmap
  have HX := hid (fun W hb hm q1 q2 => after_any g P M mp CL pl hP hM hCL A m c B0 G0 bd W hb hm q1 q2 h1 h2)
  have HY := hid (fun W hb hm q1 q2 => after_any g P M mp CL pl hP hM hCL A' m' c' B1 G1 bd W hb hm q1 q2 h3 h4)
  obtain ⟨nB, hnB⟩ : ∃ nB, max (need CL P B0) (need CL P G0) = nB := ⟨_, rfl⟩
  obtain ⟨nG, hnG⟩ : ∃ nG, max (need CL P B1) (need CL P G1) = nG := ⟨_, rfl⟩
  rw [hnB] at HX ⊢
  rw [hnG] at HY ⊢
  have hlt : decide ((nB : Int) < nG) = decide (nB < nG) := by simp
  clear hB hmem B2 B3 c1 c2 hmap hnB hnG
  go_enter Try.func84, Try.ntmps84
  go_wp2
  clear hW1
  refine Sx.wp_region_el (fun W => W1.grownBy W (some mp) ∧ MemW CL P mp W) (fun W W' h he => ⟨grownM_then h.1 he, h.2.below he⟩) [0, 1, 3, 4] 4 (by kernel_rfl) (by kernel_rfl) ⟨grownM_below ((Below.refl _ _).drew), hm1.out⟩ ?_
  simp only [pick, List.getElem?_toArray, List.getElem?_cons_zero, List.getElem?_cons_succ]
  iterate 4 (refine Sx.wpE_val (v := ?_) (by rfl) (fun W hW => ?_) ?_; rotate_left; (· have e2 := cell_grownM hW.1 Hmap.out C2.out; have q2 := Nat.lt_of_lt_of_le l4 hW.1.size; have e3 := (blk_growM hW.1 Hmap.out H2.out).cell 0; have e4 := (blk_growM hW.1 Hmap.out H2.out).cell 1; have e5 := (blk_growM hW.1 Hmap.out H2.out).cell 2; have e6 := (blk_growM hW.1 Hmap.out H3.out).cell 0; have e7 := (blk_growM hW.1 Hmap.out H3.out).cell 1; have e8 := (blk_growM hW.1 Hmap.out H3.out).cell 2; have q3 := Nat.lt_of_lt_of_le l2 hW.1.size; have q4 := Nat.lt_of_lt_of_le l3 hW.1.size; go_simp; with_reducible rfl); simp only [Act.put, List.setIfInBounds_toArray, List.set_cons_zero, List.set_cons_succ])
  simp only [Sx.wpE]
  (refine Sx.wpM_one 2 _ (by simp only [List.getElem?_toArray, List.getElem?_cons_zero, List.getElem?_cons_succ]; rfl) (by kernel_rfl) (by rfl) ?_)
  intro W hW hS
  (go_simp; simp only [LUpon, Act.put]; try simp only [List.setIfInBounds_toArray, List.set_cons_zero, List.set_cons_succ])
  refine (HX.out W (hB1.out.growM hS.1 Hmap.out) hS.2 (cell_grownM hS.1 Hmap.out C1.out) (Nat.lt_of_lt_of_le l1 hS.1.size)).mono ?_
  rintro e W2 ⟨rfl, hg2, hm2⟩
  refine ⟨_, rfl, ⟨grownM_trans hS.1 hg2 (fun r e => .inr (Option.some.inj e).symm), hm2⟩, ?_⟩
  try simp only [Act.put, List.setIfInBounds_toArray, List.set_cons_zero, List.set_cons_succ]
  (refine Sx.wpM_one 5 _ (by simp only [List.getElem?_toArray, List.getElem?_cons_zero, List.getElem?_cons_succ]; rfl) (by kernel_rfl) (by rfl) ?_)
  intro W3 hW3 hS3
  (go_simp; simp only [LUpon, Act.put]; try simp only [List.setIfInBounds_toArray, List.set_cons_zero, List.set_cons_succ])
  refine (HY.out W3 (hB1.out.growM hS3.1 Hmap.out) hS3.2 (cell_grownM hS3.1 Hmap.out C1.out) (Nat.lt_of_lt_of_le l1 hS3.1.size)).mono ?_
  rintro e W4 ⟨rfl, hg4, hm4⟩
  refine ⟨_, rfl, ⟨grownM_trans hS3.1 hg4 (fun r e => .inr (Option.some.inj e).symm), hm4⟩, ?_⟩
  try simp only [Act.put, List.setIfInBounds_toArray, List.set_cons_zero, List.set_cons_succ]
  (refine Sx.wpM_one 6 _ (by simp only [List.getElem?_toArray, List.getElem?_cons_zero, List.getElem?_cons_succ]; rfl) (by kernel_rfl) (by rfl) ?_)
  intro W5 hW5 hS5
  (go_simp; simp only [LUpon, Act.put]; try simp only [List.setIfInBounds_toArray, List.set_cons_zero, List.set_cons_succ])
  refine ⟨hS5, ?_⟩
  (refine Sx.wpM_one 7 _ (by simp only [List.getElem?_toArray, List.getElem?_cons_zero, List.getElem?_cons_succ]; rfl) (by kernel_rfl) (by rfl) ?_)
  intro W6 hW6 hS6
  (go_simp; simp only [LUpon, Act.put]; try simp only [List.setIfInBounds_toArray, List.set_cons_zero, List.set_cons_succ])
  refine ⟨hS6, Sx.wpM_end (by kernel_rfl) ?_⟩
  intro W7 hW7 hS7
  go_wp2
  refine bodyPost_ret (v := .bool (decide (nB < nG))) (by first | (simp [results, Try.results84, go_sem]; done) | (simp [results, Try.results84, go_sem, *]; done) | (simp [results, Try.results84, go_sem, World.cell?_setCell_same', *]; done) | (simp [results, Try.results84, go_sem]; first | exact ⟨rfl, rfl⟩ | rfl)) rfl ⟨rfl, grownM_trans (grownM_below hb1) hS7.1 (fun r e => .inr (Option.some.inj e).symm), hS7.2⟩
end
end Go.Proofs.Ytpgdfipikfbjeaa
/- Walks: the best split. -/
namespace Go.Proofs.Ytpgdfipikfbjeaa
open Go.RowKit Go.WideMaps Go.Shelf
attribute [local go_sem] Oper.semAt_some
theorem bestX_one (f : List Int → Nat) {X : List (List Int)} {x : List Int} (h : X[0]? = some x) : bestX f (X.take 1) = x := by
  cases X with
  | nil => simp at h
  | cons y l =>
    simp only [List.getElem?_cons_zero, Option.some.injEq] at h
    subst h; rfl
theorem bestX_take (f : List Int → Nat) {X : List (List Int)} {k : Nat} {y : List Int} (h : X[k + 1]? = some y) : bestX f (X.take (k + 2)) = if f y < f (bestX f (X.take (k + 1))) then y else bestX f (X.take (k + 1)) := by
  cases X with
  | nil => simp at h
  | cons x l =>
    rw [List.getElem?_cons_succ] at h
    simp only [List.take_succ_cons, bestX]
    rw [List.take_add_one, h, Option.toList_some, List.foldl_append]; rfl
theorem put3 {w W : World} {mp T f P : Nat} {CL : List (List Int)} {A : Option Addr} {m : Nat} {l : List Int} {x y z : Value} {cs : Array Value} (hg : w.grownBy W (some mp)) (hT : w.heap.size ≤ T) (hm : MemW CL P mp W) (hmp : mp < w.heap.size) (h5 : Blk W T 94 #[x, y, z]) (hi : InS W w.heap.size A m l) (hf : Blk W f 94 cs) (hft : f ≠ T) (a b c : Value) :
    Blk (((W.setCell ⟨T, 0, none⟩ a).setCell ⟨T, 1, none⟩ b).setCell ⟨T, 2, none⟩ c) T 94 #[a, b, c] ∧ Blk (((W.setCell ⟨T, 0, none⟩ a).setCell ⟨T, 1, none⟩ b).setCell ⟨T, 2, none⟩ c) f 94 cs ∧ w.grownBy (((W.setCell ⟨T, 0, none⟩ a).setCell ⟨T, 1, none⟩ b).setCell ⟨T, 2, none⟩ c) (some mp) ∧ MemW CL P mp (((W.setCell ⟨T, 0, none⟩ a).setCell ⟨T, 1, none⟩ b).setCell ⟨T, 2, none⟩ c) ∧ InS (((W.setCell ⟨T, 0, none⟩ a).setCell ⟨T, 1, none⟩ b).setCell ⟨T, 2, none⟩ c) w.heap.size A m l :=
  ⟨((h5.set_ 0 a).set_ 1 b).set_ 2 c, ((hf.far hft a).far hft b).far hft c, grownM_setCell (grownM_setCell (grownM_setCell hg (.inl hT) a) (.inl hT) b) (.inl hT) c,
    hm.kept (((Below.heap_setCell _ _ c mp (show mp ≠ T by omega)).trans (Below.heap_setCell _ _ b mp (show mp ≠ T by omega))).trans (Below.heap_setCell _ _ a mp (show mp ≠ T by omega))),
    ((Sl.setCell hi hT a).setCell hT b).setCell hT c⟩
section
variable (g P M mp : Nat) (CL pl : List (List Int)) (hP : P ≤ 5) (hM : M ≤ 2) (hCL : casesL P M = CL)
include hP hM hCL
set_option maxRecDepth 100000 in
set_option maxHeartbeats 4000000 in
theorem bestS_any (s : Nat) (hs : s < 2 ^ CL.length) (A : Option Addr) (c bd bf : Nat) (X : List (List Int)) (w : World) (hB : Bench w g P M CL pl mp) (hmem : MemW CL P mp w) (c1 : w.cell? ⟨bd, 0, none⟩ = some (.pointer (some ⟨g, 0, none⟩))) (lbd : bd < w.heap.size) (c2 : w.cell? ⟨bf, 0, none⟩ = some (.func (.func 81) #[] #[.pointer (some ⟨bd, 0, none⟩)])) (lbf : bf < w.heap.size) (hsp : SpS w w.heap.size A CL s X) (hc : X.length ≤ c) (h1 : 1 ≤ X.length) (h2 : X.length ≤ 1000) :
    Calls Try.prog 82 #[.slice A X.length c, .func (.func 84) #[] #[.pointer (some ⟨bf, 0, none⟩)]] w fun e w' => ∃ A' m' c', e = .returned (.agg #[.slice A' m' c', .int .u64 (withN CL s (bestX (aftN P CL s) X) CL.length : Nat), .int .u64 (gooN CL s (bestX (aftN P CL s) X) CL.length : Nat)]) ∧ InS w' w'.heap.size A' m' (bestX (aftN P CL s) X) ∧ w.grownBy w' (some mp) ∧ MemW CL P mp w' := by
  obtain ⟨x0, hx0⟩ : ∃ x0, X[0]? = some x0 := ⟨_, List.getElem?_eq_getElem (by omega)⟩
  obtain ⟨b0, off, A', m', c', rfl, hb0, hin, e0, e1, e2⟩ := spS_at hsp hx0
  rw [Nat.zero_mul, Nat.add_zero] at e0 e1 e2
  obtain ⟨es, cl, hmap⟩ := hmem.isMap
  have Hmap := hid hmap
  have HB := hid hB
  have C1 := hid c1
  have C2 := hid c2
  have HSP := hid hsp
  have hz0 := hid (bestX_one (aftN P CL s) hx0)
  have hmpl := hmem.lt
  obtain ⟨B0, hB0⟩ : ∃ B0, withN CL s x0 CL.length = B0 := ⟨_, rfl⟩
  obtain ⟨G0, hG0⟩ : ∃ G0, gooN CL s x0 CL.length = G0 := ⟨_, rfl⟩
  rw [hB0] at e1
  rw [hG0] at e2
  have HB0 := hid hB0
  have HG0 := hid hG0
  obtain ⟨W2, hW2⟩ : ∃ W2, (w.alloc (.cells #[.slice none 0 0, .int .u64 0, .int .u64 0] 94)).alloc (.cells #[.slice A' m' c', .int .u64 (B0 : Int), .int .u64 (G0 : Int)] 94) = W2 := ⟨_, rfl⟩
  have hb2 : Below w.heap.size w W2 := by rw [← hW2]; exact (by repeat' (first | with_reducible assumption | with_reducible exact Below.refl _ _ | refine Below.alloc ?_ ?_ _ | refine Below.setCell ?_ ?_ _ | refine Below.drew ?_ | refine below_drewN ?_ _ | (simp; done) | (simp; omega) | omega))
  obtain ⟨T5, hT5⟩ : ∃ T5, w.heap.size + 1 = T5 := ⟨_, rfl⟩
  have B4 : Blk W2 w.heap.size 94 #[.slice none 0 0, .int .u64 0, .int .u64 0] := by rw [← hW2]; exact (Blk.new' rfl).alloc _
  have B5 : Blk W2 T5 94 #[.slice A' m' c', .int .u64 (B0 : Int), .int .u64 (G0 : Int)] := by rw [← hW2]; exact Blk.new' (by simp [hT5])
  have hm2 := hid (hmem.below hb2)
  have H4 := hid B4
  have H5 := hid B5
  have hIn := hid (hin.below hb2 (Nat.le_refl _))
  clear hB c1 c2 hsp hx0 hmap hB0 hG0 hmem B4 B5 hin
  by_cases hc1 : c = 1
  · have hx1 : X.length = 1 := by omega
    subst hc1
    have hfin : bestX (aftN P CL s) X = x0 := by
      have := hz0.out
      rwa [List.take_of_length_le (by omega)] at this
    rw [hfin, HB0.out, HG0.out]
    have d0 := H5.out.cell 0
    have d1 := H5.out.cell 1
    have d2 := H5.out.cell 2
    have f0 := H4.out.cell 0
    have f1 := H4.out.cell 1
    have f2 := H4.out.cell 2
    have g0 := H4.out.frozen 0
    have g1 := H4.out.frozen 1
    have g2 := H4.out.frozen 2
    have lA := H4.out.lt
    have lB := H5.out.lt
    have hx1i : ((X.length : Int) - 1) = 0 := by omega
    go_enter Try.func82, Try.ntmps82
    go_wp2_with (fail)
    go_loop [14] (fun i => i = .int .i64 0) (fun _ => 0)
    case atStart => rfl
    case round =>
      obtain rfl := hrel
      go_wp2
      obtain ⟨q1, -, q3, q4, q5⟩ := put3 (grownM_below hb2) (Nat.le_refl _) hm2.out hmpl H4.out hIn.out H5.out (by omega) (.slice A' m' c') (.int .u64 (B0 : Int)) (.int .u64 (G0 : Int))
      have z0 := q1.cell 0
      have z1 := q1.cell 1
      have z2 := q1.cell 2
      refine bodyPost_ret (v := .agg #[.slice A' m' c', .int .u64 (B0 : Int), .int .u64 (G0 : Int)]) (by first | (simp [results, Try.results82, go_sem]; done) | (simp [results, Try.results82, go_sem, *]; done) | (simp [results, Try.results82, go_sem, World.cell?_setCell_same', *]; done) | (simp [results, Try.results82, go_sem]; first | exact ⟨rfl, rfl⟩ | rfl)) rfl ⟨A', m', ⟨c', rfl⟩, q5.more q3.size, q3, q4⟩
  · have hc2 : 1 < c := by omega
    go_enter Try.func82, Try.ntmps82
    go_wp2_with (fail)
    go_loopw [14] (fun i wr => ∃ (k : Nat) (x : List Int) (A2 : Option Addr) (m2 c2 : Nat), k ≤ X.length - 1 ∧ i = .int .i64 (k : Int) ∧ Hid (bestX (aftN P CL s) (X.take (k + 1)) = x) ∧ Hid (Blk wr T5 94 #[.slice A2 m2 c2, .int .u64 (withN CL s x CL.length : Nat), .int .u64 (gooN CL s x CL.length : Nat)]) ∧ Hid (Blk wr w.heap.size 94 #[.slice none 0 0, .int .u64 0, .int .u64 0]) ∧ Hid (InS wr w.heap.size A2 m2 x) ∧ w.grownBy wr (some mp) ∧ Hid (MemW CL P mp wr)) (fun i _ => X.length - (intOf i).toNat)
    case atStart => exact ⟨0, x0, A', m', c', by omega, rfl, hz0, (by rw [HB0.out, HG0.out]; exact H5), H4, hIn, grownM_below hb2, hm2⟩
    case round =>
      clear hW2
      obtain ⟨k, x, A2, m2, c2, hk, rfl, hbx, h5, h4, hix, hgw, hmw⟩ := hrel
      have hzw := hgw.size
      have l5 := h5.out.lt
      have l4 := h4.out.lt
      by_cases hlt : k < X.length - 1
      · obtain ⟨y, hy⟩ : ∃ y, X[k + 1]? = some y := ⟨_, List.getElem?_eq_getElem (by omega)⟩
        have hlti : (k : Int) < ((X.length - 1 : Nat) : Int) := by omega
        have hlti2 : (k : Int) < (X.length : Int) - 1 := by omega
        obtain ⟨b1, o1, A3, m3, c3, eA, hb1, hin3, e30, e31, e32⟩ := spS_at (SpS.growM hgw Hmap.out HSP.out) hy
        cases eA
        rw [show off + (k + 1) * 3 = off + 3 + k * 3 by omega] at e30 e31 e32
        have hb1w : b0 < wr.heap.size := by omega
        have hnx := bestX_take (aftN P CL s) hy
        rw [hbx.out] at hnx
        have ay : aftN P CL s y = max (need CL P (withN CL s y CL.length)) (need CL P (gooN CL s y CL.length)) := rfl
        have ax : aftN P CL s x = max (need CL P (withN CL s x CL.length)) (need CL P (gooN CL s x CL.length)) := rfl
        have b1l := withN_lt CL s y CL.length
        have g1l := gooN_lt CL s y CL.length
        have b2l := withN_lt CL s x CL.length
        have g2l := gooN_lt CL s x CL.length
        obtain ⟨B1, hB1⟩ : ∃ B1, withN CL s y CL.length = B1 := ⟨_, rfl⟩
        obtain ⟨G1, hG1⟩ : ∃ G1, gooN CL s y CL.length = G1 := ⟨_, rfl⟩
        obtain ⟨B2, hB2⟩ : ∃ B2, withN CL s x CL.length = B2 := ⟨_, rfl⟩
        obtain ⟨G2, hG2⟩ : ∃ G2, gooN CL s x CL.length = G2 := ⟨_, rfl⟩
        rw [hB1] at e31 b1l ay
        rw [hG1] at e32 g1l ay
        rw [hB2, hG2] at h5
        rw [hB2] at b2l ax
        rw [hG2] at g2l ax
        have HB1 := hid hB1
        have HG1 := hid hG1
        have HB2 := hid hB2
        have HG2 := hid hG2
        have Hnx := hid hnx
        have Hay := hid ay
        have Hax := hid ax
        obtain ⟨T7, hT7⟩ : ∃ T7, wr.heap.size = T7 := ⟨_, rfl⟩
        obtain ⟨Wd, hWd⟩ : ∃ Wd, wr.alloc (.cells #[.slice A3 m3 c3, .int .u64 (B1 : Int), .int .u64 (G1 : Int)] 94) = Wd := ⟨_, rfl⟩
        have hbd : Below wr.heap.size wr Wd := by rw [← hWd]; exact (Below.refl _ _).alloc (Nat.le_refl _) _
        have B7 : Blk Wd T7 94 #[.slice A3 m3 c3, .int .u64 (B1 : Int), .int .u64 (G1 : Int)] := by rw [← hWd]; exact Blk.new' hT7
        have hmd := hid (hmw.out.below hbd)
        have hgd := grownM_then hgw hbd
        have h5d := hid (h5.out.below hbd l5)
        have h4d := hid (h4.out.below hbd l4)
        have hixd := hid (hix.out.below (hbd.mono hzw) (Nat.le_refl _))
        have hinyd := hid (hin3.below (hbd.mono hzw) (Nat.le_refl _))
        have r70 := B7.cell 0
        have r71 := B7.cell 1
        have r72 := B7.cell 2
        have r50 := h5d.out.cell 0
        have r51 := h5d.out.cell 1
        have r52 := h5d.out.cell 2
        have l7 := B7.lt
        have l5d := h5d.out.lt
        have H7 := hid B7
        have Hbx := hbx
        have hHB := hid (HB.out.growM hgd Hmap.out)
        have hC1 := hid (cell_grownM hgd Hmap.out C1.out)
        have hC2 := hid (cell_grownM hgd Hmap.out C2.out)
        have hbdl : bd < Wd.heap.size := by have := hbd.size; omega
        have hbfl : bf < Wd.heap.size := by have := hbd.size; omega
        obtain ⟨esd, cld, hmapd⟩ := hmd.out.isMap
        have Hmapd := hid hmapd
        clear hy hnx ay ax hB1 hG1 hB2 hG2 hin3 B7 hbx hmapd
        cases hlt2 : decide (max (need CL P B1) (need CL P G1) < max (need CL P B2) (need CL P G2))
        · have hno : ¬ aftN P CL s y < aftN P CL s x := by rw [Hay.out, Hax.out]; exact of_decide_eq_false hlt2
          have hn2 := hid (Hnx.out.trans (if_neg hno))
          have Hlt2 := hid hlt2
          clear hlt2 hno
          go_wp2_with (go_at_call 84; refine (less_any g P M mp CL pl hP hM hCL A3 A2 m3 c3 m2 c2 B1 G1 B2 G2 bd bf _ hHB.out hmd.out hC1.out hbdl hC2.out hbfl b1l g1l b2l g2l).mono ?_; rw [Hlt2.out]; rintro e W9 ⟨rfl, hg9, hm9⟩)
          have hgw9 := grownM_trans hgd hg9 (fun r e => .inr (Option.some.inj e).symm)
          have h59 : Hid (Blk W9 T5 94 #[.slice A2 m2 c2, .int .u64 (withN CL s x CL.length : Nat), .int .u64 (gooN CL s x CL.length : Nat)]) := hid (by rw [HB2.out, HG2.out]; exact blk_growM hg9 Hmapd.out h5d.out)
          have h49 := hid (blk_growM hg9 Hmapd.out h4d.out)
          have hi9 : Hid (InS W9 w.heap.size A2 m2 x) := hid (Sl.growM hg9 Hmapd.out hixd.out)
          have Hm9 := hid hm9
          clear hm9
          (first | exact ⟨⟨k + 1, x, A2, m2, c2, by omega, by go_num, hn2, h59, h49, hi9, hgw9, Hm9⟩, (by first | (simp [intOf]; omega) | (simp [intOf]; done))⟩ | (refine ⟨?_, ?_⟩; (focus ((repeat apply Exists.intro); refine ⟨?_, rfl⟩; exact ⟨k + 1, x, A2, m2, c2, by omega, by go_num, hn2, h59, h49, hi9, hgw9, Hm9⟩)); (first | (simp [intOf]; omega) | (simp [intOf]; done))))
        · have hyes : aftN P CL s y < aftN P CL s x := by rw [Hay.out, Hax.out]; exact of_decide_eq_true hlt2
          have hn2 := hid (Hnx.out.trans (if_pos hyes))
          have Hlt2 := hid hlt2
          clear hlt2 hyes
          go_wp2_with (go_at_call 84; refine (less_any g P M mp CL pl hP hM hCL A3 A2 m3 c3 m2 c2 B1 G1 B2 G2 bd bf _ hHB.out hmd.out hC1.out hbdl hC2.out hbfl b1l g1l b2l g2l).mono ?_; rw [Hlt2.out]; rintro e W9 ⟨rfl, hg9, hm9⟩; have k7 := blk_growM hg9 Hmapd.out H7.out; have k5 := blk_growM hg9 Hmapd.out h5d.out; have v0 := k7.cell 0; have v1 := k7.cell 1; have v2 := k7.cell 2; have u0 := k5.cell 0; have u1 := k5.cell 1; have u2 := k5.cell 2; have p0 := k5.frozen 0; have p1 := k5.frozen 1; have p2 := k5.frozen 2; have m7 := k7.lt; have m5 := k5.lt)
          have hgw9 := grownM_trans hgd hg9 (fun r e => .inr (Option.some.inj e).symm)
          have h49 := blk_growM hg9 Hmapd.out h4d.out
          have hi9 : InS W9 w.heap.size A3 m3 y := Sl.growM hg9 Hmapd.out hinyd.out
          obtain ⟨q1, q2, q3, q4, q5⟩ := put3 hgw9 (by omega) hm9 hmpl k5 hi9 h49 (by omega) (.slice A3 m3 c3) (.int .u64 (B1 : Int)) (.int .u64 (G1 : Int))
          have q1h : Hid (Blk _ T5 94 #[.slice A3 m3 c3, .int .u64 (withN CL s y CL.length : Nat), .int .u64 (gooN CL s y CL.length : Nat)]) := hid (by rw [HB1.out, HG1.out]; exact q1)
          have q2h := hid q2
          have q4h := hid q4
          have q5h := hid q5
          (first | exact ⟨⟨k + 1, y, A3, m3, c3, by omega, by go_num, hn2, q1h, q2h, q5h, q3, q4h⟩, (by first | (simp [intOf]; omega) | (simp [intOf]; done))⟩ | (refine ⟨?_, ?_⟩; (focus ((repeat apply Exists.intro); refine ⟨?_, rfl⟩; exact ⟨k + 1, y, A3, m3, c3, by omega, by go_num, hn2, q1h, q2h, q5h, q3, q4h⟩)); (first | (simp [intOf]; omega) | (simp [intOf]; done))))
      · obtain rfl : k = X.length - 1 := by omega
        have hfin : bestX (aftN P CL s) X = x := by
          have := hbx.out
          rwa [List.take_of_length_le (by omega)] at this
        have Hfin := hid hfin
        clear hfin
        have hxi : ((X.length - 1 : Nat) : Int) = (X.length : Int) - 1 := by omega
        have r50 := h5.out.cell 0
        have r51 := h5.out.cell 1
        have r52 := h5.out.cell 2
        have p0 := h4.out.frozen 0
        have p1 := h4.out.frozen 1
        have p2 := h4.out.frozen 2
        have f0 := h4.out.cell 0
        have f1 := h4.out.cell 1
        have f2 := h4.out.cell 2
        go_wp2
        obtain ⟨q1, -, q3, q4, q5⟩ := put3 hgw (Nat.le_refl _) hmw.out hmpl h4.out hix.out h5.out (by omega) (.slice A2 m2 c2) (.int .u64 (withN CL s x CL.length : Nat)) (.int .u64 (gooN CL s x CL.length : Nat))
        have z0 := q1.cell 0
        have z1 := q1.cell 1
        have z2 := q1.cell 2
        refine bodyPost_ret (v := .agg #[.slice A2 m2 c2, .int .u64 (withN CL s x CL.length : Nat), .int .u64 (gooN CL s x CL.length : Nat)]) (by first | (simp [results, Try.results82, go_sem]; done) | (simp [results, Try.results82, go_sem, *]; done) | (simp [results, Try.results82, go_sem, World.cell?_setCell_same', *]; done) | (simp [results, Try.results82, go_sem]; first | exact ⟨rfl, rfl⟩ | rfl)) rfl ⟨A2, m2, c2, by rw [Hfin.out], by rw [Hfin.out]; exact q5.more q3.size, q3, q4⟩
end
end Go.Proofs.Ytpgdfipikfbjeaa
/- What the next rod does to the cases still told (plain). -/
namespace Go.Proofs.Ytpgdfipikfbjeaa
open Go.RowKit
theorem pickN_bit (CL sm : List (List Int)) (i : Nat) : ∀ k, (pickN CL sm k).testBit i = (decide (i < k) && sm.any (eqI (CL.getD i [])))
  | 0 => by simp [pickN]
  | k + 1 => by
    unfold pickN
    rw [Nat.testBit_or, pickN_bit CL sm i k]
    by_cases h : i = k
    · subst h
      cases sm.any (eqI (CL.getD i [])) <;> simp [Nat.testBit_two_pow]
    · have h1 : decide (i < k + 1) = decide (i < k) := by
        by_cases h2 : i < k
        · simp [h2, Nat.lt_succ_of_lt h2]
        · simp [h2]; omega
      rw [h1]
      have h3 : (if sm.any (eqI (CL.getD k [])) then 2 ^ k else 0 : Nat).testBit i = false := by
        split
        · rw [Nat.testBit_two_pow]; simp; omega
        · exact Nat.zero_testBit i
      rw [h3, Bool.or_false]
theorem any_filter (CL : List (List Int)) (q : List Int → Bool) {i : Nat} (hi : i < CL.length) : (CL.filter q).any (eqI (CL.getD i [])) = q (CL.getD i []) := by
  rw [Bool.eq_iff_iff, List.any_eq_true]
  constructor
  · rintro ⟨x, hx, he⟩
    rw [eqI_t.1 he]
    exact (List.mem_filter.1 hx).2
  · intro h
    exact ⟨_, List.mem_filter.2 ⟨getD_mem hi, h⟩, eqI_t.2 rfl⟩
theorem pick_lef (CL pl : List (List Int)) (r : List Int) : pickN CL (CL.filter fun c => eqI (resL pl c) r) CL.length = lefN CL pl r CL.length := by
  apply Nat.eq_of_testBit_eq
  intro i
  rw [pickN_bit, lefN_bit]
  by_cases hi : i < CL.length
  · rw [any_filter CL _ hi]
  · simp [hi]
theorem needOf_told (P M : Nat) (pl : List (List Int)) (r : List Int) : needOf P M (toldL P M pl r) = need (casesL P M) P (lefN (casesL P M) pl r (casesL P M).length) := by
  unfold needOf toldL
  rw [pick_lef]
theorem part_told (P M : Nat) (pl : List (List Int)) (r rod : List Int) (b : Bool) : partL (toldL P M pl r) rod b = (casesL P M).filter fun c => eqI (resL pl c) r && (meet c rod == b) := by
  unfold partL toldL
  rw [List.filter_filter]
  congr 1
  funext c
  rw [Bool.and_comm]
theorem needOf_with (P M : Nat) (pl : List (List Int)) (r rod : List Int) : needOf P M (partL (toldL P M pl r) rod true) = need (casesL P M) P (withN (casesL P M) (lefN (casesL P M) pl r (casesL P M).length) rod (casesL P M).length) := by
  rw [part_told]
  unfold needOf
  congr 1
  apply Nat.eq_of_testBit_eq
  intro i
  rw [pickN_bit, withN_bit, lefN_bit]
  by_cases hi : i < (casesL P M).length
  · rw [any_filter _ _ hi]; simp [hi]
  · simp [hi]
theorem needOf_goo (P M : Nat) (pl : List (List Int)) (r rod : List Int) : needOf P M (partL (toldL P M pl r) rod false) = need (casesL P M) P (gooN (casesL P M) (lefN (casesL P M) pl r (casesL P M).length) rod (casesL P M).length) := by
  rw [part_told]
  unfold needOf
  congr 1
  apply Nat.eq_of_testBit_eq
  intro i
  rw [pickN_bit, gooN_bit, lefN_bit]
  by_cases hi : i < (casesL P M).length
  · rw [any_filter _ _ hi]; simp [hi]
  · simp [hi]
/-- How many cases are still told. -/
theorem cnt_lef (CL pl : List (List Int)) (r : List Int) : ∀ k, k ≤ CL.length → cnt (lefN CL pl r CL.length) k = ((CL.take k).filter fun c => eqI (resL pl c) r).length
  | 0, _ => by simp [cnt]
  | k + 1, hk => by
    have ih := cnt_lef CL pl r k (by omega)
    have hx : CL[k]? = some (CL.getD k []) := by rw [List.getD_eq_getElem?_getD, List.getElem?_eq_getElem (by omega)]; rfl
    rw [told_take hx, List.length_append, ← ih]
    show cnt (lefN CL pl r CL.length) k + (if (lefN CL pl r CL.length).testBit k = true then 1 else 0) = _
    rw [lefN_bit]
    cases eqI (resL pl (CL.getD k [])) r <;> simp [show k < CL.length by omega]
theorem cnt_told (P M : Nat) (pl : List (List Int)) (r : List Int) : cnt (lefN (casesL P M) pl r (casesL P M).length) (casesL P M).length = (toldL P M pl r).length := by
  rw [cnt_lef _ _ _ _ (Nat.le_refl _), List.take_length]; rfl
theorem need_zero_told (P M : Nat) (pl : List (List Int)) (r : List Int) : need (casesL P M) P (lefN (casesL P M) pl r (casesL P M).length) = 0 ↔ (toldL P M pl r).length ≤ 1 := by
  rw [← cnt_told]
  have hl := lefN_lt (casesL P M) pl r (casesL P M).length
  constructor
  · intro h
    have := need_low (casesL P M) P _ hl
    rwa [h, Nat.pow_zero] at this
  · exact need_one hl
/-- A rod to play next. -/
def nextV (P M : Int) (pl : List (List Int)) (r : List Int) : List Int := if nextE P M pl r ≠ 0 then [] else bestX (aftN P.toNat (casesL P.toNat M.toNat) (lefN (casesL P.toNat M.toNat) pl r (casesL P.toNat M.toNat).length)) (splR (casesL P.toNat M.toNat) (lefN (casesL P.toNat M.toNat) pl r (casesL P.toNat M.toNat).length) P.toNat)
theorem cases_more {P M : Nat} (h : 2 ≤ (casesL P M).length) : P < (casesL P M).length := by
  unfold casesL at h ⊢
  by_cases h1 : 1 ≤ M
  · rw [if_pos h1]
    have : (single P).length = P := by simp [single]
    simp only [List.length_append, List.length_cons, List.length_nil, this]; omega
  · rw [if_neg h1, if_neg (by omega)] at h
    simp at h
theorem need_room {P M : Nat} (hP : P ≤ 5) (hM : M ≤ 2) (pl : List (List Int)) (r : List Int) (h0 : need (casesL P M) P (lefN (casesL P M) pl r (casesL P M).length) ≠ 0) : need (casesL P M) P (lefN (casesL P M) pl r (casesL P M).length) < (casesL P M).length := by
  have h1 : ¬ (toldL P M pl r).length ≤ 1 := fun h => h0 ((need_zero_told P M pl r).2 h)
  have h2 : (toldL P M pl r).length ≤ (casesL P M).length := List.length_filter_le _ _
  have h3 := cases_more (P := P) (M := M) (by omega)
  have h4 := need_plates (P := P) (M := M) (by omega) hM (lefN_lt (casesL P M) pl r (casesL P M).length)
  omega
theorem split_some {P M : Nat} (hP : P ≤ 5) (hM : M ≤ 2) (pl : List (List Int)) (r : List Int) (h0 : need (casesL P M) P (lefN (casesL P M) pl r (casesL P M).length) ≠ 0) : splR (casesL P M) (lefN (casesL P M) pl r (casesL P M).length) P ≠ [] := by
  obtain ⟨x, hx, -⟩ := best_rod hP (lefN_lt (casesL P M) pl r (casesL P M).length) h0 (need_room hP hM pl r h0)
  intro h
  rw [h] at hx; cases hx
/-- The rod to play next leaves less to be needed, whatever it tells. -/
theorem next_div {P M : Nat} (hP : P ≤ 5) (hM : M ≤ 2) (pl : List (List Int)) (r : List Int) (he : nextE P M pl r = 0) : divB P M (toldL P M pl r) (nextV P M pl r) = true := by
  unfold nextV
  rw [if_neg (by rw [he]; decide), Int.toNat_natCast, Int.toNat_natCast, divB_t]
  have h0 : need (casesL P M) P (lefN (casesL P M) pl r (casesL P M).length) ≠ 0 := by
    rw [Ne, need_zero_told]
    unfold nextE at he
    split at he
    · rename_i h1; exact absurd he h1
    · rename_i h1
      have h2 := leftE_zero (Decidable.not_not.1 h1)
      rw [Int.toNat_natCast, Int.toNat_natCast] at he h2
      split at he
      · cases he
      · omega
  obtain ⟨x, hx, hv⟩ := best_rod hP (lefN_lt (casesL P M) pl r (casesL P M).length) h0 (need_room hP hM pl r h0)
  have hb := (bestX_mem (aftN P (casesL P M) (lefN (casesL P M) pl r (casesL P M).length)) (split_some hP hM pl r h0)).2 x hx
  unfold vN at hv
  unfold aftN at hb
  constructor
  · refine .inr ?_
    rw [needOf_goo, needOf_told]
    unfold aftN
    omega
  · refine .inr ?_
    rw [needOf_with, needOf_told]
    unfold aftN
    omega
end Go.Proofs.Ytpgdfipikfbjeaa
/- Walks: what is needed, and the next rod. -/
namespace Go.Proofs.Ytpgdfipikfbjeaa
open Go.RowKit Go.WideMaps Go.Shelf
attribute [local go_sem] Oper.semAt_some
theorem below_row {w W W' : World} {mp : Nat} (h : Below w.heap.size w W) (hg : W.grownBy W' (some mp)) (hm : w.heap.size ≤ mp) : Below w.heap.size w W' := h.grown hg h.size (fun k e => by cases e; exact hm)
set_option maxRecDepth 10000 in
set_option maxHeartbeats 2000000 in
theorem neededF_any (A B : Option Addr) (n c m d : Nat) (pl : List (List Int)) (r : List Int) (P M : Int) (w : World) (hp : LiS w w.heap.size A n pl) (hb : InS w w.heap.size B m r) (hn : n ≤ 12) (hw : ∀ l ∈ pl, l.length ≤ 12) :
    Calls Try.prog 32 #[.agg #[.int .i64 P, .int .i64 M], .slice A n c, .slice B m d] w fun e w' => e = .returned (.tuple #[.int .i64 (needV P M pl r), .int .i64 (leftE P M pl r)]) ∧ Below w.heap.size w w' := by
  obtain ⟨W0, hWb⟩ : ∃ W0, w.alloc (.cells #[.int .i64 P, .int .i64 M] 23) = W0 := ⟨_, rfl⟩
  have bB : Blk W0 w.heap.size 23 #[.int .i64 P, .int .i64 M] := by rw [← hWb]; exact Blk.new' rfl
  have hbel : Below w.heap.size w W0 := by rw [← hWb]; exact (Below.refl _ _).alloc (Nat.le_refl _) _
  have hsz := hbel.size
  have lB := bB.lt
  have p0 := bB.cell 0
  have p1 := bB.cell 1
  have HP := hid (hp.below hbel hsz)
  clear hp
  have HB := hid (hb.below hbel hsz)
  clear hb
  by_cases hbd : leftE P M pl r ≠ 0
  · have hV := hid (show needV P M pl r = 0 from if_pos hbd)
    have hbi : (leftE P M pl r == 0) = false := by simpa using hbd
    have hbi2 : ¬ leftE P M pl r = 0 := hbd
    have Hb := hid hbd
    clear hbd
    go_enter Try.func32, Try.ntmps32
    go_wp2_with (fail)
    refine (left_bad A B n c m d pl r P M _ (HP.out.below (by repeat' (first | with_reducible assumption | with_reducible exact Below.refl _ _ | refine Below.alloc ?_ ?_ _ | refine Below.setCell ?_ ?_ _ | refine Below.drew ?_ | refine below_drewN ?_ _ | (simp; done) | (simp; omega) | omega)) (by first | (simp; done) | (simp; omega) | omega)) (HB.out.below (by repeat' (first | with_reducible assumption | with_reducible exact Below.refl _ _ | refine Below.alloc ?_ ?_ _ | refine Below.setCell ?_ ?_ _ | refine Below.drew ?_ | refine below_drewN ?_ _ | (simp; done) | (simp; omega) | omega)) (by first | (simp; done) | (simp; omega) | omega)) hn hw Hb.out).mono ?_
    rintro e W1 ⟨rfl, hb⟩
    have hst : Below W0.heap.size W0 W1 := Below.trans (by repeat' (first | with_reducible assumption | with_reducible exact Below.refl _ _ | refine Below.alloc ?_ ?_ _ | refine Below.setCell ?_ ?_ _ | refine Below.drew ?_ | refine below_drewN ?_ _ | (simp; done) | (simp; omega) | omega)) (hb.mono (by first | (simp; done) | (simp; omega) | omega))
    replace hbel := hbel.trans (hst.mono hsz)
    clear p0 p1 lB hst hb
    have hz1 := hbel.size
    go_wp2
    refine bodyPost_ret (v := .tuple #[.int .i64 0, .int .i64 (leftE P M pl r)]) (by first | (simp [results, Try.results32, go_sem]; done) | (simp [results, Try.results32, go_sem, *]; done) | (simp [results, Try.results32, go_sem, World.cell?_setCell_same', *]; done) | (simp [results, Try.results32, go_sem]; first | exact ⟨rfl, rfl⟩ | rfl)) rfl ⟨by rw [hV.out], (by repeat' (first | with_reducible assumption | with_reducible exact Below.refl _ _ | refine Below.alloc ?_ ?_ _ | refine Below.setCell ?_ ?_ _ | refine Below.drew ?_ | refine below_drewN ?_ _ | (simp; done) | (simp; omega) | omega))⟩
  · have hok : leftE P M pl r = 0 := by simpa using hbd
    obtain ⟨hb0, h5, hnz⟩ := leftE_zero hok
    obtain ⟨k1, k2, k3⟩ := errR_zero hb0
    obtain ⟨g1, g2, g3⟩ := plan_good k1
    obtain ⟨g4, g5, g6, g7⟩ := book_good g1
    obtain ⟨Pn, rfl⟩ : ∃ Pn : Nat, P = Pn := ⟨P.toNat, by omega⟩
    obtain ⟨Mn, rfl⟩ : ∃ Mn : Nat, M = Mn := ⟨M.toNat, by omega⟩
    have hPn : Pn ≤ 5 := by omega
    have hMn : Mn ≤ 2 := by omega
    have hV := hid (show needV Pn Mn pl r = (need (casesL Pn Mn) Pn (lefN (casesL Pn Mn) pl r (casesL Pn Mn).length) : Nat) by rw [needV, if_neg hbd, Int.toNat_natCast, Int.toNat_natCast, needOf_told])
    have hE := hid hok
    clear hbd hok hnz hb0 k1 k2 k3 g1 g2 g3
    obtain ⟨CL, hCL⟩ : ∃ CL, casesL Pn Mn = CL := ⟨_, rfl⟩
    have hsl := lefN_lt CL pl r CL.length
    obtain ⟨s, hs⟩ : ∃ s, lefN CL pl r CL.length = s := ⟨_, rfl⟩
    have hV2 := hV.out
    rw [hCL, hs] at hV2
    have HV2 := hid hV2
    rw [hs] at hsl
    have HCL := hid hCL
    have Hs := hid hs
    clear hCL hs hV2 hV
    go_enter Try.func32, Try.ntmps32
    go_wp2_with (fail)
    refine (left_ok A B n c m d pl r Pn Mn _ (HP.out.below (by repeat' (first | with_reducible assumption | with_reducible exact Below.refl _ _ | refine Below.alloc ?_ ?_ _ | refine Below.setCell ?_ ?_ _ | refine Below.drew ?_ | refine below_drewN ?_ _ | (simp; done) | (simp; omega) | omega)) (by first | (simp; done) | (simp; omega) | omega)) (HB.out.below (by repeat' (first | with_reducible assumption | with_reducible exact Below.refl _ _ | refine Below.alloc ?_ ?_ _ | refine Below.setCell ?_ ?_ _ | refine Below.drew ?_ | refine below_drewN ?_ _ | (simp; done) | (simp; omega) | omega)) (by first | (simp; done) | (simp; omega) | omega)) hn hw hE.out).mono ?_
    rintro e W1 ⟨g, mp, rfl, hB, hM0, hmm, hb⟩
    rw [HCL.out, Hs.out]
    rw [HCL.out] at hB
    have hst : Below W0.heap.size W0 W1 := Below.trans (by repeat' (first | with_reducible assumption | with_reducible exact Below.refl _ _ | refine Below.alloc ?_ ?_ _ | refine Below.setCell ?_ ?_ _ | refine Below.drew ?_ | refine below_drewN ?_ _ | (simp; done) | (simp; omega) | omega)) (hb.mono (by first | (simp; done) | (simp; omega) | omega))
    replace hbel := hbel.trans (hst.mono hsz)
    have hmm2 : w.heap.size ≤ mp := Nat.le_trans hsz (by simpa using hmm)
    clear p0 p1 lB hst hb hmm
    have hmem := hid (MemW.new (CL := CL) (P := Pn) hM0)
    have HBn := hid hB
    clear hB hM0
    have hz1 := hbel.size
    go_wp2_with (fail)
    refine (needed_rec g Pn Mn mp CL pl hPn hMn HCL.out s hsl _ (HBn.out.below (by repeat' (first | with_reducible assumption | with_reducible exact Below.refl _ _ | refine Below.alloc ?_ ?_ _ | refine Below.setCell ?_ ?_ _ | refine Below.drew ?_ | refine below_drewN ?_ _ | (simp; done) | (simp; omega) | omega))) (hmem.out.below (by repeat' (first | with_reducible assumption | with_reducible exact Below.refl _ _ | refine Below.alloc ?_ ?_ _ | refine Below.setCell ?_ ?_ _ | refine Below.drew ?_ | refine below_drewN ?_ _ | (simp; done) | (simp; omega) | omega)))).mono ?_
    rintro e W2 ⟨rfl, hg2, -⟩
    have hb2 : Below w.heap.size w W2 := Below.grown (by repeat' (first | with_reducible assumption | with_reducible exact Below.refl _ _ | refine Below.alloc ?_ ?_ _ | refine Below.setCell ?_ ?_ _ | refine Below.drew ?_ | refine below_drewN ?_ _ | (simp; done) | (simp; omega) | omega)) hg2 (by simp; omega) (fun k e => by cases e; exact hmm2)
    clear hg2
    go_wp2
    refine bodyPost_ret (v := .tuple #[.int .i64 (need CL Pn s : Nat), .int .i64 0]) (by first | (simp [results, Try.results32, go_sem]; done) | (simp [results, Try.results32, go_sem, *]; done) | (simp [results, Try.results32, go_sem, World.cell?_setCell_same', *]; done) | (simp [results, Try.results32, go_sem]; first | exact ⟨rfl, rfl⟩ | rfl)) rfl ⟨by rw [HV2.out, hE.out], hb2⟩
end Go.Proofs.Ytpgdfipikfbjeaa
/- Walks: the next rod. -/
namespace Go.Proofs.Ytpgdfipikfbjeaa
open Go.RowKit Go.WideMaps Go.Shelf
attribute [local go_sem] Oper.semAt_some run_store_func
set_option maxRecDepth 10000 in
set_option maxHeartbeats 2000000 in
theorem nextF_any (A B : Option Addr) (n c m d : Nat) (pl : List (List Int)) (r : List Int) (P M : Int) (w : World) (hp : LiS w w.heap.size A n pl) (hb : InS w w.heap.size B m r) (hn : n ≤ 12) (hw : ∀ l ∈ pl, l.length ≤ 12) :
    Calls Try.prog 34 #[.agg #[.int .i64 P, .int .i64 M], .slice A n c, .slice B m d] w fun e w' => ∃ A' m' c', e = .returned (.tuple #[.slice A' m' c', .int .i64 (nextE P M pl r)]) ∧ InS w' w'.heap.size A' m' (nextV P M pl r) ∧ Below w.heap.size w w' := by
  obtain ⟨W0, hWb⟩ : ∃ W0, w.alloc (.cells #[.int .i64 P, .int .i64 M] 23) = W0 := ⟨_, rfl⟩
  have bB : Blk W0 w.heap.size 23 #[.int .i64 P, .int .i64 M] := by rw [← hWb]; exact Blk.new' rfl
  have hbel : Below w.heap.size w W0 := by rw [← hWb]; exact (Below.refl _ _).alloc (Nat.le_refl _) _
  have hsz := hbel.size
  have lB := bB.lt
  have p0 := bB.cell 0
  have p1 := bB.cell 1
  have HP := hid (hp.below hbel hsz)
  clear hp
  have HB := hid (hb.below hbel hsz)
  clear hb
  by_cases hbd : leftE P M pl r ≠ 0
  · have hE := hid (show nextE P M pl r = leftE P M pl r from if_pos hbd)
    have hV := hid (show nextV P M pl r = [] from if_pos (by rw [hE.out]; exact hbd))
    have hbi : (leftE P M pl r == 0) = false := by simpa using hbd
    have hbi2 : ¬ leftE P M pl r = 0 := hbd
    have Hb := hid hbd
    clear hbd
    go_enter Try.func34, Try.ntmps34
    go_wp2_with (fail)
    refine (left_bad A B n c m d pl r P M _ (HP.out.below (by repeat' (first | with_reducible assumption | with_reducible exact Below.refl _ _ | refine Below.alloc ?_ ?_ _ | refine Below.setCell ?_ ?_ _ | refine Below.drew ?_ | refine below_drewN ?_ _ | (simp; done) | (simp; omega) | omega)) (by first | (simp; done) | (simp; omega) | omega)) (HB.out.below (by repeat' (first | with_reducible assumption | with_reducible exact Below.refl _ _ | refine Below.alloc ?_ ?_ _ | refine Below.setCell ?_ ?_ _ | refine Below.drew ?_ | refine below_drewN ?_ _ | (simp; done) | (simp; omega) | omega)) (by first | (simp; done) | (simp; omega) | omega)) hn hw Hb.out).mono ?_
    rintro e W1 ⟨rfl, hb⟩
    have hst : Below W0.heap.size W0 W1 := Below.trans (by repeat' (first | with_reducible assumption | with_reducible exact Below.refl _ _ | refine Below.alloc ?_ ?_ _ | refine Below.setCell ?_ ?_ _ | refine Below.drew ?_ | refine below_drewN ?_ _ | (simp; done) | (simp; omega) | omega)) (hb.mono (by first | (simp; done) | (simp; omega) | omega))
    replace hbel := hbel.trans (hst.mono hsz)
    clear p0 p1 lB hst hb
    have hz1 := hbel.size
    go_wp2
    refine bodyPost_ret (v := .tuple #[.slice none 0 0, .int .i64 (leftE P M pl r)]) (by first | (simp [results, Try.results34, go_sem]; done) | (simp [results, Try.results34, go_sem, *]; done) | (simp [results, Try.results34, go_sem, World.cell?_setCell_same', *]; done) | (simp [results, Try.results34, go_sem]; first | exact ⟨rfl, rfl⟩ | rfl)) rfl ⟨none, 0, 0, by rw [hE.out], by rw [hV.out]; exact Sl.none_, (by repeat' (first | with_reducible assumption | with_reducible exact Below.refl _ _ | refine Below.alloc ?_ ?_ _ | refine Below.setCell ?_ ?_ _ | refine Below.drew ?_ | refine below_drewN ?_ _ | (simp; done) | (simp; omega) | omega))⟩
  · have hok : leftE P M pl r = 0 := by simpa using hbd
    obtain ⟨hb0, h5, hnz⟩ := leftE_zero hok
    obtain ⟨k1, k2, k3⟩ := errR_zero hb0
    obtain ⟨g1, g2, g3⟩ := plan_good k1
    obtain ⟨g4, g5, g6, g7⟩ := book_good g1
    obtain ⟨Pn, rfl⟩ : ∃ Pn : Nat, P = Pn := ⟨P.toNat, by omega⟩
    obtain ⟨Mn, rfl⟩ : ∃ Mn : Nat, M = Mn := ⟨M.toNat, by omega⟩
    have hPn : Pn ≤ 5 := by omega
    have hMn : Mn ≤ 2 := by omega
    have hNE := hid (show nextE Pn Mn pl r = if (toldL Pn Mn pl r).length = 1 then 5 else 0 by rw [nextE, if_neg hbd, Int.toNat_natCast, Int.toNat_natCast])
    have hNV := hid (show nextV Pn Mn pl r = if nextE Pn Mn pl r ≠ 0 then [] else bestX (aftN Pn (casesL Pn Mn) (lefN (casesL Pn Mn) pl r (casesL Pn Mn).length)) (splR (casesL Pn Mn) (lefN (casesL Pn Mn) pl r (casesL Pn Mn).length) Pn) by rw [nextV, Int.toNat_natCast, Int.toNat_natCast])
    have hzt := need_zero_told Pn Mn pl r
    have hss := split_some hPn hMn pl r
    have hlb := cases_bd (P := Pn) (M := Mn) (by omega) hMn
    have hls := cases_short Pn Mn
    have hcl := cases_len5 (P := Pn) (M := Mn) hPn
    rw [Int.toNat_natCast, Int.toNat_natCast] at hnz
    have hE := hid hok
    clear hbd hok hb0 k1 k2 k3 g1 g2 g3
    obtain ⟨CL, hCL⟩ : ∃ CL, casesL Pn Mn = CL := ⟨_, rfl⟩
    have hsl := lefN_lt CL pl r CL.length
    obtain ⟨s, hs⟩ : ∃ s, lefN CL pl r CL.length = s := ⟨_, rfl⟩
    have hNV2 := hNV.out
    rw [hCL, hs] at hzt hss hNV2
    rw [hCL] at hlb hls hcl
    have HNV := hid hNV2
    rw [hs] at hsl
    have HCL := hid hCL
    have Hs := hid hs
    have Hls := hid hls
    have Hlb := hid (fun (x : List Int) (hx : x ∈ CL) (v : Int) (hv : v ∈ x) => show 0 ≤ v ∧ v < 8 by have := hlb x hx v hv; omega)
    have Hss := hid hss
    have Hcl := hid hcl
    clear hCL hs hNV2 hNV hls hlb hss hcl
    obtain ⟨N, hN⟩ : ∃ N, need CL Pn s = N := ⟨_, rfl⟩
    have HN := hid hN
    rw [hN] at hzt
    clear hN
    by_cases hN0 : N = 0
    · have hE5 := hid (hNE.out.trans (if_pos (by have := hzt.1 hN0; omega)))
      have hV5 := hid (HNV.out.trans (if_pos (by rw [hE5.out]; decide)))
      have hni : ((N : Int) == 0) = true := by simpa using hN0
      clear hzt hnz
      go_enter Try.func34, Try.ntmps34
      go_wp2_with (fail)
      refine (left_ok A B n c m d pl r Pn Mn _ (HP.out.below (by repeat' (first | with_reducible assumption | with_reducible exact Below.refl _ _ | refine Below.alloc ?_ ?_ _ | refine Below.setCell ?_ ?_ _ | refine Below.drew ?_ | refine below_drewN ?_ _ | (simp; done) | (simp; omega) | omega)) (by first | (simp; done) | (simp; omega) | omega)) (HB.out.below (by repeat' (first | with_reducible assumption | with_reducible exact Below.refl _ _ | refine Below.alloc ?_ ?_ _ | refine Below.setCell ?_ ?_ _ | refine Below.drew ?_ | refine below_drewN ?_ _ | (simp; done) | (simp; omega) | omega)) (by first | (simp; done) | (simp; omega) | omega)) hn hw hE.out).mono ?_
      rintro e W1 ⟨g, mp, rfl, hB, hM0, hmm, hb⟩
      rw [HCL.out, Hs.out]
      rw [HCL.out] at hB
      have hst : Below W0.heap.size W0 W1 := Below.trans (by repeat' (first | with_reducible assumption | with_reducible exact Below.refl _ _ | refine Below.alloc ?_ ?_ _ | refine Below.setCell ?_ ?_ _ | refine Below.drew ?_ | refine below_drewN ?_ _ | (simp; done) | (simp; omega) | omega)) (hb.mono (by first | (simp; done) | (simp; omega) | omega))
      replace hbel := hbel.trans (hst.mono hsz)
      have hmm2 : w.heap.size ≤ mp := Nat.le_trans hsz (by simpa using hmm)
      clear p0 p1 lB hst hb hmm
      have hmem := hid (MemW.new (CL := CL) (P := Pn) hM0)
      have HBn := hid hB
      clear hB hM0
      have hz1 := hbel.size
      obtain ⟨Wa, hWa⟩ : ∃ Wa, (W1.alloc (.cells #[.pointer (some ⟨g, 0, none⟩)] 69)).alloc (.cells #[.int .u64 (s : Int)] 88) = Wa := ⟨_, rfl⟩
      have hba : Below W1.heap.size W1 Wa := by rw [← hWa]; exact (by repeat' (first | with_reducible assumption | with_reducible exact Below.refl _ _ | refine Below.alloc ?_ ?_ _ | refine Below.setCell ?_ ?_ _ | refine Below.drew ?_ | refine below_drewN ?_ _ | (simp; done) | (simp; omega) | omega))
      have b8 : Blk Wa W1.heap.size 69 #[.pointer (some ⟨g, 0, none⟩)] := by rw [← hWa]; exact (Blk.new' rfl).alloc _
      have b9 : Blk Wa (W1.heap.size + 1) 88 #[.int .u64 (s : Int)] := by rw [← hWa]; exact Blk.new' (by simp)
      have r8 := b8.cell 0
      have r9 := b9.cell 0
      have l8 := b8.lt
      have l9 := b9.lt
      have H8 := hid b8
      have H9 := hid b9
      have hmema := hid (hmem.out.below hba)
      have HBa := hid (HBn.out.below hba)
      replace hbel := hbel.trans (hba.mono hz1)
      clear hba hmem HBn b8 b9
      obtain ⟨es, cl, hmap⟩ := hmema.out.isMap
      have Hmap := hid hmap
      clear hmap
      go_wp2_with (fail)
      refine (needed_rec g Pn Mn mp CL pl hPn hMn HCL.out s hsl _ (HBa.out.below (by repeat' (first | with_reducible assumption | with_reducible exact Below.refl _ _ | refine Below.alloc ?_ ?_ _ | refine Below.setCell ?_ ?_ _ | refine Below.drew ?_ | refine below_drewN ?_ _ | (simp; done) | (simp; omega) | omega))) (hmema.out.below (by repeat' (first | with_reducible assumption | with_reducible exact Below.refl _ _ | refine Below.alloc ?_ ?_ _ | refine Below.setCell ?_ ?_ _ | refine Below.drew ?_ | refine below_drewN ?_ _ | (simp; done) | (simp; omega) | omega)))).mono ?_
      rw [HN.out]
      rintro e W2 ⟨rfl, hg2, hm2⟩
      have hb2 : Below w.heap.size w W2 := Below.grown (by repeat' (first | with_reducible assumption | with_reducible exact Below.refl _ _ | refine Below.alloc ?_ ?_ _ | refine Below.setCell ?_ ?_ _ | refine Below.drew ?_ | refine below_drewN ?_ _ | (simp; done) | (simp; omega) | omega)) hg2 (by first | omega | (simp; omega)) (fun k e => by cases e; exact hmm2)
      have h8 := hid (blk_growM hg2 Hmap.out H8.out)
      have h9 := hid (blk_growM hg2 Hmap.out H9.out)
      have hBb := hid (HBa.out.growM hg2 Hmap.out)
      have hmb := hid hm2
      have r8' := h8.out.cell 0
      have r9' := h9.out.cell 0
      have l8' := h8.out.lt
      have l9' := h9.out.lt
      clear hg2 hm2 r8 r9 l8 l9 H8 H9 HBa hmema Hmap
      go_wp2
      refine bodyPost_ret (v := .tuple #[.slice none 0 0, .int .i64 5]) (by first | (simp [results, Try.results34, go_sem]; done) | (simp [results, Try.results34, go_sem, *]; done) | (simp [results, Try.results34, go_sem, World.cell?_setCell_same', *]; done) | (simp [results, Try.results34, go_sem]; first | exact ⟨rfl, rfl⟩ | rfl)) rfl ⟨none, 0, 0, by rw [hE5.out], by rw [hV5.out]; exact Sl.none_, (by repeat' (first | with_reducible assumption | with_reducible exact Below.refl _ _ | refine Below.alloc ?_ ?_ _ | refine Below.setCell ?_ ?_ _ | refine Below.drew ?_ | refine below_drewN ?_ _ | (simp; done) | (simp; omega) | omega))⟩
    · have hE5 := hid (hNE.out.trans (if_neg (fun h => hN0 (hzt.2 (by omega)))))
      have hV5 := hid (HNV.out.trans (if_neg (by rw [hE5.out]; decide)))
      have hni : ((N : Int) == 0) = false := by simpa using hN0
      have hni2 : ¬ (N : Int) = 0 := by omega
      have hX1 := hid (Hss.out (by rw [HN.out]; exact hN0))
      clear hzt hnz
      go_enter Try.func34, Try.ntmps34
      go_wp2_with (fail)
      refine (left_ok A B n c m d pl r Pn Mn _ (HP.out.below (by repeat' (first | with_reducible assumption | with_reducible exact Below.refl _ _ | refine Below.alloc ?_ ?_ _ | refine Below.setCell ?_ ?_ _ | refine Below.drew ?_ | refine below_drewN ?_ _ | (simp; done) | (simp; omega) | omega)) (by first | (simp; done) | (simp; omega) | omega)) (HB.out.below (by repeat' (first | with_reducible assumption | with_reducible exact Below.refl _ _ | refine Below.alloc ?_ ?_ _ | refine Below.setCell ?_ ?_ _ | refine Below.drew ?_ | refine below_drewN ?_ _ | (simp; done) | (simp; omega) | omega)) (by first | (simp; done) | (simp; omega) | omega)) hn hw hE.out).mono ?_
      rintro e W1 ⟨g, mp, rfl, hB, hM0, hmm, hb⟩
      rw [HCL.out, Hs.out]
      rw [HCL.out] at hB
      have hst : Below W0.heap.size W0 W1 := Below.trans (by repeat' (first | with_reducible assumption | with_reducible exact Below.refl _ _ | refine Below.alloc ?_ ?_ _ | refine Below.setCell ?_ ?_ _ | refine Below.drew ?_ | refine below_drewN ?_ _ | (simp; done) | (simp; omega) | omega)) (hb.mono (by first | (simp; done) | (simp; omega) | omega))
      replace hbel := hbel.trans (hst.mono hsz)
      have hmm2 : w.heap.size ≤ mp := Nat.le_trans hsz (by simpa using hmm)
      clear p0 p1 lB hst hb hmm
      have hmem := hid (MemW.new (CL := CL) (P := Pn) hM0)
      have HBn := hid hB
      clear hB hM0
      have hz1 := hbel.size
      obtain ⟨Wa, hWa⟩ : ∃ Wa, (W1.alloc (.cells #[.pointer (some ⟨g, 0, none⟩)] 69)).alloc (.cells #[.int .u64 (s : Int)] 88) = Wa := ⟨_, rfl⟩
      have hba : Below W1.heap.size W1 Wa := by rw [← hWa]; exact (by repeat' (first | with_reducible assumption | with_reducible exact Below.refl _ _ | refine Below.alloc ?_ ?_ _ | refine Below.setCell ?_ ?_ _ | refine Below.drew ?_ | refine below_drewN ?_ _ | (simp; done) | (simp; omega) | omega))
      have b8 : Blk Wa W1.heap.size 69 #[.pointer (some ⟨g, 0, none⟩)] := by rw [← hWa]; exact (Blk.new' rfl).alloc _
      have b9 : Blk Wa (W1.heap.size + 1) 88 #[.int .u64 (s : Int)] := by rw [← hWa]; exact Blk.new' (by simp)
      have r8 := b8.cell 0
      have r9 := b9.cell 0
      have l8 := b8.lt
      have l9 := b9.lt
      have H8 := hid b8
      have H9 := hid b9
      have hmema := hid (hmem.out.below hba)
      have HBa := hid (HBn.out.below hba)
      replace hbel := hbel.trans (hba.mono hz1)
      clear hba hmem HBn b8 b9
      obtain ⟨es, cl, hmap⟩ := hmema.out.isMap
      have Hmap := hid hmap
      clear hmap
      go_wp2_with (fail)
      refine (needed_rec g Pn Mn mp CL pl hPn hMn HCL.out s hsl _ (HBa.out.below (by repeat' (first | with_reducible assumption | with_reducible exact Below.refl _ _ | refine Below.alloc ?_ ?_ _ | refine Below.setCell ?_ ?_ _ | refine Below.drew ?_ | refine below_drewN ?_ _ | (simp; done) | (simp; omega) | omega))) (hmema.out.below (by repeat' (first | with_reducible assumption | with_reducible exact Below.refl _ _ | refine Below.alloc ?_ ?_ _ | refine Below.setCell ?_ ?_ _ | refine Below.drew ?_ | refine below_drewN ?_ _ | (simp; done) | (simp; omega) | omega)))).mono ?_
      rw [HN.out]
      rintro e W2 ⟨rfl, hg2, hm2⟩
      have hb2 : Below w.heap.size w W2 := Below.grown (by repeat' (first | with_reducible assumption | with_reducible exact Below.refl _ _ | refine Below.alloc ?_ ?_ _ | refine Below.setCell ?_ ?_ _ | refine Below.drew ?_ | refine below_drewN ?_ _ | (simp; done) | (simp; omega) | omega)) hg2 (by first | omega | (simp; omega)) (fun k e => by cases e; exact hmm2)
      have h8 := hid (blk_growM hg2 Hmap.out H8.out)
      have h9 := hid (blk_growM hg2 Hmap.out H9.out)
      have hBb := hid (HBa.out.growM hg2 Hmap.out)
      have hmb := hid hm2
      have r8' := h8.out.cell 0
      have r9' := h9.out.cell 0
      have l8' := h8.out.lt
      have l9' := h9.out.lt
      clear hg2 hm2 r8 r9 l8 l9 H8 H9 HBa hmema Hmap
      obtain ⟨Wc, hWc⟩ : ∃ Wc, W2.alloc (.cells #[.func (.func 81) #[] #[.pointer (some ⟨W1.heap.size, 0, none⟩)]] 95) = Wc := ⟨_, rfl⟩
      have hbc : Below W2.heap.size W2 Wc := by rw [← hWc]; exact (Below.refl _ _).alloc (Nat.le_refl _) _
      have bf : Blk Wc W2.heap.size 95 #[.func (.func 81) #[] #[.pointer (some ⟨W1.heap.size, 0, none⟩)]] := by rw [← hWc]; exact Blk.new' rfl
      have hz2 := hb2.size
      have hbelc := hb2.trans (hbc.mono hz2)
      have h8c := hid (h8.out.below hbc l8')
      have h9c := hid (h9.out.below hbc l9')
      have hBc := hid (hBb.out.below hbc)
      have hmc := hid (hmb.out.below hbc)
      have s8 := h8c.out.cell 0
      have s9 := h9c.out.cell 0
      have m8 := h8c.out.lt
      have m9 := h9c.out.lt
      have mf := bf.lt
      have hbf := hid bf
      have hcl16 := Hcl.out
      have hs16 : s < 65536 := Nat.lt_of_lt_of_le hsl (Nat.pow_le_pow_right (by omega) hcl16 : _ ≤ 2 ^ 16)
      clear hbc bf hb2
      go_wp2_with (fail)
      refine (splits_any g Pn Mn mp s CL pl _ (hBc.out.below (by repeat' (first | with_reducible assumption | with_reducible exact Below.refl _ _ | refine Below.alloc ?_ ?_ _ | refine Below.setCell ?_ ?_ _ | refine Below.drew ?_ | refine below_drewN ?_ _ | (simp; done) | (simp; omega) | omega))) (by omega) hcl16 hs16 Hlb.out (fun x hx => Nat.le_trans (Hls.out x hx) (by decide))).mono ?_
      rintro e W3 ⟨A3, c3, rfl, hsp, hlc, hb3⟩
      obtain ⟨X, hX⟩ : ∃ X, splR CL s Pn = X := ⟨_, rfl⟩
      have hXl : X.length ≤ 1000 := by rw [← hX]; have := splTo_len (l := CL) (s := s) (P := Pn) (k := Pn) (by omega) (by omega); unfold splR; omega
      have hX1' : 1 ≤ X.length := by have h := hX1.out; rw [hX] at h; have := List.length_pos_iff.2 h; omega
      have hV6 := hV5.out
      rw [hX] at hV6 hsp hlc ⊢
      have HV6 := hid hV6
      have hstc : Below Wc.heap.size Wc W3 := Below.trans (by repeat' (first | with_reducible assumption | with_reducible exact Below.refl _ _ | refine Below.alloc ?_ ?_ _ | refine Below.setCell ?_ ?_ _ | refine Below.drew ?_ | refine below_drewN ?_ _ | (simp; done) | (simp; omega) | omega)) (hb3.mono (by first | (simp; done) | (simp; omega) | omega))
      have hbel3 := hbelc.trans (hstc.mono hbelc.size)
      have h83 := hid (h8c.out.below hstc m8)
      have hbf3 := hid (hbf.out.below hstc mf)
      have hB3 := hid (hBc.out.below hstc)
      have hm3 := hid (hmc.out.below hstc)
      have n8 := h83.out.lt
      have nf := hbf3.out.lt
      have hsp3 := hid hsp
      have hz3 := hbel3.size
      clear hX hV6 hsp hb3 hstc s8 s9 m8 m9 mf
      go_wp2_with (fail)
      refine (bestS_any g Pn Mn mp CL pl hPn hMn HCL.out s hsl A3 c3 W1.heap.size W2.heap.size X _ hB3.out hm3.out (h83.out.cell 0) n8 (hbf3.out.cell 0) nf hsp3.out hlc hX1' hXl).mono ?_
      rintro e W4 ⟨A4, m4, c4, rfl, hin4, hg4, -⟩
      have hb4 : Below w.heap.size w W4 := Below.grown hbel3 hg4 hz3 (fun k e => by cases e; exact hmm2)
      have hz4 := hb4.size
      have Hin4 := hid hin4
      clear hg4 hin4
      go_wp2
      refine bodyPost_ret (v := .tuple #[.slice A4 m4 c4, .int .i64 0]) (by first | (simp [results, Try.results34, go_sem]; done) | (simp [results, Try.results34, go_sem, *]; done) | (simp [results, Try.results34, go_sem, World.cell?_setCell_same', *]; done) | (simp [results, Try.results34, go_sem]; first | exact ⟨rfl, rfl⟩ | rfl)) rfl ⟨A4, m4, c4, by rw [hE5.out], by rw [HV6.out]; exact Hin4.out.below (by repeat' (first | with_reducible assumption | with_reducible exact Below.refl _ _ | refine Below.alloc ?_ ?_ _ | refine Below.setCell ?_ ?_ _ | refine Below.drew ?_ | refine below_drewN ?_ _ | (simp; done) | (simp; omega) | omega)) (by first | omega | simp), (by repeat' (first | with_reducible assumption | with_reducible exact Below.refl _ _ | refine Below.alloc ?_ ?_ _ | refine Below.setCell ?_ ?_ _ | refine Below.drew ?_ | refine below_drewN ?_ _ | (simp; done) | (simp; omega) | omega))⟩
end Go.Proofs.Ytpgdfipikfbjeaa
/- What the chapter's examples come to. -/
namespace Go.Proofs.Ytpgdfipikfbjeaa
abbrev pL : List (List Int) := [[0, 1], [0, 2]]
abbrev qL : List (List Int) := [[0, 1], [0, 2], [3]]
abbrev sL : List (List Int) := [[0], [1], [2], [3]]
theorem kBook : checkBook 4 1 = 0 ∧ caseV 4 1 = [[], [0], [1], [2], [3]] := by decide +kernel
theorem kRes : resE 4 1 qL [0] = 0 ∧ resV 4 1 qL [0] = [1, 1, 0] ∧ resE 4 1 qL [0, 1] = 2 := by decide +kernel
theorem kTells : tellsE 4 1 pL = 23 ∧ tellsE 4 1 qL = 0 := by decide +kernel
theorem kAli : aliR 4 1 pL = ([], [3], 0) ∧ (aliR 4 1 qL).2.2 = 5 := by decide +kernel
theorem kTold : toldE 4 1 pL [0, 0] = 0 ∧ toldV 4 1 pL [0, 0] = [[], [3]] ∧ toldE 4 1 qL [1, 1, 1] = 23 := by decide +kernel
theorem kPlain : plainE 4 1 qL = 16 ∧ plainE 4 1 sL = 0 := by decide +kernel
theorem kCov : covR 4 1 qL = ([0], 1, 0) ∧ covR 4 1 pL = ([], 3, 0) := by decide +kernel
theorem kSus : errR 4 1 qL [1, 1, 0] = 0 ∧ susV 4 1 qL [1, 1, 0] = [0, 1, 2] ∧ errR 4 1 qL [0, 0] = 15 := by decide +kernel
theorem kBound : boundV 4 1 = 3 := by decide +kernel
theorem kNeed : needV 4 1 [] [] = 3 ∧ leftE 4 1 [] [] = 0 ∧ needV 4 1 pL [1, 0] = 0 ∧ leftE 4 1 pL [1, 0] = 0 := by decide +kernel
theorem kNext : nextE 4 1 pL [0, 0] = 0 ∧ nextE 4 1 pL [1, 0] = 5 ∧ nextV 4 1 pL [0, 0] = [3] := by decide +kernel
theorem kDiv : divB 4 1 [[], [3]] [3] = true ∧ isL 4 0 [3] = true := by decide +kernel
end Go.Proofs.Ytpgdfipikfbjeaa
/- Two operations come up in either order; behind them the proof goes on once. -/
namespace Go.Proofs.Ytpgdfipikfbjeaa.Sx
open Go.Proofs.Ytpgdfipikfbjeaa
variable {P : Program} {md : Region.Mode} {ops : Array Oper} {S : World → Prop}
theorem put_comm (a : Act) {d d' : Option Nat} (hd : d ≠ d') (v v' : Value) : (a.put d v).put d' v' = (a.put d' v').put d v := by
  cases d with
  | none => cases d' <;> rfl
  | some x =>
    cases d' with
    | none => rfl
    | some y =>
      have : x ≠ y := fun e => hd (by rw [e])
      simp only [Act.put]
      rw [Array.setIfInBounds_comm _ _ this]
theorem wpM_twoC (hS : ∀ W W', S W → Ext W W' → S W') {Q : Act → World → Prop} {f : Nat} {listed : Array Bool} {a : Act} {w : World} (i j : Nat) (hij : i ≠ j) (o o' : Oper) (ho : ops[i]? = some o) (ho' : ops[j]? = some o') (hr : decide (Region.ready md ops listed = [i, j]) = true)
    (hri : decide (Region.ready md ops (listed.setIfInBounds i true) = [j]) = true) (hrj : decide (Region.ready md ops (listed.setIfInBounds j true) = [i]) = true)
    (hw : Region.wanted o (yielded ops a.tmps) = true) (hw' : Region.wanted o' (yielded ops a.tmps) = true) (hwi : ∀ v, Region.wanted o' (yielded ops (a.put o.dst v).tmps) = true) (hwj : ∀ v, Region.wanted o (yielded ops (a.put o'.dst v).tmps) = true)
    (Φ Φ' : Value → World → Prop) (hΦ : ∀ v W W', Φ v W → Ext W W' → Φ v W') (hΦ' : ∀ v W W', Φ' v W → Ext W W' → Φ' v W')
    (hd : o.dst ≠ o'.dst)
    (h : ∀ W, Ext w W → S W → LUpon P o a (fun a' W' => ∃ v, a' = a.put o.dst v ∧ Ext W W' ∧ Φ v W') ((execOp a.eval o).run P W))
    (g : ∀ u W, Ext w W → S W → LUpon P o' (a.put o.dst u) (fun a' W' => ∃ v, a' = (a.put o.dst u).put o'.dst v ∧ Ext W W' ∧ Φ' v W') ((execOp (a.put o.dst u).eval o').run P W))
    (h' : ∀ W, Ext w W → S W → LUpon P o' a (fun a' W' => ∃ v, a' = a.put o'.dst v ∧ Ext W W' ∧ Φ' v W') ((execOp a.eval o').run P W))
    (g' : ∀ u W, Ext w W → S W → LUpon P o (a.put o'.dst u) (fun a' W' => ∃ v, a' = (a.put o'.dst u).put o.dst v ∧ Ext W W' ∧ Φ v W') ((execOp (a.put o'.dst u).eval o).run P W))
    (rest : ∀ v v' W, Ext w W → S W → Φ v W → Φ' v' W → wpM P md ops S Q f ((listed.setIfInBounds i true).setIfInBounds j true) ((a.put o.dst v).put o'.dst v') W) : wpM P md ops S Q (f + 1 + 1) listed a w := by
  refine wpM_two i j o o' ho ho' hr hw hw' ?_ ?_
  · intro W h1 h2
    refine LUpon_mono ?_ (h W h1 h2)
    rintro a' W1 ⟨v, rfl, hx, hp⟩
    have hs1 := hS _ _ h2 hx
    refine ⟨hs1, wpM_one j o' ho' hri (hwi v) ?_⟩
    intro W2 hx2 hs2
    refine LUpon_mono ?_ (g v W2 ((h1.trans' hx).trans' hx2) hs2)
    rintro a' W3 ⟨v', rfl, hx3, hp'⟩
    have hs3 := hS _ _ hs2 hx3
    exact ⟨hs3, rest v v' W3 (((h1.trans' hx).trans' hx2).trans' hx3) hs3 (hΦ _ _ _ (hΦ _ _ _ hp hx2) hx3) hp'⟩
  · intro W h1 h2
    refine LUpon_mono ?_ (h' W h1 h2)
    rintro a' W1 ⟨v', rfl, hx, hp⟩
    have hs1 := hS _ _ h2 hx
    refine ⟨hs1, wpM_one i o ho hrj (hwj v') ?_⟩
    intro W2 hx2 hs2
    refine LUpon_mono ?_ (g' v' W2 ((h1.trans' hx).trans' hx2) hs2)
    rintro a' W3 ⟨v, rfl, hx3, hp'⟩
    have hs3 := hS _ _ hs2 hx3
    refine ⟨hs3, ?_⟩
    rw [← put_comm a hd v v', Array.setIfInBounds_comm _ _ (Ne.symm hij)]
    exact rest v v' W3 (((h1.trans' hx).trans' hx2).trans' hx3) hs3 hp' (hΦ' _ _ _ (hΦ' _ _ _ hp hx2) hx3)
end Go.Proofs.Ytpgdfipikfbjeaa.Sx
