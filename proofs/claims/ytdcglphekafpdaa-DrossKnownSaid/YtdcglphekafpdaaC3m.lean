/- DrossKnown answers true; it is a closed statement, without conditions. -/
import Derived.Test.YtdcglphekafpdaaMk
import Derived.Test.YtdcglphekafpdaaMl
namespace Go.Proofs.Ytdcglphekafpdaa
open Go.RowKit Go.Shelf
theorem kL9 : leftS twoL ⟨100, 100⟩ = ⟨82, 94⟩ ∧ leftE twoL ⟨100, 100⟩ = 0 := ⟨by kernel_rfl, by kernel_rfl⟩
theorem kW9 : wrongE twoL badL [0, 2] = 0 := by kernel_rfl
theorem kM9 : meltsE twoL badL [0, 1] = 0 := by kernel_rfl
theorem kM8 : meltsL twoL goodL = [] := by kernel_rfl
theorem kCR : checkRow twoL = 0 := by kernel_rfl
set_option maxRecDepth 100000 in
set_option maxHeartbeats 4000000 in
theorem known_walk (w : World) : Calls Try.prog 17 #[] w fun e w' => e = .returned (.bool true) ∧ Below w.heap.size w w' := by
  go_enter Try.func17, Try.ntmps17
  go_wp2_with (first | (go_at_call 67; refine (two_any _).mono ?_; rintro e w1 ⟨g1, rfl, h1, hb1⟩) | (go_at_call 68; refine (good_any _).mono ?_; rintro e w2 ⟨g2, rfl, h2, hb2⟩) | (go_at_call 69; refine (bad_any _).mono ?_; rintro e w3 ⟨g3, rfl, h3, hb3⟩; have hB3 : Below w.heap.size w w3 := hb1.trans ((hb2.trans (hb3.mono hb2.size)).mono hb1.size); have HR1 : MtS w3 w3.heap.size _ 2 twoL := h1.below (hb2.trans (hb3.mono hb2.size)) (by have := hb2.size; have := hb3.size; omega); have HG1 : RgS w3 w3.heap.size _ 3 goodL := h2.below hb3 hb3.size; have HB1 : RgS w3 w3.heap.size _ 3 badL := h3; have HR := hid (fun V (h : Below w3.heap.size w3 V) => HR1.below h h.size); have HG := hid (fun V (h : Below w3.heap.size w3 V) => HG1.below h h.size); have HB := hid (fun V (h : Below w3.heap.size w3 V) => HB1.below h h.size); clear h1 h2 h3 hb1 hb2 hb3 HR1 HG1 HB1) | fail)
  have hbel : Below w3.heap.size w3 w3 := Below.refl _ _
  have hsz := hbel.size
  have HB3 := hid hB3
  obtain ⟨W0, rfl⟩ : ∃ W0 : World, W0 = w3 := ⟨_, rfl⟩
  go_wp2_with (fail)
  refine (to_any 100 100 _).mono ?_
  rintro e W1 ⟨rfl, hb⟩
  have hst : Below W0.heap.size W0 W1 := Below.trans (by repeat' (first | with_reducible assumption | with_reducible exact Below.refl _ _ | refine Below.alloc ?_ ?_ _ | refine Below.setCell ?_ ?_ _ | refine Below.drew ?_ | refine below_drewN ?_ _ | (simp; done) | (simp; omega) | omega)) (hb.mono (by first | (simp; done) | (simp; omega) | omega))
  replace hbel := hbel.trans (hst.mono hsz)
  replace hsz := hbel.size
  replace HR := hid (fun V (h : Below W1.heap.size W1 V) => HR.out V (hst.trans (h.mono hst.size)))
  replace HG := hid (fun V (h : Below W1.heap.size W1 V) => HG.out V (hst.trans (h.mono hst.size)))
  replace HB := hid (fun V (h : Below W1.heap.size W1 V) => HB.out V (hst.trans (h.mono hst.size)))
  clear hb hst
  obtain ⟨W0, rfl⟩ : ∃ W0 : World, W0 = W1 := ⟨_, rfl⟩
  go_wp2_with (fail)
  refine (dLeft_any _ _ 2 2 twoL ⟨100, 100⟩ (HR.out _ ?_) (by omega)).mono ?_
  · exact (by repeat' (first | with_reducible assumption | with_reducible exact Below.refl _ _ | refine Below.alloc ?_ ?_ _ | refine Below.setCell ?_ ?_ _ | refine Below.drew ?_ | refine below_drewN ?_ _ | (simp; done) | (simp; omega) | omega))
  rw [kL9.1, kL9.2]
  rintro e W1 ⟨rfl, hb⟩
  have hst : Below W0.heap.size W0 W1 := Below.trans (by repeat' (first | with_reducible assumption | with_reducible exact Below.refl _ _ | refine Below.alloc ?_ ?_ _ | refine Below.setCell ?_ ?_ _ | refine Below.drew ?_ | refine below_drewN ?_ _ | (simp; done) | (simp; omega) | omega)) (hb.mono (by first | (simp; done) | (simp; omega) | omega))
  replace hbel := hbel.trans (hst.mono hsz)
  replace hsz := hbel.size
  replace HR := hid (fun V (h : Below W1.heap.size W1 V) => HR.out V (hst.trans (h.mono hst.size)))
  replace HG := hid (fun V (h : Below W1.heap.size W1 V) => HG.out V (hst.trans (h.mono hst.size)))
  replace HB := hid (fun V (h : Below W1.heap.size W1 V) => HB.out V (hst.trans (h.mono hst.size)))
  clear hb hst
  obtain ⟨W0, rfl⟩ : ∃ W0 : World, W0 = W1 := ⟨_, rfl⟩
  go_wp2_with (fail)
  refine (dBetween_any _ _ _ 2 2 3 3 twoL badL (HR.out _ ?_) (by omega) (HB.out _ ?_) (by omega)).mono ?_
  · exact (by repeat' (first | with_reducible assumption | with_reducible exact Below.refl _ _ | refine Below.alloc ?_ ?_ _ | refine Below.setCell ?_ ?_ _ | refine Below.drew ?_ | refine below_drewN ?_ _ | (simp; done) | (simp; omega) | omega))
  · exact (by repeat' (first | with_reducible assumption | with_reducible exact Below.refl _ _ | refine Below.alloc ?_ ?_ _ | refine Below.setCell ?_ ?_ _ | refine Below.drew ?_ | refine below_drewN ?_ _ | (simp; done) | (simp; omega) | omega))
  rintro e W1 ⟨Al, ml, cl, rfl, hl, hb⟩
  have hst : Below W0.heap.size W0 W1 := Below.trans (by repeat' (first | with_reducible assumption | with_reducible exact Below.refl _ _ | refine Below.alloc ?_ ?_ _ | refine Below.setCell ?_ ?_ _ | refine Below.drew ?_ | refine below_drewN ?_ _ | (simp; done) | (simp; omega) | omega)) (hb.mono (by first | (simp; done) | (simp; omega) | omega))
  replace hbel := hbel.trans (hst.mono hsz)
  replace hsz := hbel.size
  replace HR := hid (fun V (h : Below W1.heap.size W1 V) => HR.out V (hst.trans (h.mono hst.size)))
  replace HG := hid (fun V (h : Below W1.heap.size W1 V) => HG.out V (hst.trans (h.mono hst.size)))
  replace HB := hid (fun V (h : Below W1.heap.size W1 V) => HB.out V (hst.trans (h.mono hst.size)))
  have HX := hid ((Blk.new W0 24 #[.int .i64 82, .int .i64 94]).below hb (by simp))
  clear hl
  rw [kE2]
  clear hb hst
  obtain ⟨W0, rfl⟩ : ∃ W0 : World, W0 = W1 := ⟨_, rfl⟩
  go_wp2_with (fail)
  refine (of_any _ _).mono ?_
  rintro e W1 ⟨rfl, hw1⟩
  subst hw1
  go_wp2_with (fail)
  refine (dCheckWrong_any _ _ _ _ 2 2 3 3 2 2 twoL badL [0, 2] (HR.out _ ?_) (by omega) (HB.out _ ?_) (by omega) (ins_blk (l := [0, 2]) (Blk.new _ _ _) (by simp)) (by omega)).mono ?_
  · exact (by repeat' (first | with_reducible assumption | with_reducible exact Below.refl _ _ | refine Below.alloc ?_ ?_ _ | refine Below.setCell ?_ ?_ _ | refine Below.drew ?_ | refine below_drewN ?_ _ | (simp; done) | (simp; omega) | omega))
  · exact (by repeat' (first | with_reducible assumption | with_reducible exact Below.refl _ _ | refine Below.alloc ?_ ?_ _ | refine Below.setCell ?_ ?_ _ | refine Below.drew ?_ | refine below_drewN ?_ _ | (simp; done) | (simp; omega) | omega))
  rw [kW9]
  rintro e W1 ⟨rfl, hb⟩
  have hst : Below W0.heap.size W0 W1 := Below.trans (by repeat' (first | with_reducible assumption | with_reducible exact Below.refl _ _ | refine Below.alloc ?_ ?_ _ | refine Below.setCell ?_ ?_ _ | refine Below.drew ?_ | refine below_drewN ?_ _ | (simp; done) | (simp; omega) | omega)) (hb.mono (by first | (simp; done) | (simp; omega) | omega))
  replace hbel := hbel.trans (hst.mono hsz)
  replace hsz := hbel.size
  replace HR := hid (fun V (h : Below W1.heap.size W1 V) => HR.out V (hst.trans (h.mono hst.size)))
  replace HG := hid (fun V (h : Below W1.heap.size W1 V) => HG.out V (hst.trans (h.mono hst.size)))
  replace HB := hid (fun V (h : Below W1.heap.size W1 V) => HB.out V (hst.trans (h.mono hst.size)))
  replace HX := hid (HX.out.below hst HX.out.lt)
  clear hb hst
  obtain ⟨W0, rfl⟩ : ∃ W0 : World, W0 = W1 := ⟨_, rfl⟩
  go_wp2_with (fail)
  refine (of_any _ _).mono ?_
  rintro e W1 ⟨rfl, hw1⟩
  subst hw1
  go_wp2_with (fail)
  refine (dCheckMelts_any _ _ _ _ 2 2 3 3 2 2 twoL badL [0, 1] (HR.out _ ?_) (by omega) (by omega) (HB.out _ ?_) (by omega) (ins_blk (l := [0, 1]) (Blk.new _ _ _) (by simp)) (by omega)).mono ?_
  · exact (by repeat' (first | with_reducible assumption | with_reducible exact Below.refl _ _ | refine Below.alloc ?_ ?_ _ | refine Below.setCell ?_ ?_ _ | refine Below.drew ?_ | refine below_drewN ?_ _ | (simp; done) | (simp; omega) | omega))
  · exact (by repeat' (first | with_reducible assumption | with_reducible exact Below.refl _ _ | refine Below.alloc ?_ ?_ _ | refine Below.setCell ?_ ?_ _ | refine Below.drew ?_ | refine below_drewN ?_ _ | (simp; done) | (simp; omega) | omega))
  rw [kM9]
  rintro e W1 ⟨rfl, hb⟩
  have hst : Below W0.heap.size W0 W1 := Below.trans (by repeat' (first | with_reducible assumption | with_reducible exact Below.refl _ _ | refine Below.alloc ?_ ?_ _ | refine Below.setCell ?_ ?_ _ | refine Below.drew ?_ | refine below_drewN ?_ _ | (simp; done) | (simp; omega) | omega)) (hb.mono (by first | (simp; done) | (simp; omega) | omega))
  replace hbel := hbel.trans (hst.mono hsz)
  replace hsz := hbel.size
  replace HR := hid (fun V (h : Below W1.heap.size W1 V) => HR.out V (hst.trans (h.mono hst.size)))
  replace HG := hid (fun V (h : Below W1.heap.size W1 V) => HG.out V (hst.trans (h.mono hst.size)))
  replace HB := hid (fun V (h : Below W1.heap.size W1 V) => HB.out V (hst.trans (h.mono hst.size)))
  replace HX := hid (HX.out.below hst HX.out.lt)
  clear hb hst
  obtain ⟨W0, rfl⟩ : ∃ W0 : World, W0 = W1 := ⟨_, rfl⟩
  go_wp2_with (fail)
  refine (dMelts_any _ _ _ 2 2 3 3 twoL goodL (HR.out _ ?_) (by omega) (by omega) (HG.out _ ?_) (by omega)).mono ?_
  · exact (by repeat' (first | with_reducible assumption | with_reducible exact Below.refl _ _ | refine Below.alloc ?_ ?_ _ | refine Below.setCell ?_ ?_ _ | refine Below.drew ?_ | refine below_drewN ?_ _ | (simp; done) | (simp; omega) | omega))
  · exact (by repeat' (first | with_reducible assumption | with_reducible exact Below.refl _ _ | refine Below.alloc ?_ ?_ _ | refine Below.setCell ?_ ?_ _ | refine Below.drew ?_ | refine below_drewN ?_ _ | (simp; done) | (simp; omega) | omega))
  rw [kM8, kS1]
  rintro e W1 ⟨uc, rfl, hc, hb⟩
  have hst : Below W0.heap.size W0 W1 := Below.trans (by repeat' (first | with_reducible assumption | with_reducible exact Below.refl _ _ | refine Below.alloc ?_ ?_ _ | refine Below.setCell ?_ ?_ _ | refine Below.drew ?_ | refine below_drewN ?_ _ | (simp; done) | (simp; omega) | omega)) (hb.mono (by first | (simp; done) | (simp; omega) | omega))
  replace hbel := hbel.trans (hst.mono hsz)
  replace hsz := hbel.size
  replace HR := hid (fun V (h : Below W1.heap.size W1 V) => HR.out V (hst.trans (h.mono hst.size)))
  replace HG := hid (fun V (h : Below W1.heap.size W1 V) => HG.out V (hst.trans (h.mono hst.size)))
  replace HB := hid (fun V (h : Below W1.heap.size W1 V) => HB.out V (hst.trans (h.mono hst.size)))
  replace HX := hid (HX.out.below hst HX.out.lt)
  obtain ⟨Ac, cc, rfl, hsc, _⟩ := hc.form; clear hc hsc
  clear hb hst
  obtain ⟨W0, rfl⟩ : ∃ W0 : World, W0 = W1 := ⟨_, rfl⟩
  go_wp2_with (fail)
  have q0 := HX.out.cell 0
  have q1 := HX.out.cell 1
  have lX := HX.out.lt
  have heq := fun V => eql24 V 82 94 82 94
  refine wp_region_hd_all (fun W' => Below W0.heap.size W0 W') (by kernel_rfl) (by kernel_rfl) ((Below.refl _ _).drew) ?_
  iterate 4 (refine wpHd_val (v := ?_) (by rfl) (fun W hW => ?_) ?_; rotate_left; (· obtain ⟨hcW, hfW⟩ := bcell hW; go_simp; with_reducible rfl); simp only [Act.put, List.setIfInBounds_toArray, List.set_cons_zero, List.set_cons_succ])
  (refine wpHd_callB (by rfl) (fun W hW => to_any 82 94 W) (fun W hW => ?_) ?_; (· obtain ⟨hcW, hfW⟩ := bcell hW; go_simp); simp only [Act.put, List.setIfInBounds_toArray, List.set_cons_zero, List.set_cons_succ])
  iterate 25 (refine wpHd_val (v := ?_) (by rfl) (fun W hW => ?_) ?_; rotate_left; (· obtain ⟨hcW, hfW⟩ := bcell hW; go_simp; with_reducible rfl); simp only [Act.put, List.setIfInBounds_toArray, List.set_cons_zero, List.set_cons_succ])
  (refine wpHd_callB (by rfl) (fun W hW => (by have := dCheckRow_any W _ 2 2 twoL (HR.out _ hW) (by omega); rw [kCR] at this; exact this)) (fun W hW => ?_) ?_; (· obtain ⟨hcW, hfW⟩ := bcell hW; go_simp); simp only [Act.put, List.setIfInBounds_toArray, List.set_cons_zero, List.set_cons_succ])
  iterate 5 (refine wpHd_val (v := ?_) (by rfl) (fun W hW => ?_) ?_; rotate_left; (· obtain ⟨hcW, hfW⟩ := bcell hW; go_simp; with_reducible rfl); simp only [Act.put, List.setIfInBounds_toArray, List.set_cons_zero, List.set_cons_succ])
  (refine wpHd_callB (by rfl) (fun W hW => (by have := dCheckScales_any W _ _ 2 2 3 3 twoL badL (HR.out _ hW) (by omega) (HB.out _ hW) (by omega); rw [kS2] at this; exact this)) (fun W hW => ?_) ?_; (· obtain ⟨hcW, hfW⟩ := bcell hW; go_simp); simp only [Act.put, List.setIfInBounds_toArray, List.set_cons_zero, List.set_cons_succ])
  iterate 3 (refine wpHd_val (v := ?_) (by rfl) (fun W hW => ?_) ?_; rotate_left; (· obtain ⟨hcW, hfW⟩ := bcell hW; go_simp; with_reducible rfl); simp only [Act.put, List.setIfInBounds_toArray, List.set_cons_zero, List.set_cons_succ])
  (refine wpHd_callB (by rfl) (fun W hW => works_any W) (fun W hW => ?_) ?_; (· obtain ⟨hcW, hfW⟩ := bcell hW; go_simp); simp only [Act.put, List.setIfInBounds_toArray, List.set_cons_zero, List.set_cons_succ])
  iterate 2 (refine wpHd_val (v := ?_) (by rfl) (fun W hW => ?_) ?_; rotate_left; (· obtain ⟨hcW, hfW⟩ := bcell hW; go_simp; with_reducible rfl); simp only [Act.put, List.setIfInBounds_toArray, List.set_cons_zero, List.set_cons_succ])
  refine wpHd_nil ?_
  intro W5 hW5
  go_wp2
  go_ret
  exact ⟨rfl, HB3.out.trans ((hbel.trans (hW5.mono hsz)).mono HB3.out.size)⟩
theorem ownK : ownKnob Try.prog.godebug = none := by kernel_rfl

section
open Go.ChangeShapes Go.WideShapes Go.ChangeAt Go.RowKit
set_option maxRecDepth 100000 in
theorem drossKnown_lifted (os : Os) (started : os.Started) (H : Type) (enc : TypeId × Value → H) :
    ReturnsInHanded {} Try.checked os 17 .any (Rows.drossKnownSpec.pre6 enc Try.prog Try.f17 Rows.drossKnownRow.domain false) (Rows.drossKnownSpec.post enc Try.prog Try.f17 false true false false) := by
  refine returnsInHanded_of_change (C := Try.checked) ownK started (by kernel_rfl) Try.func17
    (ChangeSpec.witness6 (enc := enc) (C := Try.checked) false ⟨#[], #[], []⟩ 8 (by kernel_rfl) (by kernel_rfl) (by kernel_rfl) (by kernel_rfl)) ?_
  intro W base args ds gs before hval0 hW hcnd _
  have hval : ∀ (j : Nat) t v, Try.f17.params[j]? = some t → args[j]? = some v → Value.okWide Try.prog W .any base t v := hval0
  have hW' := hW
  obtain ⟨p, q, hA0, hV, rfl, hfz, hnd⟩ := hW
  have hA : DataW.TrodAll enc Try.prog W 0 (fun _ => true) true Try.f17.params.toList args.toList ds p := hA0
  have hlt : ∀ x ∈ p, x.block < W.heap.size := fun x hx => hW'.lt x (List.mem_append_left _ hx)
  have hAll : ∀ W', Below W.heap.size W W' → DataW.TrodAll enc Try.prog W' 0 (fun b => decide (b < W.heap.size)) true Try.f17.params.toList args.toList ds p := fun W' hb => all_below laidOut hb (readable_of (by kernel_rfl)) hlt hA
  rw [Try.params17] at hA hval
  obtain ⟨rfl, rfl, rfl⟩ := trodAll_none hA
  obtain ⟨rfl, rfl⟩ := trodVars_none hV
  clear hA0 hval0

  refine (known_walk W ).mono fun e W' ⟨he, hb⟩ => ?_
  subst he
  exact ⟨_, rfl, ⟨_, _, _, [], _, [], hW', trodAll_cons_mk (shut_bool Try.underlying4 _) trodAll_mk0, hAll W' hb, rfl, hb.frame _, fun h => by cases h⟩⟩
/-- The law: whatever the input, it returns true, and the input reads as it did. -/
theorem drossKnown_holds : Rows.DrossKnownSaid :=
  OpenClaim.holds_of_wide 17 Try.f17 rfl rfl rfl rfl rfl rfl rfl ⟨rfl, rfl, rfl, rfl, rfl⟩ rfl rfl rfl rfl rfl (by kernel_rfl) Try.func17 (by kernel_rfl)
    (of_decide_eq_true (by kernel_rfl)) (by unfold Func.isWrapper; first | (rw [if_pos (by decide +kernel)]; kernel_rfl) | (rw [if_neg (by decide +kernel)]; exact ⟨rfl, rfl⟩))
    (fun os started H enc _ => drossKnown_lifted os started H enc)
end
end Go.Proofs.Ytdcglphekafpdaa
