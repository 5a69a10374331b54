/- Texts of the proof, laid together by program. -/
import Derived.Test.YtdcglphekafpdaaMd
namespace Go.Proofs.Ytdcglphekafpdaa
open Go.RowKit Go.Shelf
theorem stepT_f {M : Nat → Mt} {s : Nat → Rg} {w : Nat → Int} {n k : Nat} (hk : k ≤ n) (h : stepT M s w k = false) : isT n M s w = false := by
  cases hi : isT n M s w with
  | false => rfl
  | true => have := List.all_eq_true.1 hi k (List.mem_range.2 (by omega)); rw [h] at this; cases this
theorem stepT_next {M : Nat → Mt} {s : Nat → Rg} {w : Nat → Int} {k : Nat} (h : (List.range k).all (stepT M s w) = true) (h1 : stepT M s w k = true) : (List.range (k + 1)).all (stepT M s w) = true := by
  rw [List.range_succ, List.all_append, h]; simp [h1]

set_option maxRecDepth 100000 in
set_option maxHeartbeats 1000000 in
theorem isTruth_any (w : World) (A A' A2 : Option Addr) (n c n' c' c2 : Nat) (row : List Mt) (sc : List Rg) (ws : List Int) (hr : MtS w w.heap.size A n row) (hn : n ≤ 7) (hr' : RgS w w.heap.size A' n' sc) (hnn : n' = n + 1)
    (hw : InS w w.heap.size A2 n' ws) (hok : row.all okM = true) (hws : ∀ j, 0 ≤ wAt ws j ∧ wAt ws j ≤ 1000000) :
    Calls Try.prog 88 #[.slice A n c, .slice A' n' c', .slice A2 n' c2] w fun e w' => e = .returned (.bool (isT row.length (mAt row) (sAt sc) (wAt ws))) ∧ Below w.heap.size w w' := by
  have hN : Hid (row.length = n) := hid hr.len
  have hnn' := hid hnn
  have hok' := hid hok
  have hws' := hid hws
  clear hnn hok hws
  go_enter Try.func88, Try.ntmps88
  go_wp2
  go_loopw [7] (fun i wr => ∃ k : Nat, k ≤ n' ∧ i = .int .i64 k ∧ Hid ((List.range k).all (stepT (mAt row) (sAt sc) (wAt ws)) = true) ∧ Below w.heap.size w wr) (fun i _ => n' - (intOf i).toNat)
  case atStart => exact ⟨0, by omega, rfl, hid rfl, Below.refl _ _⟩
  case round =>
    obtain ⟨k, hk, rfl, hall, hbel⟩ := hrel
    have hsz := hbel.size
    by_cases hlt : k < n'
    · obtain ⟨b', off', r, rfl, hb', hm', d0, d1⟩ := (hr'.below hbel (Nat.le_refl _)).at_ hlt
      obtain ⟨b2, off2, x, rfl, hb2, hm2, e0⟩ := (hw.below hbel (Nat.le_refl _)).at_ hlt
      have Hr := hid (sAt_of hm')
      have Hx := hid (wAt_of hm2)
      have hX : Hid (0 ≤ x ∧ x ≤ 1000000) := by rw [← Hx.out]; exact hid (hws'.out k)
      clear hm' hm2
      have l1 : b' < wr.heap.size := by omega
      have l2 : b2 < wr.heap.size := by omega
      cases hin : inR r x
      · have hfin : Hid (isT row.length (mAt row) (sAt sc) (wAt ws) = false) := hid (stepT_f (k := k) (by rw [hN.out]; have := hnn'.out; omega) (by unfold stepT; rw [Hr.out, Hx.out, hin]; rfl))
        go_wp2_with (fail)
        refine wp_region_hd_all (fun W' => Below wr.heap.size wr W') (by kernel_rfl) (by kernel_rfl) ((Below.refl _ _).drew) ?_
        iterate 8 (refine wpHd_val (v := ?_) (by rfl) (fun W hW => ?_) ?_; rotate_left; (· obtain ⟨hcW, hfW⟩ := bcell hW; go_simp; with_reducible rfl); simp only [Act.put, List.setIfInBounds_toArray, List.set_cons_zero, List.set_cons_succ])
        (refine wpHd_callB (by rfl) (fun W hW => in_any r x _) (fun W hW => ?_) ?_; (· obtain ⟨hcW, hfW⟩ := bcell hW; go_simp); simp only [Act.put, List.setIfInBounds_toArray, List.set_cons_zero, List.set_cons_succ])
        (refine wpHd_val (v := ?_) (by rfl) (fun W hW => ?_) ?_; rotate_left; (· obtain ⟨hcW, hfW⟩ := bcell hW; go_simp; with_reducible rfl); simp only [Act.put, List.setIfInBounds_toArray, List.set_cons_zero, List.set_cons_succ])
        refine wpHd_nil ?_
        intro W2 hW2
        have hbel2 := hbel.trans (hW2.mono hsz)
        go_wp2
        go_ret
        exact ⟨by rw [hfin.out]; rfl, hbel2⟩
      · go_wp2_with (fail)
        refine wp_region_hd_all (fun W' => Below wr.heap.size wr W') (by kernel_rfl) (by kernel_rfl) ((Below.refl _ _).drew) ?_
        iterate 8 (refine wpHd_val (v := ?_) (by rfl) (fun W hW => ?_) ?_; rotate_left; (· obtain ⟨hcW, hfW⟩ := bcell hW; go_simp; with_reducible rfl); simp only [Act.put, List.setIfInBounds_toArray, List.set_cons_zero, List.set_cons_succ])
        (refine wpHd_callB (by rfl) (fun W hW => in_any r x _) (fun W hW => ?_) ?_; (· obtain ⟨hcW, hfW⟩ := bcell hW; go_simp); simp only [Act.put, List.setIfInBounds_toArray, List.set_cons_zero, List.set_cons_succ])
        (refine wpHd_val (v := ?_) (by rfl) (fun W hW => ?_) ?_; rotate_left; (· obtain ⟨hcW, hfW⟩ := bcell hW; go_simp; with_reducible rfl); simp only [Act.put, List.setIfInBounds_toArray, List.set_cons_zero, List.set_cons_succ])
        refine wpHd_nil ?_
        intro W2 hW2
        have hbel2 := hbel.trans (hW2.mono hsz)
        rcases k with _ | j
        · have hall' : Hid ((List.range (0 + 1)).all (stepT (mAt row) (sAt sc) (wAt ws)) = true) := hid (stepT_next hall.out (by unfold stepT; rw [Hr.out, Hx.out, hin]; rfl))
          go_wp2_with (fail)
          refine wp_region_hd_all (fun W' => Below W2.heap.size W2 W') (by kernel_rfl) (by kernel_rfl) ((Below.refl _ _).drew) ?_
          iterate 3 (refine wpHd_val (v := ?_) (by rfl) (fun W hW => ?_) ?_; rotate_left; (· obtain ⟨hcW, hfW⟩ := bcell hW; go_simp; with_reducible rfl); simp only [Act.put, List.setIfInBounds_toArray, List.set_cons_zero, List.set_cons_succ])
          iterate 23 (refine wpHd_not (by rfl) ?_; simp only [Act.put, List.setIfInBounds_toArray, List.set_cons_zero, List.set_cons_succ])
          (refine wpHd_val (v := ?_) (by rfl) (fun W hW => ?_) ?_; rotate_left; (· obtain ⟨hcW, hfW⟩ := bcell hW; go_simp; with_reducible rfl); simp only [Act.put, List.setIfInBounds_toArray, List.set_cons_zero, List.set_cons_succ])
          refine wpHd_nil ?_
          intro W3 hW3
          have hbel3 := hbel2.trans (hW3.mono hbel2.size)
          go_wp2
          exact ⟨⟨1, by omega, by go_num, hall', hbel3⟩, by simp [intOf]; omega⟩
        · have hs2 := hW2.size
          obtain ⟨b, off, m, rfl, hb, hm, c0, c1, c2', c3⟩ := (hr.below hbel2 (Nat.le_refl _)).at_ (k := j) (by have := hnn'.out; omega)
          obtain ⟨b3, off3, y, e3, hb3, hm3, g0⟩ := (hw.below hbel2 (Nat.le_refl _)).at_ (k := j) (by omega)
          cases e3
          have Hm : Hid (mAt row j = m) := hid (mAt_of hm)
          have Hy : Hid (wAt ws j = y) := hid (wAt_of hm3)
          have hokm : Hid (okM m = true) := by rw [← Hm.out]; exact hid (mAt_ok hok'.out (by rw [hN.out]; have := hnn'.out; omega))
          have hY : 0 ≤ y ∧ y ≤ 1000000 := by rw [← Hy.out]; exact hws'.out j
          have hst : Hid (stepT (mAt row) (sAt sc) (wAt ws) (j + 1) = inR (melted m ⟨y, y⟩) x) := by
            unfold stepT
            rw [Hr.out, Hx.out, hin, Nat.add_sub_cancel, Hm.out, Hy.out]
            exact hid rfl
          have hbl : (((j + 1 : Nat) : Int) - 1) = (j : Int) := by omega
          have hjn : (j : Int) < n := by have := hnn'.out; omega
          have hjn' : (j : Int) < n' := by omega
          have hj0 : (0 : Int) ≤ (j : Int) + 1 := by omega
          have hj1 : (j : Int) + 1 < n' := by omega
          have hj2 : ((j : Int) + 1).toNat = j + 1 := by omega
          have l6 : IntKind.i64.wrap (j : Int) = (j : Int) := IntWalk.i64_in _ (by omega)
          have l7 : b < W2.heap.size := by omega
          have l8 : b2 < W2.heap.size := by omega
          have d0' : W2.cell? ⟨b2, off2 + (j + 1), none⟩ = some (.int .i64 x) := (bcell hW2).1 _ _ l2 |>.trans e0
          clear hm hm3 hbl
          cases hz : inR (melted m ⟨y, y⟩) x
          · have hfin : Hid (isT row.length (mAt row) (sAt sc) (wAt ws) = false) := hid (stepT_f (k := j + 1) (by rw [hN.out]; have := hnn'.out; omega) (hst.out.trans hz))
            go_wp2_with (fail)
            refine wp_region_hd_all (fun W' => Below W2.heap.size W2 W') (by kernel_rfl) (by kernel_rfl) ((Below.refl _ _).drew) ?_
            iterate 19 (refine wpHd_val (v := ?_) (by rfl) (fun W hW => ?_) ?_; rotate_left; (· obtain ⟨hcW, hfW⟩ := bcell hW; go_simp; with_reducible rfl); simp only [Act.put, List.setIfInBounds_toArray, List.set_cons_zero, List.set_cons_succ])
            (refine wpHd_callB (by rfl) (fun W hW => refMelted_any m ⟨y, y⟩ _ hokm.out hY.1 hY.2 hY.1 (by have := hY.2; simp only; omega)) (fun W hW => ?_) ?_; (· obtain ⟨hcW, hfW⟩ := bcell hW; go_simp); simp only [Act.put, List.setIfInBounds_toArray, List.set_cons_zero, List.set_cons_succ])
            iterate 4 (refine wpHd_val (v := ?_) (by rfl) (fun W hW => ?_) ?_; rotate_left; (· obtain ⟨hcW, hfW⟩ := bcell hW; go_simp; with_reducible rfl); simp only [Act.put, List.setIfInBounds_toArray, List.set_cons_zero, List.set_cons_succ])
            (refine wpHd_callB (by rfl) (fun W hW => in_any (melted m ⟨y, y⟩) x _) (fun W hW => ?_) ?_; (· obtain ⟨hcW, hfW⟩ := bcell hW; go_simp); simp only [Act.put, List.setIfInBounds_toArray, List.set_cons_zero, List.set_cons_succ])
            iterate 2 (refine wpHd_val (v := ?_) (by rfl) (fun W hW => ?_) ?_; rotate_left; (· obtain ⟨hcW, hfW⟩ := bcell hW; go_simp; with_reducible rfl); simp only [Act.put, List.setIfInBounds_toArray, List.set_cons_zero, List.set_cons_succ])
            refine wpHd_nil ?_
            intro W3 hW3
            have hbel3 := hbel2.trans (hW3.mono hbel2.size)
            go_wp2
            go_ret
            exact ⟨by rw [hfin.out]; rfl, hbel3⟩
          · have hall' : Hid ((List.range (j + 1 + 1)).all (stepT (mAt row) (sAt sc) (wAt ws)) = true) := hid (stepT_next hall.out (hst.out.trans hz))
            go_wp2_with (fail)
            refine wp_region_hd_all (fun W' => Below W2.heap.size W2 W') (by kernel_rfl) (by kernel_rfl) ((Below.refl _ _).drew) ?_
            iterate 19 (refine wpHd_val (v := ?_) (by rfl) (fun W hW => ?_) ?_; rotate_left; (· obtain ⟨hcW, hfW⟩ := bcell hW; go_simp; with_reducible rfl); simp only [Act.put, List.setIfInBounds_toArray, List.set_cons_zero, List.set_cons_succ])
            (refine wpHd_callB (by rfl) (fun W hW => refMelted_any m ⟨y, y⟩ _ hokm.out hY.1 hY.2 hY.1 (by have := hY.2; simp only; omega)) (fun W hW => ?_) ?_; (· obtain ⟨hcW, hfW⟩ := bcell hW; go_simp); simp only [Act.put, List.setIfInBounds_toArray, List.set_cons_zero, List.set_cons_succ])
            iterate 4 (refine wpHd_val (v := ?_) (by rfl) (fun W hW => ?_) ?_; rotate_left; (· obtain ⟨hcW, hfW⟩ := bcell hW; go_simp; with_reducible rfl); simp only [Act.put, List.setIfInBounds_toArray, List.set_cons_zero, List.set_cons_succ])
            (refine wpHd_callB (by rfl) (fun W hW => in_any (melted m ⟨y, y⟩) x _) (fun W hW => ?_) ?_; (· obtain ⟨hcW, hfW⟩ := bcell hW; go_simp); simp only [Act.put, List.setIfInBounds_toArray, List.set_cons_zero, List.set_cons_succ])
            iterate 2 (refine wpHd_val (v := ?_) (by rfl) (fun W hW => ?_) ?_; rotate_left; (· obtain ⟨hcW, hfW⟩ := bcell hW; go_simp; with_reducible rfl); simp only [Act.put, List.setIfInBounds_toArray, List.set_cons_zero, List.set_cons_succ])
            refine wpHd_nil ?_
            intro W3 hW3
            have hbel3 := hbel2.trans (hW3.mono hbel2.size)
            go_wp2
            exact ⟨⟨j + 1 + 1, by omega, by go_num, hall', hbel3⟩, by simp [intOf]; omega⟩
    · obtain rfl : k = n' := by omega
      have hfin : Hid (isT row.length (mAt row) (sAt sc) (wAt ws) = true) := by
        have := hall.out
        rw [hnn'.out] at this
        unfold isT
        rw [hN.out]
        exact hid this
      go_wp2
      go_ret
      exact ⟨by rw [hfin.out]; rfl, hbel⟩
end Go.Proofs.Ytdcglphekafpdaa
namespace Go.Proofs.Ytdcglphekafpdaa
open Go.RowKit Go.Shelf
set_option maxRecDepth 100000 in
set_option maxHeartbeats 1000000 in
theorem refCheckTruth_any (w : World) (A A' A2 : Option Addr) (n c n' c' n2 c2 : Nat) (row : List Mt) (sc : List Rg) (ws : List Int) (hr : MtS w w.heap.size A n row) (hn : n ≤ 12) (hr' : RgS w w.heap.size A' n' sc) (hn' : n' ≤ 12)
    (hw : InS w w.heap.size A2 n2 ws) (hn2 : n2 ≤ 100) :
    Calls Try.prog 33 #[.slice A n c, .slice A' n' c', .slice A2 n2 c2] w fun e w' => e = .returned (.int .i64 (truthE row sc ws)) ∧ Below w.heap.size w w' := by
  by_cases h0 : checkScales row sc = 0
  · obtain ⟨k1, k2, k3⟩ := checkScales_ok h0
    obtain ⟨k4, k5, k6⟩ := checkRow_ok k1
    have hlen := hr.len
    have hlen' := hr'.len
    have hlen2 := hw.len
    have hc : (checkScales row sc != 0) = false := by simp [h0]
    by_cases h1 : n' = n2
    · have h1' : ((n2 : Int) != (n' : Int)) = false := by rw [h1]; simp
      have H6 := hid k6
      have hn7 : n ≤ 7 := by omega
      have hnn : Hid (n' = n + 1) := hid (by omega)
      subst h1
      have Hfin : Hid (ws.all (inR ⟨0, 1000000⟩) = true → truthE row sc ws = if isT row.length (mAt row) (sAt sc) (wAt ws) then 0 else 16) := hid fun h2 => by unfold truthE; rw [if_neg (by simp [h0]), if_neg (by omega), if_pos h2]
      have Hbad : Hid (∀ k x, ws[k]? = some x → inR ⟨0, 1000000⟩ x = false → truthE row sc ws = 3) := hid fun k x hx hin => by
        unfold truthE; rw [if_neg (by simp [h0]), if_neg (by omega), if_neg]
        intro h2
        have := List.all_eq_true.1 h2 x (List.mem_of_getElem? hx)
        rw [hin] at this; cases this
      have Hlen : Hid (ws.length = n') := hid hlen2
      clear h0 k1 k2 k3 k4 k5 k6 hlen hlen' hlen2
      go_enter Try.func33, Try.ntmps33
      go_wp2_with (first | (go_at_call 31; refine (checkScales_any _ A A' n c n' c' row sc (hr.below (by repeat' (first | with_reducible assumption | with_reducible exact Below.refl _ _ | refine Below.alloc ?_ ?_ _ | refine Below.setCell ?_ ?_ _ | refine Below.drew ?_ | refine below_drewN ?_ _ | (simp; done) | (simp; omega) | omega)) (by first | (simp; done) | (simp; omega) | omega)) hn (hr'.below (by repeat' (first | with_reducible assumption | with_reducible exact Below.refl _ _ | refine Below.alloc ?_ ?_ _ | refine Below.setCell ?_ ?_ _ | refine Below.drew ?_ | refine below_drewN ?_ _ | (simp; done) | (simp; omega) | omega)) (by first | (simp; done) | (simp; omega) | omega)) hn').mono ?_; rintro e w1 ⟨rfl, hb1⟩; have hbel : Below w.heap.size w w1 := Below.trans (by repeat' (first | with_reducible assumption | with_reducible exact Below.refl _ _ | refine Below.alloc ?_ ?_ _ | refine Below.setCell ?_ ?_ _ | refine Below.drew ?_ | refine below_drewN ?_ _ | (simp; done) | (simp; omega) | omega)) (hb1.mono (by first | (simp; done) | (simp; omega) | omega)); have hsz := hbel.size))
      go_loopw [7] (fun i wr => ∃ k : Nat, k ≤ n' ∧ i = .int .i64 k ∧ Hid ((ws.take k).all (inR ⟨0, 1000000⟩) = true) ∧ Below w.heap.size w wr) (fun i _ => n' - (intOf i).toNat)
      case atStart => exact ⟨0, by omega, rfl, hid rfl, hbel⟩
      case round =>
        obtain ⟨k, hk, rfl, hall, hbel⟩ := hrel
        have hsz := hbel.size
        by_cases hlt : k < n'
        · obtain ⟨b2, off2, x, rfl, hb2, hm2, e0⟩ := (hw.below hbel (Nat.le_refl _)).at_ hlt
          have Hx := hid hm2
          clear hm2
          have l2 : b2 < wr.heap.size := by omega
          go_wp2_with (fail)
          refine wp_region_hd_all (fun W' => Below wr.heap.size wr W') (by kernel_rfl) (by kernel_rfl) ((Below.refl _ _).drew) ?_
          (refine wpHd_callB (by rfl) (fun W hW => all_any _) (fun W hW => ?_) ?_; (· obtain ⟨hcW, hfW⟩ := bcell hW; go_simp); simp only [Act.put, List.setIfInBounds_toArray, List.set_cons_zero, List.set_cons_succ])
          iterate 4 (refine wpHd_val (v := ?_) (by rfl) (fun W hW => ?_) ?_; rotate_left; (· obtain ⟨hcW, hfW⟩ := bcell hW; go_simp; with_reducible rfl); simp only [Act.put, List.setIfInBounds_toArray, List.set_cons_zero, List.set_cons_succ])
          (refine wpHd_callB (by rfl) (fun W hW => in_any ⟨0, 1000000⟩ x _) (fun W hW => ?_) ?_; (· obtain ⟨hcW, hfW⟩ := bcell hW; go_simp); simp only [Act.put, List.setIfInBounds_toArray, List.set_cons_zero, List.set_cons_succ])
          (refine wpHd_val (v := ?_) (by rfl) (fun W hW => ?_) ?_; rotate_left; (· obtain ⟨hcW, hfW⟩ := bcell hW; go_simp; with_reducible rfl); simp only [Act.put, List.setIfInBounds_toArray, List.set_cons_zero, List.set_cons_succ])
          refine wpHd_nil ?_
          intro W2 hW2
          have hbel2 := hbel.trans (hW2.mono hsz)
          cases hin : inR ⟨0, 1000000⟩ x
          · have he : Hid (truthE row sc ws = 3) := hid (Hbad.out k x Hx.out hin)
            go_wp2
            go_ret
            exact ⟨by rw [he.out]; rfl, hbel2⟩
          · go_wp2
            exact ⟨⟨k + 1, by omega, by go_num, all_take_succ hall.out Hx.out hin, hbel2⟩, by simp [intOf]; omega⟩
        · obtain rfl : k = n' := by omega
          have hall' : ws.all (inR ⟨0, 1000000⟩) = true := by have := hall.out; rwa [List.take_of_length_le (by rw [Hlen.out]; omega)] at this
          have he : Hid (truthE row sc ws = if isT row.length (mAt row) (sAt sc) (wAt ws) then 0 else 16) := hid (Hfin.out hall')
          have hws : ∀ j, 0 ≤ wAt ws j ∧ wAt ws j ≤ 1000000 := fun j => by
            unfold wAt
            cases hj : ws[j]? with
            | none => simp
            | some x => have := inR_t.1 (List.all_eq_true.1 hall' x (List.mem_of_getElem? hj)); simpa using this
          have Hws := hid hws
          clear hws hall'
          cases hT : isT row.length (mAt row) (sAt sc) (wAt ws)
          · have he' : Hid (truthE row sc ws = 16) := by rw [he.out, hT]; trivial
            have HT := hid hT
            clear hT
            go_wp2_with (first | (go_at_call 88; refine (isTruth_any _ A A' A2 n c k c' c2 row sc ws (hr.below hbel hsz) hn7 (hr'.below hbel hsz) hnn.out (hw.below hbel hsz) H6.out Hws.out).mono ?_; rw [HT.out]; rintro e w3 ⟨rfl, hb3⟩))
            go_ret
            exact ⟨by rw [he'.out]; rfl, hbel.trans (hb3.mono hsz)⟩
          · have he' : Hid (truthE row sc ws = 0) := by rw [he.out, hT]; trivial
            have HT := hid hT
            clear hT
            go_wp2_with (first | (go_at_call 88; refine (isTruth_any _ A A' A2 n c k c' c2 row sc ws (hr.below hbel hsz) hn7 (hr'.below hbel hsz) hnn.out (hw.below hbel hsz) H6.out Hws.out).mono ?_; rw [HT.out]; rintro e w3 ⟨rfl, hb3⟩))
            go_ret
            exact ⟨by rw [he'.out]; rfl, hbel.trans (hb3.mono hsz)⟩
    · have h1' : ((n2 : Int) != (n' : Int)) = true := by rw [bne_iff_ne]; omega
      have he : Hid (truthE row sc ws = 15) := by unfold truthE; rw [if_neg (by simp [h0]), if_pos (by omega)]; trivial
      clear h0 k1 k2 k3 k4 k5 k6 hlen hlen' hlen2 h1
      go_enter Try.func33, Try.ntmps33
      go_wp2_with (first | (go_at_call 31; refine (checkScales_any _ A A' n c n' c' row sc (hr.below (by repeat' (first | with_reducible assumption | with_reducible exact Below.refl _ _ | refine Below.alloc ?_ ?_ _ | refine Below.setCell ?_ ?_ _ | refine Below.drew ?_ | refine below_drewN ?_ _ | (simp; done) | (simp; omega) | omega)) (by first | (simp; done) | (simp; omega) | omega)) hn (hr'.below (by repeat' (first | with_reducible assumption | with_reducible exact Below.refl _ _ | refine Below.alloc ?_ ?_ _ | refine Below.setCell ?_ ?_ _ | refine Below.drew ?_ | refine below_drewN ?_ _ | (simp; done) | (simp; omega) | omega)) (by first | (simp; done) | (simp; omega) | omega)) hn').mono ?_; rintro e w1 ⟨rfl, hb1⟩; have hbel : Below w.heap.size w w1 := Below.trans (by repeat' (first | with_reducible assumption | with_reducible exact Below.refl _ _ | refine Below.alloc ?_ ?_ _ | refine Below.setCell ?_ ?_ _ | refine Below.drew ?_ | refine below_drewN ?_ _ | (simp; done) | (simp; omega) | omega)) (hb1.mono (by first | (simp; done) | (simp; omega) | omega)); have hsz := hbel.size))
      go_ret
      exact ⟨by rw [he.out]; rfl, hbel⟩
  · have he : Hid (truthE row sc ws = checkScales row sc) := by unfold truthE; rw [if_pos h0]; trivial
    have hc : (checkScales row sc != 0) = true := by simp [h0]
    clear h0
    go_enter Try.func33, Try.ntmps33
    go_wp2_with (first | (go_at_call 31; refine (checkScales_any _ A A' n c n' c' row sc (hr.below (by repeat' (first | with_reducible assumption | with_reducible exact Below.refl _ _ | refine Below.alloc ?_ ?_ _ | refine Below.setCell ?_ ?_ _ | refine Below.drew ?_ | refine below_drewN ?_ _ | (simp; done) | (simp; omega) | omega)) (by first | (simp; done) | (simp; omega) | omega)) hn (hr'.below (by repeat' (first | with_reducible assumption | with_reducible exact Below.refl _ _ | refine Below.alloc ?_ ?_ _ | refine Below.setCell ?_ ?_ _ | refine Below.drew ?_ | refine below_drewN ?_ _ | (simp; done) | (simp; omega) | omega)) (by first | (simp; done) | (simp; omega) | omega)) hn').mono ?_; rintro e w1 ⟨rfl, hb1⟩; have hbel : Below w.heap.size w w1 := Below.trans (by repeat' (first | with_reducible assumption | with_reducible exact Below.refl _ _ | refine Below.alloc ?_ ?_ _ | refine Below.setCell ?_ ?_ _ | refine Below.drew ?_ | refine below_drewN ?_ _ | (simp; done) | (simp; omega) | omega)) (hb1.mono (by first | (simp; done) | (simp; omega) | omega)); have hsz := hbel.size))
    go_ret
    exact ⟨by rw [he.out]; rfl, hbel⟩
end Go.Proofs.Ytdcglphekafpdaa
namespace Go.Proofs.Ytdcglphekafpdaa
open Go.RowKit Go.Shelf
theorem flat_succ {F : Nat → Rg} {k : Nat} {r : Rg} (h : F k = r) : ((List.range (k + 1)).map F).flatMap cR = ((List.range k).map F).flatMap cR ++ [.int .i64 r.lo, .int .i64 r.hi] := by
  rw [List.range_succ, List.map_append, List.flatMap_append]; simp [cR, h]
theorem le_succ {F : Nat → Rg} {k : Nat} (h : ∀ j, j < k → (F j).lo ≤ (F j).hi) (h1 : (F k).lo ≤ (F k).hi) : ∀ j, j < k + 1 → (F j).lo ≤ (F j).hi := fun j hj => by
  rcases Nat.lt_or_ge j k with h2 | h2
  · exact h j h2
  · obtain rfl : j = k := by omega
    exact h1
theorem below_own {B : Nat} {a w w' : World} {row : Option Nat} {R : Nat → Prop} (h : Below B a w) (ho : ∀ k, row = some k → B ≤ k ∧ R k) (k : w.grownBy w' row) (hB : B ≤ a.heap.size) : Below B a w' :=
  ⟨k.os.trans h.os, k.tape.trans h.tape, k.output.trans h.output, Nat.le_trans h.size k.size, fun i hi => (k.block i (by have := h.size; omega) (fun e => by have := (ho i e.symm).1; omega)).trans (h.block i hi)⟩
theorem bit_all : ((List.range 128).all fun mk => (List.range 8).all fun j => (bits BinOp.and IntKind.i64 ((mk : Int) / 2 ^ j) 1 == 0) == !(mk.testBit j)) = true := by kernel_rfl
theorem bit_test {mk j : Nat} (hm : mk < 128) (hj : j < 8) : (bits BinOp.and IntKind.i64 ((mk : Int) / 2 ^ j) 1 == 0) = !(mk.testBit j) := by
  have h1 := List.all_eq_true.1 bit_all mk (List.mem_range.2 hm)
  have h2 := List.all_eq_true.1 h1 j (List.mem_range.2 hj)
  exact beq_iff_eq.1 h2
theorem two_cells {w : World} {a b : Value} {B : Nat} {t : TypeId} {j : Nat} {u : Value} (hj : [a, b][j]? = some u) (hB : w.heap.size = B) : (w.alloc (.cells #[a, b] t)).cell? ((⟨B, 0, none⟩ : Addr).add j) = some u := by
  rw [show (⟨B, 0, none⟩ : Addr).add j = ⟨B, j, none⟩ by unfold Addr.add; split <;> simp_all]
  exact (Blk.cell (Blk.new' hB) j).trans (by simpa using hj)
theorem two_one (a b : Int) : ∀ u ∈ [Value.int .i64 a, .int .i64 b], u.oneCell' = true := by
  intro u hu
  simp only [List.mem_cons, List.not_mem_nil, or_false] at hu
  rcases hu with rfl | rfl <;> rfl
def fwdL (n : Nat) (M : Nat → Mt) (s : Nat → Rg) (mask : Nat → Bool) : List Rg := if poss n M s mask then (List.range (n + 1)).map (fw M s mask) else []
def FwdPost (l : List Rg) (w : World) (e : Ending) (w' : World) : Prop := ∃ v, e = .returned v ∧ w'.ownsRow w.heap.size 24 2 v l.length (l.flatMap cR) ∧ Below w.heap.size w w'

set_option maxRecDepth 100000 in
set_option maxHeartbeats 1000000 in
theorem forward_any (w : World) (A A' : Option Addr) (n c n' c' : Nat) (mk : Nat) (row : List Mt) (sc : List Rg) (hr : MtS w w.heap.size A n row) (hn : n ≤ 7) (hr' : RgS w w.heap.size A' n' sc) (hnn : n' = n + 1)
    (hok : row.all okM = true) (hoks : sc.all okW = true) (hmk : mk < 128) :
    Calls Try.prog 83 #[.slice A n c, .slice A' n' c', .int .i64 mk] w (FwdPost (fwdL row.length (mAt row) (sAt sc) (fun i => mk.testBit i)) w) := by
  have hN : Hid (row.length = n) := hid hr.len
  have hnn' := hid hnn
  have hok' := hid hok
  have hoks' := hid (okS_sAt hoks)
  have hn8 : n' ≤ 8 := by omega
  have Hp : Hid (∀ k, k < n' → (fw (mAt row) (sAt sc) (fun i => mk.testBit i) k).hi < (fw (mAt row) (sAt sc) (fun i => mk.testBit i) k).lo → fwdL row.length (mAt row) (sAt sc) (fun i => mk.testBit i) = []) := hid fun k hk h => by
    unfold fwdL
    rw [if_neg]
    intro hp
    have := poss_t.1 hp k (by rw [hN.out]; omega)
    omega
  have Hq : Hid ((∀ k, k < n' → (fw (mAt row) (sAt sc) (fun i => mk.testBit i) k).lo ≤ (fw (mAt row) (sAt sc) (fun i => mk.testBit i) k).hi) → fwdL row.length (mAt row) (sAt sc) (fun i => mk.testBit i) = (List.range n').map (fw (mAt row) (sAt sc) (fun i => mk.testBit i))) := hid fun h => by
    unfold fwdL
    rw [if_pos (poss_t.2 fun k hk => h k (by rw [hN.out] at hk; omega)), hN.out, hnn]
  clear hnn hok hoks
  obtain ⟨F, hF⟩ : ∃ F, F = fw (mAt row) (sAt sc) (fun i => mk.testBit i) := ⟨_, rfl⟩
  rw [← hF] at Hp Hq
  have HF := hid hF
  clear hF
  obtain ⟨L, hL⟩ : ∃ L, L = fwdL row.length (mAt row) (sAt sc) (fun i => mk.testBit i) := ⟨_, rfl⟩
  rw [← hL] at Hp Hq ⊢
  clear hL
  obtain ⟨i0, hi, hz0, hz1, hz2⟩ := info_parts info24
  go_enter Try.func83, Try.ntmps83
  go_wp2
  go_loopw [7, 8] (fun v i wr => ∃ k : Nat, k ≤ n' ∧ i = .int .i64 k ∧ wr.ownsRow w.heap.size 24 2 v k (((List.range k).map F).flatMap cR) ∧ Hid (∀ j, j < k → (F j).lo ≤ (F j).hi) ∧ Below w.heap.size w wr) (fun _ i _ => n' - (intOf i).toNat)
  case atStart => exact ⟨0, by omega, rfl, World.ownsRow_nil _ _ _ _, hid (fun j hj => by omega), Below.refl _ _⟩
  case round =>
    obtain ⟨k, hk, rfl, hown, hne, hbel⟩ := hrel
    have hsz := hbel.size
    by_cases hlt : k < n'
    · obtain ⟨b', off', r, rfl, hb', hm', d0, d1⟩ := (hr'.below hbel (Nat.le_refl _)).at_ hlt
      have Hr := hid (sAt_of hm')
      clear hm'
      have l1 : b' < wr.heap.size := by omega
      rcases k with _ | j
      · have hf0 : Hid (F 0 = r) := hid (by rw [HF.out, ← Hr.out]; rfl)
        simp only [Nat.zero_mul, Nat.add_zero] at d0 d1
        by_cases he : r.lo ≤ r.hi
        · go_wp2_with (first | (at_builtin; refine wpList_append_own _ rfl _ _ 34 rfl w.heap.size 24 i0 _ 2 16 under34 hi hz0 hz1 hz2 rfl (by decide) _ _ _ rfl ((hown.alloc _).alloc _) ⟨wr.heap.size + 1, 0, none⟩ 1 1 [.int .i64 r.lo, .int .i64 r.hi] (by first | rfl | (simp [Act.eval]; done)) rfl (fun j u hj => two_cells hj (by simp)) (two_one _ _) (by unfold maxLen; omega) (by omega) (by simp; omega) ?_; intro v6 w6 hown6 hgr6 _))
          (exact ⟨⟨0 + 1, by omega, by go_num, by rw [flat_succ hf0.out]; exact hown6, hid (le_succ hne.out (by rw [hf0.out]; exact he)), below_own ((hbel.alloc hsz _).alloc (by simp; omega) _) (hown.lt) hgr6 (Nat.le_refl _)⟩, by simp [intOf]; omega⟩)
        · have hL : Hid (L = []) := hid (Hp.out 0 hlt (by rw [hf0.out]; omega))
          go_wp2
          (refine bodyPost_ret (v := .slice none 0 0) (by first | (simp [results, Try.results83, go_sem]; done) | (simp [results, Try.results83, go_sem, World.cell?_setCell_same', *]; done) | (simp [results, Try.results83, go_sem]; first | exact ⟨rfl, rfl⟩ | rfl)) rfl ⟨_, rfl, by rw [hL.out]; exact World.ownsRow_nil _ _ _ _, hbel.alloc hsz _⟩)
      · have l6 : IntKind.i64.wrap (j : Int) = (j : Int) := IntWalk.i64_in _ (by omega)
        have hj0 : (0 : Int) ≤ (j : Int) + 1 := by omega
        have hj1 : (j : Int) + 1 < n' := by omega
        have hj2 : ((j : Int) + 1).toNat = j + 1 := by omega
        have hbit := bit_test hmk (show j < 8 by omega)
        cases hbm : mk.testBit j
        · obtain ⟨b, off, m, rfl, hb, hm, c0, c1, c2, c3⟩ := (hr.below hbel (Nat.le_refl _)).at_ (k := j) (by have := hnn'.out; omega)
          have Hm : Hid (mAt row j = m) := hid (mAt_of hm)
          have hokm : Hid (okM m = true) := by rw [← Hm.out]; exact hid (mAt_ok hok'.out (by rw [hN.out]; have := hnn'.out; omega))
          obtain ⟨Ao, co, rfl, hSl⟩ := sl_of_owns hown
          obtain ⟨bo, offo, q, rfl, hbo, hq, g0, g1⟩ := RgS.at_ (show RgS wr wr.heap.size Ao (j + 1) ((List.range (j + 1)).map F) from hSl) (k := j) (by omega)
          have Hq' : Hid (F j = q) := hid (by simpa using hq)
          have hnej := hne.out j (by omega)
          have hb6 : 0 ≤ q.lo ∧ q.lo ≤ 1000000 ∧ 0 ≤ q.hi ∧ q.hi ≤ 1000000 := by
            have h1 := fw_sub (mAt row) (sAt sc) (fun i => mk.testBit i) j
            rw [← HF.out, Hq'.out] at h1
            rw [Hq'.out] at hnej
            have h2 := hoks'.out j
            omega
          have hfj : Hid (F (j + 1) = meet r (melted m q)) := hid (by
            rw [HF.out]
            show (if mk.testBit j = true then _ else _) = _
            rw [if_neg (by simp [hbm]), ← HF.out, Hq'.out, Hm.out, Hr.out])
          have hbit' : (bits BinOp.and IntKind.i64 ((mk : Int) / 2 ^ j) 1 == 0) = true := by rw [hbit, hbm]; rfl
          have l8 : b < wr.heap.size := by omega
          have hz9 : Blk (wr.alloc (.cells #[.int .i64 r.lo, .int .i64 r.hi] 24)) wr.heap.size 24 #[.int .i64 r.lo, .int .i64 r.hi] := Blk.new _ _ _
          have hb9 : Below wr.heap.size wr (wr.alloc (.cells #[.int .i64 r.lo, .int .i64 r.hi] 24)) := (Below.refl _ _).alloc (Nat.le_refl _) _
          have hown9 := hown.alloc (.cells #[.int .i64 r.lo, .int .i64 r.hi] 24)
          clear hbit hbm hq hm
          go_wp2_with (fail)
          generalize hW1 : wr.alloc (.cells #[.int .i64 r.lo, .int .i64 r.hi] 24) = W1 at *
          have hsz1 := hb9.size
          have hz9' := hz9.lt
          obtain ⟨hc9, _⟩ := bcell hb9
          have c0' := (hc9 _ _ l8).trans c0
          have c1' := (hc9 _ _ l8).trans c1
          have c2' := (hc9 _ _ l8).trans c2
          have c3' := (hc9 _ _ l8).trans c3
          have g0' := (hc9 _ _ hbo).trans g0
          have g1' := (hc9 _ _ hbo).trans g1
          have r0 := hz9.cell 0
          have r1 := hz9.cell 1
          have l9 : b < W1.heap.size := by omega
          have l10 : bo < W1.heap.size := by omega
          clear c0 c1 c2 c3 g0 g1 d0 d1 hc9 hW1
          have hjn : (j : Int) < n := by have := hnn'.out; omega
          have hjo : (j : Int) < (j : Int) + 1 := by omega
          refine wp_region_hd 13 (fun W' => Below W1.heap.size W1 W') (by kernel_rfl) (by kernel_rfl) ((Below.refl _ _).drew) ?_
          simp only [List.take_succ_cons, List.take_zero, List.drop_succ_cons, List.drop_zero]
          iterate 11 (refine wpHd_val (v := ?_) (by rfl) (fun W hW => ?_) ?_; rotate_left; (· obtain ⟨hcW, hfW⟩ := bcell hW; go_simp; with_reducible rfl); simp only [Act.put, List.setIfInBounds_toArray, List.set_cons_zero, List.set_cons_succ])
          (refine wpHd_callB (by rfl) (fun W hW => refMelted_any m q _ hokm.out hb6.1 hb6.2.1 hb6.2.2.1 (by have := hb6.2.2.2; omega)) (fun W hW => ?_) ?_; (· obtain ⟨hcW, hfW⟩ := bcell hW; go_simp); simp only [Act.put, List.setIfInBounds_toArray, List.set_cons_zero, List.set_cons_succ])
          (refine wpHd_callB (by rfl) (fun W hW => refMeet_any r (melted m q) _) (fun W hW => ?_) ?_; (· obtain ⟨hcW, hfW⟩ := bcell hW; go_simp); simp only [Act.put, List.setIfInBounds_toArray, List.set_cons_zero, List.set_cons_succ])
          refine wpHd_nil ?_
          intro W2 hW2
          clear c0' c1' c2' c3' g0' g1' r0 r1
          have hq2 := hz9.below hW2 hz9'
          have f0 := hq2.cell 0
          have f1 := hq2.cell 1
          have f2 := hq2.frozen 0
          have f3 := hq2.frozen 1
          have hz3 := hq2.set2 (a := .int .i64 (meet r (melted m q)).lo) (b := .int .i64 (meet r (melted m q)).hi)
          have hbo1 : some wr.heap.size ≠ (Value.slice (some ⟨bo, offo, none⟩) (j + 1) co).ownBlock := by simp [Value.ownBlock]; omega
          have hown3 := ownsRow_setCell_other (ownsRow_setCell_other (owns_below hown9 hW2) (a := ⟨wr.heap.size, 0, none⟩) (fun e => hbo1 e.symm) (.int .i64 (meet r (melted m q)).lo)) (a := ⟨wr.heap.size, 1, none⟩) (fun e => hbo1 e.symm) (.int .i64 (meet r (melted m q)).hi)
          have hbel3 := ((hbel.trans ((hb9.mono hsz).trans (hW2.mono (by omega)))).setCell (p := ⟨wr.heap.size, 0, none⟩) hsz (.int .i64 (meet r (melted m q)).lo)).setCell (p := ⟨wr.heap.size, 1, none⟩) hsz (.int .i64 (meet r (melted m q)).hi)
          have h3s := hbel3.size
          have h4s : w.heap.size ≤ W2.heap.size := by have := hW2.size; omega
          by_cases he : (meet r (melted m q)).lo ≤ (meet r (melted m q)).hi
          · go_wp2_with (first | (at_builtin; refine wpList_append_own _ rfl _ _ 34 rfl w.heap.size 24 i0 _ 2 16 under34 hi hz0 hz1 hz2 rfl (by decide) _ _ _ rfl (hown3.alloc _) ⟨W2.heap.size, 0, none⟩ 1 1 [.int .i64 (meet r (melted m q)).lo, .int .i64 (meet r (melted m q)).hi] (by first | rfl | (simp [Act.eval]; done)) rfl (fun j u hj => two_cells hj (by simp)) (two_one _ _) (by unfold maxLen; omega) (by omega) (by simp; omega) ?_; intro v6 w6 hown6 hgr6 _))
            (exact ⟨⟨(j + 1) + 1, by omega, by go_num, by rw [flat_succ hfj.out]; exact hown6, hid (le_succ hne.out (by rw [hfj.out]; exact he)), below_own (hbel3.alloc h3s _) (hown.lt) hgr6 (Nat.le_refl _)⟩, by simp [intOf]; omega⟩)
          · have hL : Hid (L = []) := hid (Hp.out (j + 1) hlt (by rw [hfj.out]; omega))
            go_wp2
            (refine bodyPost_ret (v := .slice none 0 0) (by first | (simp [results, Try.results83, go_sem]; done) | (simp [results, Try.results83, go_sem, World.cell?_setCell_same', *]; done) | (simp [results, Try.results83, go_sem]; first | exact ⟨rfl, rfl⟩ | rfl)) rfl ⟨_, rfl, by rw [hL.out]; exact World.ownsRow_nil _ _ _ _, hbel3⟩)
        · have hfj : Hid (F (j + 1) = r) := hid (by
            rw [HF.out]
            show (if mk.testBit j = true then _ else _) = _
            rw [if_pos hbm, Hr.out])
          have hbit' : (bits BinOp.and IntKind.i64 ((mk : Int) / 2 ^ j) 1 == 0) = false := by rw [hbit, hbm]; rfl
          clear hbit hbm
          by_cases he : r.lo ≤ r.hi
          · go_wp2_with (first | (at_builtin; refine wpList_append_own _ rfl _ _ 34 rfl w.heap.size 24 i0 _ 2 16 under34 hi hz0 hz1 hz2 rfl (by decide) _ _ _ rfl ((hown.alloc _).alloc _) ⟨wr.heap.size + 1, 0, none⟩ 1 1 [.int .i64 r.lo, .int .i64 r.hi] (by first | rfl | (simp [Act.eval]; done)) rfl (fun j u hj => two_cells hj (by simp)) (two_one _ _) (by unfold maxLen; omega) (by omega) (by simp; omega) ?_; intro v6 w6 hown6 hgr6 _))
            (exact ⟨⟨(j + 1) + 1, by omega, by go_num, by rw [flat_succ hfj.out]; exact hown6, hid (le_succ hne.out (by rw [hfj.out]; exact he)), below_own ((hbel.alloc hsz _).alloc (by simp; omega) _) (hown.lt) hgr6 (Nat.le_refl _)⟩, by simp [intOf]; omega⟩)
          · have hL : Hid (L = []) := hid (Hp.out (j + 1) hlt (by rw [hfj.out]; omega))
            go_wp2
            (refine bodyPost_ret (v := .slice none 0 0) (by first | (simp [results, Try.results83, go_sem]; done) | (simp [results, Try.results83, go_sem, World.cell?_setCell_same', *]; done) | (simp [results, Try.results83, go_sem]; first | exact ⟨rfl, rfl⟩ | rfl)) rfl ⟨_, rfl, by rw [hL.out]; exact World.ownsRow_nil _ _ _ _, hbel.alloc hsz _⟩)
    · obtain rfl : k = n' := by omega
      have hL : Hid (L = (List.range k).map F) := hid (Hq.out hne.out)
      obtain ⟨Ao, co, rfl, hSl⟩ := sl_of_owns hown
      go_wp2
      refine bodyPost_ret (v := .slice Ao k co) (by first | (simp [results, Try.results83, go_sem]; done) | (simp [results, Try.results83, go_sem, World.cell?_setCell_same', *]; done) | (simp [results, Try.results83, go_sem]; first | exact ⟨rfl, rfl⟩ | rfl)) rfl ⟨_, rfl, by rw [hL.out, List.length_map, List.length_range]; exact hown, hbel⟩
end Go.Proofs.Ytdcglphekafpdaa
namespace Go.Proofs.Ytdcglphekafpdaa
open Go.RowKit Go.Shelf
theorem fwdL_len {n : Nat} {M : Nat → Mt} {s : Nat → Rg} {mask : Nat → Bool} : (fwdL n M s mask).length = if poss n M s mask then n + 1 else 0 := by
  unfold fwdL; split <;> simp
theorem zero_mask : (fun i => (0 : Nat).testBit i) = fun _ => false := by funext i; simp
theorem isPossible_any (w : World) (A A' : Option Addr) (n c n' c' : Nat) (row : List Mt) (sc : List Rg) (hr : MtS w w.heap.size A n row) (hn : n ≤ 7) (hr' : RgS w w.heap.size A' n' sc) (hnn : n' = n + 1)
    (hok : row.all okM = true) (hoks : sc.all okW = true) :
    Calls Try.prog 82 #[.slice A n c, .slice A' n' c'] w fun e w' => e = .returned (.bool (possB row sc)) ∧ Below w.heap.size w w' := by
  have hnn' := hid hnn
  have hok' := hid hok
  have hoks' := hid hoks
  have hN : Hid (row.length = n) := hid hr.len
  clear hnn hok hoks
  cases hp : possB row sc
  · have hl : Hid ((fwdL row.length (mAt row) (sAt sc) (fun i => (0 : Nat).testBit i)).length = 0) := hid (by rw [fwdL_len, zero_mask, show poss row.length (mAt row) (sAt sc) (fun _ => false) = false from hp]; rfl)
    clear hp
    go_enter Try.func82, Try.ntmps82
    go_wp2_with (first | (go_at_call 83; refine (forward_any _ A A' n c n' c' 0 row sc hr hn hr' hnn'.out hok'.out hoks'.out (by omega)).mono ?_; rintro e w1 ⟨v, rfl, hown, hb1⟩; obtain ⟨Ao, co, rfl, hSl⟩ := sl_of_owns hown; rw [hl.out]))
    go_ret
    exact ⟨rfl, hb1⟩
  · have hl : Hid ((fwdL row.length (mAt row) (sAt sc) (fun i => (0 : Nat).testBit i)).length = n + 1) := hid (by rw [fwdL_len, zero_mask, show poss row.length (mAt row) (sAt sc) (fun _ => false) = true from hp, hN.out]; rfl)
    clear hp
    have hpos : (0 : Int) < (n : Int) + 1 := by omega
    go_enter Try.func82, Try.ntmps82
    go_wp2_with (first | (go_at_call 83; refine (forward_any _ A A' n c n' c' 0 row sc hr hn hr' hnn'.out hok'.out hoks'.out (by omega)).mono ?_; rintro e w1 ⟨v, rfl, hown, hb1⟩; obtain ⟨Ao, co, rfl, hSl⟩ := sl_of_owns hown; rw [hl.out]))
    go_ret
    exact ⟨by simp, hb1⟩
theorem truthError_any (w : World) (A A' : Option Addr) (n c n' c' : Nat) (row : List Mt) (sc : List Rg) (hr : MtS w w.heap.size A n row) (hn : n ≤ 12) (hr' : RgS w w.heap.size A' n' sc) (hn' : n' ≤ 12) :
    Calls Try.prog 27 #[.slice A n c, .slice A' n' c'] w fun e w' => e = .returned (.int .i64 (truthErr row sc)) ∧ Below w.heap.size w w' := by
  by_cases h0 : checkScales row sc = 0
  · obtain ⟨k1, k2, k3⟩ := checkScales_ok h0
    obtain ⟨k4, k5, k6⟩ := checkRow_ok k1
    have hlen := hr.len
    have hlen' := hr'.len
    have hc : (checkScales row sc != 0) = false := by simp [h0]
    have H6 := hid k6
    have H3 := hid k3
    have hn7 : n ≤ 7 := by omega
    have hnn : Hid (n' = n + 1) := hid (by omega)
    cases hp : possB row sc
    · have he : Hid (truthErr row sc = 14) := by unfold truthErr; rw [if_neg (by simp [h0]), hp]; trivial
      have Hp := hid hp
      clear h0 k1 k2 k3 k4 k5 k6 hlen hlen' hp
      go_enter Try.func27, Try.ntmps27
      go_wp2_with (first | (go_at_call 31; refine (checkScales_any _ A A' n c n' c' row sc (hr.below (by repeat' (first | with_reducible assumption | with_reducible exact Below.refl _ _ | refine Below.alloc ?_ ?_ _ | refine Below.setCell ?_ ?_ _ | refine Below.drew ?_ | refine below_drewN ?_ _ | (simp; done) | (simp; omega) | omega)) (by first | (simp; done) | (simp; omega) | omega)) hn (hr'.below (by repeat' (first | with_reducible assumption | with_reducible exact Below.refl _ _ | refine Below.alloc ?_ ?_ _ | refine Below.setCell ?_ ?_ _ | refine Below.drew ?_ | refine below_drewN ?_ _ | (simp; done) | (simp; omega) | omega)) (by first | (simp; done) | (simp; omega) | omega)) hn').mono ?_; rintro e w1 ⟨rfl, hb1⟩; have hbel : Below w.heap.size w w1 := Below.trans (by repeat' (first | with_reducible assumption | with_reducible exact Below.refl _ _ | refine Below.alloc ?_ ?_ _ | refine Below.setCell ?_ ?_ _ | refine Below.drew ?_ | refine below_drewN ?_ _ | (simp; done) | (simp; omega) | omega)) (hb1.mono (by first | (simp; done) | (simp; omega) | omega)); have hsz := hbel.size) | (go_at_call 82; refine (isPossible_any _ A A' n c n' c' row sc (hr.below hbel hsz) hn7 (hr'.below hbel hsz) hnn.out H6.out H3.out).mono ?_; rw [Hp.out]; rintro e w2 ⟨rfl, hb2⟩))
      go_ret
      exact ⟨by rw [he.out]; rfl, hbel.trans (hb2.mono hsz)⟩
    · have he : Hid (truthErr row sc = 0) := by unfold truthErr; rw [if_neg (by simp [h0]), hp]; trivial
      have Hp := hid hp
      clear h0 k1 k2 k3 k4 k5 k6 hlen hlen' hp
      go_enter Try.func27, Try.ntmps27
      go_wp2_with (first | (go_at_call 31; refine (checkScales_any _ A A' n c n' c' row sc (hr.below (by repeat' (first | with_reducible assumption | with_reducible exact Below.refl _ _ | refine Below.alloc ?_ ?_ _ | refine Below.setCell ?_ ?_ _ | refine Below.drew ?_ | refine below_drewN ?_ _ | (simp; done) | (simp; omega) | omega)) (by first | (simp; done) | (simp; omega) | omega)) hn (hr'.below (by repeat' (first | with_reducible assumption | with_reducible exact Below.refl _ _ | refine Below.alloc ?_ ?_ _ | refine Below.setCell ?_ ?_ _ | refine Below.drew ?_ | refine below_drewN ?_ _ | (simp; done) | (simp; omega) | omega)) (by first | (simp; done) | (simp; omega) | omega)) hn').mono ?_; rintro e w1 ⟨rfl, hb1⟩; have hbel : Below w.heap.size w w1 := Below.trans (by repeat' (first | with_reducible assumption | with_reducible exact Below.refl _ _ | refine Below.alloc ?_ ?_ _ | refine Below.setCell ?_ ?_ _ | refine Below.drew ?_ | refine below_drewN ?_ _ | (simp; done) | (simp; omega) | omega)) (hb1.mono (by first | (simp; done) | (simp; omega) | omega)); have hsz := hbel.size) | (go_at_call 82; refine (isPossible_any _ A A' n c n' c' row sc (hr.below hbel hsz) hn7 (hr'.below hbel hsz) hnn.out H6.out H3.out).mono ?_; rw [Hp.out]; rintro e w2 ⟨rfl, hb2⟩))
      go_ret
      exact ⟨by rw [he.out]; rfl, hbel.trans (hb2.mono hsz)⟩
  · have he : Hid (truthErr row sc = checkScales row sc) := by unfold truthErr; rw [if_pos h0]; trivial
    have hc : (checkScales row sc != 0) = true := by simp [h0]
    clear h0
    go_enter Try.func27, Try.ntmps27
    go_wp2_with (first | (go_at_call 31; refine (checkScales_any _ A A' n c n' c' row sc (hr.below (by repeat' (first | with_reducible assumption | with_reducible exact Below.refl _ _ | refine Below.alloc ?_ ?_ _ | refine Below.setCell ?_ ?_ _ | refine Below.drew ?_ | refine below_drewN ?_ _ | (simp; done) | (simp; omega) | omega)) (by first | (simp; done) | (simp; omega) | omega)) hn (hr'.below (by repeat' (first | with_reducible assumption | with_reducible exact Below.refl _ _ | refine Below.alloc ?_ ?_ _ | refine Below.setCell ?_ ?_ _ | refine Below.drew ?_ | refine below_drewN ?_ _ | (simp; done) | (simp; omega) | omega)) (by first | (simp; done) | (simp; omega) | omega)) hn').mono ?_; rintro e w1 ⟨rfl, hb1⟩; have hbel : Below w.heap.size w w1 := Below.trans (by repeat' (first | with_reducible assumption | with_reducible exact Below.refl _ _ | refine Below.alloc ?_ ?_ _ | refine Below.setCell ?_ ?_ _ | refine Below.drew ?_ | refine below_drewN ?_ _ | (simp; done) | (simp; omega) | omega)) (hb1.mono (by first | (simp; done) | (simp; omega) | omega)); have hsz := hbel.size))
    go_ret
    exact ⟨by rw [he.out]; rfl, hbel⟩
end Go.Proofs.Ytdcglphekafpdaa
namespace Go.Proofs.Ytdcglphekafpdaa
open Go.RowKit Go.Shelf
theorem needed_one {m : Mt} (h : okM m = true) {left : Int} (h0 : 0 ≤ left) (h1 : left ≤ 1000001) (sure : Bool) : neededAll sure left [m] = need m left sure := by
  obtain ⟨k1, k2, k3, k4⟩ := keepOf_bd h sure
  have e : neededAll sure left [m] = if neededAll sure left [] > 1000000 then 1000001 else need m (neededAll sure left []) sure := rfl
  by_cases hl : left ≤ 1000000
  · rw [e, show neededAll sure left [] = left from if_pos hl, if_neg (by omega)]
  · rw [e, show neededAll sure left [] = 1000001 from if_neg hl, if_pos (by omega)]
    obtain rfl : left = 1000001 := by omega
    unfold need
    rw [if_neg (by omega)]
    split
    · rfl
    · have hk : 0 < keepOf m sure := by omega
      have : 1000001 ≤ ((1000001 + fixedOf m sure) * 1000 + keepOf m sure - 1) / keepOf m sure := by
        rw [Int.le_ediv_iff_mul_le hk]
        have := Int.mul_le_mul_of_nonneg_left k2 (show (0 : Int) ≤ 1000001 by omega)
        omega
      omega
theorem mts_one {w : World} {B b off : Nat} {m : Mt} (hb : b < B) (c0 : w.cell? ⟨b, off, none⟩ = some (.int .i64 m.keep.lo)) (c1 : w.cell? ⟨b, off + 1, none⟩ = some (.int .i64 m.keep.hi)) (c2 : w.cell? ⟨b, off + 2, none⟩ = some (.int .i64 m.fixed.lo)) (c3 : w.cell? ⟨b, off + 3, none⟩ = some (.int .i64 m.fixed.hi)) :
    MtS w B (some ⟨b, off, none⟩) 1 [m] := by
  refine ⟨rfl, fun _ => ⟨b, off, rfl, hb, fun j u hj => ?_⟩⟩
  match j, hj with
  | 0, hj => simp [cM] at hj; subst hj; exact c0
  | 1, hj => simp [cM] at hj; subst hj; exact c1
  | 2, hj => simp [cM] at hj; subst hj; exact c2
  | 3, hj => simp [cM] at hj; subst hj; exact c3
  | j + 4, hj => simp [cM] at hj
theorem set_flat (r : Rg) : ∀ (l : List Rg) (i : Nat), ((l.flatMap cR).set (i * 2) (.int .i64 r.lo)).set (i * 2 + 1) (.int .i64 r.hi) = (l.set i r).flatMap cR
  | [], i => by simp
  | x :: l, 0 => by simp [cR]
  | x :: l, i + 1 => by
    have h := set_flat r l i
    rw [List.flatMap_cons, List.set_cons_succ, List.flatMap_cons, ← h, show (i + 1) * 2 = i * 2 + 1 + 1 by omega, show i * 2 + 1 + 1 + 1 = (i * 2 + 1) + 1 + 1 by omega]
    simp [cR]
theorem own_form {w : World} {base : Nat} {e : TypeId} {size : Nat} {v : Value} {n : Nat} {xs : List Value} (h : w.ownsRow base e size v (n + 1) xs) : ∃ g cap, v = .slice (some ⟨g, 0, none⟩) (n + 1) cap ∧ base ≤ g := by
  obtain ⟨_, ⟨_, h⟩ | ⟨g, cap, cur, hv, hb, _⟩⟩ := h
  · omega
  · exact ⟨g, cap, hv, hb⟩
theorem owns_mono {w : World} {base base' : Nat} {e : TypeId} {size : Nat} {v : Value} {n : Nat} {xs : List Value} (h : w.ownsRow base e size v n xs) (hb : base' ≤ base) : w.ownsRow base' e size v n xs := by
  obtain ⟨h1, h2 | ⟨g, cap, cur, hv, hb', h3⟩⟩ := h
  · exact ⟨h1, .inl h2⟩
  · exact ⟨h1, .inr ⟨g, cap, cur, hv, Nat.le_trans hb hb', h3⟩⟩
theorem own_at {w : World} {base : Nat} {e : TypeId} {g n cap : Nat} {l : List Rg} (h : w.ownsRow base e 2 (.slice (some ⟨g, 0, none⟩) n cap) n (l.flatMap cR)) {k : Nat} {r : Rg} (hk : l[k]? = some r) :
    w.cell? ⟨g, k * 2, none⟩ = some (.int .i64 r.lo) ∧ w.cell? ⟨g, k * 2 + 1, none⟩ = some (.int .i64 r.hi) ∧ w.frozen? ⟨g, k * 2, none⟩ = false ∧ w.frozen? ⟨g, k * 2 + 1, none⟩ = false := by
  have hl : (l.flatMap cR).length = l.length * 2 := flat_len (s := 2) (fun _ => rfl) l
  have hn := h.1
  have hkl := (List.getElem?_eq_some_iff.1 hk).1
  have h0 := flat_at (f := cR) (s := 2) (fun _ => rfl) l k 0 r hk (by omega)
  have h1 := flat_at (f := cR) (s := 2) (fun _ => rfl) l k 1 r hk (by omega)
  exact ⟨(h.cellAt (k * 2) (by omega)).trans h0, (h.cellAt (k * 2 + 1) (by omega)).trans h1, h.frozenAt _, h.frozenAt _⟩
theorem neededOne_any (w : World) (A : Option Addr) (c : Nat) (m : Mt) (left : Int) (sure : Bool) (hr : MtS w w.heap.size A 1 [m]) (hok : okM m = true) (h0 : 0 ≤ left) (h1 : left ≤ 1000001) :
    Calls Try.prog 77 #[.slice A 1 c, .int .i64 left, .bool sure] w fun e w' => e = .returned (.int .i64 (need m left sure)) ∧ Below w.heap.size w w' := by
  have := neededOf_any w A 1 c [m] left sure hr (by omega) (by simp [hok]) h0
  rwa [needed_one hok h0 h1] at this
/-- k rounds back. -/
def gb (n : Nat) (M : Nat → Mt) (s : Nat → Rg) (k : Nat) (j : Nat) : Rg := if n ≤ k + j then btw n M s j else fw M s (fun _ => false) j
theorem gb_zero {n : Nat} {M : Nat → Mt} {s : Nat → Rg} {j : Nat} (hj : j ≤ n) : gb n M s 0 j = fw M s (fun _ => false) j := by
  unfold gb
  split
  · obtain rfl : j = n := by omega
    unfold btw; rw [Nat.sub_self]; rfl
  · rfl
theorem gb_next {n : Nat} {M : Nat → Mt} {s : Nat → Rg} {k : Nat} (hk : k < n) : gb n M s k (n - 1 - k + 1) = bwf n M s k ∧ gb n M s k (n - 1 - k) = fw M s (fun _ => false) (n - 1 - k) ∧
    (List.range (n + 1)).map (gb n M s (k + 1)) = ((List.range (n + 1)).map (gb n M s k)).set (n - 1 - k) (bwf n M s (k + 1)) := by
  refine ⟨?_, ?_, ?_⟩
  · unfold gb; rw [if_pos (by omega)]; unfold btw; rw [show n - (n - 1 - k + 1) = k by omega]
  · unfold gb; rw [if_neg (by omega)]
  · apply List.ext_getElem?
    intro j
    rw [List.getElem?_set]
    by_cases hj : n - 1 - k = j
    · subst hj
      rw [if_pos rfl, if_pos (by simp; omega), List.getElem?_map, List.getElem?_range (by omega)]
      simp only [Option.map_some, gb]
      rw [if_pos (by omega)]
      unfold btw; rw [show n - (n - 1 - k) = k + 1 by omega]
    · rw [if_neg hj, List.getElem?_map, List.getElem?_map]
      cases hr : (List.range (n + 1))[j]? with
      | none => rfl
      | some x =>
        obtain ⟨h1, h2⟩ := List.getElem?_eq_some_iff.1 hr
        have : x = j := by simpa using h2.symm
        subst this
        simp only [Option.map_some, gb]
        by_cases hx : n ≤ k + x
        · rw [if_pos hx, if_pos (by omega)]
        · rw [if_neg hx, if_neg (by omega)]
theorem bwf_bd {n : Nat} {M : Nat → Mt} {s : Nat → Rg} (hs : okS s) {k : Nat} (hk : k ≤ n) : 0 ≤ (bwf n M s k).lo ∧ (bwf n M s k).hi ≤ 1000000 := by
  have h1 := bwf_sub n M s k hk
  have h2 := fw_sub M s (fun _ => false) (n - k)
  have h3 := hs (n - k)
  omega

set_option maxRecDepth 100000 in
set_option maxHeartbeats 1000000 in
theorem refBetween_any (w : World) (A A' : Option Addr) (n c n' c' : Nat) (row : List Mt) (sc : List Rg) (hr : MtS w w.heap.size A n row) (hn : n ≤ 12) (hc : n ≤ c) (hr' : RgS w w.heap.size A' n' sc) (hn' : n' ≤ 12) :
    Calls Try.prog 29 #[.slice A n c, .slice A' n' c'] w (BtwPost row sc w) := by
  by_cases h0 : truthErr row sc = 0
  · have h00 : checkScales row sc = 0 := by
      rcases Decidable.em (checkScales row sc = 0) with h | h
      · exact h
      · unfold truthErr at h0; rw [if_pos h] at h0; exact h0
    have hp : possB row sc = true := by
      cases hp : possB row sc with
      | true => rfl
      | false => unfold truthErr at h0; rw [if_neg (by simp [h00]), hp] at h0; simp at h0
    obtain ⟨k1, k2, k3⟩ := checkScales_ok h00
    obtain ⟨k4, k5, k6⟩ := checkRow_ok k1
    have hlen := hr.len
    have hlen' := hr'.len
    have H0 := hid h0
    have H6 := hid k6
    have H3 := hid k3
    have hN : Hid (row.length = n) := hid hlen
    have hn7 : n ≤ 7 := by omega
    have hn1 : 1 ≤ n := by omega
    have hnn : Hid (n' = n + 1) := hid (by omega)
    have hM' : Hid (∀ i, i < n → okM (mAt row i) = true) := hid fun i hi => mAt_ok k6 (by omega)
    have hT : ∃ T, Truth n (mAt row) (sAt sc) T := (poss_none hM'.out (okS_sAt k3)).1 (by rw [← hlen]; exact hp)
    have hne : Hid (∀ k, k ≤ n → (bwf n (mAt row) (sAt sc) k).lo ≤ (bwf n (mAt row) (sAt sc) k).hi) := hid fun k hk => by
      obtain ⟨T, hT⟩ := hT
      have := bwf_in hM'.out (okS_sAt k3) hT k hk
      omega
    have hl : Hid (fwdL row.length (mAt row) (sAt sc) (fun i => (0 : Nat).testBit i) = (List.range (n + 1)).map (gb n (mAt row) (sAt sc) 0)) := hid (by
      unfold fwdL
      rw [zero_mask, if_pos (show poss row.length (mAt row) (sAt sc) (fun _ => false) = true from hp), hlen]
      exact List.map_congr_left fun j hj => (gb_zero (by have := List.mem_range.1 hj; omega)).symm)
    have hfin : Hid (btwL row sc = (List.range (n + 1)).map (gb n (mAt row) (sAt sc) n)) := hid (by
      unfold btwL btwAll
      rw [if_pos h0, hlen]
      exact List.map_congr_left fun j hj => by unfold gb; rw [if_pos (by omega)])
    clear h0 h00 hp k1 k2 k3 k4 k5 k6 hlen hlen' hT
    go_enter Try.func29, Try.ntmps29
    go_wp2_with (first | (go_at_call 27; refine (truthError_any _ A A' n c n' c' row sc hr hn hr' hn').mono ?_; rw [H0.out]; rintro e w1 ⟨rfl, hb1⟩) | (go_at_call 83; refine (forward_any _ A A' n c n' c' 0 row sc (hr.below hb1 hb1.size) hn7 (hr'.below hb1 hb1.size) hnn.out H6.out H3.out (by omega)).mono ?_; rintro e w2 ⟨v, rfl, hown, hb2⟩; rw [hl.out, List.length_map, List.length_range] at hown))
    obtain ⟨g, cap, rfl, hg⟩ := own_form hown
    have hb2' := hb1.trans (hb2.mono hb1.size)
    have hs2 := hb2.size
    have hs1 := hb1.size
    replace hown := owns_mono hown hs1
    go_loopw [7] (fun i wr => ∃ k : Nat, k ≤ n ∧ i = .int .i64 ((n : Int) - 1 - k) ∧ wr.ownsRow w.heap.size 24 2 (.slice (some ⟨g, 0, none⟩) (n + 1) cap) (n + 1) (((List.range (n + 1)).map (gb n (mAt row) (sAt sc) k)).flatMap cR) ∧ Below w.heap.size w wr) (fun i _ => (intOf i + 1).toNat)
    case atStart => exact ⟨0, by omega, by simp, hown, hb2'⟩
    case round =>
      obtain ⟨k, hk, rfl, hown, hbel⟩ := hrel
      have hsz := hbel.size
      by_cases hlt : k < n
      · obtain ⟨j, hj⟩ : ∃ j, j = n - 1 - k := ⟨_, rfl⟩
        have hji : (n : Int) - 1 - k = (j : Int) := by omega
        rw [hji]
        have hjn : j < n := by omega
        obtain ⟨q1, q2, q3⟩ := gb_next (n := n) (M := mAt row) (s := sAt sc) hlt
        rw [← hj] at q1 q2 q3
        obtain ⟨b, off, m, rfl, hb, hm, c0, c1, c2, c3⟩ := (hr.below hbel (Nat.le_refl _)).at_ (k := j) hjn
        have Hm : Hid (mAt row j = m) := hid (mAt_of hm)
        have hokm : Hid (okM m = true) := by rw [← Hm.out]; exact hid (hM'.out j hjn)
        obtain ⟨x, hx⟩ : ∃ x, x = fw (mAt row) (sAt sc) (fun _ => false) j := ⟨_, rfl⟩
        obtain ⟨y, hy⟩ : ∃ y, y = bwf n (mAt row) (sAt sc) k := ⟨_, rfl⟩
        have hyb := bwf_bd (n := n) (M := mAt row) (okS_sAt H3.out) (Nat.le_of_lt hlt)
        have hyn := hne.out k (Nat.le_of_lt hlt)
        have hz : Hid (bwf n (mAt row) (sAt sc) (k + 1) = meet x ⟨need m y.lo false, need m (y.hi + 1) true - 1⟩) := hid (by
          rw [hx, hy, ← Hm.out, hj]; rfl)
        rw [← hy] at q1 hyb hyn
        rw [← hx] at q2
        obtain ⟨d0, d1, d2, d3⟩ := own_at hown (k := j) (r := x) (by rw [List.getElem?_map, List.getElem?_range (by omega), Option.map_some, q2])
        obtain ⟨e0, e1, _, _⟩ := own_at hown (k := j + 1) (r := y) (by rw [List.getElem?_map, List.getElem?_range (by omega), Option.map_some, q1])
        have Q3 := hid q3
        have Hx : Hid (gb n (mAt row) (sAt sc) k j = x) := hid q2
        have hgl : g < wr.heap.size := (hown.lt g rfl).2
        have Hj := hid hj
        clear q1 q2 q3 hx hy hm hji hj
        have l1 : b < wr.heap.size := by omega
        have l6 : IntKind.i64.wrap ((j : Int) + 1) = (j : Int) + 1 := IntWalk.i64_in _ (by omega)
        have l7 : IntKind.i64.wrap (y.hi + 1) = y.hi + 1 := IntWalk.i64_in _ (by omega)
        have nb := need_bd hokm.out (left := y.hi + 1) (sure := true)
        have l8 : IntKind.i64.wrap (need m (y.hi + 1) true - 1) = need m (y.hi + 1) true - 1 := IntWalk.i64_in _ (by omega)
        have j0 : (0 : Int) ≤ (j : Int) := by omega
        have j1 : (j : Int) + 1 ≤ n := by omega
        have j2 : (j : Int) + 1 ≤ c := by omega
        have j3 : (j : Int) + 1 < (n : Int) + 1 := by omega
        have j4 : (j : Int) < (n : Int) + 1 := by omega
        have j5 : ((j : Int) + 1).toNat = j + 1 := by omega
        have j6 : (0 : Int) ≤ (j : Int) + 1 := by omega
        have j7 : (j : Int) ≤ (j : Int) + 1 := by omega
        have j8 : j + 1 - j = 1 := by omega
        have j9 : ¬ c = j := by omega
        have hyb' : y.lo ≤ 1000001 := by omega
        have hyh : 0 ≤ y.hi + 1 := by omega
        have hyh' : y.hi + 1 ≤ 1000001 := by omega
        go_wp2_with (fail)
        refine wp_region_hd_all (fun W' => Below wr.heap.size wr W') (by kernel_rfl) (by kernel_rfl) ((Below.refl _ _).drew) ?_
        iterate 11 (refine wpHd_val (v := ?_) (by rfl) (fun W hW => ?_) ?_; rotate_left; (· obtain ⟨hcW, hfW⟩ := bcell hW; go_simp; with_reducible rfl); simp only [Act.put, List.setIfInBounds_toArray, List.set_cons_zero, List.set_cons_succ])
        (refine wpHd_callB (by rfl) (fun W hW => neededOne_any W _ (c - j) m y.lo false ((mts_one l1 c0 c1 c2 c3).below hW hW.size) hokm.out hyb.1 hyb') (fun W hW => ?_) ?_; (· obtain ⟨hcW, hfW⟩ := bcell hW; go_simp); simp only [Act.put, List.setIfInBounds_toArray, List.set_cons_zero, List.set_cons_succ])
        (refine wpHd_val (v := ?_) (by rfl) (fun W hW => ?_) ?_; rotate_left; (· obtain ⟨hcW, hfW⟩ := bcell hW; go_simp; with_reducible rfl); simp only [Act.put, List.setIfInBounds_toArray, List.set_cons_zero, List.set_cons_succ])
        refine wpHd_nil ?_
        intro W2 hW2
        obtain ⟨hc2, hf2⟩ := bcell hW2
        have hs2 := hW2.size
        replace c0 := (hc2 _ _ l1).trans c0
        replace c1 := (hc2 _ _ l1).trans c1
        replace c2 := (hc2 _ _ l1).trans c2
        replace c3 := (hc2 _ _ l1).trans c3
        replace d0 := (hc2 _ _ hgl).trans d0
        replace d1 := (hc2 _ _ hgl).trans d1
        replace e0 := (hc2 _ _ hgl).trans e0
        replace e1 := (hc2 _ _ hgl).trans e1
        have hbel2 := hbel.trans (hW2.mono hsz)
        have hown2 := owns_below hown hW2
        replace l1 : b < W2.heap.size := by omega
        replace hgl : g < W2.heap.size := by omega
        clear hc2 hf2 d2 d3
        go_wp2_with (fail)
        refine wp_region_hd_all (fun W' => Below W2.heap.size W2 W') (by kernel_rfl) (by kernel_rfl) ((Below.refl _ _).drew) ?_
        iterate 12 (refine wpHd_val (v := ?_) (by rfl) (fun W hW => ?_) ?_; rotate_left; (· obtain ⟨hcW, hfW⟩ := bcell hW; go_simp; with_reducible rfl); simp only [Act.put, List.setIfInBounds_toArray, List.set_cons_zero, List.set_cons_succ])
        (refine wpHd_callB (by rfl) (fun W hW => neededOne_any W _ (c - j) m (y.hi + 1) true ((mts_one l1 c0 c1 c2 c3).below hW hW.size) hokm.out hyh hyh') (fun W hW => ?_) ?_; (· obtain ⟨hcW, hfW⟩ := bcell hW; go_simp); simp only [Act.put, List.setIfInBounds_toArray, List.set_cons_zero, List.set_cons_succ])
        iterate 2 (refine wpHd_val (v := ?_) (by rfl) (fun W hW => ?_) ?_; rotate_left; (· obtain ⟨hcW, hfW⟩ := bcell hW; go_simp; with_reducible rfl); simp only [Act.put, List.setIfInBounds_toArray, List.set_cons_zero, List.set_cons_succ])
        refine wpHd_nil ?_
        intro W3 hW3
        obtain ⟨hc2, hf2⟩ := bcell hW3
        have hs3 := hW3.size
        replace d0 := (hc2 _ _ hgl).trans d0
        replace d1 := (hc2 _ _ hgl).trans d1
        have hbel3 := hbel2.trans (hW3.mono hbel2.size)
        have hown3 := owns_below hown2 hW3
        replace hgl : g < W3.heap.size := by omega
        clear hc2 hf2 c0 c1 c2 c3 e0 e1 hown2
        go_wp2_with (first | (go_at_call 84; refine (refMeet_any x ⟨need m y.lo false, need m (y.hi + 1) true - 1⟩ _).mono ?_; rw [← hz.out]; rintro e w4 ⟨rfl, hb4⟩; have hown4 := owns_below hown3 hb4; obtain ⟨f0, f1, f2, f3⟩ := own_at hown4 (k := j) (r := x) (by rw [List.getElem?_map, List.getElem?_range (by omega), Option.map_some, Hx.out])))
        have hgb := (hown.lt g rfl).1
        have hs4 := hb4.size
        have hfin4 := ((hown4.stored (j * 2) (.int .i64 (bwf n (mAt row) (sAt sc) (k + 1)).lo)).1.stored (j * 2 + 1) (.int .i64 (bwf n (mAt row) (sAt sc) (k + 1)).hi)).1
        rw [set_flat, ← Q3.out] at hfin4
        have hHj := Hj.out
        exact ⟨⟨k + 1, by omega, by congr 1; omega, hfin4, ((hbel3.trans (hb4.mono hbel3.size)).setCell hgb _).setCell hgb _⟩, by first | (simp [intOf]; done) | (simp [intOf]; omega)⟩
      · obtain rfl : k = n := by omega
        obtain ⟨Ao, co, e1, hSl⟩ := sl_of_owns hown
        cases e1
        go_wp2
        refine bodyPost_ret (v := .tuple #[.slice (some ⟨g, 0, none⟩) (k + 1) cap, .int .i64 0]) (by first | (simp [results, Try.results29, go_sem]; done) | (simp [results, Try.results29, go_sem, World.cell?_setCell_same', *]; done) | (simp [results, Try.results29, go_sem]; first | exact ⟨rfl, rfl⟩ | rfl)) rfl ⟨_, _, _, by rw [H0.out], by rw [hfin.out]; exact hSl, hbel⟩
  · have hl : Hid (btwL row sc = []) := by unfold btwL; rw [if_neg h0]; trivial
    have hc' : (truthErr row sc != 0) = true := by simp [h0]
    clear h0
    go_enter Try.func29, Try.ntmps29
    go_wp2_with (first | (go_at_call 27; refine (truthError_any _ A A' n c n' c' row sc (hr.below (by repeat' (first | with_reducible assumption | with_reducible exact Below.refl _ _ | refine Below.alloc ?_ ?_ _ | refine Below.setCell ?_ ?_ _ | refine Below.drew ?_ | refine below_drewN ?_ _ | (simp; done) | (simp; omega) | omega)) (by first | (simp; done) | (simp; omega) | omega)) hn (hr'.below (by repeat' (first | with_reducible assumption | with_reducible exact Below.refl _ _ | refine Below.alloc ?_ ?_ _ | refine Below.setCell ?_ ?_ _ | refine Below.drew ?_ | refine below_drewN ?_ _ | (simp; done) | (simp; omega) | omega)) (by first | (simp; done) | (simp; omega) | omega)) hn').mono ?_; rintro e w1 ⟨rfl, hb1⟩; have hbel : Below w.heap.size w w1 := Below.trans (by repeat' (first | with_reducible assumption | with_reducible exact Below.refl _ _ | refine Below.alloc ?_ ?_ _ | refine Below.setCell ?_ ?_ _ | refine Below.drew ?_ | refine below_drewN ?_ _ | (simp; done) | (simp; omega) | omega)) (hb1.mono (by first | (simp; done) | (simp; omega) | omega)); have hsz := hbel.size))
    refine bodyPost_ret (v := .tuple #[.slice none 0 0, .int .i64 (truthErr row sc)]) (by first | (simp [results, Try.results29, go_sem]; done) | (simp [results, Try.results29, go_sem, World.cell?_setCell_same', *]; done) | (simp [results, Try.results29, go_sem]; first | exact ⟨rfl, rfl⟩ | rfl)) rfl ⟨none, 0, 0, rfl, by rw [hl.out]; exact Sl.none_, hbel⟩
end Go.Proofs.Ytdcglphekafpdaa
namespace Go.Proofs.Ytdcglphekafpdaa
open Go.RowKit Go.Shelf
/-- Numbers of scales or of melts, below a bound, rising. -/
def listK (l : List Int) (below : Int) (k : Nat) : Bool := decide (0 ≤ wAt l k) && decide (wAt l k < below) && (k == 0 || decide (wAt l (k - 1) < wAt l k))
def listB (l : List Int) (below : Int) : Bool := (List.range l.length).all (listK l below)
theorem listB_f {l : List Int} {below : Int} {k : Nat} (hk : k < l.length) (h : listK l below k = false) : listB l below = false := by
  cases hi : listB l below with
  | false => rfl
  | true => have := List.all_eq_true.1 hi k (List.mem_range.2 hk); rw [h] at this; cases this
theorem listK_next {l : List Int} {below : Int} {k : Nat} (h : (List.range k).all (listK l below) = true) (h1 : listK l below k = true) : (List.range (k + 1)).all (listK l below) = true := by
  rw [List.range_succ, List.all_append, h]; simp [h1]
theorem listB_t {l : List Int} {below : Int} (h : (List.range l.length).all (listK l below) = true) : listB l below = true := h

def nxt (l : List Int) (k : Nat) : Int := if k = 0 then 0 else wAt l (k - 1) + 1
theorem listK_nx {l : List Int} {below : Int} {k : Nat} (h : (List.range k).all (listK l below) = true) : listK l below k = (decide (nxt l k ≤ wAt l k) && decide (wAt l k < below)) := by
  unfold listK nxt
  cases k with
  | zero => simp
  | succ k =>
    have h1 := List.all_eq_true.1 h k (List.mem_range.2 (by omega))
    simp only [listK, Bool.and_eq_true, decide_eq_true_eq] at h1
    rw [Bool.eq_iff_iff]
    simp only [Bool.and_eq_true, Bool.or_eq_true, decide_eq_true_eq, beq_iff_eq, Nat.add_sub_cancel, if_neg (Nat.succ_ne_zero k)]
    omega

set_option maxRecDepth 100000 in
set_option maxHeartbeats 1000000 in
theorem rising_any (w : World) (A : Option Addr) (n c : Nat) (l : List Int) (below : Int) (hl : InS w w.heap.size A n l) (hn : n ≤ 100) (hb9 : 0 ≤ below) (hb8 : below ≤ 1000) :
    Calls Try.prog 100 #[.slice A n c, .int .i64 below] w fun e w' => e = .returned (.bool (listB l below)) ∧ Below w.heap.size w w' := by
  have hlen := hid hl.len
  go_enter Try.func100, Try.ntmps100
  go_wp2
  go_loopw [5, 10] (fun nx i wr => ∃ k : Nat, k ≤ n ∧ i = .int .i64 k ∧ nx = .int .i64 (nxt l k) ∧ Hid ((List.range k).all (listK l below) = true) ∧ Below w.heap.size w wr) (fun _ i _ => n - (intOf i).toNat)
  case atStart => exact ⟨0, by omega, rfl, rfl, hid rfl, Below.refl _ _⟩
  case round =>
    obtain ⟨k, hk, rfl, rfl, hall, hbel⟩ := hrel
    by_cases hlt : k < n
    · obtain ⟨b, off, x, rfl, hb, hm, c0⟩ := (hl.below hbel (Nat.le_refl _)).at_ hlt
      have Hx := hid (wAt_of hm)
      have hK : Hid (listK l below k = (decide (nxt l k ≤ x) && decide (x < below))) := hid (by rw [listK_nx hall.out, Hx.out])
      have hN : Hid (nxt l (k + 1) = x + 1) := hid (by unfold nxt; rw [if_neg (by omega), Nat.add_sub_cancel, Hx.out])
      clear hm
      generalize hy : nxt l k = y at *
      clear hy
      by_cases h1 : y ≤ x
      · by_cases h2 : x < below
        · have hall' := hid (listK_next hall.out (by rw [hK.out]; simp [h1, h2]))
          have hy0 : Hid (0 ≤ x) := hid (by
            have := List.all_eq_true.1 hall'.out k (List.mem_range.2 (by omega))
            simp only [listK, Bool.and_eq_true, decide_eq_true_eq, Hx.out] at this
            omega)
          have l6 : IntKind.i64.wrap (x + 1) = x + 1 := IntWalk.i64_in _ (by have := hy0.out; omega)
          go_wp2
          exact ⟨⟨k + 1, by omega, by go_num, by rw [hN.out], hall', hbel⟩, by simp [intOf]; omega⟩
        · have hfin : Hid (listB l below = false) := hid (listB_f (k := k) (by rw [hlen.out]; exact hlt) (by rw [hK.out]; simp [h2]))
          go_wp2
          go_ret
          exact ⟨by rw [hfin.out]; rfl, hbel⟩
      · have hfin : Hid (listB l below = false) := hid (listB_f (k := k) (by rw [hlen.out]; exact hlt) (by rw [hK.out]; simp [h1]))
        go_wp2
        go_ret
        exact ⟨by rw [hfin.out]; rfl, hbel⟩
    · obtain rfl : k = n := by omega
      have hfin : Hid (listB l below = true) := hid (by unfold listB; rw [hlen.out]; exact hall.out)
      go_wp2
      go_ret
      exact ⟨by rw [hfin.out]; rfl, hbel⟩
end Go.Proofs.Ytdcglphekafpdaa
namespace Go.Proofs.Ytdcglphekafpdaa
open Go.RowKit Go.Shelf
set_option maxRecDepth 100000 in
set_option maxHeartbeats 1000000 in
theorem isList_any (w : World) (A : Option Addr) (n c : Nat) (l : List Int) (below : Int) (hl : InS w w.heap.size A n l) (hn : n ≤ 100) :
    Calls Try.prog 60 #[.slice A n c, .int .i64 below] w fun e w' => e = .returned (.bool (listB l below)) ∧ Below w.heap.size w w' := by
  have hlen := hid hl.len
  go_enter Try.func60, Try.ntmps60
  go_wp2
  go_loopw [5] (fun i wr => ∃ k : Nat, k ≤ n ∧ i = .int .i64 k ∧ Hid ((List.range k).all (listK l below) = true) ∧ Below w.heap.size w wr) (fun i _ => n - (intOf i).toNat)
  case atStart => exact ⟨0, by omega, rfl, hid rfl, Below.refl _ _⟩
  case round =>
    obtain ⟨k, hk, rfl, hall, hbel⟩ := hrel
    have hsz := hbel.size
    by_cases hlt : k < n
    · obtain ⟨b, off, x, rfl, hb, hm, c0⟩ := (hl.below hbel (Nat.le_refl _)).at_ hlt
      have Hx := hid (wAt_of hm)
      clear hm
      have l1 : b < wr.heap.size := by omega
      have hbad : (¬ (0 ≤ x) ∨ ¬ (x < below)) → Hid (listB l below = false) := fun h => hid (listB_f (k := k) (by rw [hlen.out]; exact hlt) (by
        unfold listK; rw [Hx.out]; rcases h with h | h <;> simp [h]))
      have Hbad := hid hbad
      clear hbad
      by_cases h1 : 0 ≤ x
      · have h1' : decide (x < 0) = false := by simp [h1]
        by_cases h2 : x < below
        · have h2' : decide (below ≤ x) = false := by simp [h2]
          rcases k with _ | j
          · have hall' := hid (listK_next (k := 0) hall.out (by unfold listK; rw [Hx.out]; simp [h1, h2]))
            simp only [Nat.add_zero] at c0
            (go_wp2_with (fail); refine wp_region_hd_all (fun W' => Below wr.heap.size wr W') (by kernel_rfl) (by kernel_rfl) ((Below.refl _ _).drew) ?_)
            iterate 17 (refine wpHd_val (v := ?_) (by rfl) (fun W hW => ?_) ?_; rotate_left; (· obtain ⟨hcW, hfW⟩ := bcell hW; go_simp; with_reducible rfl); simp only [Act.put, List.setIfInBounds_toArray, List.set_cons_zero, List.set_cons_succ])
            iterate 10 (refine wpHd_not (by rfl) ?_; simp only [Act.put, List.setIfInBounds_toArray, List.set_cons_zero, List.set_cons_succ])
            iterate 2 (refine wpHd_val (v := ?_) (by rfl) (fun W hW => ?_) ?_; rotate_left; (· obtain ⟨hcW, hfW⟩ := bcell hW; go_simp; with_reducible rfl); simp only [Act.put, List.setIfInBounds_toArray, List.set_cons_zero, List.set_cons_succ])
            (refine wpHd_nil ?_; intro W2 hW2; have hbel2 := hbel.trans (hW2.mono hsz); go_wp2; exact ⟨⟨_, hlt, by go_num, hall', hbel2⟩, by simp [intOf]; omega⟩)
          · have hj9 : decide ((0 : Int) < (j : Int) + 1) = true := decide_eq_true (by omega)
            obtain ⟨b3, off3, y, e3, hb3, hm3, g0⟩ := (hl.below hbel (Nat.le_refl _)).at_ (k := j) (by omega)
            cases e3
            have Hy : Hid (wAt l j = y) := hid (wAt_of hm3)
            have hK : Hid (listK l below (j + 1) = decide (y < x)) := hid (by unfold listK; rw [Hx.out, Nat.add_sub_cancel, Hy.out]; simp [h1, h2])
            have hj0 : (0 : Int) ≤ (j : Int) + 1 := by omega
            have hj1 : (j : Int) + 1 < n := by omega
            have hj2 : ((j : Int) + 1).toNat = j + 1 := by omega
            have hj3 : (j : Int) < n := by omega
            have l6 : IntKind.i64.wrap (j : Int) = (j : Int) := IntWalk.i64_in _ (by omega)
            clear hm3
            by_cases h3 : y < x
            · have h3' : decide (x ≤ y) = false := by simp [h3]
              have hall' := hid (listK_next hall.out (by rw [hK.out]; simp [h3]))
              (go_wp2_with (fail); refine wp_region_hd_all (fun W' => Below wr.heap.size wr W') (by kernel_rfl) (by kernel_rfl) ((Below.refl _ _).drew) ?_)
              iterate 29 (refine wpHd_val (v := ?_) (by rfl) (fun W hW => ?_) ?_; rotate_left; (· obtain ⟨hcW, hfW⟩ := bcell hW; go_simp; with_reducible rfl); simp only [Act.put, List.setIfInBounds_toArray, List.set_cons_zero, List.set_cons_succ])
              (refine wpHd_nil ?_; intro W2 hW2; have hbel2 := hbel.trans (hW2.mono hsz); go_wp2; exact ⟨⟨_, hlt, by go_num, hall', hbel2⟩, by simp [intOf]; omega⟩)
            · have h3' : decide (x ≤ y) = true := by simp; omega
              have hfin : Hid (listB l below = false) := hid (listB_f (k := j + 1) (by rw [hlen.out]; exact hlt) (by rw [hK.out]; simp [h3]))
              (go_wp2_with (fail); refine wp_region_hd_all (fun W' => Below wr.heap.size wr W') (by kernel_rfl) (by kernel_rfl) ((Below.refl _ _).drew) ?_)
              iterate 29 (refine wpHd_val (v := ?_) (by rfl) (fun W hW => ?_) ?_; rotate_left; (· obtain ⟨hcW, hfW⟩ := bcell hW; go_simp; with_reducible rfl); simp only [Act.put, List.setIfInBounds_toArray, List.set_cons_zero, List.set_cons_succ])
              (refine wpHd_nil ?_; intro W2 hW2; have hbel2 := hbel.trans (hW2.mono hsz); go_wp2; go_ret; exact ⟨by rw [hfin.out]; rfl, hbel2⟩)
        · have h2' : decide (below ≤ x) = true := by simp; omega
          have hfin := Hbad.out (.inr h2)
          (go_wp2_with (fail); refine wp_region_hd_all (fun W' => Below wr.heap.size wr W') (by kernel_rfl) (by kernel_rfl) ((Below.refl _ _).drew) ?_)
          iterate 14 (refine wpHd_val (v := ?_) (by rfl) (fun W hW => ?_) ?_; rotate_left; (· obtain ⟨hcW, hfW⟩ := bcell hW; go_simp; with_reducible rfl); simp only [Act.put, List.setIfInBounds_toArray, List.set_cons_zero, List.set_cons_succ])
          iterate 14 (refine wpHd_not (by rfl) ?_; simp only [Act.put, List.setIfInBounds_toArray, List.set_cons_zero, List.set_cons_succ])
          (refine wpHd_val (v := ?_) (by rfl) (fun W hW => ?_) ?_; rotate_left; (· obtain ⟨hcW, hfW⟩ := bcell hW; go_simp; with_reducible rfl); simp only [Act.put, List.setIfInBounds_toArray, List.set_cons_zero, List.set_cons_succ])
          (refine wpHd_nil ?_; intro W2 hW2; have hbel2 := hbel.trans (hW2.mono hsz); go_wp2; go_ret; exact ⟨by rw [hfin.out]; rfl, hbel2⟩)
      · have h1' : decide (x < 0) = true := by simp; omega
        have hfin := Hbad.out (.inl h1)
        (go_wp2_with (fail); refine wp_region_hd_all (fun W' => Below wr.heap.size wr W') (by kernel_rfl) (by kernel_rfl) ((Below.refl _ _).drew) ?_)
        iterate 6 (refine wpHd_val (v := ?_) (by rfl) (fun W hW => ?_) ?_; rotate_left; (· obtain ⟨hcW, hfW⟩ := bcell hW; go_simp; with_reducible rfl); simp only [Act.put, List.setIfInBounds_toArray, List.set_cons_zero, List.set_cons_succ])
        iterate 6 (refine wpHd_not (by rfl) ?_; simp only [Act.put, List.setIfInBounds_toArray, List.set_cons_zero, List.set_cons_succ])
        iterate 2 (refine wpHd_val (v := ?_) (by rfl) (fun W hW => ?_) ?_; rotate_left; (· obtain ⟨hcW, hfW⟩ := bcell hW; go_simp; with_reducible rfl); simp only [Act.put, List.setIfInBounds_toArray, List.set_cons_zero, List.set_cons_succ])
        iterate 14 (refine wpHd_not (by rfl) ?_; simp only [Act.put, List.setIfInBounds_toArray, List.set_cons_zero, List.set_cons_succ])
        (refine wpHd_val (v := ?_) (by rfl) (fun W hW => ?_) ?_; rotate_left; (· obtain ⟨hcW, hfW⟩ := bcell hW; go_simp; with_reducible rfl); simp only [Act.put, List.setIfInBounds_toArray, List.set_cons_zero, List.set_cons_succ])
        (refine wpHd_nil ?_; intro W2 hW2; have hbel2 := hbel.trans (hW2.mono hsz); go_wp2; go_ret; exact ⟨by rw [hfin.out]; rfl, hbel2⟩)
    · obtain rfl : k = n := by omega
      have hfin : Hid (listB l below = true) := hid (by unfold listB; rw [hlen.out]; exact hall.out)
      go_wp2
      go_ret
      exact ⟨by rw [hfin.out]; rfl, hbel⟩
end Go.Proofs.Ytdcglphekafpdaa
