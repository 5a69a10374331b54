/- The statement DrossParted holds: whatever the arguments, the law returns true and leaves its arguments as they were. -/
import Derived.Test.YtdcglphekafpdaaMk
import Derived.Test.YtdcglphekafpdaaMl
import Derived.Test.YtdcglphekafpdaaMq
namespace Go.Proofs.Ytdcglphekafpdaa
open Go.RowKit Go.Shelf
theorem rgs_cut {w : World} {B b off n : Nat} {row : List Rg} (h : RgS w B (some ⟨b, off, none⟩) n row) {x y : Nat} (hxy : x ≤ y) (hy : y ≤ n) (hn : 0 < n) : RgS w B (some ⟨b, off + x * 2, none⟩) (y - x) ((row.drop x).take (y - x)) := by
  have hl := h.len
  refine ⟨by rw [flat_len (s := 2) (fun _ => rfl)]; simp; omega, fun _ => ⟨b, off + x * 2, rfl, ?_, fun j u hj => ?_⟩⟩
  · obtain ⟨b', off', e, hb, _⟩ := h.2 hn
    cases e; exact hb
  · obtain ⟨b', off', e, hb, hc⟩ := h.2 hn
    cases e
    have h1 : (((row.drop x).take (y - x)).flatMap cR)[j]? = some u := hj
    rw [← flat_take (s := 2) (fun _ => rfl), ← flat_drop (s := 2) (fun _ => rfl)] at h1
    have hj2 : j < (y - x) * 2 := by
      have := (List.getElem?_eq_some_iff.1 h1).1
      rw [List.length_take] at this
      omega
    rw [List.getElem?_take_of_lt hj2, List.getElem?_drop] at h1
    have := hc _ _ h1
    rwa [← Nat.add_assoc] at this
set_option maxRecDepth 100000 in
set_option maxHeartbeats 4000000 in
theorem parted_main (w : World) (A A' : Option Addr) (n c n' c' : Nat) (row : List Mt) (sc : List Rg) (x : Int) (k : Nat) (hr : MtS w w.heap.size A n row) (hnc : n ≤ c) (hr' : RgS w w.heap.size A' n' sc) (hnc' : n' ≤ c') (h0 : checkScales row sc = 0) (hn2 : 2 ≤ n) (x0 : 0 ≤ x) (x1 : x ≤ 255) (hk : (k : Int) = 1 + x % ((n : Int) - 1)) :
    Calls Try.prog 16 #[.slice A n c, .slice A' n' c', .int .u8 x] w fun e w' => e = .returned (.bool true) ∧ Below w.heap.size w w' := by
  obtain ⟨k1, k2, k3⟩ := checkScales_ok h0
  obtain ⟨k4, k5, k6⟩ := checkRow_ok k1
  have hlen := hr.len
  have hlen' := hr'.len
  have hm0 : 0 ≤ x % ((n : Int) - 1) := Int.emod_nonneg _ (by omega)
  have hm1 : x % ((n : Int) - 1) < (n : Int) - 1 := Int.emod_lt_of_pos _ (by omega)
  have g1 : 1 ≤ k := by omega
  have g2 : k < n := by omega
  obtain ⟨c1, c2⟩ := cut_scales h0 g1 (by omega : k < row.length)
  obtain ⟨b, off, rfl, hb, _⟩ := hr.2 (by omega)
  obtain ⟨b', off', rfl, hb', _⟩ := hr'.2 (by omega)
  have s1 := mts_sub hr (Nat.zero_le k) (Nat.le_of_lt g2) (by omega)
  have s2 := mts_sub hr (Nat.le_of_lt g2) (Nat.le_refl n) (by omega)
  have s3 := rgs_cut hr' (Nat.zero_le (k + 1)) (by omega) (by omega)
  have s4 := rgs_cut hr' (by omega : k ≤ n') (Nat.le_refl n') (by omega)
  rw [show sub row 0 k = row.take k by simp [sub]] at s1
  rw [show sub row k n = row.drop k by unfold sub; rw [List.take_of_length_le (by simp; omega)]] at s2
  rw [show (sc.drop 0).take (k + 1 - 0) = sc.take (k + 1) by simp] at s3
  rw [show (sc.drop k).take (n' - k) = sc.drop k by rw [List.take_of_length_le (by simp; omega)]] at s4
  simp only [Nat.zero_mul, Nat.add_zero, Nat.sub_zero] at s1 s3
  have R1 := hid (fun V (h : Below w.heap.size w V) => s1.below h h.size)
  have R2 := hid (fun V (h : Below w.heap.size w V) => s2.below h h.size)
  have S1 := hid (fun V (h : Below w.heap.size w V) => s3.below h h.size)
  have S2 := hid (fun V (h : Below w.heap.size w V) => s4.below h h.size)
  have HR := hid (fun V (h : Below w.heap.size w V) => hr.below h h.size)
  have HS := hid (fun V (h : Below w.heap.size w V) => hr'.below h h.size)
  have hn12 : n ≤ 7 := by omega
  have hn' : Hid (n' = n + 1) := hid (by omega)
  have q1 : k < n' := by omega
  have q2 : n' ≤ 8 := by omega
  have H0 := hid h0
  have C1 := hid c1
  have C2 := hid c2
  clear hr hr' s1 s2 s3 s4 k1 k2 k3 k4 k5 k6 hlen hlen' h0 c1 c2
  go_enter Try.func16, Try.ntmps16
  go_wp2_with (fail)
  refine (read_any _ _ _ n c n' c' row sc (HR.out _ ?_) (HS.out _ ?_)).mono ?_
  · exact (by repeat' (first | with_reducible assumption | with_reducible exact Below.refl _ _ | refine Below.alloc ?_ ?_ _ | refine Below.setCell ?_ ?_ _ | refine Below.drew ?_ | refine below_drewN ?_ _ | (simp; done) | (simp; omega) | omega))
  · exact (by repeat' (first | with_reducible assumption | with_reducible exact Below.refl _ _ | refine Below.alloc ?_ ?_ _ | refine Below.setCell ?_ ?_ _ | refine Below.drew ?_ | refine below_drewN ?_ _ | (simp; done) | (simp; omega) | omega))
  rw [decide_eq_true H0.out]
  rintro e W1 ⟨rfl, hb1⟩
  have hbel : Below w.heap.size w W1 := Below.trans (by repeat' (first | with_reducible assumption | with_reducible exact Below.refl _ _ | refine Below.alloc ?_ ?_ _ | refine Below.setCell ?_ ?_ _ | refine Below.drew ?_ | refine below_drewN ?_ _ | (simp; done) | (simp; omega) | omega)) (hb1.mono (by first | (simp; done) | (simp; omega) | omega))
  have hsz := hbel.size
  clear hb1
  have e1 : ¬ ((n : Int) < 2) := by omega
  go_wp2_with (fail)
  rw [← hk]
  refine (possible_any _ _ _ n c n' c' row sc (HR.out _ ?_) (HS.out _ ?_) H0.out).mono ?_
  · exact (by repeat' (first | with_reducible assumption | with_reducible exact Below.refl _ _ | refine Below.alloc ?_ ?_ _ | refine Below.setCell ?_ ?_ _ | refine Below.drew ?_ | refine below_drewN ?_ _ | (simp; done) | (simp; omega) | omega))
  · exact (by repeat' (first | with_reducible assumption | with_reducible exact Below.refl _ _ | refine Below.alloc ?_ ?_ _ | refine Below.setCell ?_ ?_ _ | refine Below.drew ?_ | refine below_drewN ?_ _ | (simp; done) | (simp; omega) | omega))
  rintro e W2 ⟨rfl, hb2⟩
  replace hbel : Below w.heap.size w W2 := hbel.trans (hb2.mono hsz)
  replace hsz := hbel.size
  clear hb2 e1 hm0 hm1 x0 x1 hk
  clear W1
  obtain ⟨po, hpo⟩ : ∃ po, po = possB row sc := ⟨_, rfl⟩
  rw [← hpo]
  have hPO := hid hpo
  clear hpo
  have z1 : (0 : Int) ≤ k := by omega
  have z2 : (k : Int) ≤ c := by omega
  have z3 : (0 : Int) ≤ (k : Int) + 1 := by omega
  have z4 : (k : Int) + 1 ≤ c' := by omega
  have z5 : ¬ c = k := by omega
  have z6 : ¬ c' = k := by omega
  have z7 : (k : Int) ≤ n := by omega
  have z8 : (k : Int) ≤ n' := by omega
  have zw : IntKind.i64.wrap ((k : Int) + 1) = ((k + 1 : Nat) : Int) := IntWalk.i64_in _ (by omega)
  have zt : (((k + 1 : Nat) : Int)).toNat = k + 1 := rfl
  have z4' : ((k + 1 : Nat) : Int) ≤ c' := by omega
  have z3' : (0 : Int) ≤ ((k + 1 : Nat) : Int) := by omega
  go_wp2_with (fail)
  refine wp_region_el [0, 1, 2, 3, 4, 5, 6] 6 (by kernel_rfl) (by kernel_rfl) (fun X hX => ?_)
  have hWX : Below W2.heap.size W2 X := by rw [hX]; exact (Below.refl _ _).drew
  replace hbel := hbel.trans (hWX.mono hsz)
  replace hsz := hbel.size
  clear hX hWX
  clear W2
  simp only [pick, List.getElem?_toArray, List.getElem?_cons_zero, List.getElem?_cons_succ]
  iterate 7 (refine wpE_val (v := ?_) (by rfl) (fun W hW => ?_) ?_; rotate_left; (· obtain ⟨hcW, hfW⟩ := bcell hW; go_simp; with_reducible rfl); simp only [Act.put, List.setIfInBounds_toArray, List.set_cons_zero, List.set_cons_succ])
  simp only [wpE]
  (refine wpM_one 7 _ (by simp only [List.getElem?_toArray, List.getElem?_cons_zero, List.getElem?_cons_succ]; rfl) (by kernel_rfl) (by rfl) ?_)
  intro X1 hX1 hX1'
  (go_simp; simp only [LUpon, Act.put]; try simp only [List.setIfInBounds_toArray, List.set_cons_zero, List.set_cons_succ])
  refine (dBetween_any _ _ _ k c (k + 1) c' (row.take k) (sc.take (k + 1)) (R1.out _ (hbel.trans (hX1'.mono hsz))) (by omega) (S1.out _ (hbel.trans (hX1'.mono hsz))) (by omega)).mono ?_
  rintro e X2 ⟨A1, m1, d1, rfl, hrg1, hb3⟩
  have hXX : Below X.heap.size X X2 := hX1'.trans' hb3
  refine ⟨_, rfl, hXX, ?_⟩
  replace hbel := hbel.trans (hXX.mono hsz)
  replace hsz := hbel.size
  clear hX1 hX1' hb3
  refine wpM_here hXX (fun Y hY => ?_)
  subst hY
  clear hXX
  try simp only [Act.put, List.setIfInBounds_toArray, List.set_cons_zero, List.set_cons_succ]
  refine (wpM_early (by kernel_rfl) [8, 9, 10, 11, 12] 0 _ _ (by kernel_rfl) ?_ : wpM Try.prog .any _ _ _ 5 _ _ _)
  simp only [pick, List.getElem?_toArray, List.getElem?_cons_zero, List.getElem?_cons_succ]
  iterate 5 (refine wpE_val (v := ?_) (by rfl) (fun W hW => ?_) ?_; rotate_left; (· obtain ⟨hcW, hfW⟩ := bcell hW; go_simp; with_reducible rfl); simp only [Act.put, List.setIfInBounds_toArray, List.set_cons_zero, List.set_cons_succ])
  simp only [wpE]
  refine wpM_end (by kernel_rfl) ?_
  intro X3 hX3 hX3'
  replace hrg1 := hrg1.below hX3 hX3.size
  replace hbel := hbel.trans (hX3.mono hsz)
  replace hsz := hbel.size
  clear hX3 hX3'
  try clear X1
  have G1 := hid hrg1
  clear hrg1
  go_wp2_with (fail)
  refine wp_region_el [0, 1, 2, 3, 4, 5] 6 (by kernel_rfl) (by kernel_rfl) (fun X hX => ?_)
  have hWX : Below X3.heap.size X3 X := by rw [hX]; exact (Below.refl _ _).drew
  replace hbel := hbel.trans (hWX.mono hsz)
  replace hsz := hbel.size
  replace G1 := hid (G1.out.below hWX hWX.size)
  clear hX hWX
  clear X3
  simp only [pick, List.getElem?_toArray, List.getElem?_cons_zero, List.getElem?_cons_succ]
  iterate 6 (refine wpE_val (v := ?_) (by rfl) (fun W hW => ?_) ?_; rotate_left; (· obtain ⟨hcW, hfW⟩ := bcell hW; go_simp; with_reducible rfl); simp only [Act.put, List.setIfInBounds_toArray, List.set_cons_zero, List.set_cons_succ])
  simp only [wpE]
  (refine wpM_one 6 _ (by simp only [List.getElem?_toArray, List.getElem?_cons_zero, List.getElem?_cons_succ]; rfl) (by kernel_rfl) (by rfl) ?_)
  intro X1 hX1 hX1'
  (go_simp; simp only [LUpon, Act.put]; try simp only [List.setIfInBounds_toArray, List.set_cons_zero, List.set_cons_succ])
  refine (dBetween_any _ _ _ (n - k) (c - k) (n' - k) (c' - k) (row.drop k) (sc.drop k) (R2.out _ (hbel.trans (hX1'.mono hsz))) (by omega) (S2.out _ (hbel.trans (hX1'.mono hsz))) (by omega)).mono ?_
  rintro e X2 ⟨A2, m2, d2, rfl, hrg2, hb3⟩
  have hXX : Below X.heap.size X X2 := hX1'.trans' hb3
  refine ⟨_, rfl, hXX, ?_⟩
  replace hbel := hbel.trans (hXX.mono hsz)
  replace hsz := hbel.size
  replace G1 := hid (G1.out.below hXX hXX.size)
  clear hX1 hX1' hb3
  refine wpM_here hXX (fun Y hY => ?_)
  subst hY
  clear hXX
  try simp only [Act.put, List.setIfInBounds_toArray, List.set_cons_zero, List.set_cons_succ]
  refine (wpM_early (by kernel_rfl) [7, 8, 9, 10, 11] 0 _ _ (by kernel_rfl) ?_ : wpM Try.prog .any _ _ _ 5 _ _ _)
  simp only [pick, List.getElem?_toArray, List.getElem?_cons_zero, List.getElem?_cons_succ]
  iterate 5 (refine wpE_val (v := ?_) (by rfl) (fun W hW => ?_) ?_; rotate_left; (· obtain ⟨hcW, hfW⟩ := bcell hW; go_simp; with_reducible rfl); simp only [Act.put, List.setIfInBounds_toArray, List.set_cons_zero, List.set_cons_succ])
  simp only [wpE]
  refine wpM_end (by kernel_rfl) ?_
  intro X3 hX3 hX3'
  replace hrg2 := hrg2.below hX3 hX3.size
  replace hbel := hbel.trans (hX3.mono hsz)
  replace hsz := hbel.size
  replace G1 := hid (G1.out.below hX3 hX3.size)
  clear hX3 hX3'
  try clear X1
  have G2 := hid hrg2
  clear hrg2
  rw [truthErr_zero C1.out, truthErr_zero C2.out]
  have HK := hid g1
  have HK2 : Hid (k < row.length) := hid (by have := (HR.out w (Below.refl _ _)).len; omega)
  cases hp1 : possB (row.take k) (sc.take (k + 1))
  · have hpo : po = false := hPO.out.trans (parted_none H0.out HK.out HK2.out (.inl hp1))
    subst hpo
    have hp1' := hid hp1
    clear hp1
    cases hp2 : possB (row.drop k) (sc.drop k)
    all_goals clear hp2
    all_goals simp only [if_true, if_false, Bool.false_eq_true]
    all_goals go_wp2_with (first | (go_at_call 19; refine (works_any _).mono ?_; rintro e W7 ⟨rfl, hb7⟩; have hbel : Below w.heap.size w W7 := Below.trans (by repeat' (first | with_reducible assumption | with_reducible exact Below.refl _ _ | refine Below.alloc ?_ ?_ _ | refine Below.setCell ?_ ?_ _ | refine Below.drew ?_ | refine below_drewN ?_ _ | (simp; done) | (simp; omega) | omega)) (hb7.mono (by first | (simp; done) | (simp; omega) | omega))))
    all_goals go_ret
    all_goals exact ⟨rfl, hbel⟩
  cases hp2 : possB (row.drop k) (sc.drop k)
  · have hpo : po = false := hPO.out.trans (parted_none H0.out HK.out HK2.out (.inr hp2))
    subst hpo
    clear hp1 hp2
    simp only [if_true, if_false, Bool.false_eq_true]
    go_wp2_with (first | (go_at_call 19; refine (works_any _).mono ?_; rintro e W7 ⟨rfl, hb7⟩; have hbel : Below w.heap.size w W7 := Below.trans (by repeat' (first | with_reducible assumption | with_reducible exact Below.refl _ _ | refine Below.alloc ?_ ?_ _ | refine Below.setCell ?_ ?_ _ | refine Below.drew ?_ | refine below_drewN ?_ _ | (simp; done) | (simp; omega) | omega)) (hb7.mono (by first | (simp; done) | (simp; omega) | omega))))
    go_ret
    exact ⟨rfl, hbel⟩
  have hL := parted_law H0.out HK.out HK2.out hp1 hp2
  rw [← hPO.out] at hL
  have w1 := G1.out
  have w2 := G2.out
  unfold btwL at w1 w2
  rw [truthErr_zero C1.out, hp1, if_pos (by rfl)] at w1
  rw [truthErr_zero C2.out, hp2, if_pos (by rfl)] at w2
  have v1 := w1.len
  have v2 := w2.len
  rw [btwAll_len] at v1 v2
  have v1' : m1 = k + 1 := by rw [← v1]; simp; have := HK2.out; omega
  have v2' : m2 = n - k + 1 := by rw [← v2]; simp; have := (HR.out w (Below.refl _ _)).len; omega
  subst v1'
  clear v1 v2
  obtain ⟨j, hj⟩ : ∃ j : Nat, j = n - k := ⟨_, rfl⟩
  rw [← hj] at v2'
  subst v2'
  have hj' : (j : Int) = n - k := by omega
  clear hj
  obtain ⟨p1, o1, r1, rfl, hp1b, hr1, c10, c11⟩ := w1.at_ (k := k) (by omega)
  obtain ⟨p2, o2, r2, rfl, hp2b, hr2, c20, c21⟩ := w2.at_ (k := 0) (by omega)
  rw [sAt_of hr1, sAt_of hr2] at hL
  clear hr1 hr2 w1 w2 hp1 hp2 G1 G2
  simp only [if_true]
  have lp1 : p1 < X3.heap.size := hp1b
  simp only [Nat.zero_mul, Nat.add_zero] at c20 c21
  have lp2 : p2 < X3.heap.size := hp2b
  go_wp2_with (fail)
  have y1 : (k : Int) < (k : Int) + 1 := by omega
  have y2 : (0 : Int) < (n : Int) - k + 1 := by omega
  have y3 : (0 : Int) < (j : Int) + 1 := by omega
  obtain ⟨mx, hmx⟩ : ∃ mx, mx = max r1.lo r2.lo := ⟨_, rfl⟩
  obtain ⟨mn, hmn⟩ : ∃ mn, mn = min r1.hi r2.hi := ⟨_, rfl⟩
  rw [← hmx, ← hmn] at hL
  refine wp_region_hd_all (fun W' => Below X3.heap.size X3 W') (by kernel_rfl) (by kernel_rfl) ((Below.refl _ _).drew) ?_
  iterate 10 (refine wpHd_val (v := ?_) (by rfl) (fun W hW => ?_) ?_; rotate_left; (· obtain ⟨hcW, hfW⟩ := bcell hW; go_simp; with_reducible rfl); simp only [Act.put, List.setIfInBounds_toArray, List.set_cons_zero, List.set_cons_succ])
  refine wpHd_val (v := .int .i64 mx) (by rfl) (fun W hW => ?_) ?_
  · obtain ⟨hcW, hfW⟩ := bcell hW
    go_simp
    try simp only [Value.int.injEq, true_and]
    split <;> omega
  simp only [Act.put, List.setIfInBounds_toArray, List.set_cons_zero, List.set_cons_succ]
  iterate 9 (refine wpHd_val (v := ?_) (by rfl) (fun W hW => ?_) ?_; rotate_left; (· obtain ⟨hcW, hfW⟩ := bcell hW; go_simp; with_reducible rfl); simp only [Act.put, List.setIfInBounds_toArray, List.set_cons_zero, List.set_cons_succ])
  refine wpHd_val (v := .int .i64 mn) (by rfl) (fun W hW => ?_) ?_
  · obtain ⟨hcW, hfW⟩ := bcell hW
    go_simp
    try simp only [Value.int.injEq, true_and]
    split <;> omega
  simp only [Act.put, List.setIfInBounds_toArray, List.set_cons_zero, List.set_cons_succ]
  clear c10 c11 c20 c21
  have HF : Hid ((po = false → min r1.hi r2.hi < max r1.lo r2.lo) ∧ (po = true → max r1.lo r2.lo ≤ min r1.hi r2.hi)) := hid ⟨fun h => by rw [h] at hL; exact Int.not_le.1 (by rw [← hmx, ← hmn]; exact of_decide_eq_false hL.symm), fun h => by rw [h] at hL; rw [← hmx, ← hmn]; exact of_decide_eq_true hL.symm⟩
  cases hd : decide (mx ≤ mn)
  · rw [hd] at hL
    subst hL
    have hne := of_decide_eq_false hd
    have hf : Hid (¬ max r1.lo r2.lo ≤ min r1.hi r2.hi) := hid (by rw [← hmx, ← hmn]; exact hne)
    refine wpHd_val (v := .bool false) (by rfl) (fun W hW => ?_) ?_
    · obtain ⟨hcW, hfW⟩ := bcell hW
      clear hd
      go_simp
      all_goals first | done | exact Int.not_le.1 hf.out | exact hf.out | exact HF.out.1 rfl | exact HF.out.2 rfl
    simp only [Act.put, List.setIfInBounds_toArray, List.set_cons_zero, List.set_cons_succ]
    clear hd hne hmx hmn HF
    refine wpHd_val (v := .bool true) (by rfl) (fun W hW => ?_) ?_
    · obtain ⟨hcW, hfW⟩ := bcell hW
      go_simp
      all_goals first | done | exact Int.not_le.1 hf.out | exact hf.out | rfl
    simp only [Act.put, List.setIfInBounds_toArray, List.set_cons_zero, List.set_cons_succ]
    (refine wpHd_val (v := ?_) (by rfl) (fun W hW => ?_) ?_; rotate_left; (· obtain ⟨hcW, hfW⟩ := bcell hW; go_simp; with_reducible rfl); simp only [Act.put, List.setIfInBounds_toArray, List.set_cons_zero, List.set_cons_succ])
    (refine wpHd_callB (by rfl) (fun W hW => works_any _) (fun W hW => ?_) ?_; (· obtain ⟨hcW, hfW⟩ := bcell hW; go_simp); simp only [Act.put, List.setIfInBounds_toArray, List.set_cons_zero, List.set_cons_succ])
    iterate 2 (refine wpHd_val (v := ?_) (by rfl) (fun W hW => ?_) ?_; rotate_left; (· obtain ⟨hcW, hfW⟩ := bcell hW; go_simp; with_reducible rfl); simp only [Act.put, List.setIfInBounds_toArray, List.set_cons_zero, List.set_cons_succ])
    refine wpHd_nil ?_
    intro W4 hW4
    go_wp2
    go_ret
    exact ⟨rfl, hbel.trans (hW4.mono hsz)⟩
  · rw [hd] at hL
    subst hL
    have hne := of_decide_eq_true hd
    have hf : Hid (max r1.lo r2.lo ≤ min r1.hi r2.hi) := hid (by rw [← hmx, ← hmn]; exact hne)
    refine wpHd_val (v := .bool true) (by rfl) (fun W hW => ?_) ?_
    · obtain ⟨hcW, hfW⟩ := bcell hW
      clear hd
      go_simp
      all_goals first | done | exact Int.not_le.1 hf.out | exact hf.out | exact HF.out.1 rfl | exact HF.out.2 rfl
    simp only [Act.put, List.setIfInBounds_toArray, List.set_cons_zero, List.set_cons_succ]
    clear hd hne hmx hmn HF
    refine wpHd_val (v := .bool true) (by rfl) (fun W hW => ?_) ?_
    · obtain ⟨hcW, hfW⟩ := bcell hW
      go_simp
      all_goals first | done | exact Int.not_le.1 hf.out | exact hf.out | rfl
    simp only [Act.put, List.setIfInBounds_toArray, List.set_cons_zero, List.set_cons_succ]
    (refine wpHd_val (v := ?_) (by rfl) (fun W hW => ?_) ?_; rotate_left; (· obtain ⟨hcW, hfW⟩ := bcell hW; go_simp; with_reducible rfl); simp only [Act.put, List.setIfInBounds_toArray, List.set_cons_zero, List.set_cons_succ])
    (refine wpHd_callB (by rfl) (fun W hW => works_any _) (fun W hW => ?_) ?_; (· obtain ⟨hcW, hfW⟩ := bcell hW; go_simp); simp only [Act.put, List.setIfInBounds_toArray, List.set_cons_zero, List.set_cons_succ])
    iterate 2 (refine wpHd_val (v := ?_) (by rfl) (fun W hW => ?_) ?_; rotate_left; (· obtain ⟨hcW, hfW⟩ := bcell hW; go_simp; with_reducible rfl); simp only [Act.put, List.setIfInBounds_toArray, List.set_cons_zero, List.set_cons_succ])
    refine wpHd_nil ?_
    intro W4 hW4
    go_wp2
    go_ret
    exact ⟨rfl, hbel.trans (hW4.mono hsz)⟩
set_option maxRecDepth 100000 in
set_option maxHeartbeats 4000000 in
theorem parted_walk (w : World) (A A' : Option Addr) (n c n' c' : Nat) (row : List Mt) (sc : List Rg) (x : Int) (hr : MtS w w.heap.size A n row) (hnc : n ≤ c) (hr' : RgS w w.heap.size A' n' sc) (hnc' : n' ≤ c') (x0 : 0 ≤ x) (x1 : x ≤ 255) :
    Calls Try.prog 16 #[.slice A n c, .slice A' n' c', .int .u8 x] w fun e w' => e = .returned (.bool true) ∧ Below w.heap.size w w' := by
  by_cases h0 : checkScales row sc = 0
  · obtain ⟨k4, k5, k6⟩ := checkRow_ok (checkScales_ok h0).1
    have hlen := hr.len
    by_cases hn2 : 2 ≤ n
    · have hm0 : 0 ≤ x % ((n : Int) - 1) := Int.emod_nonneg _ (by omega)
      exact parted_main w A A' n c n' c' row sc x (1 + x % ((n : Int) - 1)).toNat hr hnc hr' hnc' h0 hn2 x0 x1 (by omega)
    · have hn1 : n = 1 := by omega
      subst hn1
      have HR := hid (fun V (h : Below w.heap.size w V) => hr.below h h.size)
      have HS := hid (fun V (h : Below w.heap.size w V) => hr'.below h h.size)
      have hd : Hid (decide (checkScales row sc = 0) = true) := hid (decide_eq_true h0)
      clear hr hr' k4 k5 k6 hlen h0 hn2
      go_enter Try.func16, Try.ntmps16
      go_wp2_with (first | (go_at_call 48; refine (read_any _ _ _ 1 c n' c' row sc (HR.out _ ?_) (HS.out _ ?_)).mono ?_; (· exact (by repeat' (first | with_reducible assumption | with_reducible exact Below.refl _ _ | refine Below.alloc ?_ ?_ _ | refine Below.setCell ?_ ?_ _ | refine Below.drew ?_ | refine below_drewN ?_ _ | (simp; done) | (simp; omega) | omega))); (· exact (by repeat' (first | with_reducible assumption | with_reducible exact Below.refl _ _ | refine Below.alloc ?_ ?_ _ | refine Below.setCell ?_ ?_ _ | refine Below.drew ?_ | refine below_drewN ?_ _ | (simp; done) | (simp; omega) | omega))); rw [hd.out]; rintro e W1 ⟨rfl, hb⟩; have hbel : Below w.heap.size w W1 := Below.trans (by repeat' (first | with_reducible assumption | with_reducible exact Below.refl _ _ | refine Below.alloc ?_ ?_ _ | refine Below.setCell ?_ ?_ _ | refine Below.drew ?_ | refine below_drewN ?_ _ | (simp; done) | (simp; omega) | omega)) (hb.mono (by first | (simp; done) | (simp; omega) | omega))) | (go_at_call 19; refine (works_any _).mono ?_; rintro e W2 ⟨rfl, hb2⟩))
      go_ret
      exact ⟨rfl, Below.trans (by repeat' (first | with_reducible assumption | with_reducible exact Below.refl _ _ | refine Below.alloc ?_ ?_ _ | refine Below.setCell ?_ ?_ _ | refine Below.drew ?_ | refine below_drewN ?_ _ | (simp; done) | (simp; omega) | omega)) (hb2.mono hbel.size)⟩
  · have HR := hid (fun V (h : Below w.heap.size w V) => hr.below h h.size)
    have HS := hid (fun V (h : Below w.heap.size w V) => hr'.below h h.size)
    have hd : Hid (decide (checkScales row sc = 0) = false) := hid (decide_eq_false h0)
    clear hr hr' h0
    go_enter Try.func16, Try.ntmps16
    go_wp2_with (first | (go_at_call 48; refine (read_any _ _ _ n c n' c' row sc (HR.out _ ?_) (HS.out _ ?_)).mono ?_; (· exact (by repeat' (first | with_reducible assumption | with_reducible exact Below.refl _ _ | refine Below.alloc ?_ ?_ _ | refine Below.setCell ?_ ?_ _ | refine Below.drew ?_ | refine below_drewN ?_ _ | (simp; done) | (simp; omega) | omega))); (· exact (by repeat' (first | with_reducible assumption | with_reducible exact Below.refl _ _ | refine Below.alloc ?_ ?_ _ | refine Below.setCell ?_ ?_ _ | refine Below.drew ?_ | refine below_drewN ?_ _ | (simp; done) | (simp; omega) | omega))); rw [hd.out]; rintro e W1 ⟨rfl, hb⟩; have hbel : Below w.heap.size w W1 := Below.trans (by repeat' (first | with_reducible assumption | with_reducible exact Below.refl _ _ | refine Below.alloc ?_ ?_ _ | refine Below.setCell ?_ ?_ _ | refine Below.drew ?_ | refine below_drewN ?_ _ | (simp; done) | (simp; omega) | omega)) (hb.mono (by first | (simp; done) | (simp; omega) | omega))) | (go_at_call 19; refine (works_any _).mono ?_; rintro e W2 ⟨rfl, hb2⟩))
    go_ret
    exact ⟨rfl, Below.trans (by repeat' (first | with_reducible assumption | with_reducible exact Below.refl _ _ | refine Below.alloc ?_ ?_ _ | refine Below.setCell ?_ ?_ _ | refine Below.drew ?_ | refine below_drewN ?_ _ | (simp; done) | (simp; omega) | omega)) (hb2.mono hbel.size)⟩
theorem ownK : ownKnob Try.prog.godebug = none := by kernel_rfl
theorem u8_bd {x : Int} (h : (Lit.int .u8 x).wf = true) : 0 ≤ x ∧ x ≤ 255 := by
  simp [Lit.wf, IntKind.min, IntKind.max, IntKind.signed, IntKind.bits] at h
  omega

section
open Go.ChangeShapes Go.WideShapes Go.ChangeAt Go.RowKit
set_option maxRecDepth 100000 in
theorem drossParted_lifted (os : Os) (started : os.Started) (H : Type) (enc : TypeId × Value → H) :
    ReturnsInHanded {} Try.checked os 16 .any (Rows.drossPartedSpec.pre6 enc Try.prog Try.f16 Rows.drossPartedRow.domain false) (Rows.drossPartedSpec.post enc Try.prog Try.f16 false true false false) := by
  refine returnsInHanded_of_change (C := Try.checked) ownK started (by kernel_rfl) Try.func16
    (ChangeSpec.witness6 (enc := enc) (C := Try.checked) false ⟨#[], #[.slice none 0 0, .slice none 0 0, .int .u8 0], []⟩ 8 (by kernel_rfl) (by kernel_rfl) (by kernel_rfl) (by kernel_rfl)) ?_
  intro W base args ds gs before hval0 hW hcnd _
  have hval : ∀ (j : Nat) t v, Try.f16.params[j]? = some t → args[j]? = some v → Value.okWide Try.prog W .any base t v := hval0
  have hW' := hW
  obtain ⟨p, q, hA0, hV, rfl, hfz, hnd⟩ := hW
  have hA : DataW.TrodAll enc Try.prog W 0 (fun _ => true) true Try.f16.params.toList args.toList ds p := hA0
  have hlt : ∀ x ∈ p, x.block < W.heap.size := fun x hx => hW'.lt x (List.mem_append_left _ hx)
  have hAll : ∀ W', Below W.heap.size W W' → DataW.TrodAll enc Try.prog W' 0 (fun b => decide (b < W.heap.size)) true Try.f16.params.toList args.toList ds p := fun W' hb => all_below laidOut hb (readable_of (by kernel_rfl)) hlt hA
  rw [Try.params16] at hA hval
  obtain ⟨v0, v1, v2, d0, d1, d2, p0, p1, p2, rfl, rfl, rfl, h0, h1, h2⟩ := trodAll_three hA
  obtain ⟨rfl, rfl⟩ := trodVars_none hV
  clear hA0 hval0
  obtain ⟨A0, n0, c0, rfl⟩ := okWide_slice Try.underlying22 (hval 0 22 v0 rfl rfl)
  obtain ⟨hc0, l0, hl0, hr0⟩ := open_mts h0
  obtain ⟨A1, n1, c1, rfl⟩ := okWide_slice Try.underlying34 (hval 1 34 v1 rfl rfl)
  obtain ⟨hc1, l1, hl1, hr1⟩ := open_rgs h1
  obtain ⟨x2, rfl, rfl, rfl, wx2⟩ := open_int Try.underlying5 (hval 2 5 v2 rfl rfl) h2
  refine (parted_walk W A0 A1 n0 c0 n1 c1 l0 l1 x2 hr0 hc0 hr1 hc1 (u8_bd wx2).1 (u8_bd wx2).2).mono fun e W' ⟨he, hb⟩ => ?_
  subst he
  exact ⟨_, rfl, ⟨_, _, _, [], _, [], hW', trodAll_cons_mk (shut_bool Try.underlying4 _) trodAll_mk0, hAll W' hb, rfl, hb.frame _, fun h => by cases h⟩⟩
/-- The law: whatever the input, it returns true, and the input reads as it did. -/
theorem drossParted_holds : Rows.DrossPartedSaid :=
  OpenClaim.holds_of_wide 16 Try.f16 rfl rfl rfl rfl rfl rfl rfl ⟨rfl, rfl, rfl, rfl, rfl⟩ rfl rfl rfl rfl rfl (by kernel_rfl) Try.func16 (by kernel_rfl)
    (of_decide_eq_true (by kernel_rfl)) (by unfold Func.isWrapper; first | (rw [if_pos (by decide +kernel)]; kernel_rfl) | (rw [if_neg (by decide +kernel)]; exact ⟨rfl, rfl⟩))
    (fun os started H enc _ => drossParted_lifted os started H enc)
end
end Go.Proofs.Ytdcglphekafpdaa
