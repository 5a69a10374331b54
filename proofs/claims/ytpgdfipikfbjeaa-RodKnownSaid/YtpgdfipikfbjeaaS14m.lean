/- The statement RodKnown holds: whatever the arguments, the law returns true and leaves its arguments as they were. -/
import Derived.Test.YtpgdfipikfbjeaaMr
set_option linter.unusedSimpArgs false
set_option linter.unusedVariables false
/- Walks: RodKnown. Printed by genk8.py. -/
namespace Go.Proofs.Ytpgdfipikfbjeaa
open Go.RowKit
attribute [local go_sem] Oper.semAt_some
theorem kK1 : resE 4 1 qL [3] = 0 ∧ resV 4 1 qL [3] = [0, 0, 1] := by decide +kernel
theorem kK2 : resE 4 1 qL [] = 0 ∧ resV 4 1 qL [] = [0, 0, 0] := by decide +kernel
theorem kK3 : toldE 4 1 pL [1, 0] = 0 ∧ toldV 4 1 pL [1, 0] = [[1]] := by decide +kernel
theorem kK4 : errR 4 1 qL [0, 0, 1] = 0 ∧ susV 4 1 qL [0, 0, 1] = [3] := by decide +kernel
theorem kK5 : needV 4 1 pL [0, 0] = 1 ∧ leftE 4 1 pL [0, 0] = 0 := by decide +kernel
theorem kK6 : checkPlan 4 1 qL = 0 := by decide +kernel
theorem kE1 : eqI [0, 0, 1] [0, 0, 1] = true := by decide +kernel
theorem kE2 : eqI [0, 0, 0] [0, 0, 0] = true := by decide +kernel
theorem kE3 : eqL [[1]] [[1]] = true := by decide +kernel
theorem kE4 : eqI [3] [3] = true := by decide +kernel
set_option maxRecDepth 1000000 in
set_option maxHeartbeats 40000000 in
theorem rodKnown_walk (w : World) : Calls Try.prog 14 #[] w fun e w' => e = .returned (.bool true) ∧ Below w.heap.size w w' := by
  go_enter Try.func14, Try.ntmps14
  go_wp2_with (fail)
  refine (four_any _).mono ?_
  rintro e W1 ⟨rfl, hbel⟩
  have hsz := hbel.size
  obtain ⟨W0, hWb⟩ : ∃ W0, W1.alloc (.cells #[.int .i64 4, .int .i64 1] 23) = W0 := ⟨_, rfl⟩
  have bB : Blk W0 W1.heap.size 23 #[.int .i64 4, .int .i64 1] := by rw [← hWb]; exact Blk.new' rfl
  replace hbel : Below w.heap.size w W0 := by rw [← hWb]; exact hbel.alloc hsz _
  replace hsz := hbel.size
  have lB := bB.lt
  have p0 := bB.cell 0
  have p1 := bB.cell 1
  obtain ⟨T1, hT1⟩ : ∃ T1, W1.heap.size = T1 := ⟨_, rfl⟩
  rw [hT1] at bB lB p0 p1
  go_wp2_with (fail)
  refine Sx.wp_region_free (fun W => Below W0.heap.size W0 W) (hSb W0) (SpA [.val (.agg #[.int .i64 4, .int .i64 1]), .li qL, .is [3], .is [3], .tis [0, 0, 1] (.int .i64 0), .tis [0, 0, 1] (.int .i64 0), .is [0, 0, 1], .val (.int .i64 0), .is [0, 0, 1], .val (.int .i64 0)]) (SpA.keep _) (fun k => ([[], [], [], [2], [0, 1, 3], [4], [5], [5], [6], [7]] : List (List Nat)).getD k []) [0, 1, 2, 3, 4, 5, 6, 7, 8, 9] rfl ?X1 ?hX1 (by kernel_rfl) (by kernel_rfl) ((Below.refl _ _).drew) ?hC1 ?hQ1
  case hX1 =>
    intro e
    simp only [Sx.putF, Sx.dstAt, List.getElem?_toArray, List.getElem?_cons_succ, List.getElem?_cons_zero, Option.bind_some, Act.put, List.setIfInBounds_toArray, List.set_cons_zero, List.set_cons_succ]
    exact rfl
  case hC1 =>
    intro k o ho e W hx hs hd
    match k, ho, hd with
    | 0, ho, hd =>
      have ho := Option.some.inj ho
      subst ho
      have f0 := (bB.below hs lB).cell 0
      have f1 := (bB.below hs lB).cell 1
      have f2 := (bB.below hs lB).lt
      go_simp
      simp only [Sx.LV]
      exact ⟨Below.refl _ _, rfl⟩
    | 1, ho, hd =>
      have ho := Option.some.inj ho
      subst ho
      go_simp
      simp only [Sx.LV]
      refine (q_any _).mono ?_
      rintro e1 W1 ⟨A, n, c, rfl, hl, hb⟩
      exact ⟨_, rfl, hb, A, n, c, rfl, hl⟩
    | 2, ho, hd =>
      have ho := Option.some.inj ho
      subst ho
      go_simp
      simp only [Sx.LV]
      exact ⟨(Below.refl _ _).alloc (Nat.le_refl _) _, _, _, _, rfl, ins_blk (l := [3]) (Blk.new _ _ _) (by simp)⟩
    | 3, ho, hd =>
      have ho := Option.some.inj ho
      subst ho
      obtain ⟨A2, n2, c2, e2, h2⟩ : Sp.ok (.is [3]) (e 2) W := hd 2 (by decide)
      go_simp
      simp only [Sx.LV]
      refine (of_any _ _ _ _).mono ?_
      rintro e1 w1 ⟨rfl, rfl⟩
      exact ⟨_, rfl, Below.refl _ _, _, _, _, rfl, h2⟩
    | 4, ho, hd =>
      have ho := Option.some.inj ho
      subst ho
      have e0 : e 0 = (.agg #[.int .i64 4, .int .i64 1]) := hd 0 (by decide)
      obtain ⟨A1, n1, c1, e1, h1⟩ : Sp.ok (.li qL) (e 1) W := hd 1 (by decide)
      obtain ⟨A3, n3, c3, e3, h3⟩ : Sp.ok (.is [3]) (e 3) W := hd 3 (by decide)
      go_simp
      simp only [Sx.LV]
      have hz3 := h3.len
      refine (resultsF_any A1 A3 n1 c1 n3 c3 qL [3] 4 1 _ (h1) (h3) (by have := h1.1; simp at this; omega) (by decide) (by rw [← hz3]; decide)).mono ?_
      rw [kK1.1, kK1.2]
      rintro e1 W1 ⟨Ar, nr, cr, rfl, hr, hb⟩
      exact ⟨_, rfl, hb, _, _, _, rfl, hr⟩
    | 5, ho, hd =>
      have ho := Option.some.inj ho
      subst ho
      obtain ⟨A4, n4, c4, e4, h4⟩ : Sp.ok (.tis [0, 0, 1] (.int .i64 0)) (e 4) W := hd 4 (by decide)
      go_simp
      simp only [Sx.LV]
      exact ⟨Below.refl _ _, _, _, _, rfl, h4⟩
    | 6, ho, hd =>
      have ho := Option.some.inj ho
      subst ho
      obtain ⟨A5, n5, c5, e5, h5⟩ : Sp.ok (.tis [0, 0, 1] (.int .i64 0)) (e 5) W := hd 5 (by decide)
      go_simp
      simp only [Sx.LV]
      exact ⟨Below.refl _ _, _, _, _, rfl, h5⟩
    | 7, ho, hd =>
      have ho := Option.some.inj ho
      subst ho
      obtain ⟨A5, n5, c5, e5, h5⟩ : Sp.ok (.tis [0, 0, 1] (.int .i64 0)) (e 5) W := hd 5 (by decide)
      go_simp
      simp only [Sx.LV]
      exact ⟨Below.refl _ _, rfl⟩
    | 8, ho, hd =>
      have ho := Option.some.inj ho
      subst ho
      obtain ⟨A6, n6, c6, e6, h6⟩ : Sp.ok (.is [0, 0, 1]) (e 6) W := hd 6 (by decide)
      go_simp
      simp only [Sx.LV]
      exact ⟨Below.refl _ _, _, _, _, rfl, h6⟩
    | 9, ho, hd =>
      have ho := Option.some.inj ho
      subst ho
      have e7 : e 7 = (.int .i64 0) := hd 7 (by decide)
      go_simp
      simp only [Sx.LV]
      exact ⟨Below.refl _ _, rfl⟩
    | k + 10, ho, _ => cases ho
  intro e V hv hst0 hp
  obtain ⟨Ar, nr, cr, e8, hr⟩ : Sp.ok (.is [0, 0, 1]) (e 8) V := hp 8 (by decide)
  have Hr := hid hr
  clear hr
  have e9 : e 9 = (.int .i64 0) := hp 9 (by decide)
  have hst : Below W0.heap.size W0 V := hst0
  replace hbel := hbel.trans (hst.mono hsz)
  replace hsz := hbel.size
  replace bB := bB.below hst bB.lt
  clear p0 p1 lB
  have p0 := bB.cell 0
  have p1 := bB.cell 1
  have lB := bB.lt
  try simp only [e8, e9]
  clear hp hst hst0 hv
  obtain ⟨W0, rfl⟩ : ∃ W0 : World, W0 = V := ⟨_, rfl⟩
  go_wp2_with (fail)
  refine Sx.wp_region_el (fun W => Below W0.heap.size W0 W) (hSb W0) [0] 7 (by kernel_rfl) (by kernel_rfl) ((Below.refl _ _).drew) ?_
  simp only [pick, List.getElem?_toArray, List.getElem?_cons_zero, List.getElem?_cons_succ]
  iterate 1 (refine Sx.wpE_val (v := ?_) (by rfl) (fun W hW => ?_) ?_; rotate_left; (· have f0 := (bB.below hW lB).cell 0; have f1 := (bB.below hW lB).cell 1; have f2 := (bB.below hW lB).lt; go_simp; with_reducible rfl); simp only [Act.put, List.setIfInBounds_toArray, List.set_cons_zero, List.set_cons_succ])
  simp only [Sx.wpE]
  (refine Sx.wpM_one 1 _ (by simp only [List.getElem?_toArray, List.getElem?_cons_zero, List.getElem?_cons_succ]; rfl) (by kernel_rfl) (by rfl) ?_)
  intro U1 hu1 hs1
  (go_simp; simp only [LUpon, Act.put]; try simp only [List.setIfInBounds_toArray, List.set_cons_zero, List.set_cons_succ])
  refine (q_any _).mono ?_
  rintro e V1 ⟨A1, n1, c1, rfl, hl1, hb⟩
  have ht1 : Below W0.heap.size W0 V1 := hs1.trans (hb.mono hs1.size)
  refine ⟨_, rfl, ht1, ?_⟩
  have HL := hid hl1
  clear hl1 hb
  try simp only [Act.put, List.setIfInBounds_toArray, List.set_cons_zero, List.set_cons_succ]
  (refine Sx.wpM_one 2 _ (by simp only [List.getElem?_toArray, List.getElem?_cons_zero, List.getElem?_cons_succ]; rfl) (by kernel_rfl) (by rfl) ?_)
  intro U2 hu2 hs2
  (go_simp; simp only [LUpon, Act.put]; try simp only [List.setIfInBounds_toArray, List.set_cons_zero, List.set_cons_succ])
  have HL2 := hid (HL.out.below hu2 hu2.size)
  clear HL
  refine (resultsF_any A1 none n1 c1 0 0 qL [] 4 1 _ (HL2.out) Sl.none_ (by have := HL2.out.1; simp at this; omega) (by decide) (by decide)).mono ?_
  rw [kK2.1, kK2.2]
  rintro e U2x ⟨As, ns, cs, rfl, hs, hb⟩
  have ht2 : Below W0.heap.size W0 U2x := hs2.trans (hb.mono hs2.size)
  refine ⟨_, rfl, ht2, ?_⟩
  clear hb HL2
  have HS := hid hs
  clear hs
  try simp only [Act.put, List.setIfInBounds_toArray, List.set_cons_zero, List.set_cons_succ]
  refine Sx.wpM_early (hSb W0) (by kernel_rfl) [3, 4, 5, 6, 7] 0 _ _ (by kernel_rfl) ?_
  simp only [pick, List.getElem?_toArray, List.getElem?_cons_zero, List.getElem?_cons_succ]
  iterate 5 (refine Sx.wpE_val (v := ?_) (by rfl) (fun W hW => ?_) ?_; rotate_left; (· skip; go_simp; with_reducible rfl); simp only [Act.put, List.setIfInBounds_toArray, List.set_cons_zero, List.set_cons_succ])
  simp only [Sx.wpE]
  refine Sx.wpM_end (by kernel_rfl) ?_
  intro Vz hvz hst0
  replace HS := hid (HS.out.below hvz hvz.size)
  have hst : Below W0.heap.size W0 Vz := hst0
  replace hbel := hbel.trans (hst.mono hsz)
  replace hsz := hbel.size
  replace bB := bB.below hst bB.lt
  clear p0 p1 lB
  have p0 := bB.cell 0
  have p1 := bB.cell 1
  have lB := bB.lt
  replace Hr := hid (Hr.out.below hst hst.size)
  obtain ⟨W0, rfl⟩ : ∃ W0 : World, W0 = Vz := ⟨_, rfl⟩
  go_wp2_with (fail)
  refine Sx.wp_region_free (fun W => Below W0.heap.size W0 W) (hSb W0) (SpA [.val (.agg #[.int .i64 4, .int .i64 1]), .li pL, .is [1, 0], .is [1, 0], .tlt [[1]] (.int .i64 0), .tlt [[1]] (.int .i64 0), .lt [[1]], .val (.int .i64 0), .lt [[1]], .val (.int .i64 0)]) (SpA.keep _) (fun k => ([[], [], [], [2], [0, 1, 3], [4], [5], [5], [6], [7]] : List (List Nat)).getD k []) [0, 1, 2, 3, 4, 5, 6, 7, 8, 9] rfl ?X3 ?hX3 (by kernel_rfl) (by kernel_rfl) ((Below.refl _ _).drew) ?hC3 ?hQ3
  case hX3 =>
    intro e
    simp only [Sx.putF, Sx.dstAt, List.getElem?_toArray, List.getElem?_cons_succ, List.getElem?_cons_zero, Option.bind_some, Act.put, List.setIfInBounds_toArray, List.set_cons_zero, List.set_cons_succ]
    exact rfl
  case hC3 =>
    intro k o ho e W hx hs hd
    match k, ho, hd with
    | 0, ho, hd =>
      have ho := Option.some.inj ho
      subst ho
      have f0 := (bB.below hs lB).cell 0
      have f1 := (bB.below hs lB).cell 1
      have f2 := (bB.below hs lB).lt
      go_simp
      simp only [Sx.LV]
      exact ⟨Below.refl _ _, rfl⟩
    | 1, ho, hd =>
      have ho := Option.some.inj ho
      subst ho
      go_simp
      simp only [Sx.LV]
      refine (p_any _).mono ?_
      rintro e1 W1 ⟨A, n, c, rfl, hl, hb⟩
      exact ⟨_, rfl, hb, A, n, c, rfl, hl⟩
    | 2, ho, hd =>
      have ho := Option.some.inj ho
      subst ho
      go_simp
      simp only [Sx.LV]
      exact ⟨(Below.refl _ _).alloc (Nat.le_refl _) _, _, _, _, rfl, ins_blk (l := [1, 0]) (Blk.new _ _ _) (by simp)⟩
    | 3, ho, hd =>
      have ho := Option.some.inj ho
      subst ho
      obtain ⟨A2, n2, c2, e2, h2⟩ : Sp.ok (.is [1, 0]) (e 2) W := hd 2 (by decide)
      go_simp
      simp only [Sx.LV]
      refine (of_any _ _ _ _).mono ?_
      rintro e1 w1 ⟨rfl, rfl⟩
      exact ⟨_, rfl, Below.refl _ _, _, _, _, rfl, h2⟩
    | 4, ho, hd =>
      have ho := Option.some.inj ho
      subst ho
      have e0 : e 0 = (.agg #[.int .i64 4, .int .i64 1]) := hd 0 (by decide)
      obtain ⟨A1, n1, c1, e1, h1⟩ : Sp.ok (.li pL) (e 1) W := hd 1 (by decide)
      obtain ⟨A3, n3, c3, e3, h3⟩ : Sp.ok (.is [1, 0]) (e 3) W := hd 3 (by decide)
      go_simp
      simp only [Sx.LV]
      have hz3 := h3.len
      refine (toldF_any A1 A3 n1 c1 n3 c3 pL [1, 0] 4 1 _ (h1) (h3) (by have := h1.1; simp at this; omega) (by decide)).mono ?_
      rw [kK3.1, kK3.2]
      rintro e1 W1 ⟨Ar, nr, cr, rfl, hr, hb⟩
      exact ⟨_, rfl, hb, _, _, _, rfl, hr⟩
    | 5, ho, hd =>
      have ho := Option.some.inj ho
      subst ho
      obtain ⟨A4, n4, c4, e4, h4⟩ : Sp.ok (.tlt [[1]] (.int .i64 0)) (e 4) W := hd 4 (by decide)
      go_simp
      simp only [Sx.LV]
      exact ⟨Below.refl _ _, _, _, _, rfl, h4⟩
    | 6, ho, hd =>
      have ho := Option.some.inj ho
      subst ho
      obtain ⟨A5, n5, c5, e5, h5⟩ : Sp.ok (.tlt [[1]] (.int .i64 0)) (e 5) W := hd 5 (by decide)
      go_simp
      simp only [Sx.LV]
      exact ⟨Below.refl _ _, _, _, _, rfl, h5⟩
    | 7, ho, hd =>
      have ho := Option.some.inj ho
      subst ho
      obtain ⟨A5, n5, c5, e5, h5⟩ : Sp.ok (.tlt [[1]] (.int .i64 0)) (e 5) W := hd 5 (by decide)
      go_simp
      simp only [Sx.LV]
      exact ⟨Below.refl _ _, rfl⟩
    | 8, ho, hd =>
      have ho := Option.some.inj ho
      subst ho
      obtain ⟨A6, n6, c6, e6, h6⟩ : Sp.ok (.lt [[1]]) (e 6) W := hd 6 (by decide)
      go_simp
      simp only [Sx.LV]
      exact ⟨Below.refl _ _, _, _, _, rfl, h6⟩
    | 9, ho, hd =>
      have ho := Option.some.inj ho
      subst ho
      have e7 : e 7 = (.int .i64 0) := hd 7 (by decide)
      go_simp
      simp only [Sx.LV]
      exact ⟨Below.refl _ _, rfl⟩
    | k + 10, ho, _ => cases ho
  intro e V hv hst0 hp
  obtain ⟨At, nt, ct, e8, ht⟩ : Sp.ok (.lt [[1]]) (e 8) V := hp 8 (by decide)
  have Ht := hid ht
  clear ht
  have e9 : e 9 = (.int .i64 0) := hp 9 (by decide)
  have hst : Below W0.heap.size W0 V := hst0
  replace hbel := hbel.trans (hst.mono hsz)
  replace hsz := hbel.size
  replace bB := bB.below hst bB.lt
  clear p0 p1 lB
  have p0 := bB.cell 0
  have p1 := bB.cell 1
  have lB := bB.lt
  replace Hr := hid (Hr.out.below hst hst.size)
  replace HS := hid (HS.out.below hst hst.size)
  try simp only [e8, e9]
  clear hp hst hst0 hv
  obtain ⟨W0, rfl⟩ : ∃ W0 : World, W0 = V := ⟨_, rfl⟩
  go_wp2_with (fail)
  refine Sx.wp_region_free (fun W => Below W0.heap.size W0 W) (hSb W0) (SpA [.val (.agg #[.int .i64 4, .int .i64 1]), .li qL, .is [0, 0, 1], .is [0, 0, 1], .tis [3] (.int .i64 0), .tis [3] (.int .i64 0), .is [3], .val (.int .i64 0), .is [3], .val (.int .i64 0)]) (SpA.keep _) (fun k => ([[], [], [], [2], [0, 1, 3], [4], [5], [5], [6], [7]] : List (List Nat)).getD k []) [0, 1, 2, 3, 4, 5, 6, 7, 8, 9] rfl ?X4 ?hX4 (by kernel_rfl) (by kernel_rfl) ((Below.refl _ _).drew) ?hC4 ?hQ4
  case hX4 =>
    intro e
    simp only [Sx.putF, Sx.dstAt, List.getElem?_toArray, List.getElem?_cons_succ, List.getElem?_cons_zero, Option.bind_some, Act.put, List.setIfInBounds_toArray, List.set_cons_zero, List.set_cons_succ]
    exact rfl
  case hC4 =>
    intro k o ho e W hx hs hd
    match k, ho, hd with
    | 0, ho, hd =>
      have ho := Option.some.inj ho
      subst ho
      have f0 := (bB.below hs lB).cell 0
      have f1 := (bB.below hs lB).cell 1
      have f2 := (bB.below hs lB).lt
      go_simp
      simp only [Sx.LV]
      exact ⟨Below.refl _ _, rfl⟩
    | 1, ho, hd =>
      have ho := Option.some.inj ho
      subst ho
      go_simp
      simp only [Sx.LV]
      refine (q_any _).mono ?_
      rintro e1 W1 ⟨A, n, c, rfl, hl, hb⟩
      exact ⟨_, rfl, hb, A, n, c, rfl, hl⟩
    | 2, ho, hd =>
      have ho := Option.some.inj ho
      subst ho
      go_simp
      simp only [Sx.LV]
      exact ⟨(Below.refl _ _).alloc (Nat.le_refl _) _, _, _, _, rfl, ins_blk (l := [0, 0, 1]) (Blk.new _ _ _) (by simp)⟩
    | 3, ho, hd =>
      have ho := Option.some.inj ho
      subst ho
      obtain ⟨A2, n2, c2, e2, h2⟩ : Sp.ok (.is [0, 0, 1]) (e 2) W := hd 2 (by decide)
      go_simp
      simp only [Sx.LV]
      refine (of_any _ _ _ _).mono ?_
      rintro e1 w1 ⟨rfl, rfl⟩
      exact ⟨_, rfl, Below.refl _ _, _, _, _, rfl, h2⟩
    | 4, ho, hd =>
      have ho := Option.some.inj ho
      subst ho
      have e0 : e 0 = (.agg #[.int .i64 4, .int .i64 1]) := hd 0 (by decide)
      obtain ⟨A1, n1, c1, e1, h1⟩ : Sp.ok (.li qL) (e 1) W := hd 1 (by decide)
      obtain ⟨A3, n3, c3, e3, h3⟩ : Sp.ok (.is [0, 0, 1]) (e 3) W := hd 3 (by decide)
      go_simp
      simp only [Sx.LV]
      have hz3 := h3.len
      refine (suspects_any A1 A3 n1 c1 n3 c3 qL [0, 0, 1] 4 1 _ (h1) (h3) (by have := h1.1; simp at this; omega) (by decide)).mono ?_
      rw [kK4.1, kK4.2]
      rintro e1 W1 ⟨Ar, nr, cr, rfl, hr, hb⟩
      exact ⟨_, rfl, hb, _, _, _, rfl, hr⟩
    | 5, ho, hd =>
      have ho := Option.some.inj ho
      subst ho
      obtain ⟨A4, n4, c4, e4, h4⟩ : Sp.ok (.tis [3] (.int .i64 0)) (e 4) W := hd 4 (by decide)
      go_simp
      simp only [Sx.LV]
      exact ⟨Below.refl _ _, _, _, _, rfl, h4⟩
    | 6, ho, hd =>
      have ho := Option.some.inj ho
      subst ho
      obtain ⟨A5, n5, c5, e5, h5⟩ : Sp.ok (.tis [3] (.int .i64 0)) (e 5) W := hd 5 (by decide)
      go_simp
      simp only [Sx.LV]
      exact ⟨Below.refl _ _, _, _, _, rfl, h5⟩
    | 7, ho, hd =>
      have ho := Option.some.inj ho
      subst ho
      obtain ⟨A5, n5, c5, e5, h5⟩ : Sp.ok (.tis [3] (.int .i64 0)) (e 5) W := hd 5 (by decide)
      go_simp
      simp only [Sx.LV]
      exact ⟨Below.refl _ _, rfl⟩
    | 8, ho, hd =>
      have ho := Option.some.inj ho
      subst ho
      obtain ⟨A6, n6, c6, e6, h6⟩ : Sp.ok (.is [3]) (e 6) W := hd 6 (by decide)
      go_simp
      simp only [Sx.LV]
      exact ⟨Below.refl _ _, _, _, _, rfl, h6⟩
    | 9, ho, hd =>
      have ho := Option.some.inj ho
      subst ho
      have e7 : e 7 = (.int .i64 0) := hd 7 (by decide)
      go_simp
      simp only [Sx.LV]
      exact ⟨Below.refl _ _, rfl⟩
    | k + 10, ho, _ => cases ho
  intro e V hv hst0 hp
  obtain ⟨Au, nu, cu, e8, hu⟩ : Sp.ok (.is [3]) (e 8) V := hp 8 (by decide)
  have Hu := hid hu
  clear hu
  have e9 : e 9 = (.int .i64 0) := hp 9 (by decide)
  have hst : Below W0.heap.size W0 V := hst0
  replace hbel := hbel.trans (hst.mono hsz)
  replace hsz := hbel.size
  replace bB := bB.below hst bB.lt
  clear p0 p1 lB
  have p0 := bB.cell 0
  have p1 := bB.cell 1
  have lB := bB.lt
  replace Hr := hid (Hr.out.below hst hst.size)
  replace HS := hid (HS.out.below hst hst.size)
  replace Ht := hid (Ht.out.below hst hst.size)
  try simp only [e8, e9]
  clear hp hst hst0 hv
  obtain ⟨W0, rfl⟩ : ∃ W0 : World, W0 = V := ⟨_, rfl⟩
  go_wp2_with (fail)
  refine Sx.wp_region_free (fun W => Below W0.heap.size W0 W) (hSb W0) (SpA [.val (.agg #[.int .i64 4, .int .i64 1]), .li pL, .is [0, 0], .is [0, 0], .val (.tuple #[.int .i64 1, .int .i64 0]), .val (.tuple #[.int .i64 1, .int .i64 0]), .val (.int .i64 1), .val (.int .i64 0), .val (.int .i64 1), .val (.int .i64 0)]) (SpA.keep _) (fun k => ([[], [], [], [2], [0, 1, 3], [4], [5], [5], [6], [7]] : List (List Nat)).getD k []) [0, 1, 2, 3, 4, 5, 6, 7, 8, 9] rfl ?X5 ?hX5 (by kernel_rfl) (by kernel_rfl) ((Below.refl _ _).drew) ?hC5 ?hQ5
  case hX5 =>
    intro e
    simp only [Sx.putF, Sx.dstAt, List.getElem?_toArray, List.getElem?_cons_succ, List.getElem?_cons_zero, Option.bind_some, Act.put, List.setIfInBounds_toArray, List.set_cons_zero, List.set_cons_succ]
    exact rfl
  case hC5 =>
    intro k o ho e W hx hs hd
    match k, ho, hd with
    | 0, ho, hd =>
      have ho := Option.some.inj ho
      subst ho
      have f0 := (bB.below hs lB).cell 0
      have f1 := (bB.below hs lB).cell 1
      have f2 := (bB.below hs lB).lt
      go_simp
      simp only [Sx.LV]
      exact ⟨Below.refl _ _, rfl⟩
    | 1, ho, hd =>
      have ho := Option.some.inj ho
      subst ho
      go_simp
      simp only [Sx.LV]
      refine (p_any _).mono ?_
      rintro e1 W1 ⟨A, n, c, rfl, hl, hb⟩
      exact ⟨_, rfl, hb, A, n, c, rfl, hl⟩
    | 2, ho, hd =>
      have ho := Option.some.inj ho
      subst ho
      go_simp
      simp only [Sx.LV]
      exact ⟨(Below.refl _ _).alloc (Nat.le_refl _) _, _, _, _, rfl, ins_blk (l := [0, 0]) (Blk.new _ _ _) (by simp)⟩
    | 3, ho, hd =>
      have ho := Option.some.inj ho
      subst ho
      obtain ⟨A2, n2, c2, e2, h2⟩ : Sp.ok (.is [0, 0]) (e 2) W := hd 2 (by decide)
      go_simp
      simp only [Sx.LV]
      refine (of_any _ _ _ _).mono ?_
      rintro e1 w1 ⟨rfl, rfl⟩
      exact ⟨_, rfl, Below.refl _ _, _, _, _, rfl, h2⟩
    | 4, ho, hd =>
      have ho := Option.some.inj ho
      subst ho
      have e0 : e 0 = (.agg #[.int .i64 4, .int .i64 1]) := hd 0 (by decide)
      obtain ⟨A1, n1, c1, e1, h1⟩ : Sp.ok (.li pL) (e 1) W := hd 1 (by decide)
      obtain ⟨A3, n3, c3, e3, h3⟩ : Sp.ok (.is [0, 0]) (e 3) W := hd 3 (by decide)
      go_simp
      simp only [Sx.LV]
      have hz3 := h3.len
      refine (neededF_any A1 A3 n1 c1 n3 c3 pL [0, 0] 4 1 _ (h1) (h3) (by have := h1.1; simp at this; omega) (by decide)).mono ?_
      rw [kK5.1, kK5.2]
      rintro e1 W1 ⟨rfl, hb⟩
      exact ⟨_, rfl, hb, rfl⟩
    | 5, ho, hd =>
      have ho := Option.some.inj ho
      subst ho
      have e4 : e 4 = (.tuple #[.int .i64 1, .int .i64 0]) := hd 4 (by decide)
      go_simp
      simp only [Sx.LV]
      exact ⟨Below.refl _ _, rfl⟩
    | 6, ho, hd =>
      have ho := Option.some.inj ho
      subst ho
      have e5 : e 5 = (.tuple #[.int .i64 1, .int .i64 0]) := hd 5 (by decide)
      go_simp
      simp only [Sx.LV]
      exact ⟨Below.refl _ _, rfl⟩
    | 7, ho, hd =>
      have ho := Option.some.inj ho
      subst ho
      have e5 : e 5 = (.tuple #[.int .i64 1, .int .i64 0]) := hd 5 (by decide)
      go_simp
      simp only [Sx.LV]
      exact ⟨Below.refl _ _, rfl⟩
    | 8, ho, hd =>
      have ho := Option.some.inj ho
      subst ho
      have e6 : e 6 = (.int .i64 1) := hd 6 (by decide)
      go_simp
      simp only [Sx.LV]
      exact ⟨Below.refl _ _, rfl⟩
    | 9, ho, hd =>
      have ho := Option.some.inj ho
      subst ho
      have e7 : e 7 = (.int .i64 0) := hd 7 (by decide)
      go_simp
      simp only [Sx.LV]
      exact ⟨Below.refl _ _, rfl⟩
    | k + 10, ho, _ => cases ho
  intro e V hv hst0 hp
  have e8 : e 8 = (.int .i64 1) := hp 8 (by decide)
  have e9 : e 9 = (.int .i64 0) := hp 9 (by decide)
  have hst : Below W0.heap.size W0 V := hst0
  replace hbel := hbel.trans (hst.mono hsz)
  replace hsz := hbel.size
  replace bB := bB.below hst bB.lt
  clear p0 p1 lB
  have p0 := bB.cell 0
  have p1 := bB.cell 1
  have lB := bB.lt
  replace Hr := hid (Hr.out.below hst hst.size)
  replace HS := hid (HS.out.below hst hst.size)
  replace Ht := hid (Ht.out.below hst hst.size)
  replace Hu := hid (Hu.out.below hst hst.size)
  try simp only [e8, e9]
  clear hp hst hst0 hv
  obtain ⟨W0, rfl⟩ : ∃ W0 : World, W0 = V := ⟨_, rfl⟩
  try clear hWb
  go_wp2_with (fail)
  refine Sx.wp_region_el (fun W => Below W0.heap.size W0 W) (hSb W0) [0, 1, 2, 3] 59 (by kernel_rfl) (by kernel_rfl) ((Below.refl _ _).drew) ?_
  simp only [pick, List.getElem?_toArray, List.getElem?_cons_zero, List.getElem?_cons_succ]
  (refine Sx.wpE_val (v := ?_) (by rfl) (fun W hW => ?_) ?_; rotate_left; (· have f0 := (bB.below hW lB).cell 0; have f1 := (bB.below hW lB).cell 1; have f2 := (bB.below hW lB).lt; go_simp; with_reducible rfl); simp only [Act.put, List.setIfInBounds_toArray, List.set_cons_zero, List.set_cons_succ])
  (refine Sx.wpE_val (v := ?_) (by rfl) (fun W hW => ?_) ?_; rotate_left; (· have f0 := (bB.below hW lB).cell 0; have f1 := (bB.below hW lB).cell 1; have f2 := (bB.below hW lB).lt; go_simp; with_reducible rfl); simp only [Act.put, List.setIfInBounds_toArray, List.set_cons_zero, List.set_cons_succ])
  (refine Sx.wpE_val (v := ?_) (by rfl) (fun W hW => ?_) ?_; rotate_left; (· have f0 := (bB.below hW lB).cell 0; have f1 := (bB.below hW lB).cell 1; have f2 := (bB.below hW lB).lt; go_simp; with_reducible rfl); simp only [Act.put, List.setIfInBounds_toArray, List.set_cons_zero, List.set_cons_succ])
  (refine Sx.wpE_val (v := ?_) (by rfl) (fun W hW => ?_) ?_; rotate_left; (· have f0 := (bB.below hW lB).cell 0; have f1 := (bB.below hW lB).cell 1; have f2 := (bB.below hW lB).lt; go_simp; with_reducible rfl); simp only [Act.put, List.setIfInBounds_toArray, List.set_cons_zero, List.set_cons_succ])
  simp only [Sx.wpE]
  (refine Sx.wpM_one 4 _ (by simp only [List.getElem?_toArray, List.getElem?_cons_zero, List.getElem?_cons_succ]; rfl) (by kernel_rfl) (by rfl) ?_)
  intro U1 huU1 hsU1
  (go_simp; simp only [LUpon, Act.put]; try simp only [List.setIfInBounds_toArray, List.set_cons_zero, List.set_cons_succ])
  refine ⟨hsU1.alloc hsU1.size _, ?_⟩
  have halU1 : Below U1.heap.size U1 (U1.alloc _) := (Below.refl _ _).alloc (Nat.le_refl _) (.cells #[.int .i64 0, .int .i64 0, .int .i64 1] 3)
  have htU1 := hsU1.trans (halU1.mono hsU1.size)
  have HI1 : Hid (InS (U1.alloc (.cells #[.int .i64 0, .int .i64 0, .int .i64 1] 3)) (U1.alloc (.cells #[.int .i64 0, .int .i64 0, .int .i64 1] 3)).heap.size (some ⟨U1.heap.size, 0, none⟩) 3 [0, 0, 1]) := hid (ins_blk (l := [0, 0, 1]) (Blk.new _ _ _) (by simp))
  try simp only [Act.put, List.setIfInBounds_toArray, List.set_cons_zero, List.set_cons_succ]
  (refine Sx.wpM_one 5 _ (by simp only [List.getElem?_toArray, List.getElem?_cons_zero, List.getElem?_cons_succ]; rfl) (by kernel_rfl) (by rfl) ?_)
  intro U2 huU2 hsU2
  replace HI1 := hid (HI1.out.below huU2 huU2.size)
  (go_simp; simp only [LUpon, Act.put]; try simp only [List.setIfInBounds_toArray, List.set_cons_zero, List.set_cons_succ])
  refine (of_any _ _ _ _).mono ?_
  rintro e U2q ⟨rfl, rfl⟩
  refine ⟨_, rfl, hsU2, ?_⟩
  try simp only [Act.put, List.setIfInBounds_toArray, List.set_cons_zero, List.set_cons_succ]
  (refine Sx.wpM_one 6 _ (by simp only [List.getElem?_toArray, List.getElem?_cons_zero, List.getElem?_cons_succ]; rfl) (by kernel_rfl) (by rfl) ?_)
  intro U3 huU3 hsU3
  replace HI1 := hid (HI1.out.below huU3 huU3.size)
  (go_simp; simp only [LUpon, Act.put]; try simp only [List.setIfInBounds_toArray, List.set_cons_zero, List.set_cons_succ])
  refine (ints_any U3 Ar _ nr cr 3 3 [0, 0, 1] [0, 0, 1] (Hr.out.below hsU3 hsU3.size) HI1.out (by have := Hr.out.len; simp at this; omega)).mono ?_
  rw [kE1]
  rintro e U3q ⟨rfl, hb⟩
  have htU3 : Below W0.heap.size W0 U3q := hsU3.trans (hb.mono hsU3.size)
  refine ⟨_, rfl, htU3, ?_⟩
  replace HI1 := hid (HI1.out.below hb hb.size)
  clear hb
  try simp only [Act.put, List.setIfInBounds_toArray, List.set_cons_zero, List.set_cons_succ]
  refine Sx.wpM_early (hSb W0) (by kernel_rfl) [7, 8, 9, 10, 11, 12, 13] 49 _ _ (by kernel_rfl) ?_
  simp only [pick, List.getElem?_toArray, List.getElem?_cons_zero, List.getElem?_cons_succ]
  (refine Sx.wpE_val (v := ?_) (by rfl) (fun W hW => ?_) ?_; rotate_left; (· have f0 := (bB.below hW lB).cell 0; have f1 := (bB.below hW lB).cell 1; have f2 := (bB.below hW lB).lt; go_simp; with_reducible rfl); simp only [Act.put, List.setIfInBounds_toArray, List.set_cons_zero, List.set_cons_succ])
  (refine Sx.wpE_val (v := ?_) (by rfl) (fun W hW => ?_) ?_; rotate_left; (· have f0 := (bB.below hW lB).cell 0; have f1 := (bB.below hW lB).cell 1; have f2 := (bB.below hW lB).lt; go_simp; with_reducible rfl); simp only [Act.put, List.setIfInBounds_toArray, List.set_cons_zero, List.set_cons_succ])
  (refine Sx.wpE_val (v := ?_) (by rfl) (fun W hW => ?_) ?_; rotate_left; (· have f0 := (bB.below hW lB).cell 0; have f1 := (bB.below hW lB).cell 1; have f2 := (bB.below hW lB).lt; go_simp; with_reducible rfl); simp only [Act.put, List.setIfInBounds_toArray, List.set_cons_zero, List.set_cons_succ])
  (refine Sx.wpE_val (v := ?_) (by rfl) (fun W hW => ?_) ?_; rotate_left; (· have f0 := (bB.below hW lB).cell 0; have f1 := (bB.below hW lB).cell 1; have f2 := (bB.below hW lB).lt; go_simp; with_reducible rfl); simp only [Act.put, List.setIfInBounds_toArray, List.set_cons_zero, List.set_cons_succ])
  (refine Sx.wpE_val (v := ?_) (by rfl) (fun W hW => ?_) ?_; rotate_left; (· have f0 := (bB.below hW lB).cell 0; have f1 := (bB.below hW lB).cell 1; have f2 := (bB.below hW lB).lt; go_simp; with_reducible rfl); simp only [Act.put, List.setIfInBounds_toArray, List.set_cons_zero, List.set_cons_succ])
  (refine Sx.wpE_val (v := ?_) (by rfl) (fun W hW => ?_) ?_; rotate_left; (· have f0 := (bB.below hW lB).cell 0; have f1 := (bB.below hW lB).cell 1; have f2 := (bB.below hW lB).lt; go_simp; with_reducible rfl); simp only [Act.put, List.setIfInBounds_toArray, List.set_cons_zero, List.set_cons_succ])
  (refine Sx.wpE_val (v := ?_) (by rfl) (fun W hW => ?_) ?_; rotate_left; (· have f0 := (bB.below hW lB).cell 0; have f1 := (bB.below hW lB).cell 1; have f2 := (bB.below hW lB).lt; go_simp; with_reducible rfl); simp only [Act.put, List.setIfInBounds_toArray, List.set_cons_zero, List.set_cons_succ])
  simp only [Sx.wpE]
  (refine Sx.wpM_one 14 _ (by simp only [List.getElem?_toArray, List.getElem?_cons_zero, List.getElem?_cons_succ]; rfl) (by kernel_rfl) (by rfl) ?_)
  intro U4 huU4 hsU4
  replace HI1 := hid (HI1.out.below huU4 huU4.size)
  (go_simp; simp only [LUpon, Act.put]; try simp only [List.setIfInBounds_toArray, List.set_cons_zero, List.set_cons_succ])
  refine ⟨hsU4.alloc hsU4.size _, ?_⟩
  have halU4 : Below U4.heap.size U4 (U4.alloc _) := (Below.refl _ _).alloc (Nat.le_refl _) (.cells #[.int .i64 0, .int .i64 0, .int .i64 0] 3)
  have htU4 := hsU4.trans (halU4.mono hsU4.size)
  replace HI1 := hid (HI1.out.below halU4 halU4.size)
  have HI2 : Hid (InS (U4.alloc (.cells #[.int .i64 0, .int .i64 0, .int .i64 0] 3)) (U4.alloc (.cells #[.int .i64 0, .int .i64 0, .int .i64 0] 3)).heap.size (some ⟨U4.heap.size, 0, none⟩) 3 [0, 0, 0]) := hid (ins_blk (l := [0, 0, 0]) (Blk.new _ _ _) (by simp))
  try simp only [Act.put, List.setIfInBounds_toArray, List.set_cons_zero, List.set_cons_succ]
  (refine Sx.wpM_one 15 _ (by simp only [List.getElem?_toArray, List.getElem?_cons_zero, List.getElem?_cons_succ]; rfl) (by kernel_rfl) (by rfl) ?_)
  intro U5 huU5 hsU5
  replace HI1 := hid (HI1.out.below huU5 huU5.size)
  replace HI2 := hid (HI2.out.below huU5 huU5.size)
  (go_simp; simp only [LUpon, Act.put]; try simp only [List.setIfInBounds_toArray, List.set_cons_zero, List.set_cons_succ])
  refine (of_any _ _ _ _).mono ?_
  rintro e U5q ⟨rfl, rfl⟩
  refine ⟨_, rfl, hsU5, ?_⟩
  try simp only [Act.put, List.setIfInBounds_toArray, List.set_cons_zero, List.set_cons_succ]
  (refine Sx.wpM_one 16 _ (by simp only [List.getElem?_toArray, List.getElem?_cons_zero, List.getElem?_cons_succ]; rfl) (by kernel_rfl) (by rfl) ?_)
  intro U6 huU6 hsU6
  replace HI1 := hid (HI1.out.below huU6 huU6.size)
  replace HI2 := hid (HI2.out.below huU6 huU6.size)
  (go_simp; simp only [LUpon, Act.put]; try simp only [List.setIfInBounds_toArray, List.set_cons_zero, List.set_cons_succ])
  refine (ints_any U6 As _ ns cs 3 3 [0, 0, 0] [0, 0, 0] (HS.out.below hsU6 hsU6.size) HI2.out (by have := HS.out.len; simp at this; omega)).mono ?_
  rw [kE2]
  rintro e U6q ⟨rfl, hb⟩
  have htU6 : Below W0.heap.size W0 U6q := hsU6.trans (hb.mono hsU6.size)
  refine ⟨_, rfl, htU6, ?_⟩
  replace HI1 := hid (HI1.out.below hb hb.size)
  replace HI2 := hid (HI2.out.below hb hb.size)
  clear hb
  try simp only [Act.put, List.setIfInBounds_toArray, List.set_cons_zero, List.set_cons_succ]
  refine Sx.wpM_early (hSb W0) (by kernel_rfl) [17, 18, 19, 20, 21, 22, 23] 39 _ _ (by kernel_rfl) ?_
  simp only [pick, List.getElem?_toArray, List.getElem?_cons_zero, List.getElem?_cons_succ]
  (refine Sx.wpE_val (v := ?_) (by rfl) (fun W hW => ?_) ?_; rotate_left; (· have f0 := (bB.below hW lB).cell 0; have f1 := (bB.below hW lB).cell 1; have f2 := (bB.below hW lB).lt; go_simp; with_reducible rfl); simp only [Act.put, List.setIfInBounds_toArray, List.set_cons_zero, List.set_cons_succ])
  (refine Sx.wpE_val (v := ?_) (by rfl) (fun W hW => ?_) ?_; rotate_left; (· have f0 := (bB.below hW lB).cell 0; have f1 := (bB.below hW lB).cell 1; have f2 := (bB.below hW lB).lt; go_simp; with_reducible rfl); simp only [Act.put, List.setIfInBounds_toArray, List.set_cons_zero, List.set_cons_succ])
  (refine Sx.wpE_val (v := ?_) (by rfl) (fun W hW => ?_) ?_; rotate_left; (· have f0 := (bB.below hW lB).cell 0; have f1 := (bB.below hW lB).cell 1; have f2 := (bB.below hW lB).lt; go_simp; with_reducible rfl); simp only [Act.put, List.setIfInBounds_toArray, List.set_cons_zero, List.set_cons_succ])
  (refine Sx.wpE_val (v := ?_) (by rfl) (fun W hW => ?_) ?_; rotate_left; (· have f0 := (bB.below hW lB).cell 0; have f1 := (bB.below hW lB).cell 1; have f2 := (bB.below hW lB).lt; go_simp; with_reducible rfl); simp only [Act.put, List.setIfInBounds_toArray, List.set_cons_zero, List.set_cons_succ])
  (refine Sx.wpE_val (v := ?_) (by rfl) (fun W hW => ?_) ?_; rotate_left; (· have f0 := (bB.below hW lB).cell 0; have f1 := (bB.below hW lB).cell 1; have f2 := (bB.below hW lB).lt; go_simp; with_reducible rfl); simp only [Act.put, List.setIfInBounds_toArray, List.set_cons_zero, List.set_cons_succ])
  (refine Sx.wpE_val (v := ?_) (by rfl) (fun W hW => ?_) ?_; rotate_left; (· have f0 := (bB.below hW lB).cell 0; have f1 := (bB.below hW lB).cell 1; have f2 := (bB.below hW lB).lt; go_simp; with_reducible rfl); simp only [Act.put, List.setIfInBounds_toArray, List.set_cons_zero, List.set_cons_succ])
  (refine Sx.wpE_val (v := ?_) (by rfl) (fun W hW => ?_) ?_; rotate_left; (· have f0 := (bB.below hW lB).cell 0; have f1 := (bB.below hW lB).cell 1; have f2 := (bB.below hW lB).lt; go_simp; with_reducible rfl); simp only [Act.put, List.setIfInBounds_toArray, List.set_cons_zero, List.set_cons_succ])
  simp only [Sx.wpE]
  (refine Sx.wpM_one 24 _ (by simp only [List.getElem?_toArray, List.getElem?_cons_zero, List.getElem?_cons_succ]; rfl) (by kernel_rfl) (by rfl) ?_)
  intro U7 huU7 hsU7
  replace HI1 := hid (HI1.out.below huU7 huU7.size)
  replace HI2 := hid (HI2.out.below huU7 huU7.size)
  (go_simp; simp only [LUpon, Act.put]; try simp only [List.setIfInBounds_toArray, List.set_cons_zero, List.set_cons_succ])
  refine ⟨hsU7.alloc hsU7.size _, ?_⟩
  have halU7 : Below U7.heap.size U7 (U7.alloc _) := (Below.refl _ _).alloc (Nat.le_refl _) (.cells #[.int .i64 1] 3)
  have htU7 := hsU7.trans (halU7.mono hsU7.size)
  replace HI1 := hid (HI1.out.below halU7 halU7.size)
  replace HI2 := hid (HI2.out.below halU7 halU7.size)
  have HI3 : Hid (InS (U7.alloc (.cells #[.int .i64 1] 3)) (U7.alloc (.cells #[.int .i64 1] 3)).heap.size (some ⟨U7.heap.size, 0, none⟩) 1 [1]) := hid (ins_blk (l := [1]) (Blk.new _ _ _) (by simp))
  try simp only [Act.put, List.setIfInBounds_toArray, List.set_cons_zero, List.set_cons_succ]
  (refine Sx.wpM_one 25 _ (by simp only [List.getElem?_toArray, List.getElem?_cons_zero, List.getElem?_cons_succ]; rfl) (by kernel_rfl) (by rfl) ?_)
  intro U8 huU8 hsU8
  replace HI1 := hid (HI1.out.below huU8 huU8.size)
  replace HI2 := hid (HI2.out.below huU8 huU8.size)
  replace HI3 := hid (HI3.out.below huU8 huU8.size)
  (go_simp; simp only [LUpon, Act.put]; try simp only [List.setIfInBounds_toArray, List.set_cons_zero, List.set_cons_succ])
  refine (of_any _ _ _ _).mono ?_
  rintro e U8q ⟨rfl, rfl⟩
  refine ⟨_, rfl, hsU8, ?_⟩
  try simp only [Act.put, List.setIfInBounds_toArray, List.set_cons_zero, List.set_cons_succ]
  (refine Sx.wpM_one 26 _ (by simp only [List.getElem?_toArray, List.getElem?_cons_zero, List.getElem?_cons_succ]; rfl) (by kernel_rfl) (by rfl) ?_)
  intro U9 huU9 hsU9
  replace HI1 := hid (HI1.out.below huU9 huU9.size)
  replace HI2 := hid (HI2.out.below huU9 huU9.size)
  replace HI3 := hid (HI3.out.below huU9 huU9.size)
  (go_simp; simp only [LUpon, Act.put]; try simp only [List.setIfInBounds_toArray, List.set_cons_zero, List.set_cons_succ])
  refine ⟨hsU9.alloc hsU9.size _, ?_⟩
  have halU9 : Below U9.heap.size U9 (U9.alloc _) := (Below.refl _ _).alloc (Nat.le_refl _) (.cells #[.slice (some ⟨U7.heap.size, 0, none⟩) 1 1] 25)
  have htU9 := hsU9.trans (halU9.mono hsU9.size)
  replace HI1 := hid (HI1.out.below halU9 halU9.size)
  replace HI2 := hid (HI2.out.below halU9 halU9.size)
  replace HI3 := hid (HI3.out.below halU9 halU9.size)
  have HI4 := hid (lis_lit (w := U9.alloc (.cells #[.slice (some ⟨U7.heap.size, 0, none⟩) 1 1] 25)) (vs := [.slice (some ⟨U7.heap.size, 0, none⟩) 1 1]) (ls := [[1]]) (Blk.new _ _ _) rfl (fun k l hk => by match k, hk with | 0, hk => cases hk; exact ⟨_, _, _, rfl, HI3.out⟩ | k + 1, hk => simp at hk))
  try simp only [Act.put, List.setIfInBounds_toArray, List.set_cons_zero, List.set_cons_succ]
  (refine Sx.wpM_one 27 _ (by simp only [List.getElem?_toArray, List.getElem?_cons_zero, List.getElem?_cons_succ]; rfl) (by kernel_rfl) (by rfl) ?_)
  intro U10 huU10 hsU10
  replace HI1 := hid (HI1.out.below huU10 huU10.size)
  replace HI2 := hid (HI2.out.below huU10 huU10.size)
  replace HI3 := hid (HI3.out.below huU10 huU10.size)
  replace HI4 := hid (HI4.out.below huU10 huU10.size)
  (go_simp; simp only [LUpon, Act.put]; try simp only [List.setIfInBounds_toArray, List.set_cons_zero, List.set_cons_succ])
  refine (plan_any _ _ _ _).mono ?_
  rintro e U10q ⟨rfl, rfl⟩
  refine ⟨_, rfl, hsU10, ?_⟩
  try simp only [Act.put, List.setIfInBounds_toArray, List.set_cons_zero, List.set_cons_succ]
  (refine Sx.wpM_one 28 _ (by simp only [List.getElem?_toArray, List.getElem?_cons_zero, List.getElem?_cons_succ]; rfl) (by kernel_rfl) (by rfl) ?_)
  intro U11 huU11 hsU11
  replace HI1 := hid (HI1.out.below huU11 huU11.size)
  replace HI2 := hid (HI2.out.below huU11 huU11.size)
  replace HI3 := hid (HI3.out.below huU11 huU11.size)
  replace HI4 := hid (HI4.out.below huU11 huU11.size)
  (go_simp; simp only [LUpon, Act.put]; try simp only [List.setIfInBounds_toArray, List.set_cons_zero, List.set_cons_succ])
  refine (lists_any At _ nt ct 1 1 [[1]] [[1]] U11 (Ht.out.1.below hsU11 hsU11.size) HI4.out (by have := Ht.out.1.1; simp at this; omega) (by decide)).mono ?_
  rw [kE3]
  rintro e U11q ⟨rfl, hb⟩
  have htU11 : Below W0.heap.size W0 U11q := hsU11.trans (hb.mono hsU11.size)
  refine ⟨_, rfl, htU11, ?_⟩
  replace HI1 := hid (HI1.out.below hb hb.size)
  replace HI2 := hid (HI2.out.below hb hb.size)
  replace HI3 := hid (HI3.out.below hb hb.size)
  replace HI4 := hid (HI4.out.below hb hb.size)
  clear hb
  try simp only [Act.put, List.setIfInBounds_toArray, List.set_cons_zero, List.set_cons_succ]
  refine Sx.wpM_early (hSb W0) (by kernel_rfl) [29, 30, 31, 32, 33, 34, 35] 27 _ _ (by kernel_rfl) ?_
  simp only [pick, List.getElem?_toArray, List.getElem?_cons_zero, List.getElem?_cons_succ]
  (refine Sx.wpE_val (v := ?_) (by rfl) (fun W hW => ?_) ?_; rotate_left; (· have f0 := (bB.below hW lB).cell 0; have f1 := (bB.below hW lB).cell 1; have f2 := (bB.below hW lB).lt; go_simp; with_reducible rfl); simp only [Act.put, List.setIfInBounds_toArray, List.set_cons_zero, List.set_cons_succ])
  (refine Sx.wpE_val (v := ?_) (by rfl) (fun W hW => ?_) ?_; rotate_left; (· have f0 := (bB.below hW lB).cell 0; have f1 := (bB.below hW lB).cell 1; have f2 := (bB.below hW lB).lt; go_simp; with_reducible rfl); simp only [Act.put, List.setIfInBounds_toArray, List.set_cons_zero, List.set_cons_succ])
  (refine Sx.wpE_val (v := ?_) (by rfl) (fun W hW => ?_) ?_; rotate_left; (· have f0 := (bB.below hW lB).cell 0; have f1 := (bB.below hW lB).cell 1; have f2 := (bB.below hW lB).lt; go_simp; with_reducible rfl); simp only [Act.put, List.setIfInBounds_toArray, List.set_cons_zero, List.set_cons_succ])
  (refine Sx.wpE_val (v := ?_) (by rfl) (fun W hW => ?_) ?_; rotate_left; (· have f0 := (bB.below hW lB).cell 0; have f1 := (bB.below hW lB).cell 1; have f2 := (bB.below hW lB).lt; go_simp; with_reducible rfl); simp only [Act.put, List.setIfInBounds_toArray, List.set_cons_zero, List.set_cons_succ])
  (refine Sx.wpE_val (v := ?_) (by rfl) (fun W hW => ?_) ?_; rotate_left; (· have f0 := (bB.below hW lB).cell 0; have f1 := (bB.below hW lB).cell 1; have f2 := (bB.below hW lB).lt; go_simp; with_reducible rfl); simp only [Act.put, List.setIfInBounds_toArray, List.set_cons_zero, List.set_cons_succ])
  (refine Sx.wpE_val (v := ?_) (by rfl) (fun W hW => ?_) ?_; rotate_left; (· have f0 := (bB.below hW lB).cell 0; have f1 := (bB.below hW lB).cell 1; have f2 := (bB.below hW lB).lt; go_simp; with_reducible rfl); simp only [Act.put, List.setIfInBounds_toArray, List.set_cons_zero, List.set_cons_succ])
  (refine Sx.wpE_val (v := ?_) (by rfl) (fun W hW => ?_) ?_; rotate_left; (· have f0 := (bB.below hW lB).cell 0; have f1 := (bB.below hW lB).cell 1; have f2 := (bB.below hW lB).lt; go_simp; with_reducible rfl); simp only [Act.put, List.setIfInBounds_toArray, List.set_cons_zero, List.set_cons_succ])
  simp only [Sx.wpE]
  (refine Sx.wpM_one 36 _ (by simp only [List.getElem?_toArray, List.getElem?_cons_zero, List.getElem?_cons_succ]; rfl) (by kernel_rfl) (by rfl) ?_)
  intro U12 huU12 hsU12
  replace HI1 := hid (HI1.out.below huU12 huU12.size)
  replace HI2 := hid (HI2.out.below huU12 huU12.size)
  replace HI3 := hid (HI3.out.below huU12 huU12.size)
  replace HI4 := hid (HI4.out.below huU12 huU12.size)
  (go_simp; simp only [LUpon, Act.put]; try simp only [List.setIfInBounds_toArray, List.set_cons_zero, List.set_cons_succ])
  refine ⟨hsU12.alloc hsU12.size _, ?_⟩
  have halU12 : Below U12.heap.size U12 (U12.alloc _) := (Below.refl _ _).alloc (Nat.le_refl _) (.cells #[.int .i64 3] 3)
  have htU12 := hsU12.trans (halU12.mono hsU12.size)
  replace HI1 := hid (HI1.out.below halU12 halU12.size)
  replace HI2 := hid (HI2.out.below halU12 halU12.size)
  replace HI3 := hid (HI3.out.below halU12 halU12.size)
  replace HI4 := hid (HI4.out.below halU12 halU12.size)
  have HI5 : Hid (InS (U12.alloc (.cells #[.int .i64 3] 3)) (U12.alloc (.cells #[.int .i64 3] 3)).heap.size (some ⟨U12.heap.size, 0, none⟩) 1 [3]) := hid (ins_blk (l := [3]) (Blk.new _ _ _) (by simp))
  try simp only [Act.put, List.setIfInBounds_toArray, List.set_cons_zero, List.set_cons_succ]
  (refine Sx.wpM_one 37 _ (by simp only [List.getElem?_toArray, List.getElem?_cons_zero, List.getElem?_cons_succ]; rfl) (by kernel_rfl) (by rfl) ?_)
  intro U13 huU13 hsU13
  replace HI1 := hid (HI1.out.below huU13 huU13.size)
  replace HI2 := hid (HI2.out.below huU13 huU13.size)
  replace HI3 := hid (HI3.out.below huU13 huU13.size)
  replace HI4 := hid (HI4.out.below huU13 huU13.size)
  replace HI5 := hid (HI5.out.below huU13 huU13.size)
  (go_simp; simp only [LUpon, Act.put]; try simp only [List.setIfInBounds_toArray, List.set_cons_zero, List.set_cons_succ])
  refine (of_any _ _ _ _).mono ?_
  rintro e U13q ⟨rfl, rfl⟩
  refine ⟨_, rfl, hsU13, ?_⟩
  try simp only [Act.put, List.setIfInBounds_toArray, List.set_cons_zero, List.set_cons_succ]
  (refine Sx.wpM_one 38 _ (by simp only [List.getElem?_toArray, List.getElem?_cons_zero, List.getElem?_cons_succ]; rfl) (by kernel_rfl) (by rfl) ?_)
  intro U14 huU14 hsU14
  replace HI1 := hid (HI1.out.below huU14 huU14.size)
  replace HI2 := hid (HI2.out.below huU14 huU14.size)
  replace HI3 := hid (HI3.out.below huU14 huU14.size)
  replace HI4 := hid (HI4.out.below huU14 huU14.size)
  replace HI5 := hid (HI5.out.below huU14 huU14.size)
  (go_simp; simp only [LUpon, Act.put]; try simp only [List.setIfInBounds_toArray, List.set_cons_zero, List.set_cons_succ])
  refine (ints_any U14 Au _ nu cu 1 1 [3] [3] (Hu.out.below hsU14 hsU14.size) HI5.out (by have := Hu.out.len; simp at this; omega)).mono ?_
  rw [kE4]
  rintro e U14q ⟨rfl, hb⟩
  have htU14 : Below W0.heap.size W0 U14q := hsU14.trans (hb.mono hsU14.size)
  refine ⟨_, rfl, htU14, ?_⟩
  replace HI1 := hid (HI1.out.below hb hb.size)
  replace HI2 := hid (HI2.out.below hb hb.size)
  replace HI3 := hid (HI3.out.below hb hb.size)
  replace HI4 := hid (HI4.out.below hb hb.size)
  replace HI5 := hid (HI5.out.below hb hb.size)
  clear hb
  try simp only [Act.put, List.setIfInBounds_toArray, List.set_cons_zero, List.set_cons_succ]
  refine Sx.wpM_early (hSb W0) (by kernel_rfl) [39, 40, 41, 42, 43, 44, 45, 46, 47, 48, 49, 50, 51, 52, 53, 54] 8 _ _ (by kernel_rfl) ?_
  simp only [pick, List.getElem?_toArray, List.getElem?_cons_zero, List.getElem?_cons_succ]
  (refine Sx.wpE_val (v := ?_) (by rfl) (fun W hW => ?_) ?_; rotate_left; (· have f0 := (bB.below hW lB).cell 0; have f1 := (bB.below hW lB).cell 1; have f2 := (bB.below hW lB).lt; go_simp; with_reducible rfl); simp only [Act.put, List.setIfInBounds_toArray, List.set_cons_zero, List.set_cons_succ])
  (refine Sx.wpE_val (v := ?_) (by rfl) (fun W hW => ?_) ?_; rotate_left; (· have f0 := (bB.below hW lB).cell 0; have f1 := (bB.below hW lB).cell 1; have f2 := (bB.below hW lB).lt; go_simp; with_reducible rfl); simp only [Act.put, List.setIfInBounds_toArray, List.set_cons_zero, List.set_cons_succ])
  (refine Sx.wpE_val (v := ?_) (by rfl) (fun W hW => ?_) ?_; rotate_left; (· have f0 := (bB.below hW lB).cell 0; have f1 := (bB.below hW lB).cell 1; have f2 := (bB.below hW lB).lt; go_simp; with_reducible rfl); simp only [Act.put, List.setIfInBounds_toArray, List.set_cons_zero, List.set_cons_succ])
  (refine Sx.wpE_val (v := ?_) (by rfl) (fun W hW => ?_) ?_; rotate_left; (· have f0 := (bB.below hW lB).cell 0; have f1 := (bB.below hW lB).cell 1; have f2 := (bB.below hW lB).lt; go_simp; with_reducible rfl); simp only [Act.put, List.setIfInBounds_toArray, List.set_cons_zero, List.set_cons_succ])
  (refine Sx.wpE_val (v := ?_) (by rfl) (fun W hW => ?_) ?_; rotate_left; (· have f0 := (bB.below hW lB).cell 0; have f1 := (bB.below hW lB).cell 1; have f2 := (bB.below hW lB).lt; go_simp; with_reducible rfl); simp only [Act.put, List.setIfInBounds_toArray, List.set_cons_zero, List.set_cons_succ])
  (refine Sx.wpE_val (v := ?_) (by rfl) (fun W hW => ?_) ?_; rotate_left; (· have f0 := (bB.below hW lB).cell 0; have f1 := (bB.below hW lB).cell 1; have f2 := (bB.below hW lB).lt; go_simp; with_reducible rfl); simp only [Act.put, List.setIfInBounds_toArray, List.set_cons_zero, List.set_cons_succ])
  (refine Sx.wpE_val (v := ?_) (by rfl) (fun W hW => ?_) ?_; rotate_left; (· have f0 := (bB.below hW lB).cell 0; have f1 := (bB.below hW lB).cell 1; have f2 := (bB.below hW lB).lt; go_simp; with_reducible rfl); simp only [Act.put, List.setIfInBounds_toArray, List.set_cons_zero, List.set_cons_succ])
  (refine Sx.wpE_val (v := ?_) (by rfl) (fun W hW => ?_) ?_; rotate_left; (· have f0 := (bB.below hW lB).cell 0; have f1 := (bB.below hW lB).cell 1; have f2 := (bB.below hW lB).lt; go_simp; with_reducible rfl); simp only [Act.put, List.setIfInBounds_toArray, List.set_cons_zero, List.set_cons_succ])
  (refine Sx.wpE_val (v := ?_) (by rfl) (fun W hW => ?_) ?_; rotate_left; (· have f0 := (bB.below hW lB).cell 0; have f1 := (bB.below hW lB).cell 1; have f2 := (bB.below hW lB).lt; go_simp; with_reducible rfl); simp only [Act.put, List.setIfInBounds_toArray, List.set_cons_zero, List.set_cons_succ])
  (refine Sx.wpE_val (v := ?_) (by rfl) (fun W hW => ?_) ?_; rotate_left; (· have f0 := (bB.below hW lB).cell 0; have f1 := (bB.below hW lB).cell 1; have f2 := (bB.below hW lB).lt; go_simp; with_reducible rfl); simp only [Act.put, List.setIfInBounds_toArray, List.set_cons_zero, List.set_cons_succ])
  (refine Sx.wpE_val (v := ?_) (by rfl) (fun W hW => ?_) ?_; rotate_left; (· have f0 := (bB.below hW lB).cell 0; have f1 := (bB.below hW lB).cell 1; have f2 := (bB.below hW lB).lt; go_simp; with_reducible rfl); simp only [Act.put, List.setIfInBounds_toArray, List.set_cons_zero, List.set_cons_succ])
  refine Sx.wpE_call (v := ?_) (f := ?_) (args := ?_) (by rfl) (fun W hW => ?_) (fun W hW => ?_) ?_
  rotate_left 3
  · have := checkBook_any 4 1 W
    rw [kBook.1] at this
    exact this
  · go_simp
  simp only [Act.put, List.setIfInBounds_toArray, List.set_cons_zero, List.set_cons_succ]
  (refine Sx.wpE_val (v := ?_) (by rfl) (fun W hW => ?_) ?_; rotate_left; (· have f0 := (bB.below hW lB).cell 0; have f1 := (bB.below hW lB).cell 1; have f2 := (bB.below hW lB).lt; go_simp; with_reducible rfl); simp only [Act.put, List.setIfInBounds_toArray, List.set_cons_zero, List.set_cons_succ])
  (refine Sx.wpE_val (v := ?_) (by rfl) (fun W hW => ?_) ?_; rotate_left; (· have f0 := (bB.below hW lB).cell 0; have f1 := (bB.below hW lB).cell 1; have f2 := (bB.below hW lB).lt; go_simp; with_reducible rfl); simp only [Act.put, List.setIfInBounds_toArray, List.set_cons_zero, List.set_cons_succ])
  (refine Sx.wpE_val (v := ?_) (by rfl) (fun W hW => ?_) ?_; rotate_left; (· have f0 := (bB.below hW lB).cell 0; have f1 := (bB.below hW lB).cell 1; have f2 := (bB.below hW lB).lt; go_simp; with_reducible rfl); simp only [Act.put, List.setIfInBounds_toArray, List.set_cons_zero, List.set_cons_succ])
  (refine Sx.wpE_val (v := ?_) (by rfl) (fun W hW => ?_) ?_; rotate_left; (· have f0 := (bB.below hW lB).cell 0; have f1 := (bB.below hW lB).cell 1; have f2 := (bB.below hW lB).lt; go_simp; with_reducible rfl); simp only [Act.put, List.setIfInBounds_toArray, List.set_cons_zero, List.set_cons_succ])
  simp only [Sx.wpE]
  (refine Sx.wpM_one 55 _ (by simp only [List.getElem?_toArray, List.getElem?_cons_zero, List.getElem?_cons_succ]; rfl) (by kernel_rfl) (by rfl) ?_)
  intro U15 huU15 hsU15
  replace HI1 := hid (HI1.out.below huU15 huU15.size)
  replace HI2 := hid (HI2.out.below huU15 huU15.size)
  replace HI3 := hid (HI3.out.below huU15 huU15.size)
  replace HI4 := hid (HI4.out.below huU15 huU15.size)
  replace HI5 := hid (HI5.out.below huU15 huU15.size)
  (go_simp; simp only [LUpon, Act.put]; try simp only [List.setIfInBounds_toArray, List.set_cons_zero, List.set_cons_succ])
  refine (q_any U15).mono ?_
  rintro e U15q ⟨Aq, nq, cq, rfl, hq, hb⟩
  have htU15 : Below W0.heap.size W0 U15q := hsU15.trans (hb.mono hsU15.size)
  refine ⟨_, rfl, htU15, ?_⟩
  replace HI1 := hid (HI1.out.below hb hb.size)
  replace HI2 := hid (HI2.out.below hb hb.size)
  replace HI3 := hid (HI3.out.below hb hb.size)
  replace HI4 := hid (HI4.out.below hb hb.size)
  replace HI5 := hid (HI5.out.below hb hb.size)
  clear hb
  have HQ := hid hq
  clear hq
  try simp only [Act.put, List.setIfInBounds_toArray, List.set_cons_zero, List.set_cons_succ]
  (refine Sx.wpM_one 56 _ (by simp only [List.getElem?_toArray, List.getElem?_cons_zero, List.getElem?_cons_succ]; rfl) (by kernel_rfl) (by rfl) ?_)
  intro U16 huU16 hsU16
  replace HI1 := hid (HI1.out.below huU16 huU16.size)
  replace HI2 := hid (HI2.out.below huU16 huU16.size)
  replace HI3 := hid (HI3.out.below huU16 huU16.size)
  replace HI4 := hid (HI4.out.below huU16 huU16.size)
  replace HI5 := hid (HI5.out.below huU16 huU16.size)
  replace HQ := hid (HQ.out.below huU16 huU16.size)
  (go_simp; simp only [LUpon, Act.put]; try simp only [List.setIfInBounds_toArray, List.set_cons_zero, List.set_cons_succ])
  refine (checkPlan_any Aq nq cq qL 4 1 U16 HQ.out (by have := HQ.out.1; simp at this; omega) (by decide)).mono ?_
  rw [kK6]
  rintro e U16q ⟨rfl, hb⟩
  have htU16 : Below W0.heap.size W0 U16q := hsU16.trans (hb.mono hsU16.size)
  refine ⟨_, rfl, htU16, ?_⟩
  replace HI1 := hid (HI1.out.below hb hb.size)
  replace HI2 := hid (HI2.out.below hb hb.size)
  replace HI3 := hid (HI3.out.below hb hb.size)
  replace HI4 := hid (HI4.out.below hb hb.size)
  replace HI5 := hid (HI5.out.below hb hb.size)
  replace HQ := hid (HQ.out.below hb hb.size)
  clear hb
  try simp only [Act.put, List.setIfInBounds_toArray, List.set_cons_zero, List.set_cons_succ]
  refine Sx.wpM_early (hSb W0) (by kernel_rfl) [57, 58, 59, 60, 61, 62] 0 _ _ (by kernel_rfl) ?_
  simp only [pick, List.getElem?_toArray, List.getElem?_cons_zero, List.getElem?_cons_succ]
  (refine Sx.wpE_val (v := ?_) (by rfl) (fun W hW => ?_) ?_; rotate_left; (· have f0 := (bB.below hW lB).cell 0; have f1 := (bB.below hW lB).cell 1; have f2 := (bB.below hW lB).lt; go_simp; with_reducible rfl); simp only [Act.put, List.setIfInBounds_toArray, List.set_cons_zero, List.set_cons_succ])
  (refine Sx.wpE_val (v := ?_) (by rfl) (fun W hW => ?_) ?_; rotate_left; (· have f0 := (bB.below hW lB).cell 0; have f1 := (bB.below hW lB).cell 1; have f2 := (bB.below hW lB).lt; go_simp; with_reducible rfl); simp only [Act.put, List.setIfInBounds_toArray, List.set_cons_zero, List.set_cons_succ])
  (refine Sx.wpE_val (v := ?_) (by rfl) (fun W hW => ?_) ?_; rotate_left; (· have f0 := (bB.below hW lB).cell 0; have f1 := (bB.below hW lB).cell 1; have f2 := (bB.below hW lB).lt; go_simp; with_reducible rfl); simp only [Act.put, List.setIfInBounds_toArray, List.set_cons_zero, List.set_cons_succ])
  refine Sx.wpE_call (v := ?_) (f := ?_) (args := ?_) (by rfl) (fun W hW => ?_) (fun W hW => ?_) ?_
  rotate_left 3
  · have := works_any W
    skip
    exact this
  · go_simp
  simp only [Act.put, List.setIfInBounds_toArray, List.set_cons_zero, List.set_cons_succ]
  (refine Sx.wpE_val (v := ?_) (by rfl) (fun W hW => ?_) ?_; rotate_left; (· have f0 := (bB.below hW lB).cell 0; have f1 := (bB.below hW lB).cell 1; have f2 := (bB.below hW lB).lt; go_simp; with_reducible rfl); simp only [Act.put, List.setIfInBounds_toArray, List.set_cons_zero, List.set_cons_succ])
  (refine Sx.wpE_val (v := ?_) (by rfl) (fun W hW => ?_) ?_; rotate_left; (· have f0 := (bB.below hW lB).cell 0; have f1 := (bB.below hW lB).cell 1; have f2 := (bB.below hW lB).lt; go_simp; with_reducible rfl); simp only [Act.put, List.setIfInBounds_toArray, List.set_cons_zero, List.set_cons_succ])
  simp only [Sx.wpE]
  refine Sx.wpM_end (by kernel_rfl) ?_
  intro W1 hvz hb
  replace HI1 := hid (HI1.out.below hvz hvz.size)
  replace HI2 := hid (HI2.out.below hvz hvz.size)
  replace HI3 := hid (HI3.out.below hvz hvz.size)
  replace HI4 := hid (HI4.out.below hvz hvz.size)
  replace HI5 := hid (HI5.out.below hvz hvz.size)
  replace HQ := hid (HQ.out.below hvz hvz.size)
  replace bB := bB.below hb bB.lt
  clear p0 p1 lB
  have p0 := bB.cell 0
  have p1 := bB.cell 1
  have lB := bB.lt
  replace Hr := hid (Hr.out.below hb hb.size)
  replace HS := hid (HS.out.below hb hb.size)
  replace Ht := hid (Ht.out.below hb hb.size)
  replace Hu := hid (Hu.out.below hb hb.size)
  replace hbel := hbel.trans (hb.mono hsz)
  replace hsz := hbel.size
  clear hb
  try clear hWb
  obtain ⟨W0, rfl⟩ : ∃ W0 : World, W0 = W1 := ⟨_, rfl⟩
  go_wp2
  go_ret
  exact ⟨rfl, hbel⟩

section
open Go.ChangeShapes Go.WideShapes Go.ChangeAt Go.RowKit
set_option maxRecDepth 100000 in
theorem rodKnown_lifted (os : Os) (started : os.Started) (H : Type) (enc : TypeId × Value → H) :
    ReturnsInHanded {} Try.checked os 14 .any (Rows.rodKnownSpec.pre6 enc Try.prog Try.f14 Rows.rodKnownRow.domain false) (Rows.rodKnownSpec.post enc Try.prog Try.f14 false true false false) := by
  refine returnsInHanded_of_change (C := Try.checked) ownKx started (by kernel_rfl) Try.func14
    (ChangeSpec.witness6 (enc := enc) (C := Try.checked) false ⟨#[], #[], []⟩ 8 (by kernel_rfl) (by kernel_rfl) (by kernel_rfl) (by kernel_rfl)) ?_
  intro W base args ds gs before hval0 hW hcnd _
  have hval : ∀ (j : Nat) t v, Try.f14.params[j]? = some t → args[j]? = some v → Value.okWide Try.prog W .any base t v := hval0
  have hW' := hW
  obtain ⟨p, q, hA0, hV, rfl, hfz, hnd⟩ := hW
  have hA : DataW.TrodAll enc Try.prog W 0 (fun _ => true) true Try.f14.params.toList args.toList ds p := hA0
  have hlt : ∀ x ∈ p, x.block < W.heap.size := fun x hx => hW'.lt x (List.mem_append_left _ hx)
  have hAll : ∀ W', Below W.heap.size W W' → DataW.TrodAll enc Try.prog W' 0 (fun b => decide (b < W.heap.size)) true Try.f14.params.toList args.toList ds p := fun W' hb => all_below laidOut hb (readable_of (by kernel_rfl)) hlt hA
  rw [Try.params14] at hA hval
  obtain ⟨rfl, rfl, rfl⟩ := trodAll_none hA
  obtain ⟨rfl, rfl⟩ := trodVars_none hV
  clear hA0 hval0

  refine (rodKnown_walk W ).mono fun e W' ⟨he, hb⟩ => ?_
  subst he
  exact ⟨_, rfl, ⟨_, _, _, [], _, [], hW', trodAll_cons_mk (shut_bool Try.underlying4 _) trodAll_mk0, hAll W' hb, rfl, hb.frame _, fun h => by cases h⟩⟩
/-- The law: whatever the input, it returns true, and the input reads as it did. -/
theorem rodKnown_holds : Rows.RodKnownSaid :=
  OpenClaim.holds_of_wide 14 Try.f14 rfl rfl rfl rfl rfl rfl rfl ⟨rfl, rfl, rfl, rfl, rfl⟩ rfl rfl rfl rfl rfl (by kernel_rfl) Try.func14 (by kernel_rfl)
    (of_decide_eq_true (by kernel_rfl)) (by unfold Func.isWrapper; first | (rw [if_pos (by decide +kernel)]; kernel_rfl) | (rw [if_neg (by decide +kernel)]; exact ⟨rfl, rfl⟩))
    (fun os started H enc _ => rodKnown_lifted os started H enc)
end
end Go.Proofs.Ytpgdfipikfbjeaa

