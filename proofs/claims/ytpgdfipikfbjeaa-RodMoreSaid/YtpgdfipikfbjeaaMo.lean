/- Texts of the proof, laid together by program. -/
import Derived.Test.YtpgdfipikfbjeaaMn
set_option linter.unusedSimpArgs false
set_option linter.unusedVariables false
/- Walks: Works. Printed by genw8.py. -/
namespace Go.Proofs.Ytpgdfipikfbjeaa
open Go.RowKit
attribute [local go_sem] Oper.semAt_some
theorem hSb (B : World) : ∀ W W', Below B.heap.size B W → Ext W W' → Below B.heap.size B W' := fun _ _ h he => h.trans (he.mono h.size)
theorem LiS.of_lit {w : World} {B n : Nat} {A : Option Addr} {ls : List (List Int)} (h : LiT w B A n ls) : LiS w B A n ls := h.1
set_option maxRecDepth 1000000 in
set_option maxHeartbeats 20000000 in
theorem works_any (w : World) : Calls Try.prog 17 #[] w fun e w' => e = .returned (.bool true) ∧ Below w.heap.size w w' := by
  go_enter Try.func17, Try.ntmps17
  go_wp2_with (fail)
  refine (four_any _).mono ?_
  rintro e W1 ⟨rfl, hbel⟩
  have hsz := hbel.size
  obtain ⟨W0, hWb⟩ : ∃ W0, W1.alloc (.cells #[.int .i64 4, .int .i64 1] 23) = W0 := ⟨_, rfl⟩
  have bB : Blk W0 W1.heap.size 23 #[.int .i64 4, .int .i64 1] := by rw [← hWb]; exact Blk.new' rfl
  replace hbel : Below w.heap.size w W0 := by rw [← hWb]; exact hbel.alloc hsz _
  replace hsz := hbel.size
  have lB := bB.lt
  have p0 := bB.cell 0
  have p1 := bB.cell 1
  obtain ⟨T1, hT1⟩ : ∃ T1, W1.heap.size = T1 := ⟨_, rfl⟩
  rw [hT1] at bB lB p0 p1
  go_wp2_with (fail)
  refine (cases_any 4 1 _).mono ?_
  rw [kBook.1, kBook.2]
  rintro e W2 ⟨Ac, nc, cc, rfl, hc, hb⟩
  have hst : Below W0.heap.size W0 W2 := Below.trans (by repeat' (first | with_reducible assumption | with_reducible exact Below.refl _ _ | refine Below.alloc ?_ ?_ _ | refine Below.setCell ?_ ?_ _ | refine Below.drew ?_ | refine below_drewN ?_ _ | (simp; done) | (simp; omega) | omega)) (hb.mono (by first | (simp; done) | (simp; omega) | omega))
  have HC := hid (LiS.of_lit hc)
  clear hc hb hWb
  replace hbel := hbel.trans (hst.mono hsz)
  replace hsz := hbel.size
  replace bB := bB.below hst bB.lt
  clear p0 p1 lB hst
  have p0 := bB.cell 0
  have p1 := bB.cell 1
  have lB := bB.lt
  obtain ⟨W0, rfl⟩ : ∃ W0 : World, W0 = W2 := ⟨_, rfl⟩
  go_wp2_with (fail)
  refine Sx.wp_region_free (fun W => Below W0.heap.size W0 W) (hSb W0) (SpA [.val (.agg #[.int .i64 4, .int .i64 1]), .li qL, .is [0], .is [0], .tis [1, 1, 0] (.int .i64 0), .tis [1, 1, 0] (.int .i64 0), .is [1, 1, 0], .val (.int .i64 0), .is [1, 1, 0], .val (.int .i64 0)]) (SpA.keep _) (fun k => ([[], [], [], [2], [0, 1, 3], [4], [5], [5], [6], [7]] : List (List Nat)).getD k []) [0, 1, 2, 3, 4, 5, 6, 7, 8, 9] rfl ?X1 ?hX1 (by kernel_rfl) (by kernel_rfl) ((Below.refl _ _).drew) ?hC1 ?hQ1
  case hX1 =>
    intro e
    simp only [Sx.putF, Sx.dstAt, List.getElem?_toArray, List.getElem?_cons_succ, List.getElem?_cons_zero, Option.bind_some, Act.put, List.setIfInBounds_toArray, List.set_cons_zero, List.set_cons_succ]
    exact rfl
  case hC1 =>
    intro k o ho e W hx hs hd
    match k, ho, hd with
    | 0, ho, hd =>
      have ho := Option.some.inj ho
      subst ho
      have f0 := (bB.below hs lB).cell 0
      have f1 := (bB.below hs lB).cell 1
      have f2 := (bB.below hs lB).lt
      go_simp
      simp only [Sx.LV]
      exact ⟨Below.refl _ _, rfl⟩
    | 1, ho, hd =>
      have ho := Option.some.inj ho
      subst ho
      go_simp
      simp only [Sx.LV]
      refine (q_any _).mono ?_
      rintro e1 W1 ⟨A, n, c, rfl, hl, hb⟩
      exact ⟨_, rfl, hb, A, n, c, rfl, hl⟩
    | 2, ho, hd =>
      have ho := Option.some.inj ho
      subst ho
      go_simp
      simp only [Sx.LV]
      exact ⟨(Below.refl _ _).alloc (Nat.le_refl _) _, _, _, _, rfl, ins_blk (l := [0]) (Blk.new _ _ _) (by simp)⟩
    | 3, ho, hd =>
      have ho := Option.some.inj ho
      subst ho
      obtain ⟨A2, n2, c2, e2, h2⟩ : Sp.ok (.is [0]) (e 2) W := hd 2 (by decide)
      go_simp
      simp only [Sx.LV]
      refine (of_any _ _ _ _).mono ?_
      rintro e1 w1 ⟨rfl, rfl⟩
      exact ⟨_, rfl, Below.refl _ _, _, _, _, rfl, h2⟩
    | 4, ho, hd =>
      have ho := Option.some.inj ho
      subst ho
      have e0 : e 0 = (.agg #[.int .i64 4, .int .i64 1]) := hd 0 (by decide)
      obtain ⟨A1, n1, c1, e1, h1⟩ : Sp.ok (.li qL) (e 1) W := hd 1 (by decide)
      obtain ⟨A3, n3, c3, e3, h3⟩ : Sp.ok (.is [0]) (e 3) W := hd 3 (by decide)
      go_simp
      simp only [Sx.LV]
      have hz3 := h3.len
      refine (resultsF_any A1 A3 n1 c1 n3 c3 qL [0] 4 1 _ (h1) (h3) (by have := h1.1; simp at this; omega) (by decide) (by rw [← hz3]; decide)).mono ?_
      rw [kRes.1, kRes.2.1]
      rintro e1 W1 ⟨Ar, nr, cr, rfl, hr, hb⟩
      exact ⟨_, rfl, hb, _, _, _, rfl, hr⟩
    | 5, ho, hd =>
      have ho := Option.some.inj ho
      subst ho
      obtain ⟨A4, n4, c4, e4, h4⟩ : Sp.ok (.tis [1, 1, 0] (.int .i64 0)) (e 4) W := hd 4 (by decide)
      go_simp
      simp only [Sx.LV]
      exact ⟨Below.refl _ _, _, _, _, rfl, h4⟩
    | 6, ho, hd =>
      have ho := Option.some.inj ho
      subst ho
      obtain ⟨A5, n5, c5, e5, h5⟩ : Sp.ok (.tis [1, 1, 0] (.int .i64 0)) (e 5) W := hd 5 (by decide)
      go_simp
      simp only [Sx.LV]
      exact ⟨Below.refl _ _, _, _, _, rfl, h5⟩
    | 7, ho, hd =>
      have ho := Option.some.inj ho
      subst ho
      obtain ⟨A5, n5, c5, e5, h5⟩ : Sp.ok (.tis [1, 1, 0] (.int .i64 0)) (e 5) W := hd 5 (by decide)
      go_simp
      simp only [Sx.LV]
      exact ⟨Below.refl _ _, rfl⟩
    | 8, ho, hd =>
      have ho := Option.some.inj ho
      subst ho
      obtain ⟨A6, n6, c6, e6, h6⟩ : Sp.ok (.is [1, 1, 0]) (e 6) W := hd 6 (by decide)
      go_simp
      simp only [Sx.LV]
      exact ⟨Below.refl _ _, _, _, _, rfl, h6⟩
    | 9, ho, hd =>
      have ho := Option.some.inj ho
      subst ho
      have e7 : e 7 = (.int .i64 0) := hd 7 (by decide)
      go_simp
      simp only [Sx.LV]
      exact ⟨Below.refl _ _, rfl⟩
    | k + 10, ho, _ => cases ho
  intro e V hv hst0 hp
  obtain ⟨Ar, nr, cr, e8, hr⟩ : Sp.ok (.is [1, 1, 0]) (e 8) V := hp 8 (by decide)
  have Hr := hid hr
  clear hr
  have e9 : e 9 = (.int .i64 0) := hp 9 (by decide)
  have hst : Below W0.heap.size W0 V := hst0
  replace hbel := hbel.trans (hst.mono hsz)
  replace hsz := hbel.size
  replace bB := bB.below hst bB.lt
  clear p0 p1 lB
  have p0 := bB.cell 0
  have p1 := bB.cell 1
  have lB := bB.lt
  replace HC := hid (HC.out.below hst hst.size)
  try simp only [e8, e9]
  clear hp hst hst0 hv
  obtain ⟨W0, rfl⟩ : ∃ W0 : World, W0 = V := ⟨_, rfl⟩
  go_wp2_with (fail)
  refine Sx.wp_region_free (fun W => Below W0.heap.size W0 W) (hSb W0) (SpA [.val (.agg #[.int .i64 4, .int .i64 1]), .li qL, .is [0, 1], .is [0, 1], .tsl  (.int .i64 2), .tsl  (.int .i64 2), .sl , .val (.int .i64 2), .sl , .val (.int .i64 2)]) (SpA.keep _) (fun k => ([[], [], [], [2], [0, 1, 3], [4], [5], [5], [6], [7]] : List (List Nat)).getD k []) [0, 1, 2, 3, 4, 5, 6, 7, 8, 9] rfl ?X2 ?hX2 (by kernel_rfl) (by kernel_rfl) ((Below.refl _ _).drew) ?hC2 ?hQ2
  case hX2 =>
    intro e
    simp only [Sx.putF, Sx.dstAt, List.getElem?_toArray, List.getElem?_cons_succ, List.getElem?_cons_zero, Option.bind_some, Act.put, List.setIfInBounds_toArray, List.set_cons_zero, List.set_cons_succ]
    exact rfl
  case hC2 =>
    intro k o ho e W hx hs hd
    match k, ho, hd with
    | 0, ho, hd =>
      have ho := Option.some.inj ho
      subst ho
      have f0 := (bB.below hs lB).cell 0
      have f1 := (bB.below hs lB).cell 1
      have f2 := (bB.below hs lB).lt
      go_simp
      simp only [Sx.LV]
      exact ⟨Below.refl _ _, rfl⟩
    | 1, ho, hd =>
      have ho := Option.some.inj ho
      subst ho
      go_simp
      simp only [Sx.LV]
      refine (q_any _).mono ?_
      rintro e1 W1 ⟨A, n, c, rfl, hl, hb⟩
      exact ⟨_, rfl, hb, A, n, c, rfl, hl⟩
    | 2, ho, hd =>
      have ho := Option.some.inj ho
      subst ho
      go_simp
      simp only [Sx.LV]
      exact ⟨(Below.refl _ _).alloc (Nat.le_refl _) _, _, _, _, rfl, ins_blk (l := [0, 1]) (Blk.new _ _ _) (by simp)⟩
    | 3, ho, hd =>
      have ho := Option.some.inj ho
      subst ho
      obtain ⟨A2, n2, c2, e2, h2⟩ : Sp.ok (.is [0, 1]) (e 2) W := hd 2 (by decide)
      go_simp
      simp only [Sx.LV]
      refine (of_any _ _ _ _).mono ?_
      rintro e1 w1 ⟨rfl, rfl⟩
      exact ⟨_, rfl, Below.refl _ _, _, _, _, rfl, h2⟩
    | 4, ho, hd =>
      have ho := Option.some.inj ho
      subst ho
      have e0 : e 0 = (.agg #[.int .i64 4, .int .i64 1]) := hd 0 (by decide)
      obtain ⟨A1, n1, c1, e1, h1⟩ : Sp.ok (.li qL) (e 1) W := hd 1 (by decide)
      obtain ⟨A3, n3, c3, e3, h3⟩ : Sp.ok (.is [0, 1]) (e 3) W := hd 3 (by decide)
      go_simp
      simp only [Sx.LV]
      have hz3 := h3.len
      refine (resultsF_any A1 A3 n1 c1 n3 c3 qL [0, 1] 4 1 _ (h1) (h3) (by have := h1.1; simp at this; omega) (by decide) (by rw [← hz3]; decide)).mono ?_
      rw [kRes.2.2]
      rintro e1 W1 ⟨Ar, nr, cr, rfl, -, hb⟩
      exact ⟨_, rfl, hb, _, _, _, rfl, trivial⟩
    | 5, ho, hd =>
      have ho := Option.some.inj ho
      subst ho
      obtain ⟨A4, n4, c4, e4, h4⟩ : Sp.ok (.tsl  (.int .i64 2)) (e 4) W := hd 4 (by decide)
      go_simp
      simp only [Sx.LV]
      exact ⟨Below.refl _ _, _, _, _, rfl, h4⟩
    | 6, ho, hd =>
      have ho := Option.some.inj ho
      subst ho
      obtain ⟨A5, n5, c5, e5, h5⟩ : Sp.ok (.tsl  (.int .i64 2)) (e 5) W := hd 5 (by decide)
      go_simp
      simp only [Sx.LV]
      exact ⟨Below.refl _ _, _, _, _, rfl, h5⟩
    | 7, ho, hd =>
      have ho := Option.some.inj ho
      subst ho
      obtain ⟨A5, n5, c5, e5, h5⟩ : Sp.ok (.tsl  (.int .i64 2)) (e 5) W := hd 5 (by decide)
      go_simp
      simp only [Sx.LV]
      exact ⟨Below.refl _ _, rfl⟩
    | 8, ho, hd =>
      have ho := Option.some.inj ho
      subst ho
      obtain ⟨A6, n6, c6, e6, h6⟩ : Sp.ok (.sl ) (e 6) W := hd 6 (by decide)
      go_simp
      simp only [Sx.LV]
      exact ⟨Below.refl _ _, _, _, _, rfl, h6⟩
    | 9, ho, hd =>
      have ho := Option.some.inj ho
      subst ho
      have e7 : e 7 = (.int .i64 2) := hd 7 (by decide)
      go_simp
      simp only [Sx.LV]
      exact ⟨Below.refl _ _, rfl⟩
    | k + 10, ho, _ => cases ho
  intro e V hv hst0 hp
  obtain ⟨As, ns, cs, e8, hs⟩ : Sp.ok (.sl ) (e 8) V := hp 8 (by decide)
  have Hs := hid hs
  clear hs
  have e9 : e 9 = (.int .i64 2) := hp 9 (by decide)
  have hst : Below W0.heap.size W0 V := hst0
  replace hbel := hbel.trans (hst.mono hsz)
  replace hsz := hbel.size
  replace bB := bB.below hst bB.lt
  clear p0 p1 lB
  have p0 := bB.cell 0
  have p1 := bB.cell 1
  have lB := bB.lt
  replace HC := hid (HC.out.below hst hst.size)
  replace Hr := hid (Hr.out.below hst hst.size)
  try simp only [e8, e9]
  clear hp hst hst0 hv
  obtain ⟨W0, rfl⟩ : ∃ W0 : World, W0 = V := ⟨_, rfl⟩
  clear Hs
  go_wp2_with (fail)
  refine Sx.wp_region_el (fun W => Below W0.heap.size W0 W) (hSb W0) [0, 3] 6 (by kernel_rfl) (by kernel_rfl) ((Below.refl _ _).drew) ?_
  simp only [pick, List.getElem?_toArray, List.getElem?_cons_zero, List.getElem?_cons_succ]
  iterate 2 (refine Sx.wpE_val (v := ?_) (by rfl) (fun W hW => ?_) ?_; rotate_left; (· have f0 := (bB.below hW lB).cell 0; have f1 := (bB.below hW lB).cell 1; have f2 := (bB.below hW lB).lt; go_simp; with_reducible rfl); simp only [Act.put, List.setIfInBounds_toArray, List.set_cons_zero, List.set_cons_succ])
  simp only [Sx.wpE]
  (refine Sx.wpM_one 1 _ (by simp only [List.getElem?_toArray, List.getElem?_cons_zero, List.getElem?_cons_succ]; rfl) (by kernel_rfl) (by rfl) ?_)
  intro U1 hu1 hs1
  (go_simp; simp only [LUpon, Act.put]; try simp only [List.setIfInBounds_toArray, List.set_cons_zero, List.set_cons_succ])
  refine (p_any _).mono ?_
  rintro e V1 ⟨A1, n1, c1, rfl, hl1, hb⟩
  have ht1 : Below W0.heap.size W0 V1 := hs1.trans (hb.mono hs1.size)
  refine ⟨_, rfl, ht1, ?_⟩
  have HL := hid hl1
  clear hl1 hb
  try simp only [Act.put, List.setIfInBounds_toArray, List.set_cons_zero, List.set_cons_succ]
  (refine Sx.wpM_one 2 _ (by simp only [List.getElem?_toArray, List.getElem?_cons_zero, List.getElem?_cons_succ]; rfl) (by kernel_rfl) (by rfl) ?_)
  intro U2 hu2 hs2
  (go_simp; simp only [LUpon, Act.put]; try simp only [List.setIfInBounds_toArray, List.set_cons_zero, List.set_cons_succ])
  have HL2 := hid (HL.out.below hu2 hu2.size)
  clear HL
  refine (checkTells_any A1 n1 c1 pL 4 1 _ (HL2.out) (by have := HL2.out.1; simp at this; omega) (by decide)).mono ?_
  rw [kTells.1]
  rintro e U2x ⟨rfl, hb⟩
  have ht2 : Below W0.heap.size W0 U2x := hs2.trans (hb.mono hs2.size)
  refine ⟨_, rfl, ht2, ?_⟩
  clear hb HL2
  try simp only [Act.put, List.setIfInBounds_toArray, List.set_cons_zero, List.set_cons_succ]
  (refine Sx.wpM_one 4 _ (by simp only [List.getElem?_toArray, List.getElem?_cons_zero, List.getElem?_cons_succ]; rfl) (by kernel_rfl) (by rfl) ?_)
  intro U3 hu3 hs3
  (go_simp; simp only [LUpon, Act.put]; try simp only [List.setIfInBounds_toArray, List.set_cons_zero, List.set_cons_succ])
  refine (q_any _).mono ?_
  rintro e V2 ⟨A2, n2, c2, rfl, hl2, hb⟩
  have ht3 : Below W0.heap.size W0 V2 := hs3.trans (hb.mono hs3.size)
  refine ⟨_, rfl, ht3, ?_⟩
  have HL := hid hl2
  clear hl2 hb
  try simp only [Act.put, List.setIfInBounds_toArray, List.set_cons_zero, List.set_cons_succ]
  (refine Sx.wpM_one 5 _ (by simp only [List.getElem?_toArray, List.getElem?_cons_zero, List.getElem?_cons_succ]; rfl) (by kernel_rfl) (by rfl) ?_)
  intro U4 hu4 hs4
  (go_simp; simp only [LUpon, Act.put]; try simp only [List.setIfInBounds_toArray, List.set_cons_zero, List.set_cons_succ])
  have HL2 := hid (HL.out.below hu4 hu4.size)
  clear HL
  refine (checkTells_any A2 n2 c2 qL 4 1 _ (HL2.out) (by have := HL2.out.1; simp at this; omega) (by decide)).mono ?_
  rw [kTells.2]
  rintro e U4x ⟨rfl, hb⟩
  have ht4 : Below W0.heap.size W0 U4x := hs4.trans (hb.mono hs4.size)
  refine ⟨_, rfl, ht4, ?_⟩
  clear hb HL2
  try simp only [Act.put, List.setIfInBounds_toArray, List.set_cons_zero, List.set_cons_succ]
  refine Sx.wpM_early (hSb W0) (by kernel_rfl) [6, 7] 0 _ _ (by kernel_rfl) ?_
  simp only [pick, List.getElem?_toArray, List.getElem?_cons_zero, List.getElem?_cons_succ]
  iterate 2 (refine Sx.wpE_val (v := ?_) (by rfl) (fun W hW => ?_) ?_; rotate_left; (· skip; go_simp; with_reducible rfl); simp only [Act.put, List.setIfInBounds_toArray, List.set_cons_zero, List.set_cons_succ])
  simp only [Sx.wpE]
  refine Sx.wpM_end (by kernel_rfl) ?_
  intro Vz hvz hst0
  have hst : Below W0.heap.size W0 Vz := hst0
  replace hbel := hbel.trans (hst.mono hsz)
  replace hsz := hbel.size
  replace bB := bB.below hst bB.lt
  clear p0 p1 lB
  have p0 := bB.cell 0
  have p1 := bB.cell 1
  have lB := bB.lt
  replace HC := hid (HC.out.below hst hst.size)
  replace Hr := hid (Hr.out.below hst hst.size)
  obtain ⟨W0, rfl⟩ : ∃ W0 : World, W0 = Vz := ⟨_, rfl⟩
  go_wp2_with (fail)
  refine Sx.wp_region_el (fun W => Below W0.heap.size W0 W) (hSb W0) [0] 9 (by kernel_rfl) (by kernel_rfl) ((Below.refl _ _).drew) ?_
  simp only [pick, List.getElem?_toArray, List.getElem?_cons_zero, List.getElem?_cons_succ]
  iterate 1 (refine Sx.wpE_val (v := ?_) (by rfl) (fun W hW => ?_) ?_; rotate_left; (· have f0 := (bB.below hW lB).cell 0; have f1 := (bB.below hW lB).cell 1; have f2 := (bB.below hW lB).lt; go_simp; with_reducible rfl); simp only [Act.put, List.setIfInBounds_toArray, List.set_cons_zero, List.set_cons_succ])
  simp only [Sx.wpE]
  (refine Sx.wpM_one 1 _ (by simp only [List.getElem?_toArray, List.getElem?_cons_zero, List.getElem?_cons_succ]; rfl) (by kernel_rfl) (by rfl) ?_)
  intro U5 hu5 hs5
  (go_simp; simp only [LUpon, Act.put]; try simp only [List.setIfInBounds_toArray, List.set_cons_zero, List.set_cons_succ])
  refine (p_any _).mono ?_
  rintro e V3 ⟨A3, n3, c3, rfl, hl3, hb⟩
  have ht5 : Below W0.heap.size W0 V3 := hs5.trans (hb.mono hs5.size)
  refine ⟨_, rfl, ht5, ?_⟩
  have HL := hid hl3
  clear hl3 hb
  try simp only [Act.put, List.setIfInBounds_toArray, List.set_cons_zero, List.set_cons_succ]
  (refine Sx.wpM_one 2 _ (by simp only [List.getElem?_toArray, List.getElem?_cons_zero, List.getElem?_cons_succ]; rfl) (by kernel_rfl) (by rfl) ?_)
  intro U6 hu6 hs6
  (go_simp; simp only [LUpon, Act.put]; try simp only [List.setIfInBounds_toArray, List.set_cons_zero, List.set_cons_succ])
  have HL2 := hid (HL.out.below hu6 hu6.size)
  clear HL
  refine (alike_any A3 n3 c3 pL 4 1 _ (HL2.out) (by have := HL2.out.1; simp at this; omega) (by decide)).mono ?_
  rw [kAli.1]
  rintro e U6x ⟨Ax, nx, cx, Ay, ny, cy, rfl, hx, hy, hb⟩
  have ht6 : Below W0.heap.size W0 U6x := hs6.trans (hb.mono hs6.size)
  refine ⟨_, rfl, ht6, ?_⟩
  clear hb HL2
  have HX := hid hx
  have HY := hid hy
  clear hx hy
  try simp only [Act.put, List.setIfInBounds_toArray, List.set_cons_zero, List.set_cons_succ]
  refine Sx.wpM_early (hSb W0) (by kernel_rfl) [3, 4, 5, 6, 7, 8, 9] 0 _ _ (by kernel_rfl) ?_
  simp only [pick, List.getElem?_toArray, List.getElem?_cons_zero, List.getElem?_cons_succ]
  iterate 7 (refine Sx.wpE_val (v := ?_) (by rfl) (fun W hW => ?_) ?_; rotate_left; (· skip; go_simp; with_reducible rfl); simp only [Act.put, List.setIfInBounds_toArray, List.set_cons_zero, List.set_cons_succ])
  simp only [Sx.wpE]
  refine Sx.wpM_end (by kernel_rfl) ?_
  intro Vz hvz hst0
  replace HX := hid (HX.out.below hvz hvz.size)
  replace HY := hid (HY.out.below hvz hvz.size)
  have hst : Below W0.heap.size W0 Vz := hst0
  replace hbel := hbel.trans (hst.mono hsz)
  replace hsz := hbel.size
  replace bB := bB.below hst bB.lt
  clear p0 p1 lB
  have p0 := bB.cell 0
  have p1 := bB.cell 1
  have lB := bB.lt
  replace HC := hid (HC.out.below hst hst.size)
  replace Hr := hid (Hr.out.below hst hst.size)
  obtain ⟨W0, rfl⟩ : ∃ W0 : World, W0 = Vz := ⟨_, rfl⟩
  go_wp2_with (fail)
  refine Sx.wp_region_el (fun W => Below W0.heap.size W0 W) (hSb W0) [0] 9 (by kernel_rfl) (by kernel_rfl) ((Below.refl _ _).drew) ?_
  simp only [pick, List.getElem?_toArray, List.getElem?_cons_zero, List.getElem?_cons_succ]
  iterate 1 (refine Sx.wpE_val (v := ?_) (by rfl) (fun W hW => ?_) ?_; rotate_left; (· have f0 := (bB.below hW lB).cell 0; have f1 := (bB.below hW lB).cell 1; have f2 := (bB.below hW lB).lt; go_simp; with_reducible rfl); simp only [Act.put, List.setIfInBounds_toArray, List.set_cons_zero, List.set_cons_succ])
  simp only [Sx.wpE]
  (refine Sx.wpM_one 1 _ (by simp only [List.getElem?_toArray, List.getElem?_cons_zero, List.getElem?_cons_succ]; rfl) (by kernel_rfl) (by rfl) ?_)
  intro U7 hu7 hs7
  (go_simp; simp only [LUpon, Act.put]; try simp only [List.setIfInBounds_toArray, List.set_cons_zero, List.set_cons_succ])
  refine (q_any _).mono ?_
  rintro e V4 ⟨A4, n4, c4, rfl, hl4, hb⟩
  have ht7 : Below W0.heap.size W0 V4 := hs7.trans (hb.mono hs7.size)
  refine ⟨_, rfl, ht7, ?_⟩
  have HL := hid hl4
  clear hl4 hb
  try simp only [Act.put, List.setIfInBounds_toArray, List.set_cons_zero, List.set_cons_succ]
  (refine Sx.wpM_one 2 _ (by simp only [List.getElem?_toArray, List.getElem?_cons_zero, List.getElem?_cons_succ]; rfl) (by kernel_rfl) (by rfl) ?_)
  intro U8 hu8 hs8
  (go_simp; simp only [LUpon, Act.put]; try simp only [List.setIfInBounds_toArray, List.set_cons_zero, List.set_cons_succ])
  have HL2 := hid (HL.out.below hu8 hu8.size)
  clear HL
  refine (alike_any A4 n4 c4 qL 4 1 _ (HL2.out) (by have := HL2.out.1; simp at this; omega) (by decide)).mono ?_
  rw [kAli.2]
  rintro e U8x ⟨Az, nz, cz, Aw, nw, cw, rfl, -, -, hb⟩
  have ht8 : Below W0.heap.size W0 U8x := hs8.trans (hb.mono hs8.size)
  refine ⟨_, rfl, ht8, ?_⟩
  clear hb HL2
  try simp only [Act.put, List.setIfInBounds_toArray, List.set_cons_zero, List.set_cons_succ]
  refine Sx.wpM_early (hSb W0) (by kernel_rfl) [3, 4, 5, 6, 7, 8, 9] 0 _ _ (by kernel_rfl) ?_
  simp only [pick, List.getElem?_toArray, List.getElem?_cons_zero, List.getElem?_cons_succ]
  iterate 7 (refine Sx.wpE_val (v := ?_) (by rfl) (fun W hW => ?_) ?_; rotate_left; (· skip; go_simp; with_reducible rfl); simp only [Act.put, List.setIfInBounds_toArray, List.set_cons_zero, List.set_cons_succ])
  simp only [Sx.wpE]
  refine Sx.wpM_end (by kernel_rfl) ?_
  intro Vz hvz hst0
  have hst : Below W0.heap.size W0 Vz := hst0
  replace hbel := hbel.trans (hst.mono hsz)
  replace hsz := hbel.size
  replace bB := bB.below hst bB.lt
  clear p0 p1 lB
  have p0 := bB.cell 0
  have p1 := bB.cell 1
  have lB := bB.lt
  replace HC := hid (HC.out.below hst hst.size)
  replace Hr := hid (Hr.out.below hst hst.size)
  replace HX := hid (HX.out.below hst hst.size)
  replace HY := hid (HY.out.below hst hst.size)
  obtain ⟨W0, rfl⟩ : ∃ W0 : World, W0 = Vz := ⟨_, rfl⟩
  go_wp2_with (fail)
  refine Sx.wp_region_free (fun W => Below W0.heap.size W0 W) (hSb W0) (SpA [.val (.agg #[.int .i64 4, .int .i64 1]), .li pL, .is [0, 0], .is [0, 0], .tlt [[], [3]] (.int .i64 0), .tlt [[], [3]] (.int .i64 0), .lt [[], [3]], .val (.int .i64 0), .lt [[], [3]], .val (.int .i64 0)]) (SpA.keep _) (fun k => ([[], [], [], [2], [0, 1, 3], [4], [5], [5], [6], [7]] : List (List Nat)).getD k []) [0, 1, 2, 3, 4, 5, 6, 7, 8, 9] rfl ?X6 ?hX6 (by kernel_rfl) (by kernel_rfl) ((Below.refl _ _).drew) ?hC6 ?hQ6
  case hX6 =>
    intro e
    simp only [Sx.putF, Sx.dstAt, List.getElem?_toArray, List.getElem?_cons_succ, List.getElem?_cons_zero, Option.bind_some, Act.put, List.setIfInBounds_toArray, List.set_cons_zero, List.set_cons_succ]
    exact rfl
  case hC6 =>
    intro k o ho e W hx hs hd
    match k, ho, hd with
    | 0, ho, hd =>
      have ho := Option.some.inj ho
      subst ho
      have f0 := (bB.below hs lB).cell 0
      have f1 := (bB.below hs lB).cell 1
      have f2 := (bB.below hs lB).lt
      go_simp
      simp only [Sx.LV]
      exact ⟨Below.refl _ _, rfl⟩
    | 1, ho, hd =>
      have ho := Option.some.inj ho
      subst ho
      go_simp
      simp only [Sx.LV]
      refine (p_any _).mono ?_
      rintro e1 W1 ⟨A, n, c, rfl, hl, hb⟩
      exact ⟨_, rfl, hb, A, n, c, rfl, hl⟩
    | 2, ho, hd =>
      have ho := Option.some.inj ho
      subst ho
      go_simp
      simp only [Sx.LV]
      exact ⟨(Below.refl _ _).alloc (Nat.le_refl _) _, _, _, _, rfl, ins_blk (l := [0, 0]) (Blk.new _ _ _) (by simp)⟩
    | 3, ho, hd =>
      have ho := Option.some.inj ho
      subst ho
      obtain ⟨A2, n2, c2, e2, h2⟩ : Sp.ok (.is [0, 0]) (e 2) W := hd 2 (by decide)
      go_simp
      simp only [Sx.LV]
      refine (of_any _ _ _ _).mono ?_
      rintro e1 w1 ⟨rfl, rfl⟩
      exact ⟨_, rfl, Below.refl _ _, _, _, _, rfl, h2⟩
    | 4, ho, hd =>
      have ho := Option.some.inj ho
      subst ho
      have e0 : e 0 = (.agg #[.int .i64 4, .int .i64 1]) := hd 0 (by decide)
      obtain ⟨A1, n1, c1, e1, h1⟩ : Sp.ok (.li pL) (e 1) W := hd 1 (by decide)
      obtain ⟨A3, n3, c3, e3, h3⟩ : Sp.ok (.is [0, 0]) (e 3) W := hd 3 (by decide)
      go_simp
      simp only [Sx.LV]
      have hz3 := h3.len
      refine (toldF_any A1 A3 n1 c1 n3 c3 pL [0, 0] 4 1 _ (h1) (h3) (by have := h1.1; simp at this; omega) (by decide)).mono ?_
      rw [kTold.1, kTold.2.1]
      rintro e1 W1 ⟨Ar, nr, cr, rfl, hr, hb⟩
      exact ⟨_, rfl, hb, _, _, _, rfl, hr⟩
    | 5, ho, hd =>
      have ho := Option.some.inj ho
      subst ho
      obtain ⟨A4, n4, c4, e4, h4⟩ : Sp.ok (.tlt [[], [3]] (.int .i64 0)) (e 4) W := hd 4 (by decide)
      go_simp
      simp only [Sx.LV]
      exact ⟨Below.refl _ _, _, _, _, rfl, h4⟩
    | 6, ho, hd =>
      have ho := Option.some.inj ho
      subst ho
      obtain ⟨A5, n5, c5, e5, h5⟩ : Sp.ok (.tlt [[], [3]] (.int .i64 0)) (e 5) W := hd 5 (by decide)
      go_simp
      simp only [Sx.LV]
      exact ⟨Below.refl _ _, _, _, _, rfl, h5⟩
    | 7, ho, hd =>
      have ho := Option.some.inj ho
      subst ho
      obtain ⟨A5, n5, c5, e5, h5⟩ : Sp.ok (.tlt [[], [3]] (.int .i64 0)) (e 5) W := hd 5 (by decide)
      go_simp
      simp only [Sx.LV]
      exact ⟨Below.refl _ _, rfl⟩
    | 8, ho, hd =>
      have ho := Option.some.inj ho
      subst ho
      obtain ⟨A6, n6, c6, e6, h6⟩ : Sp.ok (.lt [[], [3]]) (e 6) W := hd 6 (by decide)
      go_simp
      simp only [Sx.LV]
      exact ⟨Below.refl _ _, _, _, _, rfl, h6⟩
    | 9, ho, hd =>
      have ho := Option.some.inj ho
      subst ho
      have e7 : e 7 = (.int .i64 0) := hd 7 (by decide)
      go_simp
      simp only [Sx.LV]
      exact ⟨Below.refl _ _, rfl⟩
    | k + 10, ho, _ => cases ho
  intro e V hv hst0 hp
  obtain ⟨At, nt, ct, e8, ht⟩ : Sp.ok (.lt [[], [3]]) (e 8) V := hp 8 (by decide)
  have Ht := hid ht
  clear ht
  have e9 : e 9 = (.int .i64 0) := hp 9 (by decide)
  have hst : Below W0.heap.size W0 V := hst0
  replace hbel := hbel.trans (hst.mono hsz)
  replace hsz := hbel.size
  replace bB := bB.below hst bB.lt
  clear p0 p1 lB
  have p0 := bB.cell 0
  have p1 := bB.cell 1
  have lB := bB.lt
  replace HC := hid (HC.out.below hst hst.size)
  replace Hr := hid (Hr.out.below hst hst.size)
  replace HX := hid (HX.out.below hst hst.size)
  replace HY := hid (HY.out.below hst hst.size)
  try simp only [e8, e9]
  clear hp hst hst0 hv
  obtain ⟨W0, rfl⟩ : ∃ W0 : World, W0 = V := ⟨_, rfl⟩
  go_wp2_with (fail)
  refine Sx.wp_region_free (fun W => Below W0.heap.size W0 W) (hSb W0) (SpA [.val (.agg #[.int .i64 4, .int .i64 1]), .li qL, .is [1, 1, 1], .is [1, 1, 1], .tsl  (.int .i64 23), .tsl  (.int .i64 23), .sl , .val (.int .i64 23), .sl , .val (.int .i64 23)]) (SpA.keep _) (fun k => ([[], [], [], [2], [0, 1, 3], [4], [5], [5], [6], [7]] : List (List Nat)).getD k []) [0, 1, 2, 3, 4, 5, 6, 7, 8, 9] rfl ?X7 ?hX7 (by kernel_rfl) (by kernel_rfl) ((Below.refl _ _).drew) ?hC7 ?hQ7
  case hX7 =>
    intro e
    simp only [Sx.putF, Sx.dstAt, List.getElem?_toArray, List.getElem?_cons_succ, List.getElem?_cons_zero, Option.bind_some, Act.put, List.setIfInBounds_toArray, List.set_cons_zero, List.set_cons_succ]
    exact rfl
  case hC7 =>
    intro k o ho e W hx hs hd
    match k, ho, hd with
    | 0, ho, hd =>
      have ho := Option.some.inj ho
      subst ho
      have f0 := (bB.below hs lB).cell 0
      have f1 := (bB.below hs lB).cell 1
      have f2 := (bB.below hs lB).lt
      go_simp
      simp only [Sx.LV]
      exact ⟨Below.refl _ _, rfl⟩
    | 1, ho, hd =>
      have ho := Option.some.inj ho
      subst ho
      go_simp
      simp only [Sx.LV]
      refine (q_any _).mono ?_
      rintro e1 W1 ⟨A, n, c, rfl, hl, hb⟩
      exact ⟨_, rfl, hb, A, n, c, rfl, hl⟩
    | 2, ho, hd =>
      have ho := Option.some.inj ho
      subst ho
      go_simp
      simp only [Sx.LV]
      exact ⟨(Below.refl _ _).alloc (Nat.le_refl _) _, _, _, _, rfl, ins_blk (l := [1, 1, 1]) (Blk.new _ _ _) (by simp)⟩
    | 3, ho, hd =>
      have ho := Option.some.inj ho
      subst ho
      obtain ⟨A2, n2, c2, e2, h2⟩ : Sp.ok (.is [1, 1, 1]) (e 2) W := hd 2 (by decide)
      go_simp
      simp only [Sx.LV]
      refine (of_any _ _ _ _).mono ?_
      rintro e1 w1 ⟨rfl, rfl⟩
      exact ⟨_, rfl, Below.refl _ _, _, _, _, rfl, h2⟩
    | 4, ho, hd =>
      have ho := Option.some.inj ho
      subst ho
      have e0 : e 0 = (.agg #[.int .i64 4, .int .i64 1]) := hd 0 (by decide)
      obtain ⟨A1, n1, c1, e1, h1⟩ : Sp.ok (.li qL) (e 1) W := hd 1 (by decide)
      obtain ⟨A3, n3, c3, e3, h3⟩ : Sp.ok (.is [1, 1, 1]) (e 3) W := hd 3 (by decide)
      go_simp
      simp only [Sx.LV]
      have hz3 := h3.len
      refine (toldF_any A1 A3 n1 c1 n3 c3 qL [1, 1, 1] 4 1 _ (h1) (h3) (by have := h1.1; simp at this; omega) (by decide)).mono ?_
      rw [kTold.2.2]
      rintro e1 W1 ⟨Ar, nr, cr, rfl, -, hb⟩
      exact ⟨_, rfl, hb, _, _, _, rfl, trivial⟩
    | 5, ho, hd =>
      have ho := Option.some.inj ho
      subst ho
      obtain ⟨A4, n4, c4, e4, h4⟩ : Sp.ok (.tsl  (.int .i64 23)) (e 4) W := hd 4 (by decide)
      go_simp
      simp only [Sx.LV]
      exact ⟨Below.refl _ _, _, _, _, rfl, h4⟩
    | 6, ho, hd =>
      have ho := Option.some.inj ho
      subst ho
      obtain ⟨A5, n5, c5, e5, h5⟩ : Sp.ok (.tsl  (.int .i64 23)) (e 5) W := hd 5 (by decide)
      go_simp
      simp only [Sx.LV]
      exact ⟨Below.refl _ _, _, _, _, rfl, h5⟩
    | 7, ho, hd =>
      have ho := Option.some.inj ho
      subst ho
      obtain ⟨A5, n5, c5, e5, h5⟩ : Sp.ok (.tsl  (.int .i64 23)) (e 5) W := hd 5 (by decide)
      go_simp
      simp only [Sx.LV]
      exact ⟨Below.refl _ _, rfl⟩
    | 8, ho, hd =>
      have ho := Option.some.inj ho
      subst ho
      obtain ⟨A6, n6, c6, e6, h6⟩ : Sp.ok (.sl ) (e 6) W := hd 6 (by decide)
      go_simp
      simp only [Sx.LV]
      exact ⟨Below.refl _ _, _, _, _, rfl, h6⟩
    | 9, ho, hd =>
      have ho := Option.some.inj ho
      subst ho
      have e7 : e 7 = (.int .i64 23) := hd 7 (by decide)
      go_simp
      simp only [Sx.LV]
      exact ⟨Below.refl _ _, rfl⟩
    | k + 10, ho, _ => cases ho
  intro e V hv hst0 hp
  obtain ⟨Au, nu, cu, e8, hu⟩ : Sp.ok (.sl ) (e 8) V := hp 8 (by decide)
  have Hu := hid hu
  clear hu
  have e9 : e 9 = (.int .i64 23) := hp 9 (by decide)
  have hst : Below W0.heap.size W0 V := hst0
  replace hbel := hbel.trans (hst.mono hsz)
  replace hsz := hbel.size
  replace bB := bB.below hst bB.lt
  clear p0 p1 lB
  have p0 := bB.cell 0
  have p1 := bB.cell 1
  have lB := bB.lt
  replace HC := hid (HC.out.below hst hst.size)
  replace Hr := hid (Hr.out.below hst hst.size)
  replace HX := hid (HX.out.below hst hst.size)
  replace HY := hid (HY.out.below hst hst.size)
  replace Ht := hid (Ht.out.below hst hst.size)
  try simp only [e8, e9]
  clear hp hst hst0 hv
  obtain ⟨W0, rfl⟩ : ∃ W0 : World, W0 = V := ⟨_, rfl⟩
  clear Hu
  go_wp2_with (fail)
  refine Sx.wp_region_free (fun W => Below W0.heap.size W0 W) (hSb W0) (SpA [.val (.agg #[.int .i64 4, .int .i64 1]), .li qL, .val (.int .i64 16), .val (.agg #[.int .i64 4, .int .i64 1]), .is [0], .is [0], .is [1], .is [1], .is [2], .is [2], .is [3], .is [3], .li sL, .li sL, .val (.int .i64 0), .val (.int .i64 16), .val (.int .i64 0)]) (SpA.keep _) (fun k => ([[], [], [0, 1], [], [], [4], [], [6], [], [8], [], [10], [5, 7, 9, 11], [12], [3, 13], [2], [14]] : List (List Nat)).getD k []) [0, 1, 2, 3, 4, 5, 6, 7, 8, 9, 10, 11, 12, 13, 14, 15, 16] rfl ?X8 ?hX8 (by kernel_rfl) (by kernel_rfl) ((Below.refl _ _).drew) ?hC8 ?hQ8
  case hX8 =>
    intro e
    simp only [Sx.putF, Sx.dstAt, List.getElem?_toArray, List.getElem?_cons_succ, List.getElem?_cons_zero, Option.bind_some, Act.put, List.setIfInBounds_toArray, List.set_cons_zero, List.set_cons_succ]
    exact rfl
  case hC8 =>
    intro k o ho e W hx hs hd
    match k, ho, hd with
    | 0, ho, hd =>
      have ho := Option.some.inj ho
      subst ho
      have f0 := (bB.below hs lB).cell 0
      have f1 := (bB.below hs lB).cell 1
      have f2 := (bB.below hs lB).lt
      go_simp
      simp only [Sx.LV]
      exact ⟨Below.refl _ _, rfl⟩
    | 1, ho, hd =>
      have ho := Option.some.inj ho
      subst ho
      go_simp
      simp only [Sx.LV]
      refine (q_any _).mono ?_
      rintro e1 W1 ⟨A, n, c, rfl, hl, hb⟩
      exact ⟨_, rfl, hb, A, n, c, rfl, hl⟩
    | 2, ho, hd =>
      have ho := Option.some.inj ho
      subst ho
      have e0 : e 0 = (.agg #[.int .i64 4, .int .i64 1]) := hd 0 (by decide)
      obtain ⟨A1, n1, c1, e1, h1⟩ : Sp.ok (.li qL) (e 1) W := hd 1 (by decide)
      go_simp
      simp only [Sx.LV]
      refine (checkPlain_any A1 n1 c1 qL 4 1 _ (h1) (by have := h1.1; simp at this; omega) (by decide)).mono ?_
      rw [kPlain.1]
      rintro e1 W1 ⟨rfl, hb⟩
      exact ⟨_, rfl, hb, rfl⟩
    | 3, ho, hd =>
      have ho := Option.some.inj ho
      subst ho
      have f0 := (bB.below hs lB).cell 0
      have f1 := (bB.below hs lB).cell 1
      have f2 := (bB.below hs lB).lt
      go_simp
      simp only [Sx.LV]
      exact ⟨Below.refl _ _, rfl⟩
    | 4, ho, hd =>
      have ho := Option.some.inj ho
      subst ho
      go_simp
      simp only [Sx.LV]
      exact ⟨(Below.refl _ _).alloc (Nat.le_refl _) _, _, _, _, rfl, ins_blk (l := [0]) (Blk.new _ _ _) (by simp)⟩
    | 5, ho, hd =>
      have ho := Option.some.inj ho
      subst ho
      obtain ⟨A4, n4, c4, e4, h4⟩ : Sp.ok (.is [0]) (e 4) W := hd 4 (by decide)
      go_simp
      simp only [Sx.LV]
      refine (of_any _ _ _ _).mono ?_
      rintro e1 w1 ⟨rfl, rfl⟩
      exact ⟨_, rfl, Below.refl _ _, _, _, _, rfl, h4⟩
    | 6, ho, hd =>
      have ho := Option.some.inj ho
      subst ho
      go_simp
      simp only [Sx.LV]
      exact ⟨(Below.refl _ _).alloc (Nat.le_refl _) _, _, _, _, rfl, ins_blk (l := [1]) (Blk.new _ _ _) (by simp)⟩
    | 7, ho, hd =>
      have ho := Option.some.inj ho
      subst ho
      obtain ⟨A6, n6, c6, e6, h6⟩ : Sp.ok (.is [1]) (e 6) W := hd 6 (by decide)
      go_simp
      simp only [Sx.LV]
      refine (of_any _ _ _ _).mono ?_
      rintro e1 w1 ⟨rfl, rfl⟩
      exact ⟨_, rfl, Below.refl _ _, _, _, _, rfl, h6⟩
    | 8, ho, hd =>
      have ho := Option.some.inj ho
      subst ho
      go_simp
      simp only [Sx.LV]
      exact ⟨(Below.refl _ _).alloc (Nat.le_refl _) _, _, _, _, rfl, ins_blk (l := [2]) (Blk.new _ _ _) (by simp)⟩
    | 9, ho, hd =>
      have ho := Option.some.inj ho
      subst ho
      obtain ⟨A8, n8, c8, e8, h8⟩ : Sp.ok (.is [2]) (e 8) W := hd 8 (by decide)
      go_simp
      simp only [Sx.LV]
      refine (of_any _ _ _ _).mono ?_
      rintro e1 w1 ⟨rfl, rfl⟩
      exact ⟨_, rfl, Below.refl _ _, _, _, _, rfl, h8⟩
    | 10, ho, hd =>
      have ho := Option.some.inj ho
      subst ho
      go_simp
      simp only [Sx.LV]
      exact ⟨(Below.refl _ _).alloc (Nat.le_refl _) _, _, _, _, rfl, ins_blk (l := [3]) (Blk.new _ _ _) (by simp)⟩
    | 11, ho, hd =>
      have ho := Option.some.inj ho
      subst ho
      obtain ⟨A10, n10, c10, e10, h10⟩ : Sp.ok (.is [3]) (e 10) W := hd 10 (by decide)
      go_simp
      simp only [Sx.LV]
      refine (of_any _ _ _ _).mono ?_
      rintro e1 w1 ⟨rfl, rfl⟩
      exact ⟨_, rfl, Below.refl _ _, _, _, _, rfl, h10⟩
    | 12, ho, hd =>
      have ho := Option.some.inj ho
      subst ho
      obtain ⟨A5, n5, c5, e5, h5⟩ : Sp.ok (.is [0]) (e 5) W := hd 5 (by decide)
      obtain ⟨A7, n7, c7, e7, h7⟩ : Sp.ok (.is [1]) (e 7) W := hd 7 (by decide)
      obtain ⟨A9, n9, c9, e9, h9⟩ : Sp.ok (.is [2]) (e 9) W := hd 9 (by decide)
      obtain ⟨A11, n11, c11, e11, h11⟩ : Sp.ok (.is [3]) (e 11) W := hd 11 (by decide)
      go_simp
      simp only [Sx.LV]
      have hbx : Below W.heap.size W _ := (Below.refl W.heap.size W).alloc (Nat.le_refl _) (.cells #[.slice A5 n5 c5, .slice A7 n7 c7, .slice A9 n9 c9, .slice A11 n11 c11] 25)
      exact ⟨hbx, _, _, _, rfl, lis_four (Blk.new _ _ _) (h5.below hbx hbx.size) (h7.below hbx hbx.size) (h9.below hbx hbx.size) (h11.below hbx hbx.size)⟩
    | 13, ho, hd =>
      have ho := Option.some.inj ho
      subst ho
      obtain ⟨A12, n12, c12, e12, h12⟩ : Sp.ok (.li sL) (e 12) W := hd 12 (by decide)
      go_simp
      simp only [Sx.LV]
      refine (plan_any _ _ _ _).mono ?_
      rintro e1 w1 ⟨rfl, rfl⟩
      exact ⟨_, rfl, Below.refl _ _, _, _, _, rfl, h12⟩
    | 14, ho, hd =>
      have ho := Option.some.inj ho
      subst ho
      have e3 : e 3 = (.agg #[.int .i64 4, .int .i64 1]) := hd 3 (by decide)
      obtain ⟨A13, n13, c13, e13, h13⟩ : Sp.ok (.li sL) (e 13) W := hd 13 (by decide)
      go_simp
      simp only [Sx.LV]
      refine (checkPlain_any A13 n13 c13 sL 4 1 _ (h13) (by have := h13.1; simp at this; omega) (by decide)).mono ?_
      rw [kPlain.2]
      rintro e1 W1 ⟨rfl, hb⟩
      exact ⟨_, rfl, hb, rfl⟩
    | 15, ho, hd =>
      have ho := Option.some.inj ho
      subst ho
      have e2 : e 2 = (.int .i64 16) := hd 2 (by decide)
      go_simp
      simp only [Sx.LV]
      exact ⟨Below.refl _ _, rfl⟩
    | 16, ho, hd =>
      have ho := Option.some.inj ho
      subst ho
      have e14 : e 14 = (.int .i64 0) := hd 14 (by decide)
      go_simp
      simp only [Sx.LV]
      exact ⟨Below.refl _ _, rfl⟩
    | k + 17, ho, _ => cases ho
  intro e V hv hst0 hp
  have e15 : e 15 = (.int .i64 16) := hp 15 (by decide)
  have e16 : e 16 = (.int .i64 0) := hp 16 (by decide)
  have hst : Below W0.heap.size W0 V := hst0
  replace hbel := hbel.trans (hst.mono hsz)
  replace hsz := hbel.size
  replace bB := bB.below hst bB.lt
  clear p0 p1 lB
  have p0 := bB.cell 0
  have p1 := bB.cell 1
  have lB := bB.lt
  replace HC := hid (HC.out.below hst hst.size)
  replace Hr := hid (Hr.out.below hst hst.size)
  replace HX := hid (HX.out.below hst hst.size)
  replace HY := hid (HY.out.below hst hst.size)
  replace Ht := hid (Ht.out.below hst hst.size)
  try simp only [e15, e16]
  clear hp hst hst0 hv
  obtain ⟨W0, rfl⟩ : ∃ W0 : World, W0 = V := ⟨_, rfl⟩
  go_wp2_with (fail)
  refine Sx.wp_region_el (fun W => Below W0.heap.size W0 W) (hSb W0) [0] 9 (by kernel_rfl) (by kernel_rfl) ((Below.refl _ _).drew) ?_
  simp only [pick, List.getElem?_toArray, List.getElem?_cons_zero, List.getElem?_cons_succ]
  iterate 1 (refine Sx.wpE_val (v := ?_) (by rfl) (fun W hW => ?_) ?_; rotate_left; (· have f0 := (bB.below hW lB).cell 0; have f1 := (bB.below hW lB).cell 1; have f2 := (bB.below hW lB).lt; go_simp; with_reducible rfl); simp only [Act.put, List.setIfInBounds_toArray, List.set_cons_zero, List.set_cons_succ])
  simp only [Sx.wpE]
  (refine Sx.wpM_one 1 _ (by simp only [List.getElem?_toArray, List.getElem?_cons_zero, List.getElem?_cons_succ]; rfl) (by kernel_rfl) (by rfl) ?_)
  intro U9 hu9 hs9
  (go_simp; simp only [LUpon, Act.put]; try simp only [List.setIfInBounds_toArray, List.set_cons_zero, List.set_cons_succ])
  refine (q_any _).mono ?_
  rintro e V5 ⟨A5, n5, c5, rfl, hl5, hb⟩
  have ht9 : Below W0.heap.size W0 V5 := hs9.trans (hb.mono hs9.size)
  refine ⟨_, rfl, ht9, ?_⟩
  have HL := hid hl5
  clear hl5 hb
  try simp only [Act.put, List.setIfInBounds_toArray, List.set_cons_zero, List.set_cons_succ]
  (refine Sx.wpM_one 2 _ (by simp only [List.getElem?_toArray, List.getElem?_cons_zero, List.getElem?_cons_succ]; rfl) (by kernel_rfl) (by rfl) ?_)
  intro U10 hu10 hs10
  (go_simp; simp only [LUpon, Act.put]; try simp only [List.setIfInBounds_toArray, List.set_cons_zero, List.set_cons_succ])
  have HL2 := hid (HL.out.below hu10 hu10.size)
  clear HL
  refine (covered_any A5 n5 c5 qL 4 1 _ (HL2.out) (by have := HL2.out.1; simp at this; omega) (by decide)).mono ?_
  rw [kCov.1]
  rintro e U10x ⟨Av, nv, cv, rfl, hv, hb⟩
  have ht10 : Below W0.heap.size W0 U10x := hs10.trans (hb.mono hs10.size)
  refine ⟨_, rfl, ht10, ?_⟩
  clear hb HL2
  have HV := hid hv
  clear hv
  try simp only [Act.put, List.setIfInBounds_toArray, List.set_cons_zero, List.set_cons_succ]
  refine Sx.wpM_early (hSb W0) (by kernel_rfl) [3, 4, 5, 6, 7, 8, 9] 0 _ _ (by kernel_rfl) ?_
  simp only [pick, List.getElem?_toArray, List.getElem?_cons_zero, List.getElem?_cons_succ]
  iterate 7 (refine Sx.wpE_val (v := ?_) (by rfl) (fun W hW => ?_) ?_; rotate_left; (· skip; go_simp; with_reducible rfl); simp only [Act.put, List.setIfInBounds_toArray, List.set_cons_zero, List.set_cons_succ])
  simp only [Sx.wpE]
  refine Sx.wpM_end (by kernel_rfl) ?_
  intro Vz hvz hst0
  replace HV := hid (HV.out.below hvz hvz.size)
  have hst : Below W0.heap.size W0 Vz := hst0
  replace hbel := hbel.trans (hst.mono hsz)
  replace hsz := hbel.size
  replace bB := bB.below hst bB.lt
  clear p0 p1 lB
  have p0 := bB.cell 0
  have p1 := bB.cell 1
  have lB := bB.lt
  replace HC := hid (HC.out.below hst hst.size)
  replace Hr := hid (Hr.out.below hst hst.size)
  replace HX := hid (HX.out.below hst hst.size)
  replace HY := hid (HY.out.below hst hst.size)
  replace Ht := hid (Ht.out.below hst hst.size)
  obtain ⟨W0, rfl⟩ : ∃ W0 : World, W0 = Vz := ⟨_, rfl⟩
  go_wp2_with (fail)
  refine Sx.wp_region_el (fun W => Below W0.heap.size W0 W) (hSb W0) [0] 9 (by kernel_rfl) (by kernel_rfl) ((Below.refl _ _).drew) ?_
  simp only [pick, List.getElem?_toArray, List.getElem?_cons_zero, List.getElem?_cons_succ]
  iterate 1 (refine Sx.wpE_val (v := ?_) (by rfl) (fun W hW => ?_) ?_; rotate_left; (· have f0 := (bB.below hW lB).cell 0; have f1 := (bB.below hW lB).cell 1; have f2 := (bB.below hW lB).lt; go_simp; with_reducible rfl); simp only [Act.put, List.setIfInBounds_toArray, List.set_cons_zero, List.set_cons_succ])
  simp only [Sx.wpE]
  (refine Sx.wpM_one 1 _ (by simp only [List.getElem?_toArray, List.getElem?_cons_zero, List.getElem?_cons_succ]; rfl) (by kernel_rfl) (by rfl) ?_)
  intro U11 hu11 hs11
  (go_simp; simp only [LUpon, Act.put]; try simp only [List.setIfInBounds_toArray, List.set_cons_zero, List.set_cons_succ])
  refine (p_any _).mono ?_
  rintro e V6 ⟨A6, n6, c6, rfl, hl6, hb⟩
  have ht11 : Below W0.heap.size W0 V6 := hs11.trans (hb.mono hs11.size)
  refine ⟨_, rfl, ht11, ?_⟩
  have HL := hid hl6
  clear hl6 hb
  try simp only [Act.put, List.setIfInBounds_toArray, List.set_cons_zero, List.set_cons_succ]
  (refine Sx.wpM_one 2 _ (by simp only [List.getElem?_toArray, List.getElem?_cons_zero, List.getElem?_cons_succ]; rfl) (by kernel_rfl) (by rfl) ?_)
  intro U12 hu12 hs12
  (go_simp; simp only [LUpon, Act.put]; try simp only [List.setIfInBounds_toArray, List.set_cons_zero, List.set_cons_succ])
  have HL2 := hid (HL.out.below hu12 hu12.size)
  clear HL
  refine (covered_any A6 n6 c6 pL 4 1 _ (HL2.out) (by have := HL2.out.1; simp at this; omega) (by decide)).mono ?_
  rw [kCov.2]
  rintro e U12x ⟨Ak, nk, ck, rfl, hk, hb⟩
  have ht12 : Below W0.heap.size W0 U12x := hs12.trans (hb.mono hs12.size)
  refine ⟨_, rfl, ht12, ?_⟩
  clear hb HL2
  have HK := hid hk
  clear hk
  try simp only [Act.put, List.setIfInBounds_toArray, List.set_cons_zero, List.set_cons_succ]
  refine Sx.wpM_early (hSb W0) (by kernel_rfl) [3, 4, 5, 6, 7, 8, 9] 0 _ _ (by kernel_rfl) ?_
  simp only [pick, List.getElem?_toArray, List.getElem?_cons_zero, List.getElem?_cons_succ]
  iterate 7 (refine Sx.wpE_val (v := ?_) (by rfl) (fun W hW => ?_) ?_; rotate_left; (· skip; go_simp; with_reducible rfl); simp only [Act.put, List.setIfInBounds_toArray, List.set_cons_zero, List.set_cons_succ])
  simp only [Sx.wpE]
  refine Sx.wpM_end (by kernel_rfl) ?_
  intro Vz hvz hst0
  replace HK := hid (HK.out.below hvz hvz.size)
  have hst : Below W0.heap.size W0 Vz := hst0
  replace hbel := hbel.trans (hst.mono hsz)
  replace hsz := hbel.size
  replace bB := bB.below hst bB.lt
  clear p0 p1 lB
  have p0 := bB.cell 0
  have p1 := bB.cell 1
  have lB := bB.lt
  replace HC := hid (HC.out.below hst hst.size)
  replace Hr := hid (Hr.out.below hst hst.size)
  replace HX := hid (HX.out.below hst hst.size)
  replace HY := hid (HY.out.below hst hst.size)
  replace Ht := hid (Ht.out.below hst hst.size)
  replace HV := hid (HV.out.below hst hst.size)
  obtain ⟨W0, rfl⟩ : ∃ W0 : World, W0 = Vz := ⟨_, rfl⟩
  go_wp2_with (fail)
  refine Sx.wp_region_free (fun W => Below W0.heap.size W0 W) (hSb W0) (SpA [.val (.agg #[.int .i64 4, .int .i64 1]), .li qL, .is [1, 1, 0], .is [1, 1, 0], .tis [0, 1, 2] (.int .i64 0), .tis [0, 1, 2] (.int .i64 0), .is [0, 1, 2], .val (.int .i64 0), .is [0, 1, 2], .val (.int .i64 0)]) (SpA.keep _) (fun k => ([[], [], [], [2], [0, 1, 3], [4], [5], [5], [6], [7]] : List (List Nat)).getD k []) [0, 1, 2, 3, 4, 5, 6, 7, 8, 9] rfl ?X11 ?hX11 (by kernel_rfl) (by kernel_rfl) ((Below.refl _ _).drew) ?hC11 ?hQ11
  case hX11 =>
    intro e
    simp only [Sx.putF, Sx.dstAt, List.getElem?_toArray, List.getElem?_cons_succ, List.getElem?_cons_zero, Option.bind_some, Act.put, List.setIfInBounds_toArray, List.set_cons_zero, List.set_cons_succ]
    exact rfl
  case hC11 =>
    intro k o ho e W hx hs hd
    match k, ho, hd with
    | 0, ho, hd =>
      have ho := Option.some.inj ho
      subst ho
      have f0 := (bB.below hs lB).cell 0
      have f1 := (bB.below hs lB).cell 1
      have f2 := (bB.below hs lB).lt
      go_simp
      simp only [Sx.LV]
      exact ⟨Below.refl _ _, rfl⟩
    | 1, ho, hd =>
      have ho := Option.some.inj ho
      subst ho
      go_simp
      simp only [Sx.LV]
      refine (q_any _).mono ?_
      rintro e1 W1 ⟨A, n, c, rfl, hl, hb⟩
      exact ⟨_, rfl, hb, A, n, c, rfl, hl⟩
    | 2, ho, hd =>
      have ho := Option.some.inj ho
      subst ho
      go_simp
      simp only [Sx.LV]
      exact ⟨(Below.refl _ _).alloc (Nat.le_refl _) _, _, _, _, rfl, ins_blk (l := [1, 1, 0]) (Blk.new _ _ _) (by simp)⟩
    | 3, ho, hd =>
      have ho := Option.some.inj ho
      subst ho
      obtain ⟨A2, n2, c2, e2, h2⟩ : Sp.ok (.is [1, 1, 0]) (e 2) W := hd 2 (by decide)
      go_simp
      simp only [Sx.LV]
      refine (of_any _ _ _ _).mono ?_
      rintro e1 w1 ⟨rfl, rfl⟩
      exact ⟨_, rfl, Below.refl _ _, _, _, _, rfl, h2⟩
    | 4, ho, hd =>
      have ho := Option.some.inj ho
      subst ho
      have e0 : e 0 = (.agg #[.int .i64 4, .int .i64 1]) := hd 0 (by decide)
      obtain ⟨A1, n1, c1, e1, h1⟩ : Sp.ok (.li qL) (e 1) W := hd 1 (by decide)
      obtain ⟨A3, n3, c3, e3, h3⟩ : Sp.ok (.is [1, 1, 0]) (e 3) W := hd 3 (by decide)
      go_simp
      simp only [Sx.LV]
      have hz3 := h3.len
      refine (suspects_any A1 A3 n1 c1 n3 c3 qL [1, 1, 0] 4 1 _ (h1) (h3) (by have := h1.1; simp at this; omega) (by decide)).mono ?_
      rw [kSus.1, kSus.2.1]
      rintro e1 W1 ⟨Ar, nr, cr, rfl, hr, hb⟩
      exact ⟨_, rfl, hb, _, _, _, rfl, hr⟩
    | 5, ho, hd =>
      have ho := Option.some.inj ho
      subst ho
      obtain ⟨A4, n4, c4, e4, h4⟩ : Sp.ok (.tis [0, 1, 2] (.int .i64 0)) (e 4) W := hd 4 (by decide)
      go_simp
      simp only [Sx.LV]
      exact ⟨Below.refl _ _, _, _, _, rfl, h4⟩
    | 6, ho, hd =>
      have ho := Option.some.inj ho
      subst ho
      obtain ⟨A5, n5, c5, e5, h5⟩ : Sp.ok (.tis [0, 1, 2] (.int .i64 0)) (e 5) W := hd 5 (by decide)
      go_simp
      simp only [Sx.LV]
      exact ⟨Below.refl _ _, _, _, _, rfl, h5⟩
    | 7, ho, hd =>
      have ho := Option.some.inj ho
      subst ho
      obtain ⟨A5, n5, c5, e5, h5⟩ : Sp.ok (.tis [0, 1, 2] (.int .i64 0)) (e 5) W := hd 5 (by decide)
      go_simp
      simp only [Sx.LV]
      exact ⟨Below.refl _ _, rfl⟩
    | 8, ho, hd =>
      have ho := Option.some.inj ho
      subst ho
      obtain ⟨A6, n6, c6, e6, h6⟩ : Sp.ok (.is [0, 1, 2]) (e 6) W := hd 6 (by decide)
      go_simp
      simp only [Sx.LV]
      exact ⟨Below.refl _ _, _, _, _, rfl, h6⟩
    | 9, ho, hd =>
      have ho := Option.some.inj ho
      subst ho
      have e7 : e 7 = (.int .i64 0) := hd 7 (by decide)
      go_simp
      simp only [Sx.LV]
      exact ⟨Below.refl _ _, rfl⟩
    | k + 10, ho, _ => cases ho
  intro e V hv hst0 hp
  obtain ⟨Ao, no, co, e8, ho⟩ : Sp.ok (.is [0, 1, 2]) (e 8) V := hp 8 (by decide)
  have Ho := hid ho
  clear ho
  have e9 : e 9 = (.int .i64 0) := hp 9 (by decide)
  have hst : Below W0.heap.size W0 V := hst0
  replace hbel := hbel.trans (hst.mono hsz)
  replace hsz := hbel.size
  replace bB := bB.below hst bB.lt
  clear p0 p1 lB
  have p0 := bB.cell 0
  have p1 := bB.cell 1
  have lB := bB.lt
  replace HC := hid (HC.out.below hst hst.size)
  replace Hr := hid (Hr.out.below hst hst.size)
  replace HX := hid (HX.out.below hst hst.size)
  replace HY := hid (HY.out.below hst hst.size)
  replace Ht := hid (Ht.out.below hst hst.size)
  replace HV := hid (HV.out.below hst hst.size)
  replace HK := hid (HK.out.below hst hst.size)
  try simp only [e8, e9]
  clear hp hst hst0 hv
  obtain ⟨W0, rfl⟩ : ∃ W0 : World, W0 = V := ⟨_, rfl⟩
  go_wp2_with (fail)
  refine Sx.wp_region_free (fun W => Below W0.heap.size W0 W) (hSb W0) (SpA [.val (.agg #[.int .i64 4, .int .i64 1]), .li qL, .is [0, 0], .is [0, 0], .tsl  (.int .i64 15), .tsl  (.int .i64 15), .sl , .val (.int .i64 15), .sl , .val (.int .i64 15)]) (SpA.keep _) (fun k => ([[], [], [], [2], [0, 1, 3], [4], [5], [5], [6], [7]] : List (List Nat)).getD k []) [0, 1, 2, 3, 4, 5, 6, 7, 8, 9] rfl ?X12 ?hX12 (by kernel_rfl) (by kernel_rfl) ((Below.refl _ _).drew) ?hC12 ?hQ12
  case hX12 =>
    intro e
    simp only [Sx.putF, Sx.dstAt, List.getElem?_toArray, List.getElem?_cons_succ, List.getElem?_cons_zero, Option.bind_some, Act.put, List.setIfInBounds_toArray, List.set_cons_zero, List.set_cons_succ]
    exact rfl
  case hC12 =>
    intro k o ho e W hx hs hd
    match k, ho, hd with
    | 0, ho, hd =>
      have ho := Option.some.inj ho
      subst ho
      have f0 := (bB.below hs lB).cell 0
      have f1 := (bB.below hs lB).cell 1
      have f2 := (bB.below hs lB).lt
      go_simp
      simp only [Sx.LV]
      exact ⟨Below.refl _ _, rfl⟩
    | 1, ho, hd =>
      have ho := Option.some.inj ho
      subst ho
      go_simp
      simp only [Sx.LV]
      refine (q_any _).mono ?_
      rintro e1 W1 ⟨A, n, c, rfl, hl, hb⟩
      exact ⟨_, rfl, hb, A, n, c, rfl, hl⟩
    | 2, ho, hd =>
      have ho := Option.some.inj ho
      subst ho
      go_simp
      simp only [Sx.LV]
      exact ⟨(Below.refl _ _).alloc (Nat.le_refl _) _, _, _, _, rfl, ins_blk (l := [0, 0]) (Blk.new _ _ _) (by simp)⟩
    | 3, ho, hd =>
      have ho := Option.some.inj ho
      subst ho
      obtain ⟨A2, n2, c2, e2, h2⟩ : Sp.ok (.is [0, 0]) (e 2) W := hd 2 (by decide)
      go_simp
      simp only [Sx.LV]
      refine (of_any _ _ _ _).mono ?_
      rintro e1 w1 ⟨rfl, rfl⟩
      exact ⟨_, rfl, Below.refl _ _, _, _, _, rfl, h2⟩
    | 4, ho, hd =>
      have ho := Option.some.inj ho
      subst ho
      have e0 : e 0 = (.agg #[.int .i64 4, .int .i64 1]) := hd 0 (by decide)
      obtain ⟨A1, n1, c1, e1, h1⟩ : Sp.ok (.li qL) (e 1) W := hd 1 (by decide)
      obtain ⟨A3, n3, c3, e3, h3⟩ : Sp.ok (.is [0, 0]) (e 3) W := hd 3 (by decide)
      go_simp
      simp only [Sx.LV]
      have hz3 := h3.len
      refine (suspects_any A1 A3 n1 c1 n3 c3 qL [0, 0] 4 1 _ (h1) (h3) (by have := h1.1; simp at this; omega) (by decide)).mono ?_
      rw [kSus.2.2]
      rintro e1 W1 ⟨Ar, nr, cr, rfl, -, hb⟩
      exact ⟨_, rfl, hb, _, _, _, rfl, trivial⟩
    | 5, ho, hd =>
      have ho := Option.some.inj ho
      subst ho
      obtain ⟨A4, n4, c4, e4, h4⟩ : Sp.ok (.tsl  (.int .i64 15)) (e 4) W := hd 4 (by decide)
      go_simp
      simp only [Sx.LV]
      exact ⟨Below.refl _ _, _, _, _, rfl, h4⟩
    | 6, ho, hd =>
      have ho := Option.some.inj ho
      subst ho
      obtain ⟨A5, n5, c5, e5, h5⟩ : Sp.ok (.tsl  (.int .i64 15)) (e 5) W := hd 5 (by decide)
      go_simp
      simp only [Sx.LV]
      exact ⟨Below.refl _ _, _, _, _, rfl, h5⟩
    | 7, ho, hd =>
      have ho := Option.some.inj ho
      subst ho
      obtain ⟨A5, n5, c5, e5, h5⟩ : Sp.ok (.tsl  (.int .i64 15)) (e 5) W := hd 5 (by decide)
      go_simp
      simp only [Sx.LV]
      exact ⟨Below.refl _ _, rfl⟩
    | 8, ho, hd =>
      have ho := Option.some.inj ho
      subst ho
      obtain ⟨A6, n6, c6, e6, h6⟩ : Sp.ok (.sl ) (e 6) W := hd 6 (by decide)
      go_simp
      simp only [Sx.LV]
      exact ⟨Below.refl _ _, _, _, _, rfl, h6⟩
    | 9, ho, hd =>
      have ho := Option.some.inj ho
      subst ho
      have e7 : e 7 = (.int .i64 15) := hd 7 (by decide)
      go_simp
      simp only [Sx.LV]
      exact ⟨Below.refl _ _, rfl⟩
    | k + 10, ho, _ => cases ho
  intro e V hv hst0 hp
  obtain ⟨Aoo, noo, coo, e8, hoo⟩ : Sp.ok (.sl ) (e 8) V := hp 8 (by decide)
  have Hoo := hid hoo
  clear hoo
  have e9 : e 9 = (.int .i64 15) := hp 9 (by decide)
  have hst : Below W0.heap.size W0 V := hst0
  replace hbel := hbel.trans (hst.mono hsz)
  replace hsz := hbel.size
  replace bB := bB.below hst bB.lt
  clear p0 p1 lB
  have p0 := bB.cell 0
  have p1 := bB.cell 1
  have lB := bB.lt
  replace HC := hid (HC.out.below hst hst.size)
  replace Hr := hid (Hr.out.below hst hst.size)
  replace HX := hid (HX.out.below hst hst.size)
  replace HY := hid (HY.out.below hst hst.size)
  replace Ht := hid (Ht.out.below hst hst.size)
  replace HV := hid (HV.out.below hst hst.size)
  replace HK := hid (HK.out.below hst hst.size)
  replace Ho := hid (Ho.out.below hst hst.size)
  try simp only [e8, e9]
  clear hp hst hst0 hv
  obtain ⟨W0, rfl⟩ : ∃ W0 : World, W0 = V := ⟨_, rfl⟩
  clear Hoo
  go_wp2_with (fail)
  refine (bound_any 4 1 _).mono ?_
  rw [kBound, kBook.1]
  rintro e W2 ⟨rfl, hb⟩
  have hst : Below W0.heap.size W0 W2 := Below.trans (by repeat' (first | with_reducible assumption | with_reducible exact Below.refl _ _ | refine Below.alloc ?_ ?_ _ | refine Below.setCell ?_ ?_ _ | refine Below.drew ?_ | refine below_drewN ?_ _ | (simp; done) | (simp; omega) | omega)) (hb.mono (by first | (simp; done) | (simp; omega) | omega))
  clear hb
  replace hbel := hbel.trans (hst.mono hsz)
  replace hsz := hbel.size
  replace bB := bB.below hst bB.lt
  clear p0 p1 lB
  have p0 := bB.cell 0
  have p1 := bB.cell 1
  have lB := bB.lt
  replace HC := hid (HC.out.below hst hst.size)
  replace Hr := hid (Hr.out.below hst hst.size)
  replace HX := hid (HX.out.below hst hst.size)
  replace HY := hid (HY.out.below hst hst.size)
  replace Ht := hid (Ht.out.below hst hst.size)
  replace HV := hid (HV.out.below hst hst.size)
  replace HK := hid (HK.out.below hst hst.size)
  replace Ho := hid (Ho.out.below hst hst.size)
  clear hst
  obtain ⟨W0, rfl⟩ : ∃ W0 : World, W0 = W2 := ⟨_, rfl⟩
  go_wp2_with (fail)
  refine (neededF_any none none 0 0 0 0 [] [] 4 1 _ ⟨rfl, [], Sl.none_, by simp⟩ Sl.none_ (by decide) (by decide)).mono ?_
  rw [kNeed.1, kNeed.2.1]
  rintro e W2 ⟨rfl, hb⟩
  have hst : Below W0.heap.size W0 W2 := Below.trans (by repeat' (first | with_reducible assumption | with_reducible exact Below.refl _ _ | refine Below.alloc ?_ ?_ _ | refine Below.setCell ?_ ?_ _ | refine Below.drew ?_ | refine below_drewN ?_ _ | (simp; done) | (simp; omega) | omega)) (hb.mono (by first | (simp; done) | (simp; omega) | omega))
  clear hb
  replace hbel := hbel.trans (hst.mono hsz)
  replace hsz := hbel.size
  replace bB := bB.below hst bB.lt
  clear p0 p1 lB
  have p0 := bB.cell 0
  have p1 := bB.cell 1
  have lB := bB.lt
  replace HC := hid (HC.out.below hst hst.size)
  replace Hr := hid (Hr.out.below hst hst.size)
  replace HX := hid (HX.out.below hst hst.size)
  replace HY := hid (HY.out.below hst hst.size)
  replace Ht := hid (Ht.out.below hst hst.size)
  replace HV := hid (HV.out.below hst hst.size)
  replace HK := hid (HK.out.below hst hst.size)
  replace Ho := hid (Ho.out.below hst hst.size)
  clear hst
  obtain ⟨W0, rfl⟩ : ∃ W0 : World, W0 = W2 := ⟨_, rfl⟩
  go_wp2_with (fail)
  refine Sx.wp_region_free (fun W => Below W0.heap.size W0 W) (hSb W0) (SpA [.val (.agg #[.int .i64 4, .int .i64 1]), .li pL, .is [1, 0], .is [1, 0], .val (.tuple #[.int .i64 0, .int .i64 0]), .val (.tuple #[.int .i64 0, .int .i64 0]), .val (.int .i64 0), .val (.int .i64 0), .val (.int .i64 0), .val (.int .i64 0)]) (SpA.keep _) (fun k => ([[], [], [], [2], [0, 1, 3], [4], [5], [5], [6], [7]] : List (List Nat)).getD k []) [0, 1, 2, 3, 4, 5, 6, 7, 8, 9] rfl ?X15 ?hX15 (by kernel_rfl) (by kernel_rfl) ((Below.refl _ _).drew) ?hC15 ?hQ15
  case hX15 =>
    intro e
    simp only [Sx.putF, Sx.dstAt, List.getElem?_toArray, List.getElem?_cons_succ, List.getElem?_cons_zero, Option.bind_some, Act.put, List.setIfInBounds_toArray, List.set_cons_zero, List.set_cons_succ]
    exact rfl
  case hC15 =>
    intro k o ho e W hx hs hd
    match k, ho, hd with
    | 0, ho, hd =>
      have ho := Option.some.inj ho
      subst ho
      have f0 := (bB.below hs lB).cell 0
      have f1 := (bB.below hs lB).cell 1
      have f2 := (bB.below hs lB).lt
      go_simp
      simp only [Sx.LV]
      exact ⟨Below.refl _ _, rfl⟩
    | 1, ho, hd =>
      have ho := Option.some.inj ho
      subst ho
      go_simp
      simp only [Sx.LV]
      refine (p_any _).mono ?_
      rintro e1 W1 ⟨A, n, c, rfl, hl, hb⟩
      exact ⟨_, rfl, hb, A, n, c, rfl, hl⟩
    | 2, ho, hd =>
      have ho := Option.some.inj ho
      subst ho
      go_simp
      simp only [Sx.LV]
      exact ⟨(Below.refl _ _).alloc (Nat.le_refl _) _, _, _, _, rfl, ins_blk (l := [1, 0]) (Blk.new _ _ _) (by simp)⟩
    | 3, ho, hd =>
      have ho := Option.some.inj ho
      subst ho
      obtain ⟨A2, n2, c2, e2, h2⟩ : Sp.ok (.is [1, 0]) (e 2) W := hd 2 (by decide)
      go_simp
      simp only [Sx.LV]
      refine (of_any _ _ _ _).mono ?_
      rintro e1 w1 ⟨rfl, rfl⟩
      exact ⟨_, rfl, Below.refl _ _, _, _, _, rfl, h2⟩
    | 4, ho, hd =>
      have ho := Option.some.inj ho
      subst ho
      have e0 : e 0 = (.agg #[.int .i64 4, .int .i64 1]) := hd 0 (by decide)
      obtain ⟨A1, n1, c1, e1, h1⟩ : Sp.ok (.li pL) (e 1) W := hd 1 (by decide)
      obtain ⟨A3, n3, c3, e3, h3⟩ : Sp.ok (.is [1, 0]) (e 3) W := hd 3 (by decide)
      go_simp
      simp only [Sx.LV]
      have hz3 := h3.len
      refine (neededF_any A1 A3 n1 c1 n3 c3 pL [1, 0] 4 1 _ (h1) (h3) (by have := h1.1; simp at this; omega) (by decide)).mono ?_
      rw [kNeed.2.2.1, kNeed.2.2.2]
      rintro e1 W1 ⟨rfl, hb⟩
      exact ⟨_, rfl, hb, rfl⟩
    | 5, ho, hd =>
      have ho := Option.some.inj ho
      subst ho
      have e4 : e 4 = (.tuple #[.int .i64 0, .int .i64 0]) := hd 4 (by decide)
      go_simp
      simp only [Sx.LV]
      exact ⟨Below.refl _ _, rfl⟩
    | 6, ho, hd =>
      have ho := Option.some.inj ho
      subst ho
      have e5 : e 5 = (.tuple #[.int .i64 0, .int .i64 0]) := hd 5 (by decide)
      go_simp
      simp only [Sx.LV]
      exact ⟨Below.refl _ _, rfl⟩
    | 7, ho, hd =>
      have ho := Option.some.inj ho
      subst ho
      have e5 : e 5 = (.tuple #[.int .i64 0, .int .i64 0]) := hd 5 (by decide)
      go_simp
      simp only [Sx.LV]
      exact ⟨Below.refl _ _, rfl⟩
    | 8, ho, hd =>
      have ho := Option.some.inj ho
      subst ho
      have e6 : e 6 = (.int .i64 0) := hd 6 (by decide)
      go_simp
      simp only [Sx.LV]
      exact ⟨Below.refl _ _, rfl⟩
    | 9, ho, hd =>
      have ho := Option.some.inj ho
      subst ho
      have e7 : e 7 = (.int .i64 0) := hd 7 (by decide)
      go_simp
      simp only [Sx.LV]
      exact ⟨Below.refl _ _, rfl⟩
    | k + 10, ho, _ => cases ho
  intro e V hv hst0 hp
  have e8 : e 8 = (.int .i64 0) := hp 8 (by decide)
  have e9 : e 9 = (.int .i64 0) := hp 9 (by decide)
  have hst : Below W0.heap.size W0 V := hst0
  replace hbel := hbel.trans (hst.mono hsz)
  replace hsz := hbel.size
  replace bB := bB.below hst bB.lt
  clear p0 p1 lB
  have p0 := bB.cell 0
  have p1 := bB.cell 1
  have lB := bB.lt
  replace HC := hid (HC.out.below hst hst.size)
  replace Hr := hid (Hr.out.below hst hst.size)
  replace HX := hid (HX.out.below hst hst.size)
  replace HY := hid (HY.out.below hst hst.size)
  replace Ht := hid (Ht.out.below hst hst.size)
  replace HV := hid (HV.out.below hst hst.size)
  replace HK := hid (HK.out.below hst hst.size)
  replace Ho := hid (Ho.out.below hst hst.size)
  try simp only [e8, e9]
  clear hp hst hst0 hv
  obtain ⟨W0, rfl⟩ : ∃ W0 : World, W0 = V := ⟨_, rfl⟩
  go_wp2_with (fail)
  refine Sx.wp_region_free (fun W => Below W0.heap.size W0 W) (hSb W0) (SpA [.val (.agg #[.int .i64 4, .int .i64 1]), .li pL, .is [0, 0], .is [0, 0], .tis [3] (.int .i64 0), .tis [3] (.int .i64 0), .is [3], .val (.int .i64 0), .is [3], .val (.int .i64 0)]) (SpA.keep _) (fun k => ([[], [], [], [2], [0, 1, 3], [4], [5], [5], [6], [7]] : List (List Nat)).getD k []) [0, 1, 2, 3, 4, 5, 6, 7, 8, 9] rfl ?X16 ?hX16 (by kernel_rfl) (by kernel_rfl) ((Below.refl _ _).drew) ?hC16 ?hQ16
  case hX16 =>
    intro e
    simp only [Sx.putF, Sx.dstAt, List.getElem?_toArray, List.getElem?_cons_succ, List.getElem?_cons_zero, Option.bind_some, Act.put, List.setIfInBounds_toArray, List.set_cons_zero, List.set_cons_succ]
    exact rfl
  case hC16 =>
    intro k o ho e W hx hs hd
    match k, ho, hd with
    | 0, ho, hd =>
      have ho := Option.some.inj ho
      subst ho
      have f0 := (bB.below hs lB).cell 0
      have f1 := (bB.below hs lB).cell 1
      have f2 := (bB.below hs lB).lt
      go_simp
      simp only [Sx.LV]
      exact ⟨Below.refl _ _, rfl⟩
    | 1, ho, hd =>
      have ho := Option.some.inj ho
      subst ho
      go_simp
      simp only [Sx.LV]
      refine (p_any _).mono ?_
      rintro e1 W1 ⟨A, n, c, rfl, hl, hb⟩
      exact ⟨_, rfl, hb, A, n, c, rfl, hl⟩
    | 2, ho, hd =>
      have ho := Option.some.inj ho
      subst ho
      go_simp
      simp only [Sx.LV]
      exact ⟨(Below.refl _ _).alloc (Nat.le_refl _) _, _, _, _, rfl, ins_blk (l := [0, 0]) (Blk.new _ _ _) (by simp)⟩
    | 3, ho, hd =>
      have ho := Option.some.inj ho
      subst ho
      obtain ⟨A2, n2, c2, e2, h2⟩ : Sp.ok (.is [0, 0]) (e 2) W := hd 2 (by decide)
      go_simp
      simp only [Sx.LV]
      refine (of_any _ _ _ _).mono ?_
      rintro e1 w1 ⟨rfl, rfl⟩
      exact ⟨_, rfl, Below.refl _ _, _, _, _, rfl, h2⟩
    | 4, ho, hd =>
      have ho := Option.some.inj ho
      subst ho
      have e0 : e 0 = (.agg #[.int .i64 4, .int .i64 1]) := hd 0 (by decide)
      obtain ⟨A1, n1, c1, e1, h1⟩ : Sp.ok (.li pL) (e 1) W := hd 1 (by decide)
      obtain ⟨A3, n3, c3, e3, h3⟩ : Sp.ok (.is [0, 0]) (e 3) W := hd 3 (by decide)
      go_simp
      simp only [Sx.LV]
      have hz3 := h3.len
      refine (nextF_any A1 A3 n1 c1 n3 c3 pL [0, 0] 4 1 _ (h1) (h3) (by have := h1.1; simp at this; omega) (by decide)).mono ?_
      rw [kNext.1, kNext.2.2]
      rintro e1 W1 ⟨Ar, nr, cr, rfl, hr, hb⟩
      exact ⟨_, rfl, hb, _, _, _, rfl, hr⟩
    | 5, ho, hd =>
      have ho := Option.some.inj ho
      subst ho
      obtain ⟨A4, n4, c4, e4, h4⟩ : Sp.ok (.tis [3] (.int .i64 0)) (e 4) W := hd 4 (by decide)
      go_simp
      simp only [Sx.LV]
      exact ⟨Below.refl _ _, _, _, _, rfl, h4⟩
    | 6, ho, hd =>
      have ho := Option.some.inj ho
      subst ho
      obtain ⟨A5, n5, c5, e5, h5⟩ : Sp.ok (.tis [3] (.int .i64 0)) (e 5) W := hd 5 (by decide)
      go_simp
      simp only [Sx.LV]
      exact ⟨Below.refl _ _, _, _, _, rfl, h5⟩
    | 7, ho, hd =>
      have ho := Option.some.inj ho
      subst ho
      obtain ⟨A5, n5, c5, e5, h5⟩ : Sp.ok (.tis [3] (.int .i64 0)) (e 5) W := hd 5 (by decide)
      go_simp
      simp only [Sx.LV]
      exact ⟨Below.refl _ _, rfl⟩
    | 8, ho, hd =>
      have ho := Option.some.inj ho
      subst ho
      obtain ⟨A6, n6, c6, e6, h6⟩ : Sp.ok (.is [3]) (e 6) W := hd 6 (by decide)
      go_simp
      simp only [Sx.LV]
      exact ⟨Below.refl _ _, _, _, _, rfl, h6⟩
    | 9, ho, hd =>
      have ho := Option.some.inj ho
      subst ho
      have e7 : e 7 = (.int .i64 0) := hd 7 (by decide)
      go_simp
      simp only [Sx.LV]
      exact ⟨Below.refl _ _, rfl⟩
    | k + 10, ho, _ => cases ho
  intro e V hv hst0 hp
  obtain ⟨An, nn, cn, e8, hn⟩ : Sp.ok (.is [3]) (e 8) V := hp 8 (by decide)
  have Hn := hid hn
  clear hn
  have e9 : e 9 = (.int .i64 0) := hp 9 (by decide)
  have hst : Below W0.heap.size W0 V := hst0
  replace hbel := hbel.trans (hst.mono hsz)
  replace hsz := hbel.size
  replace bB := bB.below hst bB.lt
  clear p0 p1 lB
  have p0 := bB.cell 0
  have p1 := bB.cell 1
  have lB := bB.lt
  replace HC := hid (HC.out.below hst hst.size)
  replace Hr := hid (Hr.out.below hst hst.size)
  replace HX := hid (HX.out.below hst hst.size)
  replace HY := hid (HY.out.below hst hst.size)
  replace Ht := hid (Ht.out.below hst hst.size)
  replace HV := hid (HV.out.below hst hst.size)
  replace HK := hid (HK.out.below hst hst.size)
  replace Ho := hid (Ho.out.below hst hst.size)
  try simp only [e8, e9]
  clear hp hst hst0 hv
  obtain ⟨W0, rfl⟩ : ∃ W0 : World, W0 = V := ⟨_, rfl⟩
  go_wp2_with (fail)
  refine Sx.wp_region_free (fun W => Below W0.heap.size W0 W) (hSb W0) (SpA [.val (.agg #[.int .i64 4, .int .i64 1]), .li pL, .is [1, 0], .is [1, 0], .tsl  (.int .i64 5), .tsl  (.int .i64 5), .sl , .val (.int .i64 5), .sl , .val (.int .i64 5)]) (SpA.keep _) (fun k => ([[], [], [], [2], [0, 1, 3], [4], [5], [5], [6], [7]] : List (List Nat)).getD k []) [0, 1, 2, 3, 4, 5, 6, 7, 8, 9] rfl ?X17 ?hX17 (by kernel_rfl) (by kernel_rfl) ((Below.refl _ _).drew) ?hC17 ?hQ17
  case hX17 =>
    intro e
    simp only [Sx.putF, Sx.dstAt, List.getElem?_toArray, List.getElem?_cons_succ, List.getElem?_cons_zero, Option.bind_some, Act.put, List.setIfInBounds_toArray, List.set_cons_zero, List.set_cons_succ]
    exact rfl
  case hC17 =>
    intro k o ho e W hx hs hd
    match k, ho, hd with
    | 0, ho, hd =>
      have ho := Option.some.inj ho
      subst ho
      have f0 := (bB.below hs lB).cell 0
      have f1 := (bB.below hs lB).cell 1
      have f2 := (bB.below hs lB).lt
      go_simp
      simp only [Sx.LV]
      exact ⟨Below.refl _ _, rfl⟩
    | 1, ho, hd =>
      have ho := Option.some.inj ho
      subst ho
      go_simp
      simp only [Sx.LV]
      refine (p_any _).mono ?_
      rintro e1 W1 ⟨A, n, c, rfl, hl, hb⟩
      exact ⟨_, rfl, hb, A, n, c, rfl, hl⟩
    | 2, ho, hd =>
      have ho := Option.some.inj ho
      subst ho
      go_simp
      simp only [Sx.LV]
      exact ⟨(Below.refl _ _).alloc (Nat.le_refl _) _, _, _, _, rfl, ins_blk (l := [1, 0]) (Blk.new _ _ _) (by simp)⟩
    | 3, ho, hd =>
      have ho := Option.some.inj ho
      subst ho
      obtain ⟨A2, n2, c2, e2, h2⟩ : Sp.ok (.is [1, 0]) (e 2) W := hd 2 (by decide)
      go_simp
      simp only [Sx.LV]
      refine (of_any _ _ _ _).mono ?_
      rintro e1 w1 ⟨rfl, rfl⟩
      exact ⟨_, rfl, Below.refl _ _, _, _, _, rfl, h2⟩
    | 4, ho, hd =>
      have ho := Option.some.inj ho
      subst ho
      have e0 : e 0 = (.agg #[.int .i64 4, .int .i64 1]) := hd 0 (by decide)
      obtain ⟨A1, n1, c1, e1, h1⟩ : Sp.ok (.li pL) (e 1) W := hd 1 (by decide)
      obtain ⟨A3, n3, c3, e3, h3⟩ : Sp.ok (.is [1, 0]) (e 3) W := hd 3 (by decide)
      go_simp
      simp only [Sx.LV]
      have hz3 := h3.len
      refine (nextF_any A1 A3 n1 c1 n3 c3 pL [1, 0] 4 1 _ (h1) (h3) (by have := h1.1; simp at this; omega) (by decide)).mono ?_
      rw [kNext.2.1]
      rintro e1 W1 ⟨Ar, nr, cr, rfl, -, hb⟩
      exact ⟨_, rfl, hb, _, _, _, rfl, trivial⟩
    | 5, ho, hd =>
      have ho := Option.some.inj ho
      subst ho
      obtain ⟨A4, n4, c4, e4, h4⟩ : Sp.ok (.tsl  (.int .i64 5)) (e 4) W := hd 4 (by decide)
      go_simp
      simp only [Sx.LV]
      exact ⟨Below.refl _ _, _, _, _, rfl, h4⟩
    | 6, ho, hd =>
      have ho := Option.some.inj ho
      subst ho
      obtain ⟨A5, n5, c5, e5, h5⟩ : Sp.ok (.tsl  (.int .i64 5)) (e 5) W := hd 5 (by decide)
      go_simp
      simp only [Sx.LV]
      exact ⟨Below.refl _ _, _, _, _, rfl, h5⟩
    | 7, ho, hd =>
      have ho := Option.some.inj ho
      subst ho
      obtain ⟨A5, n5, c5, e5, h5⟩ : Sp.ok (.tsl  (.int .i64 5)) (e 5) W := hd 5 (by decide)
      go_simp
      simp only [Sx.LV]
      exact ⟨Below.refl _ _, rfl⟩
    | 8, ho, hd =>
      have ho := Option.some.inj ho
      subst ho
      obtain ⟨A6, n6, c6, e6, h6⟩ : Sp.ok (.sl ) (e 6) W := hd 6 (by decide)
      go_simp
      simp only [Sx.LV]
      exact ⟨Below.refl _ _, _, _, _, rfl, h6⟩
    | 9, ho, hd =>
      have ho := Option.some.inj ho
      subst ho
      have e7 : e 7 = (.int .i64 5) := hd 7 (by decide)
      go_simp
      simp only [Sx.LV]
      exact ⟨Below.refl _ _, rfl⟩
    | k + 10, ho, _ => cases ho
  intro e V hv hst0 hp
  obtain ⟨Ann, nnn, cnn, e8, hnn⟩ : Sp.ok (.sl ) (e 8) V := hp 8 (by decide)
  have Hnn := hid hnn
  clear hnn
  have e9 : e 9 = (.int .i64 5) := hp 9 (by decide)
  have hst : Below W0.heap.size W0 V := hst0
  replace hbel := hbel.trans (hst.mono hsz)
  replace hsz := hbel.size
  replace bB := bB.below hst bB.lt
  clear p0 p1 lB
  have p0 := bB.cell 0
  have p1 := bB.cell 1
  have lB := bB.lt
  replace HC := hid (HC.out.below hst hst.size)
  replace Hr := hid (Hr.out.below hst hst.size)
  replace HX := hid (HX.out.below hst hst.size)
  replace HY := hid (HY.out.below hst hst.size)
  replace Ht := hid (Ht.out.below hst hst.size)
  replace HV := hid (HV.out.below hst hst.size)
  replace HK := hid (HK.out.below hst hst.size)
  replace Ho := hid (Ho.out.below hst hst.size)
  replace Hn := hid (Hn.out.below hst hst.size)
  try simp only [e8, e9]
  clear hp hst hst0 hv
  obtain ⟨W0, rfl⟩ : ∃ W0 : World, W0 = V := ⟨_, rfl⟩
  clear Hnn
  have hnx : nx = 0 := HX.out.len.symm
  have hnk : nk = 0 := HK.out.len.symm
  subst hnx hnk
  go_wp2_with (fail)
  refine (of_new W0 [0]).mono ?_
  rintro e W2 ⟨Al0, nl0, cl0, rfl, hl0, hst⟩
  have Hl0 := hid hl0
  clear hl0
  replace hbel := hbel.trans (hst.mono hsz)
  replace hsz := hbel.size
  replace bB := bB.below hst bB.lt
  clear p0 p1 lB
  have p0 := bB.cell 0
  have p1 := bB.cell 1
  have lB := bB.lt
  replace HC := hid (HC.out.below hst hst.size)
  replace Hr := hid (Hr.out.below hst hst.size)
  replace HX := hid (HX.out.below hst hst.size)
  replace HY := hid (HY.out.below hst hst.size)
  replace Ht := hid (Ht.out.below hst hst.size)
  replace HV := hid (HV.out.below hst hst.size)
  replace HK := hid (HK.out.below hst hst.size)
  replace Ho := hid (Ho.out.below hst hst.size)
  replace Hn := hid (Hn.out.below hst hst.size)
  clear hst
  obtain ⟨W0, rfl⟩ : ∃ W0 : World, W0 = W2 := ⟨_, rfl⟩
  go_wp2_with (fail)
  refine (of_new W0 [1]).mono ?_
  rintro e W2 ⟨Al1, nl1, cl1, rfl, hl1, hst⟩
  have Hl1 := hid hl1
  clear hl1
  replace hbel := hbel.trans (hst.mono hsz)
  replace hsz := hbel.size
  replace bB := bB.below hst bB.lt
  clear p0 p1 lB
  have p0 := bB.cell 0
  have p1 := bB.cell 1
  have lB := bB.lt
  replace HC := hid (HC.out.below hst hst.size)
  replace Hr := hid (Hr.out.below hst hst.size)
  replace HX := hid (HX.out.below hst hst.size)
  replace HY := hid (HY.out.below hst hst.size)
  replace Ht := hid (Ht.out.below hst hst.size)
  replace HV := hid (HV.out.below hst hst.size)
  replace HK := hid (HK.out.below hst hst.size)
  replace Ho := hid (Ho.out.below hst hst.size)
  replace Hn := hid (Hn.out.below hst hst.size)
  replace Hl0 := hid (Hl0.out.below hst hst.size)
  clear hst
  obtain ⟨W0, rfl⟩ : ∃ W0 : World, W0 = W2 := ⟨_, rfl⟩
  go_wp2_with (fail)
  refine (of_new W0 [2]).mono ?_
  rintro e W2 ⟨Al2, nl2, cl2, rfl, hl2, hst⟩
  have Hl2 := hid hl2
  clear hl2
  replace hbel := hbel.trans (hst.mono hsz)
  replace hsz := hbel.size
  replace bB := bB.below hst bB.lt
  clear p0 p1 lB
  have p0 := bB.cell 0
  have p1 := bB.cell 1
  have lB := bB.lt
  replace HC := hid (HC.out.below hst hst.size)
  replace Hr := hid (Hr.out.below hst hst.size)
  replace HX := hid (HX.out.below hst hst.size)
  replace HY := hid (HY.out.below hst hst.size)
  replace Ht := hid (Ht.out.below hst hst.size)
  replace HV := hid (HV.out.below hst hst.size)
  replace HK := hid (HK.out.below hst hst.size)
  replace Ho := hid (Ho.out.below hst hst.size)
  replace Hn := hid (Hn.out.below hst hst.size)
  replace Hl0 := hid (Hl0.out.below hst hst.size)
  replace Hl1 := hid (Hl1.out.below hst hst.size)
  clear hst
  obtain ⟨W0, rfl⟩ : ∃ W0 : World, W0 = W2 := ⟨_, rfl⟩
  go_wp2_with (fail)
  refine (of_new W0 [3]).mono ?_
  rintro e W2 ⟨Al3, nl3, cl3, rfl, hl3, hst⟩
  have Hl3 := hid hl3
  clear hl3
  replace hbel := hbel.trans (hst.mono hsz)
  replace hsz := hbel.size
  replace bB := bB.below hst bB.lt
  clear p0 p1 lB
  have p0 := bB.cell 0
  have p1 := bB.cell 1
  have lB := bB.lt
  replace HC := hid (HC.out.below hst hst.size)
  replace Hr := hid (Hr.out.below hst hst.size)
  replace HX := hid (HX.out.below hst hst.size)
  replace HY := hid (HY.out.below hst hst.size)
  replace Ht := hid (Ht.out.below hst hst.size)
  replace HV := hid (HV.out.below hst hst.size)
  replace HK := hid (HK.out.below hst hst.size)
  replace Ho := hid (Ho.out.below hst hst.size)
  replace Hn := hid (Hn.out.below hst hst.size)
  replace Hl0 := hid (Hl0.out.below hst hst.size)
  replace Hl1 := hid (Hl1.out.below hst hst.size)
  replace Hl2 := hid (Hl2.out.below hst hst.size)
  clear hst
  obtain ⟨W0, rfl⟩ : ∃ W0 : World, W0 = W2 := ⟨_, rfl⟩
  go_wp2_with (fail)
  refine (plan_new5 W0 Hl0.out Hl1.out Hl2.out Hl3.out).mono ?_
  rintro e W2 ⟨Alc, nlc, clc, rfl, hlc, hst⟩
  have Hlc := hid hlc
  clear hlc
  replace hbel := hbel.trans (hst.mono hsz)
  replace hsz := hbel.size
  replace bB := bB.below hst bB.lt
  clear p0 p1 lB
  have p0 := bB.cell 0
  have p1 := bB.cell 1
  have lB := bB.lt
  replace HC := hid (HC.out.below hst hst.size)
  replace Hr := hid (Hr.out.below hst hst.size)
  replace HX := hid (HX.out.below hst hst.size)
  replace HY := hid (HY.out.below hst hst.size)
  replace Ht := hid (Ht.out.below hst hst.size)
  replace HV := hid (HV.out.below hst hst.size)
  replace HK := hid (HK.out.below hst hst.size)
  replace Ho := hid (Ho.out.below hst hst.size)
  replace Hn := hid (Hn.out.below hst hst.size)
  replace Hl0 := hid (Hl0.out.below hst hst.size)
  replace Hl1 := hid (Hl1.out.below hst hst.size)
  replace Hl2 := hid (Hl2.out.below hst hst.size)
  replace Hl3 := hid (Hl3.out.below hst hst.size)
  clear hst
  obtain ⟨W0, rfl⟩ : ∃ W0 : World, W0 = W2 := ⟨_, rfl⟩
  go_wp2_with (fail)
  refine (lists_any Ac Alc nc cc nlc clc [[], [0], [1], [2], [3]] [[], [0], [1], [2], [3]] _ (HC.out.below (by repeat' (first | with_reducible assumption | with_reducible exact Below.refl _ _ | refine Below.alloc ?_ ?_ _ | refine Below.setCell ?_ ?_ _ | refine Below.drew ?_ | refine below_drewN ?_ _ | (simp; done) | (simp; omega) | omega)) (by first | (simp; done) | (simp; omega) | omega)) (Hlc.out.below (by repeat' (first | with_reducible assumption | with_reducible exact Below.refl _ _ | refine Below.alloc ?_ ?_ _ | refine Below.setCell ?_ ?_ _ | refine Below.drew ?_ | refine below_drewN ?_ _ | (simp; done) | (simp; omega) | omega)) (by first | (simp; done) | (simp; omega) | omega)) (by have := HC.out.1; simp at this; omega) (by decide)).mono ?_
  rw [kEqs.2.2.2.2.1]
  rintro e W2 ⟨rfl, hb⟩
  have hst : Below W0.heap.size W0 W2 := Below.trans (by repeat' (first | with_reducible assumption | with_reducible exact Below.refl _ _ | refine Below.alloc ?_ ?_ _ | refine Below.setCell ?_ ?_ _ | refine Below.drew ?_ | refine below_drewN ?_ _ | (simp; done) | (simp; omega) | omega)) (hb.mono (by first | (simp; done) | (simp; omega) | omega))
  clear hb
  replace hbel := hbel.trans (hst.mono hsz)
  replace hsz := hbel.size
  replace bB := bB.below hst bB.lt
  clear p0 p1 lB
  have p0 := bB.cell 0
  have p1 := bB.cell 1
  have lB := bB.lt
  replace HC := hid (HC.out.below hst hst.size)
  replace Hr := hid (Hr.out.below hst hst.size)
  replace HX := hid (HX.out.below hst hst.size)
  replace HY := hid (HY.out.below hst hst.size)
  replace Ht := hid (Ht.out.below hst hst.size)
  replace HV := hid (HV.out.below hst hst.size)
  replace HK := hid (HK.out.below hst hst.size)
  replace Ho := hid (Ho.out.below hst hst.size)
  replace Hn := hid (Hn.out.below hst hst.size)
  replace Hl0 := hid (Hl0.out.below hst hst.size)
  replace Hl1 := hid (Hl1.out.below hst hst.size)
  replace Hl2 := hid (Hl2.out.below hst hst.size)
  replace Hl3 := hid (Hl3.out.below hst hst.size)
  replace Hlc := hid (Hlc.out.below hst hst.size)
  clear hst
  obtain ⟨W0, rfl⟩ : ∃ W0 : World, W0 = W2 := ⟨_, rfl⟩
  go_wp2_with (fail)
  refine (of_new W0 [1, 1, 0]).mono ?_
  rintro e W2 ⟨Am0, nm0, cm0, rfl, hm0, hst⟩
  have Hm0 := hid hm0
  clear hm0
  replace hbel := hbel.trans (hst.mono hsz)
  replace hsz := hbel.size
  replace bB := bB.below hst bB.lt
  clear p0 p1 lB
  have p0 := bB.cell 0
  have p1 := bB.cell 1
  have lB := bB.lt
  replace HC := hid (HC.out.below hst hst.size)
  replace Hr := hid (Hr.out.below hst hst.size)
  replace HX := hid (HX.out.below hst hst.size)
  replace HY := hid (HY.out.below hst hst.size)
  replace Ht := hid (Ht.out.below hst hst.size)
  replace HV := hid (HV.out.below hst hst.size)
  replace HK := hid (HK.out.below hst hst.size)
  replace Ho := hid (Ho.out.below hst hst.size)
  replace Hn := hid (Hn.out.below hst hst.size)
  replace Hl0 := hid (Hl0.out.below hst hst.size)
  replace Hl1 := hid (Hl1.out.below hst hst.size)
  replace Hl2 := hid (Hl2.out.below hst hst.size)
  replace Hl3 := hid (Hl3.out.below hst hst.size)
  replace Hlc := hid (Hlc.out.below hst hst.size)
  clear hst
  obtain ⟨W0, rfl⟩ : ∃ W0 : World, W0 = W2 := ⟨_, rfl⟩
  go_wp2_with (fail)
  refine (ints_any _ Ar Am0 nr cr nm0 cm0 [1, 1, 0] [1, 1, 0] (Hr.out.below (by repeat' (first | with_reducible assumption | with_reducible exact Below.refl _ _ | refine Below.alloc ?_ ?_ _ | refine Below.setCell ?_ ?_ _ | refine Below.drew ?_ | refine below_drewN ?_ _ | (simp; done) | (simp; omega) | omega)) (by first | (simp; done) | (simp; omega) | omega)) (Hm0.out.below (by repeat' (first | with_reducible assumption | with_reducible exact Below.refl _ _ | refine Below.alloc ?_ ?_ _ | refine Below.setCell ?_ ?_ _ | refine Below.drew ?_ | refine below_drewN ?_ _ | (simp; done) | (simp; omega) | omega)) (by first | (simp; done) | (simp; omega) | omega)) (by have := Hr.out.len; simp at this; omega)).mono ?_
  rw [kEqs.1]
  rintro e W2 ⟨rfl, hb⟩
  have hst : Below W0.heap.size W0 W2 := Below.trans (by repeat' (first | with_reducible assumption | with_reducible exact Below.refl _ _ | refine Below.alloc ?_ ?_ _ | refine Below.setCell ?_ ?_ _ | refine Below.drew ?_ | refine below_drewN ?_ _ | (simp; done) | (simp; omega) | omega)) (hb.mono (by first | (simp; done) | (simp; omega) | omega))
  clear hb
  replace hbel := hbel.trans (hst.mono hsz)
  replace hsz := hbel.size
  replace bB := bB.below hst bB.lt
  clear p0 p1 lB
  have p0 := bB.cell 0
  have p1 := bB.cell 1
  have lB := bB.lt
  replace HC := hid (HC.out.below hst hst.size)
  replace Hr := hid (Hr.out.below hst hst.size)
  replace HX := hid (HX.out.below hst hst.size)
  replace HY := hid (HY.out.below hst hst.size)
  replace Ht := hid (Ht.out.below hst hst.size)
  replace HV := hid (HV.out.below hst hst.size)
  replace HK := hid (HK.out.below hst hst.size)
  replace Ho := hid (Ho.out.below hst hst.size)
  replace Hn := hid (Hn.out.below hst hst.size)
  replace Hl0 := hid (Hl0.out.below hst hst.size)
  replace Hl1 := hid (Hl1.out.below hst hst.size)
  replace Hl2 := hid (Hl2.out.below hst hst.size)
  replace Hl3 := hid (Hl3.out.below hst hst.size)
  replace Hlc := hid (Hlc.out.below hst hst.size)
  replace Hm0 := hid (Hm0.out.below hst hst.size)
  clear hst
  obtain ⟨W0, rfl⟩ : ∃ W0 : World, W0 = W2 := ⟨_, rfl⟩
  go_wp2_with (fail)
  refine (of_new W0 [3]).mono ?_
  rintro e W2 ⟨Am1, nm1, cm1, rfl, hm1, hst⟩
  have Hm1 := hid hm1
  clear hm1
  replace hbel := hbel.trans (hst.mono hsz)
  replace hsz := hbel.size
  replace bB := bB.below hst bB.lt
  clear p0 p1 lB
  have p0 := bB.cell 0
  have p1 := bB.cell 1
  have lB := bB.lt
  replace HC := hid (HC.out.below hst hst.size)
  replace Hr := hid (Hr.out.below hst hst.size)
  replace HX := hid (HX.out.below hst hst.size)
  replace HY := hid (HY.out.below hst hst.size)
  replace Ht := hid (Ht.out.below hst hst.size)
  replace HV := hid (HV.out.below hst hst.size)
  replace HK := hid (HK.out.below hst hst.size)
  replace Ho := hid (Ho.out.below hst hst.size)
  replace Hn := hid (Hn.out.below hst hst.size)
  replace Hl0 := hid (Hl0.out.below hst hst.size)
  replace Hl1 := hid (Hl1.out.below hst hst.size)
  replace Hl2 := hid (Hl2.out.below hst hst.size)
  replace Hl3 := hid (Hl3.out.below hst hst.size)
  replace Hlc := hid (Hlc.out.below hst hst.size)
  replace Hm0 := hid (Hm0.out.below hst hst.size)
  clear hst
  obtain ⟨W0, rfl⟩ : ∃ W0 : World, W0 = W2 := ⟨_, rfl⟩
  have nY := HY.out.len
  go_wp2_with (fail)
  refine (ints_any _ Ay Am1 ny cy nm1 cm1 [3] [3] (HY.out.below (by repeat' (first | with_reducible assumption | with_reducible exact Below.refl _ _ | refine Below.alloc ?_ ?_ _ | refine Below.setCell ?_ ?_ _ | refine Below.drew ?_ | refine below_drewN ?_ _ | (simp; done) | (simp; omega) | omega)) (by first | (simp; done) | (simp; omega) | omega)) (Hm1.out.below (by repeat' (first | with_reducible assumption | with_reducible exact Below.refl _ _ | refine Below.alloc ?_ ?_ _ | refine Below.setCell ?_ ?_ _ | refine Below.drew ?_ | refine below_drewN ?_ _ | (simp; done) | (simp; omega) | omega)) (by first | (simp; done) | (simp; omega) | omega)) (by simp at nY; omega)).mono ?_
  rw [kEqs.2.1]
  rintro e W2 ⟨rfl, hb⟩
  have hst : Below W0.heap.size W0 W2 := Below.trans (by repeat' (first | with_reducible assumption | with_reducible exact Below.refl _ _ | refine Below.alloc ?_ ?_ _ | refine Below.setCell ?_ ?_ _ | refine Below.drew ?_ | refine below_drewN ?_ _ | (simp; done) | (simp; omega) | omega)) (hb.mono (by first | (simp; done) | (simp; omega) | omega))
  clear hb
  replace hbel := hbel.trans (hst.mono hsz)
  replace hsz := hbel.size
  replace bB := bB.below hst bB.lt
  clear p0 p1 lB
  have p0 := bB.cell 0
  have p1 := bB.cell 1
  have lB := bB.lt
  replace HC := hid (HC.out.below hst hst.size)
  replace Hr := hid (Hr.out.below hst hst.size)
  replace HX := hid (HX.out.below hst hst.size)
  replace HY := hid (HY.out.below hst hst.size)
  replace Ht := hid (Ht.out.below hst hst.size)
  replace HV := hid (HV.out.below hst hst.size)
  replace HK := hid (HK.out.below hst hst.size)
  replace Ho := hid (Ho.out.below hst hst.size)
  replace Hn := hid (Hn.out.below hst hst.size)
  replace Hl0 := hid (Hl0.out.below hst hst.size)
  replace Hl1 := hid (Hl1.out.below hst hst.size)
  replace Hl2 := hid (Hl2.out.below hst hst.size)
  replace Hl3 := hid (Hl3.out.below hst hst.size)
  replace Hlc := hid (Hlc.out.below hst hst.size)
  replace Hm0 := hid (Hm0.out.below hst hst.size)
  replace Hm1 := hid (Hm1.out.below hst hst.size)
  clear hst
  obtain ⟨W0, rfl⟩ : ∃ W0 : World, W0 = W2 := ⟨_, rfl⟩
  go_wp2_with (fail)
  refine (of_new W0 [3]).mono ?_
  rintro e W2 ⟨Am2, nm2, cm2, rfl, hm2, hst⟩
  have Hm2 := hid hm2
  clear hm2
  replace hbel := hbel.trans (hst.mono hsz)
  replace hsz := hbel.size
  replace bB := bB.below hst bB.lt
  clear p0 p1 lB
  have p0 := bB.cell 0
  have p1 := bB.cell 1
  have lB := bB.lt
  replace HC := hid (HC.out.below hst hst.size)
  replace Hr := hid (Hr.out.below hst hst.size)
  replace HX := hid (HX.out.below hst hst.size)
  replace HY := hid (HY.out.below hst hst.size)
  replace Ht := hid (Ht.out.below hst hst.size)
  replace HV := hid (HV.out.below hst hst.size)
  replace HK := hid (HK.out.below hst hst.size)
  replace Ho := hid (Ho.out.below hst hst.size)
  replace Hn := hid (Hn.out.below hst hst.size)
  replace Hl0 := hid (Hl0.out.below hst hst.size)
  replace Hl1 := hid (Hl1.out.below hst hst.size)
  replace Hl2 := hid (Hl2.out.below hst hst.size)
  replace Hl3 := hid (Hl3.out.below hst hst.size)
  replace Hlc := hid (Hlc.out.below hst hst.size)
  replace Hm0 := hid (Hm0.out.below hst hst.size)
  replace Hm1 := hid (Hm1.out.below hst hst.size)
  clear hst
  obtain ⟨W0, rfl⟩ : ∃ W0 : World, W0 = W2 := ⟨_, rfl⟩
  go_wp2_with (fail)
  refine (plan_new2 W0 Hm2.out).mono ?_
  rintro e W2 ⟨Alp, nlp, clp, rfl, hlp, hst⟩
  have Hlp := hid hlp
  clear hlp
  replace hbel := hbel.trans (hst.mono hsz)
  replace hsz := hbel.size
  replace bB := bB.below hst bB.lt
  clear p0 p1 lB
  have p0 := bB.cell 0
  have p1 := bB.cell 1
  have lB := bB.lt
  replace HC := hid (HC.out.below hst hst.size)
  replace Hr := hid (Hr.out.below hst hst.size)
  replace HX := hid (HX.out.below hst hst.size)
  replace HY := hid (HY.out.below hst hst.size)
  replace Ht := hid (Ht.out.below hst hst.size)
  replace HV := hid (HV.out.below hst hst.size)
  replace HK := hid (HK.out.below hst hst.size)
  replace Ho := hid (Ho.out.below hst hst.size)
  replace Hn := hid (Hn.out.below hst hst.size)
  replace Hl0 := hid (Hl0.out.below hst hst.size)
  replace Hl1 := hid (Hl1.out.below hst hst.size)
  replace Hl2 := hid (Hl2.out.below hst hst.size)
  replace Hl3 := hid (Hl3.out.below hst hst.size)
  replace Hlc := hid (Hlc.out.below hst hst.size)
  replace Hm0 := hid (Hm0.out.below hst hst.size)
  replace Hm1 := hid (Hm1.out.below hst hst.size)
  replace Hm2 := hid (Hm2.out.below hst hst.size)
  clear hst
  obtain ⟨W0, rfl⟩ : ∃ W0 : World, W0 = W2 := ⟨_, rfl⟩
  go_wp2_with (fail)
  refine (lists_any At Alp nt ct nlp clp [[], [3]] [[], [3]] _ (Ht.out.1.below (by repeat' (first | with_reducible assumption | with_reducible exact Below.refl _ _ | refine Below.alloc ?_ ?_ _ | refine Below.setCell ?_ ?_ _ | refine Below.drew ?_ | refine below_drewN ?_ _ | (simp; done) | (simp; omega) | omega)) (by first | (simp; done) | (simp; omega) | omega)) (Hlp.out.below (by repeat' (first | with_reducible assumption | with_reducible exact Below.refl _ _ | refine Below.alloc ?_ ?_ _ | refine Below.setCell ?_ ?_ _ | refine Below.drew ?_ | refine below_drewN ?_ _ | (simp; done) | (simp; omega) | omega)) (by first | (simp; done) | (simp; omega) | omega)) (by have := Ht.out.1.1; simp at this; omega) (by decide)).mono ?_
  rw [kEqs.2.2.2.2.2]
  rintro e W2 ⟨rfl, hb⟩
  have hst : Below W0.heap.size W0 W2 := Below.trans (by repeat' (first | with_reducible assumption | with_reducible exact Below.refl _ _ | refine Below.alloc ?_ ?_ _ | refine Below.setCell ?_ ?_ _ | refine Below.drew ?_ | refine below_drewN ?_ _ | (simp; done) | (simp; omega) | omega)) (hb.mono (by first | (simp; done) | (simp; omega) | omega))
  clear hb
  replace hbel := hbel.trans (hst.mono hsz)
  replace hsz := hbel.size
  replace bB := bB.below hst bB.lt
  clear p0 p1 lB
  have p0 := bB.cell 0
  have p1 := bB.cell 1
  have lB := bB.lt
  replace HC := hid (HC.out.below hst hst.size)
  replace Hr := hid (Hr.out.below hst hst.size)
  replace HX := hid (HX.out.below hst hst.size)
  replace HY := hid (HY.out.below hst hst.size)
  replace Ht := hid (Ht.out.below hst hst.size)
  replace HV := hid (HV.out.below hst hst.size)
  replace HK := hid (HK.out.below hst hst.size)
  replace Ho := hid (Ho.out.below hst hst.size)
  replace Hn := hid (Hn.out.below hst hst.size)
  replace Hl0 := hid (Hl0.out.below hst hst.size)
  replace Hl1 := hid (Hl1.out.below hst hst.size)
  replace Hl2 := hid (Hl2.out.below hst hst.size)
  replace Hl3 := hid (Hl3.out.below hst hst.size)
  replace Hlc := hid (Hlc.out.below hst hst.size)
  replace Hm0 := hid (Hm0.out.below hst hst.size)
  replace Hm1 := hid (Hm1.out.below hst hst.size)
  replace Hm2 := hid (Hm2.out.below hst hst.size)
  replace Hlp := hid (Hlp.out.below hst hst.size)
  clear hst
  obtain ⟨W0, rfl⟩ : ∃ W0 : World, W0 = W2 := ⟨_, rfl⟩
  go_wp2_with (fail)
  refine (of_new W0 [0]).mono ?_
  rintro e W2 ⟨Am3, nm3, cm3, rfl, hm3, hst⟩
  have Hm3 := hid hm3
  clear hm3
  replace hbel := hbel.trans (hst.mono hsz)
  replace hsz := hbel.size
  replace bB := bB.below hst bB.lt
  clear p0 p1 lB
  have p0 := bB.cell 0
  have p1 := bB.cell 1
  have lB := bB.lt
  replace HC := hid (HC.out.below hst hst.size)
  replace Hr := hid (Hr.out.below hst hst.size)
  replace HX := hid (HX.out.below hst hst.size)
  replace HY := hid (HY.out.below hst hst.size)
  replace Ht := hid (Ht.out.below hst hst.size)
  replace HV := hid (HV.out.below hst hst.size)
  replace HK := hid (HK.out.below hst hst.size)
  replace Ho := hid (Ho.out.below hst hst.size)
  replace Hn := hid (Hn.out.below hst hst.size)
  replace Hl0 := hid (Hl0.out.below hst hst.size)
  replace Hl1 := hid (Hl1.out.below hst hst.size)
  replace Hl2 := hid (Hl2.out.below hst hst.size)
  replace Hl3 := hid (Hl3.out.below hst hst.size)
  replace Hlc := hid (Hlc.out.below hst hst.size)
  replace Hm0 := hid (Hm0.out.below hst hst.size)
  replace Hm1 := hid (Hm1.out.below hst hst.size)
  replace Hm2 := hid (Hm2.out.below hst hst.size)
  replace Hlp := hid (Hlp.out.below hst hst.size)
  clear hst
  obtain ⟨W0, rfl⟩ : ∃ W0 : World, W0 = W2 := ⟨_, rfl⟩
  have nV := HV.out.len
  go_wp2_with (fail)
  refine (ints_any _ Av Am3 nv cv nm3 cm3 [0] [0] (HV.out.below (by repeat' (first | with_reducible assumption | with_reducible exact Below.refl _ _ | refine Below.alloc ?_ ?_ _ | refine Below.setCell ?_ ?_ _ | refine Below.drew ?_ | refine below_drewN ?_ _ | (simp; done) | (simp; omega) | omega)) (by first | (simp; done) | (simp; omega) | omega)) (Hm3.out.below (by repeat' (first | with_reducible assumption | with_reducible exact Below.refl _ _ | refine Below.alloc ?_ ?_ _ | refine Below.setCell ?_ ?_ _ | refine Below.drew ?_ | refine below_drewN ?_ _ | (simp; done) | (simp; omega) | omega)) (by first | (simp; done) | (simp; omega) | omega)) (by simp at nV; omega)).mono ?_
  rw [kEqs.2.2.1]
  rintro e W2 ⟨rfl, hb⟩
  have hst : Below W0.heap.size W0 W2 := Below.trans (by repeat' (first | with_reducible assumption | with_reducible exact Below.refl _ _ | refine Below.alloc ?_ ?_ _ | refine Below.setCell ?_ ?_ _ | refine Below.drew ?_ | refine below_drewN ?_ _ | (simp; done) | (simp; omega) | omega)) (hb.mono (by first | (simp; done) | (simp; omega) | omega))
  clear hb
  replace hbel := hbel.trans (hst.mono hsz)
  replace hsz := hbel.size
  replace bB := bB.below hst bB.lt
  clear p0 p1 lB
  have p0 := bB.cell 0
  have p1 := bB.cell 1
  have lB := bB.lt
  replace HC := hid (HC.out.below hst hst.size)
  replace Hr := hid (Hr.out.below hst hst.size)
  replace HX := hid (HX.out.below hst hst.size)
  replace HY := hid (HY.out.below hst hst.size)
  replace Ht := hid (Ht.out.below hst hst.size)
  replace HV := hid (HV.out.below hst hst.size)
  replace HK := hid (HK.out.below hst hst.size)
  replace Ho := hid (Ho.out.below hst hst.size)
  replace Hn := hid (Hn.out.below hst hst.size)
  replace Hl0 := hid (Hl0.out.below hst hst.size)
  replace Hl1 := hid (Hl1.out.below hst hst.size)
  replace Hl2 := hid (Hl2.out.below hst hst.size)
  replace Hl3 := hid (Hl3.out.below hst hst.size)
  replace Hlc := hid (Hlc.out.below hst hst.size)
  replace Hm0 := hid (Hm0.out.below hst hst.size)
  replace Hm1 := hid (Hm1.out.below hst hst.size)
  replace Hm2 := hid (Hm2.out.below hst hst.size)
  replace Hlp := hid (Hlp.out.below hst hst.size)
  replace Hm3 := hid (Hm3.out.below hst hst.size)
  clear hst
  obtain ⟨W0, rfl⟩ : ∃ W0 : World, W0 = W2 := ⟨_, rfl⟩
  go_wp2_with (fail)
  refine (of_new W0 [0, 1, 2]).mono ?_
  rintro e W2 ⟨Am4, nm4, cm4, rfl, hm4, hst⟩
  have Hm4 := hid hm4
  clear hm4
  replace hbel := hbel.trans (hst.mono hsz)
  replace hsz := hbel.size
  replace bB := bB.below hst bB.lt
  clear p0 p1 lB
  have p0 := bB.cell 0
  have p1 := bB.cell 1
  have lB := bB.lt
  replace HC := hid (HC.out.below hst hst.size)
  replace Hr := hid (Hr.out.below hst hst.size)
  replace HX := hid (HX.out.below hst hst.size)
  replace HY := hid (HY.out.below hst hst.size)
  replace Ht := hid (Ht.out.below hst hst.size)
  replace HV := hid (HV.out.below hst hst.size)
  replace HK := hid (HK.out.below hst hst.size)
  replace Ho := hid (Ho.out.below hst hst.size)
  replace Hn := hid (Hn.out.below hst hst.size)
  replace Hl0 := hid (Hl0.out.below hst hst.size)
  replace Hl1 := hid (Hl1.out.below hst hst.size)
  replace Hl2 := hid (Hl2.out.below hst hst.size)
  replace Hl3 := hid (Hl3.out.below hst hst.size)
  replace Hlc := hid (Hlc.out.below hst hst.size)
  replace Hm0 := hid (Hm0.out.below hst hst.size)
  replace Hm1 := hid (Hm1.out.below hst hst.size)
  replace Hm2 := hid (Hm2.out.below hst hst.size)
  replace Hlp := hid (Hlp.out.below hst hst.size)
  replace Hm3 := hid (Hm3.out.below hst hst.size)
  clear hst
  obtain ⟨W0, rfl⟩ : ∃ W0 : World, W0 = W2 := ⟨_, rfl⟩
  go_wp2_with (fail)
  refine (ints_any _ Ao Am4 no co nm4 cm4 [0, 1, 2] [0, 1, 2] (Ho.out.below (by repeat' (first | with_reducible assumption | with_reducible exact Below.refl _ _ | refine Below.alloc ?_ ?_ _ | refine Below.setCell ?_ ?_ _ | refine Below.drew ?_ | refine below_drewN ?_ _ | (simp; done) | (simp; omega) | omega)) (by first | (simp; done) | (simp; omega) | omega)) (Hm4.out.below (by repeat' (first | with_reducible assumption | with_reducible exact Below.refl _ _ | refine Below.alloc ?_ ?_ _ | refine Below.setCell ?_ ?_ _ | refine Below.drew ?_ | refine below_drewN ?_ _ | (simp; done) | (simp; omega) | omega)) (by first | (simp; done) | (simp; omega) | omega)) (by have := Ho.out.len; simp at this; omega)).mono ?_
  rw [kEqs.2.2.2.1]
  rintro e W2 ⟨rfl, hb⟩
  have hst : Below W0.heap.size W0 W2 := Below.trans (by repeat' (first | with_reducible assumption | with_reducible exact Below.refl _ _ | refine Below.alloc ?_ ?_ _ | refine Below.setCell ?_ ?_ _ | refine Below.drew ?_ | refine below_drewN ?_ _ | (simp; done) | (simp; omega) | omega)) (hb.mono (by first | (simp; done) | (simp; omega) | omega))
  clear hb
  replace hbel := hbel.trans (hst.mono hsz)
  replace hsz := hbel.size
  replace bB := bB.below hst bB.lt
  clear p0 p1 lB
  have p0 := bB.cell 0
  have p1 := bB.cell 1
  have lB := bB.lt
  replace HC := hid (HC.out.below hst hst.size)
  replace Hr := hid (Hr.out.below hst hst.size)
  replace HX := hid (HX.out.below hst hst.size)
  replace HY := hid (HY.out.below hst hst.size)
  replace Ht := hid (Ht.out.below hst hst.size)
  replace HV := hid (HV.out.below hst hst.size)
  replace HK := hid (HK.out.below hst hst.size)
  replace Ho := hid (Ho.out.below hst hst.size)
  replace Hn := hid (Hn.out.below hst hst.size)
  replace Hl0 := hid (Hl0.out.below hst hst.size)
  replace Hl1 := hid (Hl1.out.below hst hst.size)
  replace Hl2 := hid (Hl2.out.below hst hst.size)
  replace Hl3 := hid (Hl3.out.below hst hst.size)
  replace Hlc := hid (Hlc.out.below hst hst.size)
  replace Hm0 := hid (Hm0.out.below hst hst.size)
  replace Hm1 := hid (Hm1.out.below hst hst.size)
  replace Hm2 := hid (Hm2.out.below hst hst.size)
  replace Hlp := hid (Hlp.out.below hst hst.size)
  replace Hm3 := hid (Hm3.out.below hst hst.size)
  replace Hm4 := hid (Hm4.out.below hst hst.size)
  clear hst
  obtain ⟨W0, rfl⟩ : ∃ W0 : World, W0 = W2 := ⟨_, rfl⟩
  go_wp2_with (fail)
  refine (isList_any An nn cn [3] 4 _ (Hn.out.below (by repeat' (first | with_reducible assumption | with_reducible exact Below.refl _ _ | refine Below.alloc ?_ ?_ _ | refine Below.setCell ?_ ?_ _ | refine Below.drew ?_ | refine below_drewN ?_ _ | (simp; done) | (simp; omega) | omega)) (by first | (simp; done) | (simp; omega) | omega)) (by have := Hn.out.len; simp at this; omega)).mono ?_
  rw [kDiv.2]
  rintro e W2 ⟨rfl, hb⟩
  have hst : Below W0.heap.size W0 W2 := Below.trans (by repeat' (first | with_reducible assumption | with_reducible exact Below.refl _ _ | refine Below.alloc ?_ ?_ _ | refine Below.setCell ?_ ?_ _ | refine Below.drew ?_ | refine below_drewN ?_ _ | (simp; done) | (simp; omega) | omega)) (hb.mono (by first | (simp; done) | (simp; omega) | omega))
  clear hb
  replace hbel := hbel.trans (hst.mono hsz)
  replace hsz := hbel.size
  replace bB := bB.below hst bB.lt
  clear p0 p1 lB
  have p0 := bB.cell 0
  have p1 := bB.cell 1
  have lB := bB.lt
  replace HC := hid (HC.out.below hst hst.size)
  replace Hr := hid (Hr.out.below hst hst.size)
  replace HX := hid (HX.out.below hst hst.size)
  replace HY := hid (HY.out.below hst hst.size)
  replace Ht := hid (Ht.out.below hst hst.size)
  replace HV := hid (HV.out.below hst hst.size)
  replace HK := hid (HK.out.below hst hst.size)
  replace Ho := hid (Ho.out.below hst hst.size)
  replace Hn := hid (Hn.out.below hst hst.size)
  replace Hl0 := hid (Hl0.out.below hst hst.size)
  replace Hl1 := hid (Hl1.out.below hst hst.size)
  replace Hl2 := hid (Hl2.out.below hst hst.size)
  replace Hl3 := hid (Hl3.out.below hst hst.size)
  replace Hlc := hid (Hlc.out.below hst hst.size)
  replace Hm0 := hid (Hm0.out.below hst hst.size)
  replace Hm1 := hid (Hm1.out.below hst hst.size)
  replace Hm2 := hid (Hm2.out.below hst hst.size)
  replace Hlp := hid (Hlp.out.below hst hst.size)
  replace Hm3 := hid (Hm3.out.below hst hst.size)
  replace Hm4 := hid (Hm4.out.below hst hst.size)
  clear hst
  obtain ⟨W0, rfl⟩ : ∃ W0 : World, W0 = W2 := ⟨_, rfl⟩
  go_wp2_with (fail)
  refine (divides_any At An nt ct nn cn 4 1 [[], [3]] [3] _ (by decide) (by decide) (Ht.out.below (by repeat' (first | with_reducible assumption | with_reducible exact Below.refl _ _ | refine Below.alloc ?_ ?_ _ | refine Below.setCell ?_ ?_ _ | refine Below.drew ?_ | refine below_drewN ?_ _ | (simp; done) | (simp; omega) | omega)) (by first | (simp; done) | (simp; omega) | omega)) (Hn.out.below (by repeat' (first | with_reducible assumption | with_reducible exact Below.refl _ _ | refine Below.alloc ?_ ?_ _ | refine Below.setCell ?_ ?_ _ | refine Below.drew ?_ | refine below_drewN ?_ _ | (simp; done) | (simp; omega) | omega)) (by first | (simp; done) | (simp; omega) | omega)) (by have := Ht.out.1.1; simp at this; omega) (by decide) (by have := Hn.out.len; simp at this; omega)).mono ?_
  rw [kDiv.1]
  rintro e W2 ⟨rfl, hb⟩
  have hst : Below W0.heap.size W0 W2 := Below.trans (by repeat' (first | with_reducible assumption | with_reducible exact Below.refl _ _ | refine Below.alloc ?_ ?_ _ | refine Below.setCell ?_ ?_ _ | refine Below.drew ?_ | refine below_drewN ?_ _ | (simp; done) | (simp; omega) | omega)) (hb.mono (by first | (simp; done) | (simp; omega) | omega))
  clear hb
  replace hbel := hbel.trans (hst.mono hsz)
  replace hsz := hbel.size
  replace bB := bB.below hst bB.lt
  clear p0 p1 lB
  have p0 := bB.cell 0
  have p1 := bB.cell 1
  have lB := bB.lt
  replace HC := hid (HC.out.below hst hst.size)
  replace Hr := hid (Hr.out.below hst hst.size)
  replace HX := hid (HX.out.below hst hst.size)
  replace HY := hid (HY.out.below hst hst.size)
  replace Ht := hid (Ht.out.below hst hst.size)
  replace HV := hid (HV.out.below hst hst.size)
  replace HK := hid (HK.out.below hst hst.size)
  replace Ho := hid (Ho.out.below hst hst.size)
  replace Hn := hid (Hn.out.below hst hst.size)
  replace Hl0 := hid (Hl0.out.below hst hst.size)
  replace Hl1 := hid (Hl1.out.below hst hst.size)
  replace Hl2 := hid (Hl2.out.below hst hst.size)
  replace Hl3 := hid (Hl3.out.below hst hst.size)
  replace Hlc := hid (Hlc.out.below hst hst.size)
  replace Hm0 := hid (Hm0.out.below hst hst.size)
  replace Hm1 := hid (Hm1.out.below hst hst.size)
  replace Hm2 := hid (Hm2.out.below hst hst.size)
  replace Hlp := hid (Hlp.out.below hst hst.size)
  replace Hm3 := hid (Hm3.out.below hst hst.size)
  replace Hm4 := hid (Hm4.out.below hst hst.size)
  clear hst
  obtain ⟨W0, rfl⟩ : ∃ W0 : World, W0 = W2 := ⟨_, rfl⟩
  go_wp2
  go_ret
  exact ⟨rfl, hbel⟩
end Go.Proofs.Ytpgdfipikfbjeaa
