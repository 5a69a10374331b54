/- The statement BlameKnown holds: whatever the arguments, the law returns true and leaves its arguments as they were. -/
import Derived.Test.YtnpilfpackdimaaMi
set_option linter.unusedSimpArgs false
set_option linter.unusedVariables false
/- Walks: the examples of the chapter. Printed by tools/blame/genk6.py. -/
namespace Go.Proofs.Ytnpilfpackdimaa
open Go.RowKit Go.Shelf
attribute [local go_sem] Oper.semAt_some
set_option maxRecDepth 100000 in
theorem kK1 : blmV 5 [[0, 1], [1, 2], [2, 3], [0, 3]] [0, 2] = 2 ∧ blmE 5 [[0, 1], [1, 2], [2, 3], [0, 3]] [0, 2] = 0 ∧ bestV 5 [[0, 1], [1, 2], [2, 3], [0, 3]] = [0, 2] ∧ bestE 5 [[0, 1], [1, 2], [2, 3], [0, 3]] = 0 ∧ capE 5 [[0, 1], [1, 2], [2, 3], [0, 3]] [0, 2] = 0 ∧ tigV 5 [[0, 1], [1, 2], [2, 3], [0, 3]] [0, 1, 2, 3] = [0, 2] ∧ blmE 5 [[0, 1], [1, 2], [2, 3], [0, 3]] [0, 1, 2, 3] = 0 := by decide +kernel
set_option maxRecDepth 100000 in
theorem kK2 : allV 5 [[0, 1], [1, 2], [2, 3], [0, 3]] = [[0, 2], [1, 3]] ∧ allV 2 [[], [0]] = [] ∧ chkBook 2 [[], [0]] = 0 ∧ forV 5 [[0, 1], [1, 2], [2, 3], [0, 3]] [[0, 2], [1, 3]] = [] ∧ forE 5 [[0, 1], [1, 2], [2, 3], [0, 3]] [[0, 2], [1, 3]] = 5 ∧ True := by decide +kernel
set_option maxRecDepth 100000 in
theorem kK3 : kinV 5 [[0, 1], [1, 2], [2, 3], [0, 3]] 0 = 1 ∧ kinE 5 [[0, 1], [1, 2], [2, 3], [0, 3]] 0 = 0 ∧ kinV 5 [[0, 1], [1, 2], [2, 3], [0, 3]] 4 = 0 ∧ kinE 5 [[0, 1], [1, 2], [2, 3], [0, 3]] 4 = 0 ∧ kinV 4 [[2], [0, 1, 2], [1, 3]] 0 = 0 ∧ kinE 4 [[2], [0, 1, 2], [1, 3]] 0 = 0 := by decide +kernel
theorem kK4 : eqLs [[0, 2], [1, 3]] [[0, 2], [1, 3]] = true := by decide +kernel
set_option maxRecDepth 1000000 in
set_option maxHeartbeats 20000000 in
theorem blameKnown_walk (w : World) : Calls Try.prog 4 #[] w fun e w' => e = .returned (.bool true) ∧ Below w.heap.size w w' := by
  go_enter Try.func4, Try.ntmps4
  go_wp2_with (fail)
  refine (round_any w).mono ?_
  rintro e W1 ⟨Ab, cb, rfl, hlb, hb1⟩
  go_wp2_with (fail)
  refine (three_any W1).mono ?_
  rintro e W2 ⟨Ac, cc, rfl, hlc, hb2⟩
  go_wp2_with (fail)
  refine (none_any W2).mono ?_
  rintro e W3 ⟨Ad, cd, rfl, hld, hb3⟩
  obtain ⟨W0, hW0⟩ : ∃ W0, ((W3.alloc (.cells #[.int .i64 5, .slice Ab 4 cb] 24)).alloc (.cells #[.int .i64 4, .slice Ac 3 cc] 24)).alloc (.cells #[.int .i64 2, .slice Ad 2 cd] 24) = W0 := ⟨_, rfl⟩
  have h30 : Below W3.heap.size W3 W0 := by rw [← hW0]; exact (by repeat' (first | with_reducible assumption | with_reducible exact Below.refl _ _ | refine Below.alloc ?_ ?_ _ | refine Below.setCell ?_ ?_ _ | refine Below.drew ?_ | refine below_drewN ?_ _ | (simp; done) | (simp; omega) | omega))
  have B1 : Blk W0 W3.heap.size 24 #[.int .i64 5, .slice Ab 4 cb] := by rw [← hW0]; exact ((Blk.new' rfl).alloc _).alloc _
  have B2 : Blk W0 (W3.heap.size + 1) 24 #[.int .i64 4, .slice Ac 3 cc] := by rw [← hW0]; exact (Blk.new' (by first | (simp; done) | (simp; omega) | omega)).alloc _
  have B3 : Blk W0 (W3.heap.size + 1 + 1) 24 #[.int .i64 2, .slice Ad 2 cd] := by rw [← hW0]; exact Blk.new' (by first | (simp; done) | (simp; omega) | omega)
  have h20 := hb3.trans (h30.mono hb3.size)
  have h10 := hb2.trans (h20.mono hb2.size)
  have hbel : Below w.heap.size w W0 := hb1.trans (h10.mono hb1.size)
  have hsz := hbel.size
  have HLb := hid (hlb.below h10 h10.size)
  have HLc := hid (hlc.below h20 h20.size)
  have HLd := hid (hld.below h30 h30.size)
  go_wp2_with (fail)
  obtain ⟨T1, hT1⟩ : ∃ T, W3.heap.size = T := ⟨_, rfl⟩
  obtain ⟨T2, hT2⟩ : ∃ T, T1 + 1 = T := ⟨_, rfl⟩
  obtain ⟨T3, hT3⟩ : ∃ T, T2 + 1 = T := ⟨_, rfl⟩
  rw [hT1, hT2, hT3] at B3
  rw [hT1, hT2] at B2
  rw [hT1] at B1
  rw [hT1, hT2, hT3]
  have p10 := B1.cell 0
  have p11 := B1.cell 1
  have l1 := B1.lt
  have p20 := B2.cell 0
  have p21 := B2.cell 1
  have l2 := B2.lt
  have p30 := B3.cell 0
  have p31 := B3.cell 1
  have l3 := B3.lt
  clear hlb hlc hld h10 h20 h30 hb1 hb2 hb3 hW0 hT1 hT2 hT3
  go_wp2_with (fail)
  refine Sx.wp_region_free (fun W => Below W0.heap.size W0 W) (hSb W0) (SpA [.val (.agg #[.int .i64 5, .slice Ab 4 cb]), .is [0, 2], .is [0, 2], .val (.tuple #[.int .i64 2, .int .i64 0]), .val (.tuple #[.int .i64 2, .int .i64 0]), .val (.int .i64 2), .val (.int .i64 0), .val (.int .i64 2), .val (.int .i64 0)]) (SpA.keep _) (fun k => ([[], [], [1], [0, 2], [3], [4], [4], [5], [6]] : List (List Nat)).getD k []) [0, 1, 2, 3, 4, 5, 6, 7, 8] rfl ?X1 ?hX1 (by kernel_rfl) (by kernel_rfl) ((Below.refl _ _).drew) ?hC1 ?hQ1
  case hX1 =>
    intro e
    simp only [Sx.putF, Sx.dstAt, List.getElem?_toArray, List.getElem?_cons_succ, List.getElem?_cons_zero, Option.bind_some, Act.put, List.setIfInBounds_toArray, List.set_cons_zero, List.set_cons_succ]
    exact rfl
  case hC1 =>
    intro k o ho e W hx hs hd
    match k, ho, hd with
    | 0, ho, hd =>
      have ho := Option.some.inj ho
      subst ho
      have f0 := (B1.below hs l1).cell 0
      have f1 := (B1.below hs l1).cell 1
      have f2 := (B1.below hs l1).lt
      go_simp
      simp only [Sx.LV]
      exact ⟨Below.refl _ _, rfl⟩
    | 1, ho, hd =>
      have ho := Option.some.inj ho
      subst ho
      go_simp
      simp only [Sx.LV]
      exact ⟨(Below.refl _ _).alloc (Nat.le_refl _) _, _, _, _, rfl, ins_blk (l := [0, 2]) (Blk.new _ _ _) (by simp)⟩
    | 2, ho, hd =>
      have ho := Option.some.inj ho
      subst ho
      obtain ⟨A1, n1, c1, e1, h1⟩ : Sp.ok (.is [0, 2]) (e 1) W := hd 1 (by decide)
      go_simp
      simp only [Sx.LV]
      refine (of_any _ _).mono ?_
      rintro e1 w1 ⟨rfl, rfl⟩
      exact ⟨_, rfl, Below.refl _ _, _, _, _, rfl, h1⟩
    | 3, ho, hd =>
      have ho := Option.some.inj ho
      subst ho
      have e0 : e 0 = (.agg #[.int .i64 5, .slice Ab 4 cb]) := hd 0 (by decide)
      obtain ⟨A2, n2, c2, e2, h2⟩ : Sp.ok (.is [0, 2]) (e 2) W := hd 2 (by decide)
      go_simp
      simp only [Sx.LV]
      have hz2 := h2.len
      refine (checkBlame_any Ab A2 4 cb n2 c2 [[0, 1], [1, 2], [2, 3], [0, 3]] [0, 2] 5 W (HLb.out.below hx hx.size) h2 (by omega) (by decide) (by simp at hz2; omega)).mono ?_
      rw [kK1.1, kK1.2.1]
      rintro e1 W1 ⟨rfl, hb⟩
      exact ⟨_, rfl, hb, rfl⟩
    | 4, ho, hd =>
      have ho := Option.some.inj ho
      subst ho
      have e3 : e 3 = (.tuple #[.int .i64 2, .int .i64 0]) := hd 3 (by decide)
      go_simp
      simp only [Sx.LV]
      exact ⟨Below.refl _ _, rfl⟩
    | 5, ho, hd =>
      have ho := Option.some.inj ho
      subst ho
      have e4 : e 4 = (.tuple #[.int .i64 2, .int .i64 0]) := hd 4 (by decide)
      go_simp
      simp only [Sx.LV]
      exact ⟨Below.refl _ _, rfl⟩
    | 6, ho, hd =>
      have ho := Option.some.inj ho
      subst ho
      have e4 : e 4 = (.tuple #[.int .i64 2, .int .i64 0]) := hd 4 (by decide)
      go_simp
      simp only [Sx.LV]
      exact ⟨Below.refl _ _, rfl⟩
    | 7, ho, hd =>
      have ho := Option.some.inj ho
      subst ho
      have e5 : e 5 = (.int .i64 2) := hd 5 (by decide)
      go_simp
      simp only [Sx.LV]
      exact ⟨Below.refl _ _, rfl⟩
    | 8, ho, hd =>
      have ho := Option.some.inj ho
      subst ho
      have e6 : e 6 = (.int .i64 0) := hd 6 (by decide)
      go_simp
      simp only [Sx.LV]
      exact ⟨Below.refl _ _, rfl⟩
    | k + 9, ho, _ => cases ho
  intro e V hv hst0 hp
  have e7 : e 7 = (.int .i64 2) := hp 7 (by decide)
  have e8 : e 8 = (.int .i64 0) := hp 8 (by decide)
  simp only [e7, e8]
  clear hp hv
  replace hbel := hbel.trans (hst0.mono hsz)
  replace hsz := hbel.size
  replace B1 := B1.below hst0 B1.lt
  replace B2 := B2.below hst0 B2.lt
  replace B3 := B3.below hst0 B3.lt
  clear p10 p11 l1 p20 p21 l2 p30 p31 l3
  have p10 := B1.cell 0
  have p11 := B1.cell 1
  have l1 := B1.lt
  have p20 := B2.cell 0
  have p21 := B2.cell 1
  have l2 := B2.lt
  have p30 := B3.cell 0
  have p31 := B3.cell 1
  have l3 := B3.lt
  replace HLb := hid (HLb.out.below hst0 hst0.size)
  replace HLc := hid (HLc.out.below hst0 hst0.size)
  replace HLd := hid (HLd.out.below hst0 hst0.size)
  clear hst0
  obtain ⟨W0, rfl⟩ : ∃ W0 : World, W0 = V := ⟨_, rfl⟩
  go_wp2_with (fail)
  refine (blame_any Ab 4 cb [[0, 1], [1, 2], [2, 3], [0, 3]] 5 W0 HLb.out (by omega) (by decide)).mono ?_
  rw [kK1.2.2.1, kK1.2.2.2.1]
  rintro e W1 ⟨Al, nl, cl, rfl, hl, hb⟩
  have Hl := hid hl
  clear hl
  replace hbel := hbel.trans (hb.mono hsz)
  replace hsz := hbel.size
  replace B1 := B1.below hb B1.lt
  replace B2 := B2.below hb B2.lt
  replace B3 := B3.below hb B3.lt
  clear p10 p11 l1 p20 p21 l2 p30 p31 l3
  have p10 := B1.cell 0
  have p11 := B1.cell 1
  have l1 := B1.lt
  have p20 := B2.cell 0
  have p21 := B2.cell 1
  have l2 := B2.lt
  have p30 := B3.cell 0
  have p31 := B3.cell 1
  have l3 := B3.lt
  replace HLb := hid (HLb.out.below hb hb.size)
  replace HLc := hid (HLc.out.below hb hb.size)
  replace HLd := hid (HLd.out.below hb hb.size)
  clear hb
  obtain ⟨W0, rfl⟩ : ∃ W0 : World, W0 = W1 := ⟨_, rfl⟩
  go_wp2_with (fail)
  refine Sx.wp_region_free (fun W => Below W0.heap.size W0 W) (hSb W0) (SpA [.val (.agg #[.int .i64 5, .slice Ab 4 cb]), .is [0, 2], .is [0, 2], .val (.int .i64 0), .val (.int .i64 0)]) (SpA.keep _) (fun k => ([[], [], [1], [0, 2], [3]] : List (List Nat)).getD k []) [0, 1, 2, 3, 4] rfl ?X3 ?hX3 (by kernel_rfl) (by kernel_rfl) ((Below.refl _ _).drew) ?hC3 ?hQ3
  case hX3 =>
    intro e
    simp only [Sx.putF, Sx.dstAt, List.getElem?_toArray, List.getElem?_cons_succ, List.getElem?_cons_zero, Option.bind_some, Act.put, List.setIfInBounds_toArray, List.set_cons_zero, List.set_cons_succ]
    exact rfl
  case hC3 =>
    intro k o ho e W hx hs hd
    match k, ho, hd with
    | 0, ho, hd =>
      have ho := Option.some.inj ho
      subst ho
      have f0 := (B1.below hs l1).cell 0
      have f1 := (B1.below hs l1).cell 1
      have f2 := (B1.below hs l1).lt
      go_simp
      simp only [Sx.LV]
      exact ⟨Below.refl _ _, rfl⟩
    | 1, ho, hd =>
      have ho := Option.some.inj ho
      subst ho
      go_simp
      simp only [Sx.LV]
      exact ⟨(Below.refl _ _).alloc (Nat.le_refl _) _, _, _, _, rfl, ins_blk (l := [0, 2]) (Blk.new _ _ _) (by simp)⟩
    | 2, ho, hd =>
      have ho := Option.some.inj ho
      subst ho
      obtain ⟨A1, n1, c1, e1, h1⟩ : Sp.ok (.is [0, 2]) (e 1) W := hd 1 (by decide)
      go_simp
      simp only [Sx.LV]
      refine (of_any _ _).mono ?_
      rintro e1 w1 ⟨rfl, rfl⟩
      exact ⟨_, rfl, Below.refl _ _, _, _, _, rfl, h1⟩
    | 3, ho, hd =>
      have ho := Option.some.inj ho
      subst ho
      have e0 : e 0 = (.agg #[.int .i64 5, .slice Ab 4 cb]) := hd 0 (by decide)
      obtain ⟨A2, n2, c2, e2, h2⟩ : Sp.ok (.is [0, 2]) (e 2) W := hd 2 (by decide)
      go_simp
      simp only [Sx.LV]
      have hz2 := h2.len
      refine (checkApart_any Ab A2 4 cb n2 c2 [[0, 1], [1, 2], [2, 3], [0, 3]] [0, 2] 5 W (HLb.out.below hx hx.size) h2 (by omega) (by decide) (by simp at hz2; omega)).mono ?_
      rw [kK1.2.2.2.2.1]
      rintro e1 W1 ⟨rfl, hb⟩
      exact ⟨_, rfl, hb, rfl⟩
    | 4, ho, hd =>
      have ho := Option.some.inj ho
      subst ho
      have e3 : e 3 = (.int .i64 0) := hd 3 (by decide)
      go_simp
      simp only [Sx.LV]
      exact ⟨Below.refl _ _, rfl⟩
    | k + 5, ho, _ => cases ho
  intro e V hv hst0 hp
  have e4 : e 4 = (.int .i64 0) := hp 4 (by decide)
  simp only [e4]
  clear hp hv
  replace hbel := hbel.trans (hst0.mono hsz)
  replace hsz := hbel.size
  replace B1 := B1.below hst0 B1.lt
  replace B2 := B2.below hst0 B2.lt
  replace B3 := B3.below hst0 B3.lt
  clear p10 p11 l1 p20 p21 l2 p30 p31 l3
  have p10 := B1.cell 0
  have p11 := B1.cell 1
  have l1 := B1.lt
  have p20 := B2.cell 0
  have p21 := B2.cell 1
  have l2 := B2.lt
  have p30 := B3.cell 0
  have p31 := B3.cell 1
  have l3 := B3.lt
  replace HLb := hid (HLb.out.below hst0 hst0.size)
  replace HLc := hid (HLc.out.below hst0 hst0.size)
  replace HLd := hid (HLd.out.below hst0 hst0.size)
  replace Hl := hid (Hl.out.below hst0 hst0.size)
  clear hst0
  obtain ⟨W0, rfl⟩ : ∃ W0 : World, W0 = V := ⟨_, rfl⟩
  go_wp2_with (fail)
  refine Sx.wp_region_free (fun W => Below W0.heap.size W0 W) (hSb W0) (SpA [.val (.agg #[.int .i64 5, .slice Ab 4 cb]), .is [0, 1, 2, 3], .is [0, 1, 2, 3], .tis [0, 2] (.int .i64 0), .tis [0, 2] (.int .i64 0), .is [0, 2], .val (.int .i64 0), .is [0, 2], .val (.int .i64 0)]) (SpA.keep _) (fun k => ([[], [], [1], [0, 2], [3], [4], [4], [5], [6]] : List (List Nat)).getD k []) [0, 1, 2, 3, 4, 5, 6, 7, 8] rfl ?X4 ?hX4 (by kernel_rfl) (by kernel_rfl) ((Below.refl _ _).drew) ?hC4 ?hQ4
  case hX4 =>
    intro e
    simp only [Sx.putF, Sx.dstAt, List.getElem?_toArray, List.getElem?_cons_succ, List.getElem?_cons_zero, Option.bind_some, Act.put, List.setIfInBounds_toArray, List.set_cons_zero, List.set_cons_succ]
    exact rfl
  case hC4 =>
    intro k o ho e W hx hs hd
    match k, ho, hd with
    | 0, ho, hd =>
      have ho := Option.some.inj ho
      subst ho
      have f0 := (B1.below hs l1).cell 0
      have f1 := (B1.below hs l1).cell 1
      have f2 := (B1.below hs l1).lt
      go_simp
      simp only [Sx.LV]
      exact ⟨Below.refl _ _, rfl⟩
    | 1, ho, hd =>
      have ho := Option.some.inj ho
      subst ho
      go_simp
      simp only [Sx.LV]
      exact ⟨(Below.refl _ _).alloc (Nat.le_refl _) _, _, _, _, rfl, ins_blk (l := [0, 1, 2, 3]) (Blk.new _ _ _) (by simp)⟩
    | 2, ho, hd =>
      have ho := Option.some.inj ho
      subst ho
      obtain ⟨A1, n1, c1, e1, h1⟩ : Sp.ok (.is [0, 1, 2, 3]) (e 1) W := hd 1 (by decide)
      go_simp
      simp only [Sx.LV]
      refine (of_any _ _).mono ?_
      rintro e1 w1 ⟨rfl, rfl⟩
      exact ⟨_, rfl, Below.refl _ _, _, _, _, rfl, h1⟩
    | 3, ho, hd =>
      have ho := Option.some.inj ho
      subst ho
      have e0 : e 0 = (.agg #[.int .i64 5, .slice Ab 4 cb]) := hd 0 (by decide)
      obtain ⟨A2, n2, c2, e2, h2⟩ : Sp.ok (.is [0, 1, 2, 3]) (e 2) W := hd 2 (by decide)
      go_simp
      simp only [Sx.LV]
      have hz2 := h2.len
      refine (tight_any Ab A2 4 cb n2 c2 [[0, 1], [1, 2], [2, 3], [0, 3]] [0, 1, 2, 3] 5 W (HLb.out.below hx hx.size) h2 (by omega) (by decide) (by simp at hz2; omega) (fun b off e => ins_lt0 h2 (by simp at hz2; omega) b off e)).mono ?_
      rw [kK1.2.2.2.2.2.1, kK1.2.2.2.2.2.2]
      rintro e1 W1 ⟨Ar, nr, cr, rfl, -, hr, hb⟩
      exact ⟨_, rfl, hb, _, _, _, rfl, hr⟩
    | 4, ho, hd =>
      have ho := Option.some.inj ho
      subst ho
      obtain ⟨A3, n3, c3, e3, h3⟩ : Sp.ok (.tis [0, 2] (.int .i64 0)) (e 3) W := hd 3 (by decide)
      go_simp
      simp only [Sx.LV]
      exact ⟨Below.refl _ _, _, _, _, rfl, h3⟩
    | 5, ho, hd =>
      have ho := Option.some.inj ho
      subst ho
      obtain ⟨A4, n4, c4, e4, h4⟩ : Sp.ok (.tis [0, 2] (.int .i64 0)) (e 4) W := hd 4 (by decide)
      go_simp
      simp only [Sx.LV]
      exact ⟨Below.refl _ _, _, _, _, rfl, h4⟩
    | 6, ho, hd =>
      have ho := Option.some.inj ho
      subst ho
      obtain ⟨A4, n4, c4, e4, h4⟩ : Sp.ok (.tis [0, 2] (.int .i64 0)) (e 4) W := hd 4 (by decide)
      go_simp
      simp only [Sx.LV]
      exact ⟨Below.refl _ _, rfl⟩
    | 7, ho, hd =>
      have ho := Option.some.inj ho
      subst ho
      obtain ⟨A5, n5, c5, e5, h5⟩ : Sp.ok (.is [0, 2]) (e 5) W := hd 5 (by decide)
      go_simp
      simp only [Sx.LV]
      exact ⟨Below.refl _ _, _, _, _, rfl, h5⟩
    | 8, ho, hd =>
      have ho := Option.some.inj ho
      subst ho
      have e6 : e 6 = (.int .i64 0) := hd 6 (by decide)
      go_simp
      simp only [Sx.LV]
      exact ⟨Below.refl _ _, rfl⟩
    | k + 9, ho, _ => cases ho
  intro e V hv hst0 hp
  obtain ⟨At, nt, ct, e7, ht⟩ : Sp.ok (.is [0, 2]) (e 7) V := hp 7 (by decide)
  have Ht := hid ht
  clear ht
  have e8 : e 8 = (.int .i64 0) := hp 8 (by decide)
  simp only [e7, e8]
  clear hp hv
  replace hbel := hbel.trans (hst0.mono hsz)
  replace hsz := hbel.size
  replace B1 := B1.below hst0 B1.lt
  replace B2 := B2.below hst0 B2.lt
  replace B3 := B3.below hst0 B3.lt
  clear p10 p11 l1 p20 p21 l2 p30 p31 l3
  have p10 := B1.cell 0
  have p11 := B1.cell 1
  have l1 := B1.lt
  have p20 := B2.cell 0
  have p21 := B2.cell 1
  have l2 := B2.lt
  have p30 := B3.cell 0
  have p31 := B3.cell 1
  have l3 := B3.lt
  replace HLb := hid (HLb.out.below hst0 hst0.size)
  replace HLc := hid (HLc.out.below hst0 hst0.size)
  replace HLd := hid (HLd.out.below hst0 hst0.size)
  replace Hl := hid (Hl.out.below hst0 hst0.size)
  clear hst0
  obtain ⟨W0, rfl⟩ : ∃ W0 : World, W0 = V := ⟨_, rfl⟩
  go_wp2_with (fail)
  refine (allF_any Ab 4 cb [[0, 1], [1, 2], [2, 3], [0, 3]] 5 W0 HLb.out (by omega) (by decide)).mono ?_
  rw [kK2.1, kD.2.1]
  rintro e W1 ⟨Ax, nx, cx, rfl, hx, hb⟩
  have Hx := hid hx.lis
  clear hx
  replace hbel := hbel.trans (hb.mono hsz)
  replace hsz := hbel.size
  replace B1 := B1.below hb B1.lt
  replace B2 := B2.below hb B2.lt
  replace B3 := B3.below hb B3.lt
  clear p10 p11 l1 p20 p21 l2 p30 p31 l3
  have p10 := B1.cell 0
  have p11 := B1.cell 1
  have l1 := B1.lt
  have p20 := B2.cell 0
  have p21 := B2.cell 1
  have l2 := B2.lt
  have p30 := B3.cell 0
  have p31 := B3.cell 1
  have l3 := B3.lt
  replace HLb := hid (HLb.out.below hb hb.size)
  replace HLc := hid (HLc.out.below hb hb.size)
  replace HLd := hid (HLd.out.below hb hb.size)
  replace Hl := hid (Hl.out.below hb hb.size)
  replace Ht := hid (Ht.out.below hb hb.size)
  clear hb
  obtain ⟨W0, rfl⟩ : ∃ W0 : World, W0 = W1 := ⟨_, rfl⟩
  go_wp2_with (fail)
  refine (allF_any Ad 2 cd [[], [0]] 2 W0 HLd.out (by omega) (by decide)).mono ?_
  rw [kK2.2.1, kK2.2.2.1]
  rintro e W1 ⟨Ay, ny, cy, rfl, hy, hb⟩
  have Hy := hid hy.lis
  clear hy
  replace hbel := hbel.trans (hb.mono hsz)
  replace hsz := hbel.size
  replace B1 := B1.below hb B1.lt
  replace B2 := B2.below hb B2.lt
  replace B3 := B3.below hb B3.lt
  clear p10 p11 l1 p20 p21 l2 p30 p31 l3
  have p10 := B1.cell 0
  have p11 := B1.cell 1
  have l1 := B1.lt
  have p20 := B2.cell 0
  have p21 := B2.cell 1
  have l2 := B2.lt
  have p30 := B3.cell 0
  have p31 := B3.cell 1
  have l3 := B3.lt
  replace HLb := hid (HLb.out.below hb hb.size)
  replace HLc := hid (HLc.out.below hb hb.size)
  replace HLd := hid (HLd.out.below hb hb.size)
  replace Hl := hid (Hl.out.below hb hb.size)
  replace Ht := hid (Ht.out.below hb hb.size)
  replace Hx := hid (Hx.out.below hb hb.size)
  clear hb
  obtain ⟨W0, rfl⟩ : ∃ W0 : World, W0 = W1 := ⟨_, rfl⟩
  go_wp2_with (fail)
  refine Sx.wp_region_free (fun W => Below W0.heap.size W0 W) (hSb W0) (SpA [.val (.agg #[.int .i64 5, .slice Ab 4 cb]), .is [0, 2], .is [0, 2], .is [1, 3], .is [1, 3], .li [[0, 2], [1, 3]], .tis [] (.int .i64 5), .tis [] (.int .i64 5), .is [], .val (.int .i64 5), .is [], .val (.int .i64 5)]) (SpA.keep _) (fun k => ([[], [], [1], [], [3], [2, 4], [0, 5], [6], [7], [7], [8], [9]] : List (List Nat)).getD k []) [0, 1, 2, 3, 4, 5, 6, 7, 8, 9, 10, 11] rfl ?X7 ?hX7 (by kernel_rfl) (by kernel_rfl) ((Below.refl _ _).drew) ?hC7 ?hQ7
  case hX7 =>
    intro e
    simp only [Sx.putF, Sx.dstAt, List.getElem?_toArray, List.getElem?_cons_succ, List.getElem?_cons_zero, Option.bind_some, Act.put, List.setIfInBounds_toArray, List.set_cons_zero, List.set_cons_succ]
    exact rfl
  case hC7 =>
    intro k o ho e W hx hs hd
    match k, ho, hd with
    | 0, ho, hd =>
      have ho := Option.some.inj ho
      subst ho
      have f0 := (B1.below hs l1).cell 0
      have f1 := (B1.below hs l1).cell 1
      have f2 := (B1.below hs l1).lt
      go_simp
      simp only [Sx.LV]
      exact ⟨Below.refl _ _, rfl⟩
    | 1, ho, hd =>
      have ho := Option.some.inj ho
      subst ho
      go_simp
      simp only [Sx.LV]
      exact ⟨(Below.refl _ _).alloc (Nat.le_refl _) _, _, _, _, rfl, ins_blk (l := [0, 2]) (Blk.new _ _ _) (by simp)⟩
    | 2, ho, hd =>
      have ho := Option.some.inj ho
      subst ho
      obtain ⟨A1, n1, c1, e1, h1⟩ : Sp.ok (.is [0, 2]) (e 1) W := hd 1 (by decide)
      go_simp
      simp only [Sx.LV]
      refine (of_any _ _).mono ?_
      rintro e1 w1 ⟨rfl, rfl⟩
      exact ⟨_, rfl, Below.refl _ _, _, _, _, rfl, h1⟩
    | 3, ho, hd =>
      have ho := Option.some.inj ho
      subst ho
      go_simp
      simp only [Sx.LV]
      exact ⟨(Below.refl _ _).alloc (Nat.le_refl _) _, _, _, _, rfl, ins_blk (l := [1, 3]) (Blk.new _ _ _) (by simp)⟩
    | 4, ho, hd =>
      have ho := Option.some.inj ho
      subst ho
      obtain ⟨A3, n3, c3, e3, h3⟩ : Sp.ok (.is [1, 3]) (e 3) W := hd 3 (by decide)
      go_simp
      simp only [Sx.LV]
      refine (of_any _ _).mono ?_
      rintro e1 w1 ⟨rfl, rfl⟩
      exact ⟨_, rfl, Below.refl _ _, _, _, _, rfl, h3⟩
    | 5, ho, hd =>
      have ho := Option.some.inj ho
      subst ho
      obtain ⟨A2, n2, c2, e2, h2⟩ : Sp.ok (.is [0, 2]) (e 2) W := hd 2 (by decide)
      obtain ⟨A4, n4, c4, e4, h4⟩ : Sp.ok (.is [1, 3]) (e 4) W := hd 4 (by decide)
      go_simp
      simp only [Sx.LV]
      have hbx : Below W.heap.size W _ := (Below.refl W.heap.size W).alloc (Nat.le_refl _) (.cells #[.slice A2 n2 c2, .slice A4 n4 c4] 25)
      exact ⟨hbx, _, _, _, rfl, lis_two (Blk.new _ _ _) (h2.below hbx hbx.size) (h4.below hbx hbx.size)⟩
    | 6, ho, hd =>
      have ho := Option.some.inj ho
      subst ho
      have e0 : e 0 = (.agg #[.int .i64 5, .slice Ab 4 cb]) := hd 0 (by decide)
      obtain ⟨A5, n5, c5, e5, h5⟩ : Sp.ok (.li [[0, 2], [1, 3]]) (e 5) W := hd 5 (by decide)
      go_simp
      simp only [Sx.LV]
      have hz5 := h5.1
      refine (forgotten_any Ab A5 4 cb n5 c5 [[0, 1], [1, 2], [2, 3], [0, 3]] [[0, 2], [1, 3]] 5 W (HLb.out.below hx hx.size) h5 (by omega) (by decide) (by simp at hz5; omega) (by decide)).mono ?_
      rw [kK2.2.2.2.1, kK2.2.2.2.2.1]
      rintro e1 W1 ⟨Ar, nr, cr, rfl, hr, hb⟩
      exact ⟨_, rfl, hb, _, _, _, rfl, hr⟩
    | 7, ho, hd =>
      have ho := Option.some.inj ho
      subst ho
      obtain ⟨A6, n6, c6, e6, h6⟩ : Sp.ok (.tis [] (.int .i64 5)) (e 6) W := hd 6 (by decide)
      go_simp
      simp only [Sx.LV]
      exact ⟨Below.refl _ _, _, _, _, rfl, h6⟩
    | 8, ho, hd =>
      have ho := Option.some.inj ho
      subst ho
      obtain ⟨A7, n7, c7, e7, h7⟩ : Sp.ok (.tis [] (.int .i64 5)) (e 7) W := hd 7 (by decide)
      go_simp
      simp only [Sx.LV]
      exact ⟨Below.refl _ _, _, _, _, rfl, h7⟩
    | 9, ho, hd =>
      have ho := Option.some.inj ho
      subst ho
      obtain ⟨A7, n7, c7, e7, h7⟩ : Sp.ok (.tis [] (.int .i64 5)) (e 7) W := hd 7 (by decide)
      go_simp
      simp only [Sx.LV]
      exact ⟨Below.refl _ _, rfl⟩
    | 10, ho, hd =>
      have ho := Option.some.inj ho
      subst ho
      obtain ⟨A8, n8, c8, e8, h8⟩ : Sp.ok (.is []) (e 8) W := hd 8 (by decide)
      go_simp
      simp only [Sx.LV]
      exact ⟨Below.refl _ _, _, _, _, rfl, h8⟩
    | 11, ho, hd =>
      have ho := Option.some.inj ho
      subst ho
      have e9 : e 9 = (.int .i64 5) := hd 9 (by decide)
      go_simp
      simp only [Sx.LV]
      exact ⟨Below.refl _ _, rfl⟩
    | k + 12, ho, _ => cases ho
  intro e V hv hst0 hp
  obtain ⟨Ao, no, co, e10, ho⟩ : Sp.ok (.is []) (e 10) V := hp 10 (by decide)
  have Ho := hid ho
  clear ho
  have e11 : e 11 = (.int .i64 5) := hp 11 (by decide)
  simp only [e10, e11]
  clear hp hv
  replace hbel := hbel.trans (hst0.mono hsz)
  replace hsz := hbel.size
  replace B1 := B1.below hst0 B1.lt
  replace B2 := B2.below hst0 B2.lt
  replace B3 := B3.below hst0 B3.lt
  clear p10 p11 l1 p20 p21 l2 p30 p31 l3
  have p10 := B1.cell 0
  have p11 := B1.cell 1
  have l1 := B1.lt
  have p20 := B2.cell 0
  have p21 := B2.cell 1
  have l2 := B2.lt
  have p30 := B3.cell 0
  have p31 := B3.cell 1
  have l3 := B3.lt
  replace HLb := hid (HLb.out.below hst0 hst0.size)
  replace HLc := hid (HLc.out.below hst0 hst0.size)
  replace HLd := hid (HLd.out.below hst0 hst0.size)
  replace Hl := hid (Hl.out.below hst0 hst0.size)
  replace Ht := hid (Ht.out.below hst0 hst0.size)
  replace Hx := hid (Hx.out.below hst0 hst0.size)
  replace Hy := hid (Hy.out.below hst0 hst0.size)
  clear hst0
  obtain ⟨W0, rfl⟩ : ∃ W0 : World, W0 = V := ⟨_, rfl⟩
  go_wp2_with (fail)
  refine (kind_any Ab 4 cb [[0, 1], [1, 2], [2, 3], [0, 3]] 5 0 W0 HLb.out (by omega) (by decide)).mono ?_
  rw [kK3.1, kK3.2.1]
  rintro e W1 ⟨rfl, hb⟩
  replace hbel := hbel.trans (hb.mono hsz)
  replace hsz := hbel.size
  replace B1 := B1.below hb B1.lt
  replace B2 := B2.below hb B2.lt
  replace B3 := B3.below hb B3.lt
  clear p10 p11 l1 p20 p21 l2 p30 p31 l3
  have p10 := B1.cell 0
  have p11 := B1.cell 1
  have l1 := B1.lt
  have p20 := B2.cell 0
  have p21 := B2.cell 1
  have l2 := B2.lt
  have p30 := B3.cell 0
  have p31 := B3.cell 1
  have l3 := B3.lt
  replace HLb := hid (HLb.out.below hb hb.size)
  replace HLc := hid (HLc.out.below hb hb.size)
  replace HLd := hid (HLd.out.below hb hb.size)
  replace Hl := hid (Hl.out.below hb hb.size)
  replace Ht := hid (Ht.out.below hb hb.size)
  replace Hx := hid (Hx.out.below hb hb.size)
  replace Hy := hid (Hy.out.below hb hb.size)
  replace Ho := hid (Ho.out.below hb hb.size)
  clear hb
  obtain ⟨W0, rfl⟩ : ∃ W0 : World, W0 = W1 := ⟨_, rfl⟩
  go_wp2_with (fail)
  refine (kind_any Ab 4 cb [[0, 1], [1, 2], [2, 3], [0, 3]] 5 4 W0 HLb.out (by omega) (by decide)).mono ?_
  rw [kK3.2.2.1, kK3.2.2.2.1]
  rintro e W1 ⟨rfl, hb⟩
  replace hbel := hbel.trans (hb.mono hsz)
  replace hsz := hbel.size
  replace B1 := B1.below hb B1.lt
  replace B2 := B2.below hb B2.lt
  replace B3 := B3.below hb B3.lt
  clear p10 p11 l1 p20 p21 l2 p30 p31 l3
  have p10 := B1.cell 0
  have p11 := B1.cell 1
  have l1 := B1.lt
  have p20 := B2.cell 0
  have p21 := B2.cell 1
  have l2 := B2.lt
  have p30 := B3.cell 0
  have p31 := B3.cell 1
  have l3 := B3.lt
  replace HLb := hid (HLb.out.below hb hb.size)
  replace HLc := hid (HLc.out.below hb hb.size)
  replace HLd := hid (HLd.out.below hb hb.size)
  replace Hl := hid (Hl.out.below hb hb.size)
  replace Ht := hid (Ht.out.below hb hb.size)
  replace Hx := hid (Hx.out.below hb hb.size)
  replace Hy := hid (Hy.out.below hb hb.size)
  replace Ho := hid (Ho.out.below hb hb.size)
  clear hb
  obtain ⟨W0, rfl⟩ : ∃ W0 : World, W0 = W1 := ⟨_, rfl⟩
  go_wp2_with (fail)
  refine (kind_any Ac 3 cc [[2], [0, 1, 2], [1, 3]] 4 0 W0 HLc.out (by omega) (by decide)).mono ?_
  rw [kK3.2.2.2.2.1, kK3.2.2.2.2.2]
  rintro e W1 ⟨rfl, hb⟩
  replace hbel := hbel.trans (hb.mono hsz)
  replace hsz := hbel.size
  replace B1 := B1.below hb B1.lt
  replace B2 := B2.below hb B2.lt
  replace B3 := B3.below hb B3.lt
  clear p10 p11 l1 p20 p21 l2 p30 p31 l3
  have p10 := B1.cell 0
  have p11 := B1.cell 1
  have l1 := B1.lt
  have p20 := B2.cell 0
  have p21 := B2.cell 1
  have l2 := B2.lt
  have p30 := B3.cell 0
  have p31 := B3.cell 1
  have l3 := B3.lt
  replace HLb := hid (HLb.out.below hb hb.size)
  replace HLc := hid (HLc.out.below hb hb.size)
  replace HLd := hid (HLd.out.below hb hb.size)
  replace Hl := hid (Hl.out.below hb hb.size)
  replace Ht := hid (Ht.out.below hb hb.size)
  replace Hx := hid (Hx.out.below hb hb.size)
  replace Hy := hid (Hy.out.below hb hb.size)
  replace Ho := hid (Ho.out.below hb hb.size)
  clear hb
  obtain ⟨W0, rfl⟩ : ∃ W0 : World, W0 = W1 := ⟨_, rfl⟩
  go_wp2_with (fail)
  refine (of_new W0 [0, 2]).mono ?_
  rintro e W2 ⟨Aml, nml, cml, rfl, hml, hb⟩
  have Hml := hid hml
  clear hml
  replace hbel := hbel.trans (hb.mono hsz)
  replace hsz := hbel.size
  replace B1 := B1.below hb B1.lt
  replace B2 := B2.below hb B2.lt
  replace B3 := B3.below hb B3.lt
  clear p10 p11 l1 p20 p21 l2 p30 p31 l3
  have p10 := B1.cell 0
  have p11 := B1.cell 1
  have l1 := B1.lt
  have p20 := B2.cell 0
  have p21 := B2.cell 1
  have l2 := B2.lt
  have p30 := B3.cell 0
  have p31 := B3.cell 1
  have l3 := B3.lt
  replace HLb := hid (HLb.out.below hb hb.size)
  replace HLc := hid (HLc.out.below hb hb.size)
  replace HLd := hid (HLd.out.below hb hb.size)
  replace Hl := hid (Hl.out.below hb hb.size)
  replace Ht := hid (Ht.out.below hb hb.size)
  replace Hx := hid (Hx.out.below hb hb.size)
  replace Hy := hid (Hy.out.below hb hb.size)
  replace Ho := hid (Ho.out.below hb hb.size)
  clear hb
  obtain ⟨W0, rfl⟩ : ∃ W0 : World, W0 = W2 := ⟨_, rfl⟩
  go_wp2_with (fail)
  refine (ints_any _ Al Aml nl cl nml cml [0, 2] [0, 2] (Hl.out.below (by repeat' (first | with_reducible assumption | with_reducible exact Below.refl _ _ | refine Below.alloc ?_ ?_ _ | refine Below.setCell ?_ ?_ _ | refine Below.drew ?_ | refine below_drewN ?_ _ | (simp; done) | (simp; omega) | omega)) (by first | (simp; done) | (simp; omega) | omega)) (Hml.out.below (by repeat' (first | with_reducible assumption | with_reducible exact Below.refl _ _ | refine Below.alloc ?_ ?_ _ | refine Below.setCell ?_ ?_ _ | refine Below.drew ?_ | refine below_drewN ?_ _ | (simp; done) | (simp; omega) | omega)) (by first | (simp; done) | (simp; omega) | omega)) (by have := Hl.out.len; simp at this; omega)).mono ?_
  rw [kEqs.2.1]
  rintro e W2 ⟨rfl, hb⟩
  have hst : Below W0.heap.size W0 W2 := Below.trans (by repeat' (first | with_reducible assumption | with_reducible exact Below.refl _ _ | refine Below.alloc ?_ ?_ _ | refine Below.setCell ?_ ?_ _ | refine Below.drew ?_ | refine below_drewN ?_ _ | (simp; done) | (simp; omega) | omega)) (hb.mono (by first | (simp; done) | (simp; omega) | omega))
  clear hb
  replace hbel := hbel.trans (hst.mono hsz)
  replace hsz := hbel.size
  replace B1 := B1.below hst B1.lt
  replace B2 := B2.below hst B2.lt
  replace B3 := B3.below hst B3.lt
  clear p10 p11 l1 p20 p21 l2 p30 p31 l3
  have p10 := B1.cell 0
  have p11 := B1.cell 1
  have l1 := B1.lt
  have p20 := B2.cell 0
  have p21 := B2.cell 1
  have l2 := B2.lt
  have p30 := B3.cell 0
  have p31 := B3.cell 1
  have l3 := B3.lt
  replace HLb := hid (HLb.out.below hst hst.size)
  replace HLc := hid (HLc.out.below hst hst.size)
  replace HLd := hid (HLd.out.below hst hst.size)
  replace Hl := hid (Hl.out.below hst hst.size)
  replace Ht := hid (Ht.out.below hst hst.size)
  replace Hx := hid (Hx.out.below hst hst.size)
  replace Hy := hid (Hy.out.below hst hst.size)
  replace Ho := hid (Ho.out.below hst hst.size)
  replace Hml := hid (Hml.out.below hst hst.size)
  clear hst
  obtain ⟨W0, rfl⟩ : ∃ W0 : World, W0 = W2 := ⟨_, rfl⟩
  clear Hl
  clear Hml
  go_wp2_with (fail)
  refine (of_new W0 [0, 2]).mono ?_
  rintro e W2 ⟨Amt, nmt, cmt, rfl, hmt, hb⟩
  have Hmt := hid hmt
  clear hmt
  replace hbel := hbel.trans (hb.mono hsz)
  replace hsz := hbel.size
  replace B1 := B1.below hb B1.lt
  replace B2 := B2.below hb B2.lt
  replace B3 := B3.below hb B3.lt
  clear p10 p11 l1 p20 p21 l2 p30 p31 l3
  have p10 := B1.cell 0
  have p11 := B1.cell 1
  have l1 := B1.lt
  have p20 := B2.cell 0
  have p21 := B2.cell 1
  have l2 := B2.lt
  have p30 := B3.cell 0
  have p31 := B3.cell 1
  have l3 := B3.lt
  replace HLb := hid (HLb.out.below hb hb.size)
  replace HLc := hid (HLc.out.below hb hb.size)
  replace HLd := hid (HLd.out.below hb hb.size)
  replace Ht := hid (Ht.out.below hb hb.size)
  replace Hx := hid (Hx.out.below hb hb.size)
  replace Hy := hid (Hy.out.below hb hb.size)
  replace Ho := hid (Ho.out.below hb hb.size)
  clear hb
  obtain ⟨W0, rfl⟩ : ∃ W0 : World, W0 = W2 := ⟨_, rfl⟩
  go_wp2_with (fail)
  refine (ints_any _ At Amt nt ct nmt cmt [0, 2] [0, 2] (Ht.out.below (by repeat' (first | with_reducible assumption | with_reducible exact Below.refl _ _ | refine Below.alloc ?_ ?_ _ | refine Below.setCell ?_ ?_ _ | refine Below.drew ?_ | refine below_drewN ?_ _ | (simp; done) | (simp; omega) | omega)) (by first | (simp; done) | (simp; omega) | omega)) (Hmt.out.below (by repeat' (first | with_reducible assumption | with_reducible exact Below.refl _ _ | refine Below.alloc ?_ ?_ _ | refine Below.setCell ?_ ?_ _ | refine Below.drew ?_ | refine below_drewN ?_ _ | (simp; done) | (simp; omega) | omega)) (by first | (simp; done) | (simp; omega) | omega)) (by have := Ht.out.len; simp at this; omega)).mono ?_
  rw [kEqs.2.1]
  rintro e W2 ⟨rfl, hb⟩
  have hst : Below W0.heap.size W0 W2 := Below.trans (by repeat' (first | with_reducible assumption | with_reducible exact Below.refl _ _ | refine Below.alloc ?_ ?_ _ | refine Below.setCell ?_ ?_ _ | refine Below.drew ?_ | refine below_drewN ?_ _ | (simp; done) | (simp; omega) | omega)) (hb.mono (by first | (simp; done) | (simp; omega) | omega))
  clear hb
  replace hbel := hbel.trans (hst.mono hsz)
  replace hsz := hbel.size
  replace B1 := B1.below hst B1.lt
  replace B2 := B2.below hst B2.lt
  replace B3 := B3.below hst B3.lt
  clear p10 p11 l1 p20 p21 l2 p30 p31 l3
  have p10 := B1.cell 0
  have p11 := B1.cell 1
  have l1 := B1.lt
  have p20 := B2.cell 0
  have p21 := B2.cell 1
  have l2 := B2.lt
  have p30 := B3.cell 0
  have p31 := B3.cell 1
  have l3 := B3.lt
  replace HLb := hid (HLb.out.below hst hst.size)
  replace HLc := hid (HLc.out.below hst hst.size)
  replace HLd := hid (HLd.out.below hst hst.size)
  replace Ht := hid (Ht.out.below hst hst.size)
  replace Hx := hid (Hx.out.below hst hst.size)
  replace Hy := hid (Hy.out.below hst hst.size)
  replace Ho := hid (Ho.out.below hst hst.size)
  replace Hmt := hid (Hmt.out.below hst hst.size)
  clear hst
  obtain ⟨W0, rfl⟩ : ∃ W0 : World, W0 = W2 := ⟨_, rfl⟩
  clear Ht
  clear Hmt
  go_wp2_with (fail)
  refine (of_new W0 [0, 2]).mono ?_
  rintro e W2 ⟨Au1, nu1, cu1, rfl, hu1, hb⟩
  have Hu1 := hid hu1
  clear hu1
  replace hbel := hbel.trans (hb.mono hsz)
  replace hsz := hbel.size
  replace B1 := B1.below hb B1.lt
  replace B2 := B2.below hb B2.lt
  replace B3 := B3.below hb B3.lt
  clear p10 p11 l1 p20 p21 l2 p30 p31 l3
  have p10 := B1.cell 0
  have p11 := B1.cell 1
  have l1 := B1.lt
  have p20 := B2.cell 0
  have p21 := B2.cell 1
  have l2 := B2.lt
  have p30 := B3.cell 0
  have p31 := B3.cell 1
  have l3 := B3.lt
  replace HLb := hid (HLb.out.below hb hb.size)
  replace HLc := hid (HLc.out.below hb hb.size)
  replace HLd := hid (HLd.out.below hb hb.size)
  replace Hx := hid (Hx.out.below hb hb.size)
  replace Hy := hid (Hy.out.below hb hb.size)
  replace Ho := hid (Ho.out.below hb hb.size)
  clear hb
  obtain ⟨W0, rfl⟩ : ∃ W0 : World, W0 = W2 := ⟨_, rfl⟩
  go_wp2_with (fail)
  refine (of_new W0 [1, 3]).mono ?_
  rintro e W2 ⟨Au2, nu2, cu2, rfl, hu2, hb⟩
  have Hu2 := hid hu2
  clear hu2
  replace hbel := hbel.trans (hb.mono hsz)
  replace hsz := hbel.size
  replace B1 := B1.below hb B1.lt
  replace B2 := B2.below hb B2.lt
  replace B3 := B3.below hb B3.lt
  clear p10 p11 l1 p20 p21 l2 p30 p31 l3
  have p10 := B1.cell 0
  have p11 := B1.cell 1
  have l1 := B1.lt
  have p20 := B2.cell 0
  have p21 := B2.cell 1
  have l2 := B2.lt
  have p30 := B3.cell 0
  have p31 := B3.cell 1
  have l3 := B3.lt
  replace HLb := hid (HLb.out.below hb hb.size)
  replace HLc := hid (HLc.out.below hb hb.size)
  replace HLd := hid (HLd.out.below hb hb.size)
  replace Hx := hid (Hx.out.below hb hb.size)
  replace Hy := hid (Hy.out.below hb hb.size)
  replace Ho := hid (Ho.out.below hb hb.size)
  replace Hu1 := hid (Hu1.out.below hb hb.size)
  clear hb
  obtain ⟨W0, rfl⟩ : ∃ W0 : World, W0 = W2 := ⟨_, rfl⟩
  go_wp2_with (fail)
  go_wp2_with (fail)
  refine (lists_any Ax (some ⟨W0.heap.size, 0, none⟩) nx cx 2 2 [[0, 2], [1, 3]] [[0, 2], [1, 3]] _ (Hx.out.below (by repeat' (first | with_reducible assumption | with_reducible exact Below.refl _ _ | refine Below.alloc ?_ ?_ _ | refine Below.setCell ?_ ?_ _ | refine Below.drew ?_ | refine below_drewN ?_ _ | (simp; done) | (simp; omega) | omega)) (by first | (simp; done) | (simp; omega) | omega)) (lis_two (Blk.new _ _ _) (Hu1.out.below (by repeat' (first | with_reducible assumption | with_reducible exact Below.refl _ _ | refine Below.alloc ?_ ?_ _ | refine Below.setCell ?_ ?_ _ | refine Below.drew ?_ | refine below_drewN ?_ _ | (simp; done) | (simp; omega) | omega)) (by first | (simp; done) | (simp; omega) | omega)) (Hu2.out.below (by repeat' (first | with_reducible assumption | with_reducible exact Below.refl _ _ | refine Below.alloc ?_ ?_ _ | refine Below.setCell ?_ ?_ _ | refine Below.drew ?_ | refine below_drewN ?_ _ | (simp; done) | (simp; omega) | omega)) (by first | (simp; done) | (simp; omega) | omega))) (by decide) (by have := Hx.out.1; simp at this; omega)).mono ?_
  rw [kK4]
  rintro e W2 ⟨rfl, hb⟩
  have hst : Below W0.heap.size W0 W2 := Below.trans (by repeat' (first | with_reducible assumption | with_reducible exact Below.refl _ _ | refine Below.alloc ?_ ?_ _ | refine Below.setCell ?_ ?_ _ | refine Below.drew ?_ | refine below_drewN ?_ _ | (simp; done) | (simp; omega) | omega)) (hb.mono (by first | (simp; done) | (simp; omega) | omega))
  clear hb
  replace hbel := hbel.trans (hst.mono hsz)
  replace hsz := hbel.size
  replace B1 := B1.below hst B1.lt
  replace B2 := B2.below hst B2.lt
  replace B3 := B3.below hst B3.lt
  clear p10 p11 l1 p20 p21 l2 p30 p31 l3
  have p10 := B1.cell 0
  have p11 := B1.cell 1
  have l1 := B1.lt
  have p20 := B2.cell 0
  have p21 := B2.cell 1
  have l2 := B2.lt
  have p30 := B3.cell 0
  have p31 := B3.cell 1
  have l3 := B3.lt
  replace HLb := hid (HLb.out.below hst hst.size)
  replace HLc := hid (HLc.out.below hst hst.size)
  replace HLd := hid (HLd.out.below hst hst.size)
  replace Hx := hid (Hx.out.below hst hst.size)
  replace Hy := hid (Hy.out.below hst hst.size)
  replace Ho := hid (Ho.out.below hst hst.size)
  replace Hu1 := hid (Hu1.out.below hst hst.size)
  replace Hu2 := hid (Hu2.out.below hst hst.size)
  clear hst
  obtain ⟨W0, rfl⟩ : ∃ W0 : World, W0 = W2 := ⟨_, rfl⟩
  clear Hu1
  clear Hu2
  clear Hx
  have hy0 : ny = 0 := by have := Hy.out.1; simpa using this.symm
  subst hy0
  go_wp2_with (fail)
  refine (checkBook_any Ad 2 cd [[], [0]] 2 _ (HLd.out.below (by repeat' (first | with_reducible assumption | with_reducible exact Below.refl _ _ | refine Below.alloc ?_ ?_ _ | refine Below.setCell ?_ ?_ _ | refine Below.drew ?_ | refine below_drewN ?_ _ | (simp; done) | (simp; omega) | omega)) (by first | (simp; done) | (simp; omega) | omega)) (by omega) (by decide)).mono ?_
  rw [kK2.2.2.1]
  rintro e W2 ⟨rfl, hb⟩
  have hst : Below W0.heap.size W0 W2 := Below.trans (by repeat' (first | with_reducible assumption | with_reducible exact Below.refl _ _ | refine Below.alloc ?_ ?_ _ | refine Below.setCell ?_ ?_ _ | refine Below.drew ?_ | refine below_drewN ?_ _ | (simp; done) | (simp; omega) | omega)) (hb.mono (by first | (simp; done) | (simp; omega) | omega))
  clear hb
  replace hbel := hbel.trans (hst.mono hsz)
  replace hsz := hbel.size
  replace B1 := B1.below hst B1.lt
  replace B2 := B2.below hst B2.lt
  replace B3 := B3.below hst B3.lt
  clear p10 p11 l1 p20 p21 l2 p30 p31 l3
  have p10 := B1.cell 0
  have p11 := B1.cell 1
  have l1 := B1.lt
  have p20 := B2.cell 0
  have p21 := B2.cell 1
  have l2 := B2.lt
  have p30 := B3.cell 0
  have p31 := B3.cell 1
  have l3 := B3.lt
  replace HLb := hid (HLb.out.below hst hst.size)
  replace HLc := hid (HLc.out.below hst hst.size)
  replace HLd := hid (HLd.out.below hst hst.size)
  replace Hy := hid (Hy.out.below hst hst.size)
  replace Ho := hid (Ho.out.below hst hst.size)
  clear hst
  obtain ⟨W0, rfl⟩ : ∃ W0 : World, W0 = W2 := ⟨_, rfl⟩
  go_wp2_with (fail)
  refine (works_any _).mono ?_
  rintro e W2 ⟨rfl, hb⟩
  have hst : Below W0.heap.size W0 W2 := Below.trans (by repeat' (first | with_reducible assumption | with_reducible exact Below.refl _ _ | refine Below.alloc ?_ ?_ _ | refine Below.setCell ?_ ?_ _ | refine Below.drew ?_ | refine below_drewN ?_ _ | (simp; done) | (simp; omega) | omega)) (hb.mono (by first | (simp; done) | (simp; omega) | omega))
  clear hb
  replace hbel := hbel.trans (hst.mono hsz)
  replace hsz := hbel.size
  replace B1 := B1.below hst B1.lt
  replace B2 := B2.below hst B2.lt
  replace B3 := B3.below hst B3.lt
  clear p10 p11 l1 p20 p21 l2 p30 p31 l3
  have p10 := B1.cell 0
  have p11 := B1.cell 1
  have l1 := B1.lt
  have p20 := B2.cell 0
  have p21 := B2.cell 1
  have l2 := B2.lt
  have p30 := B3.cell 0
  have p31 := B3.cell 1
  have l3 := B3.lt
  replace HLb := hid (HLb.out.below hst hst.size)
  replace HLc := hid (HLc.out.below hst hst.size)
  replace HLd := hid (HLd.out.below hst hst.size)
  replace Hy := hid (Hy.out.below hst hst.size)
  replace Ho := hid (Ho.out.below hst hst.size)
  clear hst
  obtain ⟨W0, rfl⟩ : ∃ W0 : World, W0 = W2 := ⟨_, rfl⟩
  go_wp2
  go_ret
  exact ⟨rfl, hbel⟩

section
open Go.ChangeShapes Go.WideShapes Go.ChangeAt Go.RowKit
set_option maxRecDepth 100000 in
theorem blameKnown_lifted (os : Os) (started : os.Started) (H : Type) (enc : TypeId × Value → H) :
    ReturnsInHanded {} Try.checked os 4 .any (Rows.blameKnownSpec.pre6 enc Try.prog Try.f4 Rows.blameKnownRow.domain false) (Rows.blameKnownSpec.post enc Try.prog Try.f4 false true false false) := by
  refine returnsInHanded_of_change (C := Try.checked) ownKx started (by kernel_rfl) Try.func4
    (ChangeSpec.witness6 (enc := enc) (C := Try.checked) false ⟨#[], #[], []⟩ 8 (by kernel_rfl) (by kernel_rfl) (by kernel_rfl) (by kernel_rfl)) ?_
  intro W base args ds gs before hval0 hW hcnd _
  have hval : ∀ (j : Nat) t v, Try.f4.params[j]? = some t → args[j]? = some v → Value.okWide Try.prog W .any base t v := hval0
  have hW' := hW
  obtain ⟨p, q, hA0, hV, rfl, hfz, hnd⟩ := hW
  have hA : DataW.TrodAll enc Try.prog W 0 (fun _ => true) true Try.f4.params.toList args.toList ds p := hA0
  have hlt : ∀ x ∈ p, x.block < W.heap.size := fun x hx => hW'.lt x (List.mem_append_left _ hx)
  have hAll : ∀ W', Below W.heap.size W W' → DataW.TrodAll enc Try.prog W' 0 (fun b => decide (b < W.heap.size)) true Try.f4.params.toList args.toList ds p := fun W' hb => all_below laidOut hb (readable_of (by kernel_rfl)) hlt hA
  rw [Try.params4] at hA hval
  obtain ⟨rfl, rfl, rfl⟩ := trodAll_none hA
  obtain ⟨rfl, rfl⟩ := trodVars_none hV
  clear hA0 hval0

  refine (blameKnown_walk W ).mono fun e W' ⟨he, hb⟩ => ?_
  subst he
  exact ⟨_, rfl, ⟨_, _, _, [], _, [], hW', trodAll_cons_mk (shut_bool Try.underlying4 _) trodAll_mk0, hAll W' hb, rfl, hb.frame _, fun h => by cases h⟩⟩
/-- The law: whatever the input, it returns true, and the input reads as it did. -/
theorem blameKnown_holds : Rows.BlameKnownSaid :=
  OpenClaim.holds_of_wide 4 Try.f4 rfl rfl rfl rfl rfl rfl rfl ⟨rfl, rfl, rfl, rfl, rfl⟩ rfl rfl rfl rfl rfl (by kernel_rfl) Try.func4 (by kernel_rfl)
    (of_decide_eq_true (by kernel_rfl)) (by unfold Func.isWrapper; first | (rw [if_pos (by decide +kernel)]; kernel_rfl) | (rw [if_neg (by decide +kernel)]; exact ⟨rfl, rfl⟩))
    (fun os started H enc _ => blameKnown_lifted os started H enc)
end
end Go.Proofs.Ytnpilfpackdimaa
