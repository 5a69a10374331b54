/- Texts of the proof, laid together by program. -/
import Derived.Test.YtnpilfpackdimaaMg
set_option linter.unusedSimpArgs false
set_option linter.unusedVariables false
/- Walks: Works. Printed by tools/blame/genw6.py. -/
namespace Go.Proofs.Ytnpilfpackdimaa
open Go.RowKit
attribute [local go_sem] Oper.semAt_some
set_option maxRecDepth 1000000 in
set_option maxHeartbeats 20000000 in
theorem works_any (w : World) : Calls Try.prog 6 #[] w fun e w' => e = .returned (.bool true) ∧ Below w.heap.size w w' := by
  go_enter Try.func6, Try.ntmps6
  go_wp2_with (fail)
  refine (round_any w).mono ?_
  rintro e W1 ⟨Ab, cb, rfl, hlb, hb1⟩
  go_wp2_with (fail)
  refine (three_any W1).mono ?_
  rintro e W2 ⟨Ac, cc, rfl, hlc, hb2⟩
  go_wp2_with (fail)
  refine (none_any W2).mono ?_
  rintro e W3 ⟨Ad, cd, rfl, hld, hb3⟩
  obtain ⟨W0, hW0⟩ : ∃ W0, ((W3.alloc (.cells #[.int .i64 5, .slice Ab 4 cb] 24)).alloc (.cells #[.int .i64 4, .slice Ac 3 cc] 24)).alloc (.cells #[.int .i64 2, .slice Ad 2 cd] 24) = W0 := ⟨_, rfl⟩
  have h30 : Below W3.heap.size W3 W0 := by rw [← hW0]; exact (by repeat' (first | with_reducible assumption | with_reducible exact Below.refl _ _ | refine Below.alloc ?_ ?_ _ | refine Below.setCell ?_ ?_ _ | refine Below.drew ?_ | refine below_drewN ?_ _ | (simp; done) | (simp; omega) | omega))
  have B1 : Blk W0 W3.heap.size 24 #[.int .i64 5, .slice Ab 4 cb] := by rw [← hW0]; exact ((Blk.new' rfl).alloc _).alloc _
  have B2 : Blk W0 (W3.heap.size + 1) 24 #[.int .i64 4, .slice Ac 3 cc] := by rw [← hW0]; exact (Blk.new' (by first | (simp; done) | (simp; omega) | omega)).alloc _
  have B3 : Blk W0 (W3.heap.size + 1 + 1) 24 #[.int .i64 2, .slice Ad 2 cd] := by rw [← hW0]; exact Blk.new' (by first | (simp; done) | (simp; omega) | omega)
  have h20 := hb3.trans (h30.mono hb3.size)
  have h10 := hb2.trans (h20.mono hb2.size)
  have hbel : Below w.heap.size w W0 := hb1.trans (h10.mono hb1.size)
  have hsz := hbel.size
  have HLb := hid (hlb.below h10 h10.size)
  have HLc := hid (hlc.below h20 h20.size)
  have HLd := hid (hld.below h30 h30.size)
  go_wp2_with (fail)
  obtain ⟨T1, hT1⟩ : ∃ T, W3.heap.size = T := ⟨_, rfl⟩
  obtain ⟨T2, hT2⟩ : ∃ T, T1 + 1 = T := ⟨_, rfl⟩
  obtain ⟨T3, hT3⟩ : ∃ T, T2 + 1 = T := ⟨_, rfl⟩
  rw [hT1, hT2, hT3] at B3
  rw [hT1, hT2] at B2
  rw [hT1] at B1
  rw [hT1, hT2, hT3]
  have p10 := B1.cell 0
  have p11 := B1.cell 1
  have l1 := B1.lt
  have p20 := B2.cell 0
  have p21 := B2.cell 1
  have l2 := B2.lt
  have p30 := B3.cell 0
  have p31 := B3.cell 1
  have l3 := B3.lt
  clear hlb hlc hld h10 h20 h30 hb1 hb2 hb3 hW0 hT1 hT2 hT3
  go_wp2_with (fail)
  refine Sx.wp_region_free (fun W => Below W0.heap.size W0 W) (hSb W0) (SpA [.val (.agg #[.int .i64 5, .slice Ab 4 cb]), .is [0, 1, 3], .is [0, 1, 3], .val (.tuple #[.int .i64 3, .int .i64 0]), .val (.tuple #[.int .i64 3, .int .i64 0]), .val (.int .i64 3), .val (.int .i64 0), .val (.int .i64 3), .val (.int .i64 0)]) (SpA.keep _) (fun k => ([[], [], [1], [0, 2], [3], [4], [4], [5], [6]] : List (List Nat)).getD k []) [0, 1, 2, 3, 4, 5, 6, 7, 8] rfl ?X1 ?hX1 (by kernel_rfl) (by kernel_rfl) ((Below.refl _ _).drew) ?hC1 ?hQ1
  case hX1 =>
    intro e
    simp only [Sx.putF, Sx.dstAt, List.getElem?_toArray, List.getElem?_cons_succ, List.getElem?_cons_zero, Option.bind_some, Act.put, List.setIfInBounds_toArray, List.set_cons_zero, List.set_cons_succ]
    exact rfl
  case hC1 =>
    intro k o ho e W hx hs hd
    match k, ho, hd with
    | 0, ho, hd =>
      have ho := Option.some.inj ho
      subst ho
      have f0 := (B1.below hs l1).cell 0
      have f1 := (B1.below hs l1).cell 1
      have f2 := (B1.below hs l1).lt
      go_simp
      simp only [Sx.LV]
      exact ⟨Below.refl _ _, rfl⟩
    | 1, ho, hd =>
      have ho := Option.some.inj ho
      subst ho
      go_simp
      simp only [Sx.LV]
      exact ⟨(Below.refl _ _).alloc (Nat.le_refl _) _, _, _, _, rfl, ins_blk (l := [0, 1, 3]) (Blk.new _ _ _) (by simp)⟩
    | 2, ho, hd =>
      have ho := Option.some.inj ho
      subst ho
      obtain ⟨A1, n1, c1, e1, h1⟩ : Sp.ok (.is [0, 1, 3]) (e 1) W := hd 1 (by decide)
      go_simp
      simp only [Sx.LV]
      refine (of_any _ _).mono ?_
      rintro e1 w1 ⟨rfl, rfl⟩
      exact ⟨_, rfl, Below.refl _ _, _, _, _, rfl, h1⟩
    | 3, ho, hd =>
      have ho := Option.some.inj ho
      subst ho
      have e0 : e 0 = (.agg #[.int .i64 5, .slice Ab 4 cb]) := hd 0 (by decide)
      obtain ⟨A2, n2, c2, e2, h2⟩ : Sp.ok (.is [0, 1, 3]) (e 2) W := hd 2 (by decide)
      go_simp
      simp only [Sx.LV]
      have hz2 := h2.len
      refine (checkBlame_any Ab A2 4 cb n2 c2 [[0, 1], [1, 2], [2, 3], [0, 3]] [0, 1, 3] 5 W (HLb.out.below hx hx.size) h2 (by omega) (by decide) (by simp at hz2; omega)).mono ?_
      rw [kA.1, kA.2.1]
      rintro e1 W1 ⟨rfl, hb⟩
      exact ⟨_, rfl, hb, rfl⟩
    | 4, ho, hd =>
      have ho := Option.some.inj ho
      subst ho
      have e3 : e 3 = (.tuple #[.int .i64 3, .int .i64 0]) := hd 3 (by decide)
      go_simp
      simp only [Sx.LV]
      exact ⟨Below.refl _ _, rfl⟩
    | 5, ho, hd =>
      have ho := Option.some.inj ho
      subst ho
      have e4 : e 4 = (.tuple #[.int .i64 3, .int .i64 0]) := hd 4 (by decide)
      go_simp
      simp only [Sx.LV]
      exact ⟨Below.refl _ _, rfl⟩
    | 6, ho, hd =>
      have ho := Option.some.inj ho
      subst ho
      have e4 : e 4 = (.tuple #[.int .i64 3, .int .i64 0]) := hd 4 (by decide)
      go_simp
      simp only [Sx.LV]
      exact ⟨Below.refl _ _, rfl⟩
    | 7, ho, hd =>
      have ho := Option.some.inj ho
      subst ho
      have e5 : e 5 = (.int .i64 3) := hd 5 (by decide)
      go_simp
      simp only [Sx.LV]
      exact ⟨Below.refl _ _, rfl⟩
    | 8, ho, hd =>
      have ho := Option.some.inj ho
      subst ho
      have e6 : e 6 = (.int .i64 0) := hd 6 (by decide)
      go_simp
      simp only [Sx.LV]
      exact ⟨Below.refl _ _, rfl⟩
    | k + 9, ho, _ => cases ho
  intro e V hv hst0 hp
  have e7 : e 7 = (.int .i64 3) := hp 7 (by decide)
  have e8 : e 8 = (.int .i64 0) := hp 8 (by decide)
  simp only [e7, e8]
  clear hp hv
  replace hbel := hbel.trans (hst0.mono hsz)
  replace hsz := hbel.size
  replace B1 := B1.below hst0 B1.lt
  replace B2 := B2.below hst0 B2.lt
  replace B3 := B3.below hst0 B3.lt
  clear p10 p11 l1 p20 p21 l2 p30 p31 l3
  have p10 := B1.cell 0
  have p11 := B1.cell 1
  have l1 := B1.lt
  have p20 := B2.cell 0
  have p21 := B2.cell 1
  have l2 := B2.lt
  have p30 := B3.cell 0
  have p31 := B3.cell 1
  have l3 := B3.lt
  replace HLb := hid (HLb.out.below hst0 hst0.size)
  replace HLc := hid (HLc.out.below hst0 hst0.size)
  replace HLd := hid (HLd.out.below hst0 hst0.size)
  clear hst0
  obtain ⟨W0, rfl⟩ : ∃ W0 : World, W0 = V := ⟨_, rfl⟩
  go_wp2_with (fail)
  refine Sx.wp_region_free (fun W => Below W0.heap.size W0 W) (hSb W0) (SpA [.val (.agg #[.int .i64 5, .slice Ab 4 cb]), .is [0, 1], .is [0, 1], .val (.tuple #[.int .i64 2, .int .i64 21]), .val (.tuple #[.int .i64 2, .int .i64 21]), .val (.int .i64 2), .val (.int .i64 21), .val (.int .i64 2), .val (.int .i64 21)]) (SpA.keep _) (fun k => ([[], [], [1], [0, 2], [3], [4], [4], [5], [6]] : List (List Nat)).getD k []) [0, 1, 2, 3, 4, 5, 6, 7, 8] rfl ?X2 ?hX2 (by kernel_rfl) (by kernel_rfl) ((Below.refl _ _).drew) ?hC2 ?hQ2
  case hX2 =>
    intro e
    simp only [Sx.putF, Sx.dstAt, List.getElem?_toArray, List.getElem?_cons_succ, List.getElem?_cons_zero, Option.bind_some, Act.put, List.setIfInBounds_toArray, List.set_cons_zero, List.set_cons_succ]
    exact rfl
  case hC2 =>
    intro k o ho e W hx hs hd
    match k, ho, hd with
    | 0, ho, hd =>
      have ho := Option.some.inj ho
      subst ho
      have f0 := (B1.below hs l1).cell 0
      have f1 := (B1.below hs l1).cell 1
      have f2 := (B1.below hs l1).lt
      go_simp
      simp only [Sx.LV]
      exact ⟨Below.refl _ _, rfl⟩
    | 1, ho, hd =>
      have ho := Option.some.inj ho
      subst ho
      go_simp
      simp only [Sx.LV]
      exact ⟨(Below.refl _ _).alloc (Nat.le_refl _) _, _, _, _, rfl, ins_blk (l := [0, 1]) (Blk.new _ _ _) (by simp)⟩
    | 2, ho, hd =>
      have ho := Option.some.inj ho
      subst ho
      obtain ⟨A1, n1, c1, e1, h1⟩ : Sp.ok (.is [0, 1]) (e 1) W := hd 1 (by decide)
      go_simp
      simp only [Sx.LV]
      refine (of_any _ _).mono ?_
      rintro e1 w1 ⟨rfl, rfl⟩
      exact ⟨_, rfl, Below.refl _ _, _, _, _, rfl, h1⟩
    | 3, ho, hd =>
      have ho := Option.some.inj ho
      subst ho
      have e0 : e 0 = (.agg #[.int .i64 5, .slice Ab 4 cb]) := hd 0 (by decide)
      obtain ⟨A2, n2, c2, e2, h2⟩ : Sp.ok (.is [0, 1]) (e 2) W := hd 2 (by decide)
      go_simp
      simp only [Sx.LV]
      have hz2 := h2.len
      refine (checkBlame_any Ab A2 4 cb n2 c2 [[0, 1], [1, 2], [2, 3], [0, 3]] [0, 1] 5 W (HLb.out.below hx hx.size) h2 (by omega) (by decide) (by simp at hz2; omega)).mono ?_
      rw [kA.2.2.1, kA.2.2.2.1]
      rintro e1 W1 ⟨rfl, hb⟩
      exact ⟨_, rfl, hb, rfl⟩
    | 4, ho, hd =>
      have ho := Option.some.inj ho
      subst ho
      have e3 : e 3 = (.tuple #[.int .i64 2, .int .i64 21]) := hd 3 (by decide)
      go_simp
      simp only [Sx.LV]
      exact ⟨Below.refl _ _, rfl⟩
    | 5, ho, hd =>
      have ho := Option.some.inj ho
      subst ho
      have e4 : e 4 = (.tuple #[.int .i64 2, .int .i64 21]) := hd 4 (by decide)
      go_simp
      simp only [Sx.LV]
      exact ⟨Below.refl _ _, rfl⟩
    | 6, ho, hd =>
      have ho := Option.some.inj ho
      subst ho
      have e4 : e 4 = (.tuple #[.int .i64 2, .int .i64 21]) := hd 4 (by decide)
      go_simp
      simp only [Sx.LV]
      exact ⟨Below.refl _ _, rfl⟩
    | 7, ho, hd =>
      have ho := Option.some.inj ho
      subst ho
      have e5 : e 5 = (.int .i64 2) := hd 5 (by decide)
      go_simp
      simp only [Sx.LV]
      exact ⟨Below.refl _ _, rfl⟩
    | 8, ho, hd =>
      have ho := Option.some.inj ho
      subst ho
      have e6 : e 6 = (.int .i64 21) := hd 6 (by decide)
      go_simp
      simp only [Sx.LV]
      exact ⟨Below.refl _ _, rfl⟩
    | k + 9, ho, _ => cases ho
  intro e V hv hst0 hp
  have e7 : e 7 = (.int .i64 2) := hp 7 (by decide)
  have e8 : e 8 = (.int .i64 21) := hp 8 (by decide)
  simp only [e7, e8]
  clear hp hv
  replace hbel := hbel.trans (hst0.mono hsz)
  replace hsz := hbel.size
  replace B1 := B1.below hst0 B1.lt
  replace B2 := B2.below hst0 B2.lt
  replace B3 := B3.below hst0 B3.lt
  clear p10 p11 l1 p20 p21 l2 p30 p31 l3
  have p10 := B1.cell 0
  have p11 := B1.cell 1
  have l1 := B1.lt
  have p20 := B2.cell 0
  have p21 := B2.cell 1
  have l2 := B2.lt
  have p30 := B3.cell 0
  have p31 := B3.cell 1
  have l3 := B3.lt
  replace HLb := hid (HLb.out.below hst0 hst0.size)
  replace HLc := hid (HLc.out.below hst0 hst0.size)
  replace HLd := hid (HLd.out.below hst0 hst0.size)
  clear hst0
  obtain ⟨W0, rfl⟩ : ∃ W0 : World, W0 = V := ⟨_, rfl⟩
  go_wp2_with (fail)
  refine Sx.wp_region_free (fun W => Below W0.heap.size W0 W) (hSb W0) (SpA [.val (.agg #[.int .i64 5, .slice Ab 4 cb]), .is [5], .is [5], .val (.tuple #[.int .i64 0, .int .i64 3]), .val (.tuple #[.int .i64 0, .int .i64 3]), .val (.int .i64 0), .val (.int .i64 3), .val (.int .i64 0), .val (.int .i64 3)]) (SpA.keep _) (fun k => ([[], [], [1], [0, 2], [3], [4], [4], [5], [6]] : List (List Nat)).getD k []) [0, 1, 2, 3, 4, 5, 6, 7, 8] rfl ?X3 ?hX3 (by kernel_rfl) (by kernel_rfl) ((Below.refl _ _).drew) ?hC3 ?hQ3
  case hX3 =>
    intro e
    simp only [Sx.putF, Sx.dstAt, List.getElem?_toArray, List.getElem?_cons_succ, List.getElem?_cons_zero, Option.bind_some, Act.put, List.setIfInBounds_toArray, List.set_cons_zero, List.set_cons_succ]
    exact rfl
  case hC3 =>
    intro k o ho e W hx hs hd
    match k, ho, hd with
    | 0, ho, hd =>
      have ho := Option.some.inj ho
      subst ho
      have f0 := (B1.below hs l1).cell 0
      have f1 := (B1.below hs l1).cell 1
      have f2 := (B1.below hs l1).lt
      go_simp
      simp only [Sx.LV]
      exact ⟨Below.refl _ _, rfl⟩
    | 1, ho, hd =>
      have ho := Option.some.inj ho
      subst ho
      go_simp
      simp only [Sx.LV]
      exact ⟨(Below.refl _ _).alloc (Nat.le_refl _) _, _, _, _, rfl, ins_blk (l := [5]) (Blk.new _ _ _) (by simp)⟩
    | 2, ho, hd =>
      have ho := Option.some.inj ho
      subst ho
      obtain ⟨A1, n1, c1, e1, h1⟩ : Sp.ok (.is [5]) (e 1) W := hd 1 (by decide)
      go_simp
      simp only [Sx.LV]
      refine (of_any _ _).mono ?_
      rintro e1 w1 ⟨rfl, rfl⟩
      exact ⟨_, rfl, Below.refl _ _, _, _, _, rfl, h1⟩
    | 3, ho, hd =>
      have ho := Option.some.inj ho
      subst ho
      have e0 : e 0 = (.agg #[.int .i64 5, .slice Ab 4 cb]) := hd 0 (by decide)
      obtain ⟨A2, n2, c2, e2, h2⟩ : Sp.ok (.is [5]) (e 2) W := hd 2 (by decide)
      go_simp
      simp only [Sx.LV]
      have hz2 := h2.len
      refine (checkBlame_any Ab A2 4 cb n2 c2 [[0, 1], [1, 2], [2, 3], [0, 3]] [5] 5 W (HLb.out.below hx hx.size) h2 (by omega) (by decide) (by simp at hz2; omega)).mono ?_
      rw [kA.2.2.2.2.1, kA.2.2.2.2.2]
      rintro e1 W1 ⟨rfl, hb⟩
      exact ⟨_, rfl, hb, rfl⟩
    | 4, ho, hd =>
      have ho := Option.some.inj ho
      subst ho
      have e3 : e 3 = (.tuple #[.int .i64 0, .int .i64 3]) := hd 3 (by decide)
      go_simp
      simp only [Sx.LV]
      exact ⟨Below.refl _ _, rfl⟩
    | 5, ho, hd =>
      have ho := Option.some.inj ho
      subst ho
      have e4 : e 4 = (.tuple #[.int .i64 0, .int .i64 3]) := hd 4 (by decide)
      go_simp
      simp only [Sx.LV]
      exact ⟨Below.refl _ _, rfl⟩
    | 6, ho, hd =>
      have ho := Option.some.inj ho
      subst ho
      have e4 : e 4 = (.tuple #[.int .i64 0, .int .i64 3]) := hd 4 (by decide)
      go_simp
      simp only [Sx.LV]
      exact ⟨Below.refl _ _, rfl⟩
    | 7, ho, hd =>
      have ho := Option.some.inj ho
      subst ho
      have e5 : e 5 = (.int .i64 0) := hd 5 (by decide)
      go_simp
      simp only [Sx.LV]
      exact ⟨Below.refl _ _, rfl⟩
    | 8, ho, hd =>
      have ho := Option.some.inj ho
      subst ho
      have e6 : e 6 = (.int .i64 3) := hd 6 (by decide)
      go_simp
      simp only [Sx.LV]
      exact ⟨Below.refl _ _, rfl⟩
    | k + 9, ho, _ => cases ho
  intro e V hv hst0 hp
  have e7 : e 7 = (.int .i64 0) := hp 7 (by decide)
  have e8 : e 8 = (.int .i64 3) := hp 8 (by decide)
  simp only [e7, e8]
  clear hp hv
  replace hbel := hbel.trans (hst0.mono hsz)
  replace hsz := hbel.size
  replace B1 := B1.below hst0 B1.lt
  replace B2 := B2.below hst0 B2.lt
  replace B3 := B3.below hst0 B3.lt
  clear p10 p11 l1 p20 p21 l2 p30 p31 l3
  have p10 := B1.cell 0
  have p11 := B1.cell 1
  have l1 := B1.lt
  have p20 := B2.cell 0
  have p21 := B2.cell 1
  have l2 := B2.lt
  have p30 := B3.cell 0
  have p31 := B3.cell 1
  have l3 := B3.lt
  replace HLb := hid (HLb.out.below hst0 hst0.size)
  replace HLc := hid (HLc.out.below hst0 hst0.size)
  replace HLd := hid (HLd.out.below hst0 hst0.size)
  clear hst0
  obtain ⟨W0, rfl⟩ : ∃ W0 : World, W0 = V := ⟨_, rfl⟩
  go_wp2_with (fail)
  refine Sx.wp_region_free (fun W => Below W0.heap.size W0 W) (hSb W0) (SpA [.val (.agg #[.int .i64 5, .slice Ab 4 cb]), .is [0, 2], .is [0, 2], .val (.tuple #[.int .i64 2, .int .i64 0]), .val (.tuple #[.int .i64 2, .int .i64 0]), .val (.int .i64 2), .val (.int .i64 0), .val (.int .i64 2), .val (.int .i64 0)]) (SpA.keep _) (fun k => ([[], [], [1], [0, 2], [3], [4], [4], [5], [6]] : List (List Nat)).getD k []) [0, 1, 2, 3, 4, 5, 6, 7, 8] rfl ?X4 ?hX4 (by kernel_rfl) (by kernel_rfl) ((Below.refl _ _).drew) ?hC4 ?hQ4
  case hX4 =>
    intro e
    simp only [Sx.putF, Sx.dstAt, List.getElem?_toArray, List.getElem?_cons_succ, List.getElem?_cons_zero, Option.bind_some, Act.put, List.setIfInBounds_toArray, List.set_cons_zero, List.set_cons_succ]
    exact rfl
  case hC4 =>
    intro k o ho e W hx hs hd
    match k, ho, hd with
    | 0, ho, hd =>
      have ho := Option.some.inj ho
      subst ho
      have f0 := (B1.below hs l1).cell 0
      have f1 := (B1.below hs l1).cell 1
      have f2 := (B1.below hs l1).lt
      go_simp
      simp only [Sx.LV]
      exact ⟨Below.refl _ _, rfl⟩
    | 1, ho, hd =>
      have ho := Option.some.inj ho
      subst ho
      go_simp
      simp only [Sx.LV]
      exact ⟨(Below.refl _ _).alloc (Nat.le_refl _) _, _, _, _, rfl, ins_blk (l := [0, 2]) (Blk.new _ _ _) (by simp)⟩
    | 2, ho, hd =>
      have ho := Option.some.inj ho
      subst ho
      obtain ⟨A1, n1, c1, e1, h1⟩ : Sp.ok (.is [0, 2]) (e 1) W := hd 1 (by decide)
      go_simp
      simp only [Sx.LV]
      refine (of_any _ _).mono ?_
      rintro e1 w1 ⟨rfl, rfl⟩
      exact ⟨_, rfl, Below.refl _ _, _, _, _, rfl, h1⟩
    | 3, ho, hd =>
      have ho := Option.some.inj ho
      subst ho
      have e0 : e 0 = (.agg #[.int .i64 5, .slice Ab 4 cb]) := hd 0 (by decide)
      obtain ⟨A2, n2, c2, e2, h2⟩ : Sp.ok (.is [0, 2]) (e 2) W := hd 2 (by decide)
      go_simp
      simp only [Sx.LV]
      have hz2 := h2.len
      refine (checkTight_any Ab A2 4 cb n2 c2 [[0, 1], [1, 2], [2, 3], [0, 3]] [0, 2] 5 W (HLb.out.below hx hx.size) h2 (by omega) (by decide) (by simp at hz2; omega)).mono ?_
      rw [kB.1, kB.2.1]
      rintro e1 W1 ⟨rfl, hb⟩
      exact ⟨_, rfl, hb, rfl⟩
    | 4, ho, hd =>
      have ho := Option.some.inj ho
      subst ho
      have e3 : e 3 = (.tuple #[.int .i64 2, .int .i64 0]) := hd 3 (by decide)
      go_simp
      simp only [Sx.LV]
      exact ⟨Below.refl _ _, rfl⟩
    | 5, ho, hd =>
      have ho := Option.some.inj ho
      subst ho
      have e4 : e 4 = (.tuple #[.int .i64 2, .int .i64 0]) := hd 4 (by decide)
      go_simp
      simp only [Sx.LV]
      exact ⟨Below.refl _ _, rfl⟩
    | 6, ho, hd =>
      have ho := Option.some.inj ho
      subst ho
      have e4 : e 4 = (.tuple #[.int .i64 2, .int .i64 0]) := hd 4 (by decide)
      go_simp
      simp only [Sx.LV]
      exact ⟨Below.refl _ _, rfl⟩
    | 7, ho, hd =>
      have ho := Option.some.inj ho
      subst ho
      have e5 : e 5 = (.int .i64 2) := hd 5 (by decide)
      go_simp
      simp only [Sx.LV]
      exact ⟨Below.refl _ _, rfl⟩
    | 8, ho, hd =>
      have ho := Option.some.inj ho
      subst ho
      have e6 : e 6 = (.int .i64 0) := hd 6 (by decide)
      go_simp
      simp only [Sx.LV]
      exact ⟨Below.refl _ _, rfl⟩
    | k + 9, ho, _ => cases ho
  intro e V hv hst0 hp
  have e7 : e 7 = (.int .i64 2) := hp 7 (by decide)
  have e8 : e 8 = (.int .i64 0) := hp 8 (by decide)
  simp only [e7, e8]
  clear hp hv
  replace hbel := hbel.trans (hst0.mono hsz)
  replace hsz := hbel.size
  replace B1 := B1.below hst0 B1.lt
  replace B2 := B2.below hst0 B2.lt
  replace B3 := B3.below hst0 B3.lt
  clear p10 p11 l1 p20 p21 l2 p30 p31 l3
  have p10 := B1.cell 0
  have p11 := B1.cell 1
  have l1 := B1.lt
  have p20 := B2.cell 0
  have p21 := B2.cell 1
  have l2 := B2.lt
  have p30 := B3.cell 0
  have p31 := B3.cell 1
  have l3 := B3.lt
  replace HLb := hid (HLb.out.below hst0 hst0.size)
  replace HLc := hid (HLc.out.below hst0 hst0.size)
  replace HLd := hid (HLd.out.below hst0 hst0.size)
  clear hst0
  obtain ⟨W0, rfl⟩ : ∃ W0 : World, W0 = V := ⟨_, rfl⟩
  go_wp2_with (fail)
  refine Sx.wp_region_free (fun W => Below W0.heap.size W0 W) (hSb W0) (SpA [.val (.agg #[.int .i64 5, .slice Ab 4 cb]), .is [0, 1, 3], .is [0, 1, 3], .val (.tuple #[.int .i64 0, .int .i64 16]), .val (.tuple #[.int .i64 0, .int .i64 16]), .val (.int .i64 0), .val (.int .i64 16), .val (.int .i64 0), .val (.int .i64 16)]) (SpA.keep _) (fun k => ([[], [], [1], [0, 2], [3], [4], [4], [5], [6]] : List (List Nat)).getD k []) [0, 1, 2, 3, 4, 5, 6, 7, 8] rfl ?X5 ?hX5 (by kernel_rfl) (by kernel_rfl) ((Below.refl _ _).drew) ?hC5 ?hQ5
  case hX5 =>
    intro e
    simp only [Sx.putF, Sx.dstAt, List.getElem?_toArray, List.getElem?_cons_succ, List.getElem?_cons_zero, Option.bind_some, Act.put, List.setIfInBounds_toArray, List.set_cons_zero, List.set_cons_succ]
    exact rfl
  case hC5 =>
    intro k o ho e W hx hs hd
    match k, ho, hd with
    | 0, ho, hd =>
      have ho := Option.some.inj ho
      subst ho
      have f0 := (B1.below hs l1).cell 0
      have f1 := (B1.below hs l1).cell 1
      have f2 := (B1.below hs l1).lt
      go_simp
      simp only [Sx.LV]
      exact ⟨Below.refl _ _, rfl⟩
    | 1, ho, hd =>
      have ho := Option.some.inj ho
      subst ho
      go_simp
      simp only [Sx.LV]
      exact ⟨(Below.refl _ _).alloc (Nat.le_refl _) _, _, _, _, rfl, ins_blk (l := [0, 1, 3]) (Blk.new _ _ _) (by simp)⟩
    | 2, ho, hd =>
      have ho := Option.some.inj ho
      subst ho
      obtain ⟨A1, n1, c1, e1, h1⟩ : Sp.ok (.is [0, 1, 3]) (e 1) W := hd 1 (by decide)
      go_simp
      simp only [Sx.LV]
      refine (of_any _ _).mono ?_
      rintro e1 w1 ⟨rfl, rfl⟩
      exact ⟨_, rfl, Below.refl _ _, _, _, _, rfl, h1⟩
    | 3, ho, hd =>
      have ho := Option.some.inj ho
      subst ho
      have e0 : e 0 = (.agg #[.int .i64 5, .slice Ab 4 cb]) := hd 0 (by decide)
      obtain ⟨A2, n2, c2, e2, h2⟩ : Sp.ok (.is [0, 1, 3]) (e 2) W := hd 2 (by decide)
      go_simp
      simp only [Sx.LV]
      have hz2 := h2.len
      refine (checkTight_any Ab A2 4 cb n2 c2 [[0, 1], [1, 2], [2, 3], [0, 3]] [0, 1, 3] 5 W (HLb.out.below hx hx.size) h2 (by omega) (by decide) (by simp at hz2; omega)).mono ?_
      rw [kB.2.2.1, kB.2.2.2.1]
      rintro e1 W1 ⟨rfl, hb⟩
      exact ⟨_, rfl, hb, rfl⟩
    | 4, ho, hd =>
      have ho := Option.some.inj ho
      subst ho
      have e3 : e 3 = (.tuple #[.int .i64 0, .int .i64 16]) := hd 3 (by decide)
      go_simp
      simp only [Sx.LV]
      exact ⟨Below.refl _ _, rfl⟩
    | 5, ho, hd =>
      have ho := Option.some.inj ho
      subst ho
      have e4 : e 4 = (.tuple #[.int .i64 0, .int .i64 16]) := hd 4 (by decide)
      go_simp
      simp only [Sx.LV]
      exact ⟨Below.refl _ _, rfl⟩
    | 6, ho, hd =>
      have ho := Option.some.inj ho
      subst ho
      have e4 : e 4 = (.tuple #[.int .i64 0, .int .i64 16]) := hd 4 (by decide)
      go_simp
      simp only [Sx.LV]
      exact ⟨Below.refl _ _, rfl⟩
    | 7, ho, hd =>
      have ho := Option.some.inj ho
      subst ho
      have e5 : e 5 = (.int .i64 0) := hd 5 (by decide)
      go_simp
      simp only [Sx.LV]
      exact ⟨Below.refl _ _, rfl⟩
    | 8, ho, hd =>
      have ho := Option.some.inj ho
      subst ho
      have e6 : e 6 = (.int .i64 16) := hd 6 (by decide)
      go_simp
      simp only [Sx.LV]
      exact ⟨Below.refl _ _, rfl⟩
    | k + 9, ho, _ => cases ho
  intro e V hv hst0 hp
  have e7 : e 7 = (.int .i64 0) := hp 7 (by decide)
  have e8 : e 8 = (.int .i64 16) := hp 8 (by decide)
  simp only [e7, e8]
  clear hp hv
  replace hbel := hbel.trans (hst0.mono hsz)
  replace hsz := hbel.size
  replace B1 := B1.below hst0 B1.lt
  replace B2 := B2.below hst0 B2.lt
  replace B3 := B3.below hst0 B3.lt
  clear p10 p11 l1 p20 p21 l2 p30 p31 l3
  have p10 := B1.cell 0
  have p11 := B1.cell 1
  have l1 := B1.lt
  have p20 := B2.cell 0
  have p21 := B2.cell 1
  have l2 := B2.lt
  have p30 := B3.cell 0
  have p31 := B3.cell 1
  have l3 := B3.lt
  replace HLb := hid (HLb.out.below hst0 hst0.size)
  replace HLc := hid (HLc.out.below hst0 hst0.size)
  replace HLd := hid (HLd.out.below hst0 hst0.size)
  clear hst0
  obtain ⟨W0, rfl⟩ : ∃ W0 : World, W0 = V := ⟨_, rfl⟩
  go_wp2_with (fail)
  refine Sx.wp_region_free (fun W => Below W0.heap.size W0 W) (hSb W0) (SpA [.val (.agg #[.int .i64 2, .slice Ad 2 cd]), .is [0, 1], .is [0, 1], .val (.tuple #[.int .i64 0, .int .i64 21]), .val (.tuple #[.int .i64 0, .int .i64 21]), .val (.int .i64 0), .val (.int .i64 21), .val (.int .i64 0), .val (.int .i64 21)]) (SpA.keep _) (fun k => ([[], [], [1], [0, 2], [3], [4], [4], [5], [6]] : List (List Nat)).getD k []) [0, 1, 2, 3, 4, 5, 6, 7, 8] rfl ?X6 ?hX6 (by kernel_rfl) (by kernel_rfl) ((Below.refl _ _).drew) ?hC6 ?hQ6
  case hX6 =>
    intro e
    simp only [Sx.putF, Sx.dstAt, List.getElem?_toArray, List.getElem?_cons_succ, List.getElem?_cons_zero, Option.bind_some, Act.put, List.setIfInBounds_toArray, List.set_cons_zero, List.set_cons_succ]
    exact rfl
  case hC6 =>
    intro k o ho e W hx hs hd
    match k, ho, hd with
    | 0, ho, hd =>
      have ho := Option.some.inj ho
      subst ho
      have f0 := (B3.below hs l3).cell 0
      have f1 := (B3.below hs l3).cell 1
      have f2 := (B3.below hs l3).lt
      go_simp
      simp only [Sx.LV]
      exact ⟨Below.refl _ _, rfl⟩
    | 1, ho, hd =>
      have ho := Option.some.inj ho
      subst ho
      go_simp
      simp only [Sx.LV]
      exact ⟨(Below.refl _ _).alloc (Nat.le_refl _) _, _, _, _, rfl, ins_blk (l := [0, 1]) (Blk.new _ _ _) (by simp)⟩
    | 2, ho, hd =>
      have ho := Option.some.inj ho
      subst ho
      obtain ⟨A1, n1, c1, e1, h1⟩ : Sp.ok (.is [0, 1]) (e 1) W := hd 1 (by decide)
      go_simp
      simp only [Sx.LV]
      refine (of_any _ _).mono ?_
      rintro e1 w1 ⟨rfl, rfl⟩
      exact ⟨_, rfl, Below.refl _ _, _, _, _, rfl, h1⟩
    | 3, ho, hd =>
      have ho := Option.some.inj ho
      subst ho
      have e0 : e 0 = (.agg #[.int .i64 2, .slice Ad 2 cd]) := hd 0 (by decide)
      obtain ⟨A2, n2, c2, e2, h2⟩ : Sp.ok (.is [0, 1]) (e 2) W := hd 2 (by decide)
      go_simp
      simp only [Sx.LV]
      have hz2 := h2.len
      refine (checkTight_any Ad A2 2 cd n2 c2 [[], [0]] [0, 1] 2 W (HLd.out.below hx hx.size) h2 (by omega) (by decide) (by simp at hz2; omega)).mono ?_
      rw [kB.2.2.2.2.1, kB.2.2.2.2.2]
      rintro e1 W1 ⟨rfl, hb⟩
      exact ⟨_, rfl, hb, rfl⟩
    | 4, ho, hd =>
      have ho := Option.some.inj ho
      subst ho
      have e3 : e 3 = (.tuple #[.int .i64 0, .int .i64 21]) := hd 3 (by decide)
      go_simp
      simp only [Sx.LV]
      exact ⟨Below.refl _ _, rfl⟩
    | 5, ho, hd =>
      have ho := Option.some.inj ho
      subst ho
      have e4 : e 4 = (.tuple #[.int .i64 0, .int .i64 21]) := hd 4 (by decide)
      go_simp
      simp only [Sx.LV]
      exact ⟨Below.refl _ _, rfl⟩
    | 6, ho, hd =>
      have ho := Option.some.inj ho
      subst ho
      have e4 : e 4 = (.tuple #[.int .i64 0, .int .i64 21]) := hd 4 (by decide)
      go_simp
      simp only [Sx.LV]
      exact ⟨Below.refl _ _, rfl⟩
    | 7, ho, hd =>
      have ho := Option.some.inj ho
      subst ho
      have e5 : e 5 = (.int .i64 0) := hd 5 (by decide)
      go_simp
      simp only [Sx.LV]
      exact ⟨Below.refl _ _, rfl⟩
    | 8, ho, hd =>
      have ho := Option.some.inj ho
      subst ho
      have e6 : e 6 = (.int .i64 21) := hd 6 (by decide)
      go_simp
      simp only [Sx.LV]
      exact ⟨Below.refl _ _, rfl⟩
    | k + 9, ho, _ => cases ho
  intro e V hv hst0 hp
  have e7 : e 7 = (.int .i64 0) := hp 7 (by decide)
  have e8 : e 8 = (.int .i64 21) := hp 8 (by decide)
  simp only [e7, e8]
  clear hp hv
  replace hbel := hbel.trans (hst0.mono hsz)
  replace hsz := hbel.size
  replace B1 := B1.below hst0 B1.lt
  replace B2 := B2.below hst0 B2.lt
  replace B3 := B3.below hst0 B3.lt
  clear p10 p11 l1 p20 p21 l2 p30 p31 l3
  have p10 := B1.cell 0
  have p11 := B1.cell 1
  have l1 := B1.lt
  have p20 := B2.cell 0
  have p21 := B2.cell 1
  have l2 := B2.lt
  have p30 := B3.cell 0
  have p31 := B3.cell 1
  have l3 := B3.lt
  replace HLb := hid (HLb.out.below hst0 hst0.size)
  replace HLc := hid (HLc.out.below hst0 hst0.size)
  replace HLd := hid (HLd.out.below hst0 hst0.size)
  clear hst0
  obtain ⟨W0, rfl⟩ : ∃ W0 : World, W0 = V := ⟨_, rfl⟩
  go_wp2_with (fail)
  refine (fewest_any Ab 4 cb [[0, 1], [1, 2], [2, 3], [0, 3]] 5 W0 HLb.out (by omega) (by decide)).mono ?_
  rw [kC.1, kC.2.1]
  rintro e W1 ⟨rfl, hb⟩
  replace hbel := hbel.trans (hb.mono hsz)
  replace hsz := hbel.size
  replace B1 := B1.below hb B1.lt
  replace B2 := B2.below hb B2.lt
  replace B3 := B3.below hb B3.lt
  clear p10 p11 l1 p20 p21 l2 p30 p31 l3
  have p10 := B1.cell 0
  have p11 := B1.cell 1
  have l1 := B1.lt
  have p20 := B2.cell 0
  have p21 := B2.cell 1
  have l2 := B2.lt
  have p30 := B3.cell 0
  have p31 := B3.cell 1
  have l3 := B3.lt
  replace HLb := hid (HLb.out.below hb hb.size)
  replace HLc := hid (HLc.out.below hb hb.size)
  replace HLd := hid (HLd.out.below hb hb.size)
  clear hb
  obtain ⟨W0, rfl⟩ : ∃ W0 : World, W0 = W1 := ⟨_, rfl⟩
  go_wp2_with (fail)
  refine (fewest_any Ad 2 cd [[], [0]] 2 W0 HLd.out (by omega) (by decide)).mono ?_
  rw [kC.2.2.1, kC.2.2.2.1]
  rintro e W1 ⟨rfl, hb⟩
  replace hbel := hbel.trans (hb.mono hsz)
  replace hsz := hbel.size
  replace B1 := B1.below hb B1.lt
  replace B2 := B2.below hb B2.lt
  replace B3 := B3.below hb B3.lt
  clear p10 p11 l1 p20 p21 l2 p30 p31 l3
  have p10 := B1.cell 0
  have p11 := B1.cell 1
  have l1 := B1.lt
  have p20 := B2.cell 0
  have p21 := B2.cell 1
  have l2 := B2.lt
  have p30 := B3.cell 0
  have p31 := B3.cell 1
  have l3 := B3.lt
  replace HLb := hid (HLb.out.below hb hb.size)
  replace HLc := hid (HLc.out.below hb hb.size)
  replace HLd := hid (HLd.out.below hb hb.size)
  clear hb
  obtain ⟨W0, rfl⟩ : ∃ W0 : World, W0 = W1 := ⟨_, rfl⟩
  go_wp2_with (fail)
  refine (blame_any Ac 3 cc [[2], [0, 1, 2], [1, 3]] 4 W0 HLc.out (by omega) (by decide)).mono ?_
  rw [kC.2.2.2.2.1, kC.2.2.2.2.2]
  rintro e W1 ⟨Al, nl, cl, rfl, hl, hb⟩
  have Hl := hid hl
  clear hl
  replace hbel := hbel.trans (hb.mono hsz)
  replace hsz := hbel.size
  replace B1 := B1.below hb B1.lt
  replace B2 := B2.below hb B2.lt
  replace B3 := B3.below hb B3.lt
  clear p10 p11 l1 p20 p21 l2 p30 p31 l3
  have p10 := B1.cell 0
  have p11 := B1.cell 1
  have l1 := B1.lt
  have p20 := B2.cell 0
  have p21 := B2.cell 1
  have l2 := B2.lt
  have p30 := B3.cell 0
  have p31 := B3.cell 1
  have l3 := B3.lt
  replace HLb := hid (HLb.out.below hb hb.size)
  replace HLc := hid (HLc.out.below hb hb.size)
  replace HLd := hid (HLd.out.below hb hb.size)
  clear hb
  obtain ⟨W0, rfl⟩ : ∃ W0 : World, W0 = W1 := ⟨_, rfl⟩
  go_wp2_with (fail)
  refine (apartF_any Ab 4 cb [[0, 1], [1, 2], [2, 3], [0, 3]] 5 W0 HLb.out (by omega) (by decide)).mono ?_
  rw [kD.1, kD.2.1]
  rintro e W1 ⟨Aa, na, rfl, ha, hb⟩
  have Ha := hid ha
  clear ha
  replace hbel := hbel.trans (hb.mono hsz)
  replace hsz := hbel.size
  replace B1 := B1.below hb B1.lt
  replace B2 := B2.below hb B2.lt
  replace B3 := B3.below hb B3.lt
  clear p10 p11 l1 p20 p21 l2 p30 p31 l3
  have p10 := B1.cell 0
  have p11 := B1.cell 1
  have l1 := B1.lt
  have p20 := B2.cell 0
  have p21 := B2.cell 1
  have l2 := B2.lt
  have p30 := B3.cell 0
  have p31 := B3.cell 1
  have l3 := B3.lt
  replace HLb := hid (HLb.out.below hb hb.size)
  replace HLc := hid (HLc.out.below hb hb.size)
  replace HLd := hid (HLd.out.below hb hb.size)
  replace Hl := hid (Hl.out.below hb hb.size)
  clear hb
  obtain ⟨W0, rfl⟩ : ∃ W0 : World, W0 = W1 := ⟨_, rfl⟩
  go_wp2_with (fail)
  refine Sx.wp_region_free (fun W => Below W0.heap.size W0 W) (hSb W0) (SpA [.val (.agg #[.int .i64 5, .slice Ab 4 cb]), .is [0, 1], .is [0, 1], .val (.int .i64 16), .val (.agg #[.int .i64 5, .slice Ab 4 cb]), .is [2, 0], .is [2, 0], .val (.int .i64 3), .val (.int .i64 16), .val (.int .i64 3)]) (SpA.keep _) (fun k => ([[], [], [1], [0, 2], [], [], [5], [4, 6], [3], [7]] : List (List Nat)).getD k []) [0, 1, 2, 3, 4, 5, 6, 7, 8, 9] rfl ?X11 ?hX11 (by kernel_rfl) (by kernel_rfl) ((Below.refl _ _).drew) ?hC11 ?hQ11
  case hX11 =>
    intro e
    simp only [Sx.putF, Sx.dstAt, List.getElem?_toArray, List.getElem?_cons_succ, List.getElem?_cons_zero, Option.bind_some, Act.put, List.setIfInBounds_toArray, List.set_cons_zero, List.set_cons_succ]
    exact rfl
  case hC11 =>
    intro k o ho e W hx hs hd
    match k, ho, hd with
    | 0, ho, hd =>
      have ho := Option.some.inj ho
      subst ho
      have f0 := (B1.below hs l1).cell 0
      have f1 := (B1.below hs l1).cell 1
      have f2 := (B1.below hs l1).lt
      go_simp
      simp only [Sx.LV]
      exact ⟨Below.refl _ _, rfl⟩
    | 1, ho, hd =>
      have ho := Option.some.inj ho
      subst ho
      go_simp
      simp only [Sx.LV]
      exact ⟨(Below.refl _ _).alloc (Nat.le_refl _) _, _, _, _, rfl, ins_blk (l := [0, 1]) (Blk.new _ _ _) (by simp)⟩
    | 2, ho, hd =>
      have ho := Option.some.inj ho
      subst ho
      obtain ⟨A1, n1, c1, e1, h1⟩ : Sp.ok (.is [0, 1]) (e 1) W := hd 1 (by decide)
      go_simp
      simp only [Sx.LV]
      refine (of_any _ _).mono ?_
      rintro e1 w1 ⟨rfl, rfl⟩
      exact ⟨_, rfl, Below.refl _ _, _, _, _, rfl, h1⟩
    | 3, ho, hd =>
      have ho := Option.some.inj ho
      subst ho
      have e0 : e 0 = (.agg #[.int .i64 5, .slice Ab 4 cb]) := hd 0 (by decide)
      obtain ⟨A2, n2, c2, e2, h2⟩ : Sp.ok (.is [0, 1]) (e 2) W := hd 2 (by decide)
      go_simp
      simp only [Sx.LV]
      have hz2 := h2.len
      refine (checkApart_any Ab A2 4 cb n2 c2 [[0, 1], [1, 2], [2, 3], [0, 3]] [0, 1] 5 W (HLb.out.below hx hx.size) h2 (by omega) (by decide) (by simp at hz2; omega)).mono ?_
      rw [kD.2.2.1]
      rintro e1 W1 ⟨rfl, hb⟩
      exact ⟨_, rfl, hb, rfl⟩
    | 4, ho, hd =>
      have ho := Option.some.inj ho
      subst ho
      have f0 := (B1.below hs l1).cell 0
      have f1 := (B1.below hs l1).cell 1
      have f2 := (B1.below hs l1).lt
      go_simp
      simp only [Sx.LV]
      exact ⟨Below.refl _ _, rfl⟩
    | 5, ho, hd =>
      have ho := Option.some.inj ho
      subst ho
      go_simp
      simp only [Sx.LV]
      exact ⟨(Below.refl _ _).alloc (Nat.le_refl _) _, _, _, _, rfl, ins_blk (l := [2, 0]) (Blk.new _ _ _) (by simp)⟩
    | 6, ho, hd =>
      have ho := Option.some.inj ho
      subst ho
      obtain ⟨A5, n5, c5, e5, h5⟩ : Sp.ok (.is [2, 0]) (e 5) W := hd 5 (by decide)
      go_simp
      simp only [Sx.LV]
      refine (of_any _ _).mono ?_
      rintro e1 w1 ⟨rfl, rfl⟩
      exact ⟨_, rfl, Below.refl _ _, _, _, _, rfl, h5⟩
    | 7, ho, hd =>
      have ho := Option.some.inj ho
      subst ho
      have e4 : e 4 = (.agg #[.int .i64 5, .slice Ab 4 cb]) := hd 4 (by decide)
      obtain ⟨A6, n6, c6, e6, h6⟩ : Sp.ok (.is [2, 0]) (e 6) W := hd 6 (by decide)
      go_simp
      simp only [Sx.LV]
      have hz6 := h6.len
      refine (checkApart_any Ab A6 4 cb n6 c6 [[0, 1], [1, 2], [2, 3], [0, 3]] [2, 0] 5 W (HLb.out.below hx hx.size) h6 (by omega) (by decide) (by simp at hz6; omega)).mono ?_
      rw [kD.2.2.2.1]
      rintro e1 W1 ⟨rfl, hb⟩
      exact ⟨_, rfl, hb, rfl⟩
    | 8, ho, hd =>
      have ho := Option.some.inj ho
      subst ho
      have e3 : e 3 = (.int .i64 16) := hd 3 (by decide)
      go_simp
      simp only [Sx.LV]
      exact ⟨Below.refl _ _, rfl⟩
    | 9, ho, hd =>
      have ho := Option.some.inj ho
      subst ho
      have e7 : e 7 = (.int .i64 3) := hd 7 (by decide)
      go_simp
      simp only [Sx.LV]
      exact ⟨Below.refl _ _, rfl⟩
    | k + 10, ho, _ => cases ho
  intro e V hv hst0 hp
  have e8 : e 8 = (.int .i64 16) := hp 8 (by decide)
  have e9 : e 9 = (.int .i64 3) := hp 9 (by decide)
  simp only [e8, e9]
  clear hp hv
  replace hbel := hbel.trans (hst0.mono hsz)
  replace hsz := hbel.size
  replace B1 := B1.below hst0 B1.lt
  replace B2 := B2.below hst0 B2.lt
  replace B3 := B3.below hst0 B3.lt
  clear p10 p11 l1 p20 p21 l2 p30 p31 l3
  have p10 := B1.cell 0
  have p11 := B1.cell 1
  have l1 := B1.lt
  have p20 := B2.cell 0
  have p21 := B2.cell 1
  have l2 := B2.lt
  have p30 := B3.cell 0
  have p31 := B3.cell 1
  have l3 := B3.lt
  replace HLb := hid (HLb.out.below hst0 hst0.size)
  replace HLc := hid (HLc.out.below hst0 hst0.size)
  replace HLd := hid (HLd.out.below hst0 hst0.size)
  replace Hl := hid (Hl.out.below hst0 hst0.size)
  replace Ha := hid (Ha.out.below hst0 hst0.size)
  clear hst0
  obtain ⟨W0, rfl⟩ : ∃ W0 : World, W0 = V := ⟨_, rfl⟩
  go_wp2_with (fail)
  refine Sx.wp_region_free (fun W => Below W0.heap.size W0 W) (hSb W0) (SpA [.val (.agg #[.int .i64 4, .slice Ac 3 cc]), .is [0, 1, 2, 3], .is [0, 1, 2, 3], .tis [1, 2] (.int .i64 0), .tis [1, 2] (.int .i64 0), .is [1, 2], .val (.int .i64 0), .is [1, 2], .val (.int .i64 0)]) (SpA.keep _) (fun k => ([[], [], [1], [0, 2], [3], [4], [4], [5], [6]] : List (List Nat)).getD k []) [0, 1, 2, 3, 4, 5, 6, 7, 8] rfl ?X12 ?hX12 (by kernel_rfl) (by kernel_rfl) ((Below.refl _ _).drew) ?hC12 ?hQ12
  case hX12 =>
    intro e
    simp only [Sx.putF, Sx.dstAt, List.getElem?_toArray, List.getElem?_cons_succ, List.getElem?_cons_zero, Option.bind_some, Act.put, List.setIfInBounds_toArray, List.set_cons_zero, List.set_cons_succ]
    exact rfl
  case hC12 =>
    intro k o ho e W hx hs hd
    match k, ho, hd with
    | 0, ho, hd =>
      have ho := Option.some.inj ho
      subst ho
      have f0 := (B2.below hs l2).cell 0
      have f1 := (B2.below hs l2).cell 1
      have f2 := (B2.below hs l2).lt
      go_simp
      simp only [Sx.LV]
      exact ⟨Below.refl _ _, rfl⟩
    | 1, ho, hd =>
      have ho := Option.some.inj ho
      subst ho
      go_simp
      simp only [Sx.LV]
      exact ⟨(Below.refl _ _).alloc (Nat.le_refl _) _, _, _, _, rfl, ins_blk (l := [0, 1, 2, 3]) (Blk.new _ _ _) (by simp)⟩
    | 2, ho, hd =>
      have ho := Option.some.inj ho
      subst ho
      obtain ⟨A1, n1, c1, e1, h1⟩ : Sp.ok (.is [0, 1, 2, 3]) (e 1) W := hd 1 (by decide)
      go_simp
      simp only [Sx.LV]
      refine (of_any _ _).mono ?_
      rintro e1 w1 ⟨rfl, rfl⟩
      exact ⟨_, rfl, Below.refl _ _, _, _, _, rfl, h1⟩
    | 3, ho, hd =>
      have ho := Option.some.inj ho
      subst ho
      have e0 : e 0 = (.agg #[.int .i64 4, .slice Ac 3 cc]) := hd 0 (by decide)
      obtain ⟨A2, n2, c2, e2, h2⟩ : Sp.ok (.is [0, 1, 2, 3]) (e 2) W := hd 2 (by decide)
      go_simp
      simp only [Sx.LV]
      have hz2 := h2.len
      refine (tight_any Ac A2 3 cc n2 c2 [[2], [0, 1, 2], [1, 3]] [0, 1, 2, 3] 4 W (HLc.out.below hx hx.size) h2 (by omega) (by decide) (by simp at hz2; omega) (fun b off e => ins_lt0 h2 (by simp at hz2; omega) b off e)).mono ?_
      rw [kD.2.2.2.2.1, kD.2.2.2.2.2.1]
      rintro e1 W1 ⟨Ar, nr, cr, rfl, -, hr, hb⟩
      exact ⟨_, rfl, hb, _, _, _, rfl, hr⟩
    | 4, ho, hd =>
      have ho := Option.some.inj ho
      subst ho
      obtain ⟨A3, n3, c3, e3, h3⟩ : Sp.ok (.tis [1, 2] (.int .i64 0)) (e 3) W := hd 3 (by decide)
      go_simp
      simp only [Sx.LV]
      exact ⟨Below.refl _ _, _, _, _, rfl, h3⟩
    | 5, ho, hd =>
      have ho := Option.some.inj ho
      subst ho
      obtain ⟨A4, n4, c4, e4, h4⟩ : Sp.ok (.tis [1, 2] (.int .i64 0)) (e 4) W := hd 4 (by decide)
      go_simp
      simp only [Sx.LV]
      exact ⟨Below.refl _ _, _, _, _, rfl, h4⟩
    | 6, ho, hd =>
      have ho := Option.some.inj ho
      subst ho
      obtain ⟨A4, n4, c4, e4, h4⟩ : Sp.ok (.tis [1, 2] (.int .i64 0)) (e 4) W := hd 4 (by decide)
      go_simp
      simp only [Sx.LV]
      exact ⟨Below.refl _ _, rfl⟩
    | 7, ho, hd =>
      have ho := Option.some.inj ho
      subst ho
      obtain ⟨A5, n5, c5, e5, h5⟩ : Sp.ok (.is [1, 2]) (e 5) W := hd 5 (by decide)
      go_simp
      simp only [Sx.LV]
      exact ⟨Below.refl _ _, _, _, _, rfl, h5⟩
    | 8, ho, hd =>
      have ho := Option.some.inj ho
      subst ho
      have e6 : e 6 = (.int .i64 0) := hd 6 (by decide)
      go_simp
      simp only [Sx.LV]
      exact ⟨Below.refl _ _, rfl⟩
    | k + 9, ho, _ => cases ho
  intro e V hv hst0 hp
  obtain ⟨At, nt, ct, e7, ht⟩ : Sp.ok (.is [1, 2]) (e 7) V := hp 7 (by decide)
  have Ht := hid ht
  clear ht
  have e8 : e 8 = (.int .i64 0) := hp 8 (by decide)
  simp only [e7, e8]
  clear hp hv
  replace hbel := hbel.trans (hst0.mono hsz)
  replace hsz := hbel.size
  replace B1 := B1.below hst0 B1.lt
  replace B2 := B2.below hst0 B2.lt
  replace B3 := B3.below hst0 B3.lt
  clear p10 p11 l1 p20 p21 l2 p30 p31 l3
  have p10 := B1.cell 0
  have p11 := B1.cell 1
  have l1 := B1.lt
  have p20 := B2.cell 0
  have p21 := B2.cell 1
  have l2 := B2.lt
  have p30 := B3.cell 0
  have p31 := B3.cell 1
  have l3 := B3.lt
  replace HLb := hid (HLb.out.below hst0 hst0.size)
  replace HLc := hid (HLc.out.below hst0 hst0.size)
  replace HLd := hid (HLd.out.below hst0 hst0.size)
  replace Hl := hid (Hl.out.below hst0 hst0.size)
  replace Ha := hid (Ha.out.below hst0 hst0.size)
  clear hst0
  obtain ⟨W0, rfl⟩ : ∃ W0 : World, W0 = V := ⟨_, rfl⟩
  go_wp2_with (fail)
  refine (allF_any Ac 3 cc [[2], [0, 1, 2], [1, 3]] 4 W0 HLc.out (by omega) (by decide)).mono ?_
  rw [kE.1, kD.2.2.2.2.2.2]
  rintro e W1 ⟨Ax, nx, cx, rfl, hx, hb⟩
  have Hx := hid hx.lis
  clear hx
  replace hbel := hbel.trans (hb.mono hsz)
  replace hsz := hbel.size
  replace B1 := B1.below hb B1.lt
  replace B2 := B2.below hb B2.lt
  replace B3 := B3.below hb B3.lt
  clear p10 p11 l1 p20 p21 l2 p30 p31 l3
  have p10 := B1.cell 0
  have p11 := B1.cell 1
  have l1 := B1.lt
  have p20 := B2.cell 0
  have p21 := B2.cell 1
  have l2 := B2.lt
  have p30 := B3.cell 0
  have p31 := B3.cell 1
  have l3 := B3.lt
  replace HLb := hid (HLb.out.below hb hb.size)
  replace HLc := hid (HLc.out.below hb hb.size)
  replace HLd := hid (HLd.out.below hb hb.size)
  replace Hl := hid (Hl.out.below hb hb.size)
  replace Ha := hid (Ha.out.below hb hb.size)
  replace Ht := hid (Ht.out.below hb hb.size)
  clear hb
  obtain ⟨W0, rfl⟩ : ∃ W0 : World, W0 = W1 := ⟨_, rfl⟩
  go_wp2_with (fail)
  refine Sx.wp_region_free (fun W => Below W0.heap.size W0 W) (hSb W0) (SpA [.val (.agg #[.int .i64 5, .slice Ab 4 cb]), .is [0, 2], .is [0, 2], .is [1, 3], .is [1, 3], .li [[0, 2], [1, 3]], .val (.int .i64 0), .val (.agg #[.int .i64 5, .slice Ab 4 cb]), .is [0, 2], .is [0, 2], .li [[0, 2]], .val (.int .i64 14), .val (.int .i64 0), .val (.int .i64 14)]) (SpA.keep _) (fun k => ([[], [], [1], [], [3], [2, 4], [0, 5], [], [], [8], [9], [7, 10], [6], [11]] : List (List Nat)).getD k []) [0, 1, 2, 3, 4, 5, 6, 7, 8, 9, 10, 11, 12, 13] rfl ?X14 ?hX14 (by kernel_rfl) (by kernel_rfl) ((Below.refl _ _).drew) ?hC14 ?hQ14
  case hX14 =>
    intro e
    simp only [Sx.putF, Sx.dstAt, List.getElem?_toArray, List.getElem?_cons_succ, List.getElem?_cons_zero, Option.bind_some, Act.put, List.setIfInBounds_toArray, List.set_cons_zero, List.set_cons_succ]
    exact rfl
  case hC14 =>
    intro k o ho e W hx hs hd
    match k, ho, hd with
    | 0, ho, hd =>
      have ho := Option.some.inj ho
      subst ho
      have f0 := (B1.below hs l1).cell 0
      have f1 := (B1.below hs l1).cell 1
      have f2 := (B1.below hs l1).lt
      go_simp
      simp only [Sx.LV]
      exact ⟨Below.refl _ _, rfl⟩
    | 1, ho, hd =>
      have ho := Option.some.inj ho
      subst ho
      go_simp
      simp only [Sx.LV]
      exact ⟨(Below.refl _ _).alloc (Nat.le_refl _) _, _, _, _, rfl, ins_blk (l := [0, 2]) (Blk.new _ _ _) (by simp)⟩
    | 2, ho, hd =>
      have ho := Option.some.inj ho
      subst ho
      obtain ⟨A1, n1, c1, e1, h1⟩ : Sp.ok (.is [0, 2]) (e 1) W := hd 1 (by decide)
      go_simp
      simp only [Sx.LV]
      refine (of_any _ _).mono ?_
      rintro e1 w1 ⟨rfl, rfl⟩
      exact ⟨_, rfl, Below.refl _ _, _, _, _, rfl, h1⟩
    | 3, ho, hd =>
      have ho := Option.some.inj ho
      subst ho
      go_simp
      simp only [Sx.LV]
      exact ⟨(Below.refl _ _).alloc (Nat.le_refl _) _, _, _, _, rfl, ins_blk (l := [1, 3]) (Blk.new _ _ _) (by simp)⟩
    | 4, ho, hd =>
      have ho := Option.some.inj ho
      subst ho
      obtain ⟨A3, n3, c3, e3, h3⟩ : Sp.ok (.is [1, 3]) (e 3) W := hd 3 (by decide)
      go_simp
      simp only [Sx.LV]
      refine (of_any _ _).mono ?_
      rintro e1 w1 ⟨rfl, rfl⟩
      exact ⟨_, rfl, Below.refl _ _, _, _, _, rfl, h3⟩
    | 5, ho, hd =>
      have ho := Option.some.inj ho
      subst ho
      obtain ⟨A2, n2, c2, e2, h2⟩ : Sp.ok (.is [0, 2]) (e 2) W := hd 2 (by decide)
      obtain ⟨A4, n4, c4, e4, h4⟩ : Sp.ok (.is [1, 3]) (e 4) W := hd 4 (by decide)
      go_simp
      simp only [Sx.LV]
      have hbx : Below W.heap.size W _ := (Below.refl W.heap.size W).alloc (Nat.le_refl _) (.cells #[.slice A2 n2 c2, .slice A4 n4 c4] 25)
      exact ⟨hbx, _, _, _, rfl, lis_two (Blk.new _ _ _) (h2.below hbx hbx.size) (h4.below hbx hbx.size)⟩
    | 6, ho, hd =>
      have ho := Option.some.inj ho
      subst ho
      have e0 : e 0 = (.agg #[.int .i64 5, .slice Ab 4 cb]) := hd 0 (by decide)
      obtain ⟨A5, n5, c5, e5, h5⟩ : Sp.ok (.li [[0, 2], [1, 3]]) (e 5) W := hd 5 (by decide)
      go_simp
      simp only [Sx.LV]
      have hz5 := h5.1
      refine (checkAll_any Ab A5 4 cb n5 c5 [[0, 1], [1, 2], [2, 3], [0, 3]] [[0, 2], [1, 3]] 5 W (HLb.out.below hx hx.size) h5 (by omega) (by decide) (by simp at hz5; omega) (by decide)).mono ?_
      rw [kF.1]
      rintro e1 W1 ⟨rfl, hb⟩
      exact ⟨_, rfl, hb, rfl⟩
    | 7, ho, hd =>
      have ho := Option.some.inj ho
      subst ho
      have f0 := (B1.below hs l1).cell 0
      have f1 := (B1.below hs l1).cell 1
      have f2 := (B1.below hs l1).lt
      go_simp
      simp only [Sx.LV]
      exact ⟨Below.refl _ _, rfl⟩
    | 8, ho, hd =>
      have ho := Option.some.inj ho
      subst ho
      go_simp
      simp only [Sx.LV]
      exact ⟨(Below.refl _ _).alloc (Nat.le_refl _) _, _, _, _, rfl, ins_blk (l := [0, 2]) (Blk.new _ _ _) (by simp)⟩
    | 9, ho, hd =>
      have ho := Option.some.inj ho
      subst ho
      obtain ⟨A8, n8, c8, e8, h8⟩ : Sp.ok (.is [0, 2]) (e 8) W := hd 8 (by decide)
      go_simp
      simp only [Sx.LV]
      refine (of_any _ _).mono ?_
      rintro e1 w1 ⟨rfl, rfl⟩
      exact ⟨_, rfl, Below.refl _ _, _, _, _, rfl, h8⟩
    | 10, ho, hd =>
      have ho := Option.some.inj ho
      subst ho
      obtain ⟨A9, n9, c9, e9, h9⟩ : Sp.ok (.is [0, 2]) (e 9) W := hd 9 (by decide)
      go_simp
      simp only [Sx.LV]
      have hbx : Below W.heap.size W _ := (Below.refl W.heap.size W).alloc (Nat.le_refl _) (.cells #[.slice A9 n9 c9] 25)
      exact ⟨hbx, _, _, _, rfl, lis_one' (Blk.new _ _ _) (h9.below hbx hbx.size)⟩
    | 11, ho, hd =>
      have ho := Option.some.inj ho
      subst ho
      have e7 : e 7 = (.agg #[.int .i64 5, .slice Ab 4 cb]) := hd 7 (by decide)
      obtain ⟨A10, n10, c10, e10, h10⟩ : Sp.ok (.li [[0, 2]]) (e 10) W := hd 10 (by decide)
      go_simp
      simp only [Sx.LV]
      have hz10 := h10.1
      refine (checkAll_any Ab A10 4 cb n10 c10 [[0, 1], [1, 2], [2, 3], [0, 3]] [[0, 2]] 5 W (HLb.out.below hx hx.size) h10 (by omega) (by decide) (by simp at hz10; omega) (by decide)).mono ?_
      rw [kF.2.1]
      rintro e1 W1 ⟨rfl, hb⟩
      exact ⟨_, rfl, hb, rfl⟩
    | 12, ho, hd =>
      have ho := Option.some.inj ho
      subst ho
      have e6 : e 6 = (.int .i64 0) := hd 6 (by decide)
      go_simp
      simp only [Sx.LV]
      exact ⟨Below.refl _ _, rfl⟩
    | 13, ho, hd =>
      have ho := Option.some.inj ho
      subst ho
      have e11 : e 11 = (.int .i64 14) := hd 11 (by decide)
      go_simp
      simp only [Sx.LV]
      exact ⟨Below.refl _ _, rfl⟩
    | k + 14, ho, _ => cases ho
  intro e V hv hst0 hp
  have e12 : e 12 = (.int .i64 0) := hp 12 (by decide)
  have e13 : e 13 = (.int .i64 14) := hp 13 (by decide)
  simp only [e12, e13]
  clear hp hv
  replace hbel := hbel.trans (hst0.mono hsz)
  replace hsz := hbel.size
  replace B1 := B1.below hst0 B1.lt
  replace B2 := B2.below hst0 B2.lt
  replace B3 := B3.below hst0 B3.lt
  clear p10 p11 l1 p20 p21 l2 p30 p31 l3
  have p10 := B1.cell 0
  have p11 := B1.cell 1
  have l1 := B1.lt
  have p20 := B2.cell 0
  have p21 := B2.cell 1
  have l2 := B2.lt
  have p30 := B3.cell 0
  have p31 := B3.cell 1
  have l3 := B3.lt
  replace HLb := hid (HLb.out.below hst0 hst0.size)
  replace HLc := hid (HLc.out.below hst0 hst0.size)
  replace HLd := hid (HLd.out.below hst0 hst0.size)
  replace Hl := hid (Hl.out.below hst0 hst0.size)
  replace Ha := hid (Ha.out.below hst0 hst0.size)
  replace Ht := hid (Ht.out.below hst0 hst0.size)
  replace Hx := hid (Hx.out.below hst0 hst0.size)
  clear hst0
  obtain ⟨W0, rfl⟩ : ∃ W0 : World, W0 = V := ⟨_, rfl⟩
  go_wp2_with (fail)
  refine Sx.wp_region_free (fun W => Below W0.heap.size W0 W) (hSb W0) (SpA [.val (.agg #[.int .i64 5, .slice Ab 4 cb]), .is [0, 2], .is [0, 2], .li [[0, 2]], .tis [1, 3] (.int .i64 0), .tis [1, 3] (.int .i64 0), .is [1, 3], .val (.int .i64 0), .is [1, 3], .val (.int .i64 0)]) (SpA.keep _) (fun k => ([[], [], [1], [2], [0, 3], [4], [5], [5], [6], [7]] : List (List Nat)).getD k []) [0, 1, 2, 3, 4, 5, 6, 7, 8, 9] rfl ?X15 ?hX15 (by kernel_rfl) (by kernel_rfl) ((Below.refl _ _).drew) ?hC15 ?hQ15
  case hX15 =>
    intro e
    simp only [Sx.putF, Sx.dstAt, List.getElem?_toArray, List.getElem?_cons_succ, List.getElem?_cons_zero, Option.bind_some, Act.put, List.setIfInBounds_toArray, List.set_cons_zero, List.set_cons_succ]
    exact rfl
  case hC15 =>
    intro k o ho e W hx hs hd
    match k, ho, hd with
    | 0, ho, hd =>
      have ho := Option.some.inj ho
      subst ho
      have f0 := (B1.below hs l1).cell 0
      have f1 := (B1.below hs l1).cell 1
      have f2 := (B1.below hs l1).lt
      go_simp
      simp only [Sx.LV]
      exact ⟨Below.refl _ _, rfl⟩
    | 1, ho, hd =>
      have ho := Option.some.inj ho
      subst ho
      go_simp
      simp only [Sx.LV]
      exact ⟨(Below.refl _ _).alloc (Nat.le_refl _) _, _, _, _, rfl, ins_blk (l := [0, 2]) (Blk.new _ _ _) (by simp)⟩
    | 2, ho, hd =>
      have ho := Option.some.inj ho
      subst ho
      obtain ⟨A1, n1, c1, e1, h1⟩ : Sp.ok (.is [0, 2]) (e 1) W := hd 1 (by decide)
      go_simp
      simp only [Sx.LV]
      refine (of_any _ _).mono ?_
      rintro e1 w1 ⟨rfl, rfl⟩
      exact ⟨_, rfl, Below.refl _ _, _, _, _, rfl, h1⟩
    | 3, ho, hd =>
      have ho := Option.some.inj ho
      subst ho
      obtain ⟨A2, n2, c2, e2, h2⟩ : Sp.ok (.is [0, 2]) (e 2) W := hd 2 (by decide)
      go_simp
      simp only [Sx.LV]
      have hbx : Below W.heap.size W _ := (Below.refl W.heap.size W).alloc (Nat.le_refl _) (.cells #[.slice A2 n2 c2] 25)
      exact ⟨hbx, _, _, _, rfl, lis_one' (Blk.new _ _ _) (h2.below hbx hbx.size)⟩
    | 4, ho, hd =>
      have ho := Option.some.inj ho
      subst ho
      have e0 : e 0 = (.agg #[.int .i64 5, .slice Ab 4 cb]) := hd 0 (by decide)
      obtain ⟨A3, n3, c3, e3, h3⟩ : Sp.ok (.li [[0, 2]]) (e 3) W := hd 3 (by decide)
      go_simp
      simp only [Sx.LV]
      have hz3 := h3.1
      refine (forgotten_any Ab A3 4 cb n3 c3 [[0, 1], [1, 2], [2, 3], [0, 3]] [[0, 2]] 5 W (HLb.out.below hx hx.size) h3 (by omega) (by decide) (by simp at hz3; omega) (by decide)).mono ?_
      rw [kF.2.2.1, kF.2.2.2.1]
      rintro e1 W1 ⟨Ar, nr, cr, rfl, hr, hb⟩
      exact ⟨_, rfl, hb, _, _, _, rfl, hr⟩
    | 5, ho, hd =>
      have ho := Option.some.inj ho
      subst ho
      obtain ⟨A4, n4, c4, e4, h4⟩ : Sp.ok (.tis [1, 3] (.int .i64 0)) (e 4) W := hd 4 (by decide)
      go_simp
      simp only [Sx.LV]
      exact ⟨Below.refl _ _, _, _, _, rfl, h4⟩
    | 6, ho, hd =>
      have ho := Option.some.inj ho
      subst ho
      obtain ⟨A5, n5, c5, e5, h5⟩ : Sp.ok (.tis [1, 3] (.int .i64 0)) (e 5) W := hd 5 (by decide)
      go_simp
      simp only [Sx.LV]
      exact ⟨Below.refl _ _, _, _, _, rfl, h5⟩
    | 7, ho, hd =>
      have ho := Option.some.inj ho
      subst ho
      obtain ⟨A5, n5, c5, e5, h5⟩ : Sp.ok (.tis [1, 3] (.int .i64 0)) (e 5) W := hd 5 (by decide)
      go_simp
      simp only [Sx.LV]
      exact ⟨Below.refl _ _, rfl⟩
    | 8, ho, hd =>
      have ho := Option.some.inj ho
      subst ho
      obtain ⟨A6, n6, c6, e6, h6⟩ : Sp.ok (.is [1, 3]) (e 6) W := hd 6 (by decide)
      go_simp
      simp only [Sx.LV]
      exact ⟨Below.refl _ _, _, _, _, rfl, h6⟩
    | 9, ho, hd =>
      have ho := Option.some.inj ho
      subst ho
      have e7 : e 7 = (.int .i64 0) := hd 7 (by decide)
      go_simp
      simp only [Sx.LV]
      exact ⟨Below.refl _ _, rfl⟩
    | k + 10, ho, _ => cases ho
  intro e V hv hst0 hp
  obtain ⟨Ao, no, co, e8, ho⟩ : Sp.ok (.is [1, 3]) (e 8) V := hp 8 (by decide)
  have Ho := hid ho
  clear ho
  have e9 : e 9 = (.int .i64 0) := hp 9 (by decide)
  simp only [e8, e9]
  clear hp hv
  replace hbel := hbel.trans (hst0.mono hsz)
  replace hsz := hbel.size
  replace B1 := B1.below hst0 B1.lt
  replace B2 := B2.below hst0 B2.lt
  replace B3 := B3.below hst0 B3.lt
  clear p10 p11 l1 p20 p21 l2 p30 p31 l3
  have p10 := B1.cell 0
  have p11 := B1.cell 1
  have l1 := B1.lt
  have p20 := B2.cell 0
  have p21 := B2.cell 1
  have l2 := B2.lt
  have p30 := B3.cell 0
  have p31 := B3.cell 1
  have l3 := B3.lt
  replace HLb := hid (HLb.out.below hst0 hst0.size)
  replace HLc := hid (HLc.out.below hst0 hst0.size)
  replace HLd := hid (HLd.out.below hst0 hst0.size)
  replace Hl := hid (Hl.out.below hst0 hst0.size)
  replace Ha := hid (Ha.out.below hst0 hst0.size)
  replace Ht := hid (Ht.out.below hst0 hst0.size)
  replace Hx := hid (Hx.out.below hst0 hst0.size)
  clear hst0
  obtain ⟨W0, rfl⟩ : ∃ W0 : World, W0 = V := ⟨_, rfl⟩
  go_wp2_with (fail)
  refine Sx.wp_region_free (fun W => Below W0.heap.size W0 W) (hSb W0) (SpA [.val (.agg #[.int .i64 5, .slice Ab 4 cb]), .is [0], .is [0], .is [1], .is [1], .li [[0], [1]], .tis [] (.int .i64 5), .tis [] (.int .i64 5), .is [], .val (.int .i64 5), .is [], .val (.int .i64 5)]) (SpA.keep _) (fun k => ([[], [], [1], [], [3], [2, 4], [0, 5], [6], [7], [7], [8], [9]] : List (List Nat)).getD k []) [0, 1, 2, 3, 4, 5, 6, 7, 8, 9, 10, 11] rfl ?X16 ?hX16 (by kernel_rfl) (by kernel_rfl) ((Below.refl _ _).drew) ?hC16 ?hQ16
  case hX16 =>
    intro e
    simp only [Sx.putF, Sx.dstAt, List.getElem?_toArray, List.getElem?_cons_succ, List.getElem?_cons_zero, Option.bind_some, Act.put, List.setIfInBounds_toArray, List.set_cons_zero, List.set_cons_succ]
    exact rfl
  case hC16 =>
    intro k o ho e W hx hs hd
    match k, ho, hd with
    | 0, ho, hd =>
      have ho := Option.some.inj ho
      subst ho
      have f0 := (B1.below hs l1).cell 0
      have f1 := (B1.below hs l1).cell 1
      have f2 := (B1.below hs l1).lt
      go_simp
      simp only [Sx.LV]
      exact ⟨Below.refl _ _, rfl⟩
    | 1, ho, hd =>
      have ho := Option.some.inj ho
      subst ho
      go_simp
      simp only [Sx.LV]
      exact ⟨(Below.refl _ _).alloc (Nat.le_refl _) _, _, _, _, rfl, ins_blk (l := [0]) (Blk.new _ _ _) (by simp)⟩
    | 2, ho, hd =>
      have ho := Option.some.inj ho
      subst ho
      obtain ⟨A1, n1, c1, e1, h1⟩ : Sp.ok (.is [0]) (e 1) W := hd 1 (by decide)
      go_simp
      simp only [Sx.LV]
      refine (of_any _ _).mono ?_
      rintro e1 w1 ⟨rfl, rfl⟩
      exact ⟨_, rfl, Below.refl _ _, _, _, _, rfl, h1⟩
    | 3, ho, hd =>
      have ho := Option.some.inj ho
      subst ho
      go_simp
      simp only [Sx.LV]
      exact ⟨(Below.refl _ _).alloc (Nat.le_refl _) _, _, _, _, rfl, ins_blk (l := [1]) (Blk.new _ _ _) (by simp)⟩
    | 4, ho, hd =>
      have ho := Option.some.inj ho
      subst ho
      obtain ⟨A3, n3, c3, e3, h3⟩ : Sp.ok (.is [1]) (e 3) W := hd 3 (by decide)
      go_simp
      simp only [Sx.LV]
      refine (of_any _ _).mono ?_
      rintro e1 w1 ⟨rfl, rfl⟩
      exact ⟨_, rfl, Below.refl _ _, _, _, _, rfl, h3⟩
    | 5, ho, hd =>
      have ho := Option.some.inj ho
      subst ho
      obtain ⟨A2, n2, c2, e2, h2⟩ : Sp.ok (.is [0]) (e 2) W := hd 2 (by decide)
      obtain ⟨A4, n4, c4, e4, h4⟩ : Sp.ok (.is [1]) (e 4) W := hd 4 (by decide)
      go_simp
      simp only [Sx.LV]
      have hbx : Below W.heap.size W _ := (Below.refl W.heap.size W).alloc (Nat.le_refl _) (.cells #[.slice A2 n2 c2, .slice A4 n4 c4] 25)
      exact ⟨hbx, _, _, _, rfl, lis_two (Blk.new _ _ _) (h2.below hbx hbx.size) (h4.below hbx hbx.size)⟩
    | 6, ho, hd =>
      have ho := Option.some.inj ho
      subst ho
      have e0 : e 0 = (.agg #[.int .i64 5, .slice Ab 4 cb]) := hd 0 (by decide)
      obtain ⟨A5, n5, c5, e5, h5⟩ : Sp.ok (.li [[0], [1]]) (e 5) W := hd 5 (by decide)
      go_simp
      simp only [Sx.LV]
      have hz5 := h5.1
      refine (forgotten_any Ab A5 4 cb n5 c5 [[0, 1], [1, 2], [2, 3], [0, 3]] [[0], [1]] 5 W (HLb.out.below hx hx.size) h5 (by omega) (by decide) (by simp at hz5; omega) (by decide)).mono ?_
      rw [kF.2.2.2.2.1, kF.2.2.2.2.2]
      rintro e1 W1 ⟨Ar, nr, cr, rfl, hr, hb⟩
      exact ⟨_, rfl, hb, _, _, _, rfl, hr⟩
    | 7, ho, hd =>
      have ho := Option.some.inj ho
      subst ho
      obtain ⟨A6, n6, c6, e6, h6⟩ : Sp.ok (.tis [] (.int .i64 5)) (e 6) W := hd 6 (by decide)
      go_simp
      simp only [Sx.LV]
      exact ⟨Below.refl _ _, _, _, _, rfl, h6⟩
    | 8, ho, hd =>
      have ho := Option.some.inj ho
      subst ho
      obtain ⟨A7, n7, c7, e7, h7⟩ : Sp.ok (.tis [] (.int .i64 5)) (e 7) W := hd 7 (by decide)
      go_simp
      simp only [Sx.LV]
      exact ⟨Below.refl _ _, _, _, _, rfl, h7⟩
    | 9, ho, hd =>
      have ho := Option.some.inj ho
      subst ho
      obtain ⟨A7, n7, c7, e7, h7⟩ : Sp.ok (.tis [] (.int .i64 5)) (e 7) W := hd 7 (by decide)
      go_simp
      simp only [Sx.LV]
      exact ⟨Below.refl _ _, rfl⟩
    | 10, ho, hd =>
      have ho := Option.some.inj ho
      subst ho
      obtain ⟨A8, n8, c8, e8, h8⟩ : Sp.ok (.is []) (e 8) W := hd 8 (by decide)
      go_simp
      simp only [Sx.LV]
      exact ⟨Below.refl _ _, _, _, _, rfl, h8⟩
    | 11, ho, hd =>
      have ho := Option.some.inj ho
      subst ho
      have e9 : e 9 = (.int .i64 5) := hd 9 (by decide)
      go_simp
      simp only [Sx.LV]
      exact ⟨Below.refl _ _, rfl⟩
    | k + 12, ho, _ => cases ho
  intro e V hv hst0 hp
  obtain ⟨Aoo, noo, coo, e10, hoo⟩ : Sp.ok (.is []) (e 10) V := hp 10 (by decide)
  have Hoo := hid hoo
  clear hoo
  have e11 : e 11 = (.int .i64 5) := hp 11 (by decide)
  simp only [e10, e11]
  clear hp hv
  replace hbel := hbel.trans (hst0.mono hsz)
  replace hsz := hbel.size
  replace B1 := B1.below hst0 B1.lt
  replace B2 := B2.below hst0 B2.lt
  replace B3 := B3.below hst0 B3.lt
  clear p10 p11 l1 p20 p21 l2 p30 p31 l3
  have p10 := B1.cell 0
  have p11 := B1.cell 1
  have l1 := B1.lt
  have p20 := B2.cell 0
  have p21 := B2.cell 1
  have l2 := B2.lt
  have p30 := B3.cell 0
  have p31 := B3.cell 1
  have l3 := B3.lt
  replace HLb := hid (HLb.out.below hst0 hst0.size)
  replace HLc := hid (HLc.out.below hst0 hst0.size)
  replace HLd := hid (HLd.out.below hst0 hst0.size)
  replace Hl := hid (Hl.out.below hst0 hst0.size)
  replace Ha := hid (Ha.out.below hst0 hst0.size)
  replace Ht := hid (Ht.out.below hst0 hst0.size)
  replace Hx := hid (Hx.out.below hst0 hst0.size)
  replace Ho := hid (Ho.out.below hst0 hst0.size)
  clear hst0
  obtain ⟨W0, rfl⟩ : ∃ W0 : World, W0 = V := ⟨_, rfl⟩
  go_wp2_with (fail)
  refine (kind_any Ac 3 cc [[2], [0, 1, 2], [1, 3]] 4 2 W0 HLc.out (by omega) (by decide)).mono ?_
  rw [kG.1, kG.2.1]
  rintro e W1 ⟨rfl, hb⟩
  replace hbel := hbel.trans (hb.mono hsz)
  replace hsz := hbel.size
  replace B1 := B1.below hb B1.lt
  replace B2 := B2.below hb B2.lt
  replace B3 := B3.below hb B3.lt
  clear p10 p11 l1 p20 p21 l2 p30 p31 l3
  have p10 := B1.cell 0
  have p11 := B1.cell 1
  have l1 := B1.lt
  have p20 := B2.cell 0
  have p21 := B2.cell 1
  have l2 := B2.lt
  have p30 := B3.cell 0
  have p31 := B3.cell 1
  have l3 := B3.lt
  replace HLb := hid (HLb.out.below hb hb.size)
  replace HLc := hid (HLc.out.below hb hb.size)
  replace HLd := hid (HLd.out.below hb hb.size)
  replace Hl := hid (Hl.out.below hb hb.size)
  replace Ha := hid (Ha.out.below hb hb.size)
  replace Ht := hid (Ht.out.below hb hb.size)
  replace Hx := hid (Hx.out.below hb hb.size)
  replace Ho := hid (Ho.out.below hb hb.size)
  replace Hoo := hid (Hoo.out.below hb hb.size)
  clear hb
  obtain ⟨W0, rfl⟩ : ∃ W0 : World, W0 = W1 := ⟨_, rfl⟩
  go_wp2_with (fail)
  refine (kind_any Ac 3 cc [[2], [0, 1, 2], [1, 3]] 4 4 W0 HLc.out (by omega) (by decide)).mono ?_
  rw [kG.2.2.1, kG.2.2.2.1]
  rintro e W1 ⟨rfl, hb⟩
  replace hbel := hbel.trans (hb.mono hsz)
  replace hsz := hbel.size
  replace B1 := B1.below hb B1.lt
  replace B2 := B2.below hb B2.lt
  replace B3 := B3.below hb B3.lt
  clear p10 p11 l1 p20 p21 l2 p30 p31 l3
  have p10 := B1.cell 0
  have p11 := B1.cell 1
  have l1 := B1.lt
  have p20 := B2.cell 0
  have p21 := B2.cell 1
  have l2 := B2.lt
  have p30 := B3.cell 0
  have p31 := B3.cell 1
  have l3 := B3.lt
  replace HLb := hid (HLb.out.below hb hb.size)
  replace HLc := hid (HLc.out.below hb hb.size)
  replace HLd := hid (HLd.out.below hb hb.size)
  replace Hl := hid (Hl.out.below hb hb.size)
  replace Ha := hid (Ha.out.below hb hb.size)
  replace Ht := hid (Ht.out.below hb hb.size)
  replace Hx := hid (Hx.out.below hb hb.size)
  replace Ho := hid (Ho.out.below hb hb.size)
  replace Hoo := hid (Hoo.out.below hb hb.size)
  clear hb
  obtain ⟨W0, rfl⟩ : ∃ W0 : World, W0 = W1 := ⟨_, rfl⟩
  go_wp2_with (fail)
  refine (core_any Ac 3 cc [[2], [0, 1, 2], [1, 3]] 4 W0 HLc.out (by omega) (by decide)).mono ?_
  rw [kG.2.2.2.2.2.1, kE.2.2, kD.2.2.2.2.2.2]
  rintro e W1 ⟨Ay, ny, cy, rfl, hy, hb⟩
  have Hy := hid hy.lis
  clear hy
  replace hbel := hbel.trans (hb.mono hsz)
  replace hsz := hbel.size
  replace B1 := B1.below hb B1.lt
  replace B2 := B2.below hb B2.lt
  replace B3 := B3.below hb B3.lt
  clear p10 p11 l1 p20 p21 l2 p30 p31 l3
  have p10 := B1.cell 0
  have p11 := B1.cell 1
  have l1 := B1.lt
  have p20 := B2.cell 0
  have p21 := B2.cell 1
  have l2 := B2.lt
  have p30 := B3.cell 0
  have p31 := B3.cell 1
  have l3 := B3.lt
  replace HLb := hid (HLb.out.below hb hb.size)
  replace HLc := hid (HLc.out.below hb hb.size)
  replace HLd := hid (HLd.out.below hb hb.size)
  replace Hl := hid (Hl.out.below hb hb.size)
  replace Ha := hid (Ha.out.below hb hb.size)
  replace Ht := hid (Ht.out.below hb hb.size)
  replace Hx := hid (Hx.out.below hb hb.size)
  replace Ho := hid (Ho.out.below hb hb.size)
  replace Hoo := hid (Hoo.out.below hb hb.size)
  clear hb
  obtain ⟨W0, rfl⟩ : ∃ W0 : World, W0 = W1 := ⟨_, rfl⟩
  obtain ⟨V, hV⟩ : ∃ V, W0.alloc (.cells #[.int .i64 4, .slice Ay ny cy] 24) = V := ⟨_, rfl⟩
  have hst : Below W0.heap.size W0 V := by rw [← hV]; exact (by repeat' (first | with_reducible assumption | with_reducible exact Below.refl _ _ | refine Below.alloc ?_ ?_ _ | refine Below.setCell ?_ ?_ _ | refine Below.drew ?_ | refine below_drewN ?_ _ | (simp; done) | (simp; omega) | omega))
  obtain ⟨T4, hT⟩ : ∃ T, W0.heap.size = T := ⟨_, rfl⟩
  have B4 : Blk V T4 24 #[.int .i64 4, .slice Ay ny cy] := by rw [← hV, ← hT]; exact Blk.new' rfl
  have v10 := (B1.below hst l1).cell 0
  have v11 := (B1.below hst l1).cell 1
  have v12 := (B1.below hst l1).lt
  clear p10 p11 p20 p21 p30 p31
  go_wp2_with (fail)
  clear hV hT v10 v11 v12
  have p10 := B1.cell 0
  have p11 := B1.cell 1
  have p20 := B2.cell 0
  have p21 := B2.cell 1
  have p30 := B3.cell 0
  have p31 := B3.cell 1
  replace hbel := hbel.trans (hst.mono hsz)
  replace hsz := hbel.size
  replace B1 := B1.below hst B1.lt
  replace B2 := B2.below hst B2.lt
  replace B3 := B3.below hst B3.lt
  clear p10 p11 l1 p20 p21 l2 p30 p31 l3
  have p10 := B1.cell 0
  have p11 := B1.cell 1
  have l1 := B1.lt
  have p20 := B2.cell 0
  have p21 := B2.cell 1
  have l2 := B2.lt
  have p30 := B3.cell 0
  have p31 := B3.cell 1
  have l3 := B3.lt
  replace HLb := hid (HLb.out.below hst hst.size)
  replace HLc := hid (HLc.out.below hst hst.size)
  replace HLd := hid (HLd.out.below hst hst.size)
  replace Hl := hid (Hl.out.below hst hst.size)
  replace Ha := hid (Ha.out.below hst hst.size)
  replace Ht := hid (Ht.out.below hst hst.size)
  replace Hx := hid (Hx.out.below hst hst.size)
  replace Ho := hid (Ho.out.below hst hst.size)
  replace Hoo := hid (Hoo.out.below hst hst.size)
  replace Hy := hid (Hy.out.below hst hst.size)
  clear hst
  obtain ⟨W0, rfl⟩ : ∃ W0 : World, W0 = V := ⟨_, rfl⟩
  have l4 := B4.lt
  go_wp2_with (fail)
  refine (dual_any Ab 4 cb [[0, 1], [1, 2], [2, 3], [0, 3]] 5 W0 HLb.out (by omega) (by decide)).mono ?_
  rw [kG.2.2.2.2.2.2, kG.2.2.2.2.1, kD.2.1]
  rintro e W1 ⟨Az, nz, cz, rfl, hz, hb⟩
  have Hz := hid hz.lis
  clear hz
  replace hbel := hbel.trans (hb.mono hsz)
  replace hsz := hbel.size
  replace B1 := B1.below hb B1.lt
  replace B2 := B2.below hb B2.lt
  replace B3 := B3.below hb B3.lt
  clear p10 p11 l1 p20 p21 l2 p30 p31 l3
  have p10 := B1.cell 0
  have p11 := B1.cell 1
  have l1 := B1.lt
  have p20 := B2.cell 0
  have p21 := B2.cell 1
  have l2 := B2.lt
  have p30 := B3.cell 0
  have p31 := B3.cell 1
  have l3 := B3.lt
  replace B4 := B4.below hb B4.lt
  clear l4
  have l4 := B4.lt
  replace HLb := hid (HLb.out.below hb hb.size)
  replace HLc := hid (HLc.out.below hb hb.size)
  replace HLd := hid (HLd.out.below hb hb.size)
  replace Hl := hid (Hl.out.below hb hb.size)
  replace Ha := hid (Ha.out.below hb hb.size)
  replace Ht := hid (Ht.out.below hb hb.size)
  replace Hx := hid (Hx.out.below hb hb.size)
  replace Ho := hid (Ho.out.below hb hb.size)
  replace Hoo := hid (Hoo.out.below hb hb.size)
  replace Hy := hid (Hy.out.below hb hb.size)
  clear hb
  obtain ⟨W0, rfl⟩ : ∃ W0 : World, W0 = W1 := ⟨_, rfl⟩
  obtain ⟨V, hV⟩ : ∃ V, W0.alloc (.cells #[.int .i64 5, .slice Az nz cz] 24) = V := ⟨_, rfl⟩
  have hst : Below W0.heap.size W0 V := by rw [← hV]; exact (by repeat' (first | with_reducible assumption | with_reducible exact Below.refl _ _ | refine Below.alloc ?_ ?_ _ | refine Below.setCell ?_ ?_ _ | refine Below.drew ?_ | refine below_drewN ?_ _ | (simp; done) | (simp; omega) | omega))
  obtain ⟨T5, hT⟩ : ∃ T, W0.heap.size = T := ⟨_, rfl⟩
  have B5 : Blk V T5 24 #[.int .i64 5, .slice Az nz cz] := by rw [← hV, ← hT]; exact Blk.new' rfl
  have v10 := (B1.below hst l1).cell 0
  have v11 := (B1.below hst l1).cell 1
  have v12 := (B1.below hst l1).lt
  clear p10 p11 p20 p21 p30 p31
  go_wp2_with (fail)
  clear hV hT v10 v11 v12
  have p10 := B1.cell 0
  have p11 := B1.cell 1
  have p20 := B2.cell 0
  have p21 := B2.cell 1
  have p30 := B3.cell 0
  have p31 := B3.cell 1
  replace hbel := hbel.trans (hst.mono hsz)
  replace hsz := hbel.size
  replace B1 := B1.below hst B1.lt
  replace B2 := B2.below hst B2.lt
  replace B3 := B3.below hst B3.lt
  clear p10 p11 l1 p20 p21 l2 p30 p31 l3
  have p10 := B1.cell 0
  have p11 := B1.cell 1
  have l1 := B1.lt
  have p20 := B2.cell 0
  have p21 := B2.cell 1
  have l2 := B2.lt
  have p30 := B3.cell 0
  have p31 := B3.cell 1
  have l3 := B3.lt
  replace B4 := B4.below hst B4.lt
  clear l4
  have l4 := B4.lt
  replace HLb := hid (HLb.out.below hst hst.size)
  replace HLc := hid (HLc.out.below hst hst.size)
  replace HLd := hid (HLd.out.below hst hst.size)
  replace Hl := hid (Hl.out.below hst hst.size)
  replace Ha := hid (Ha.out.below hst hst.size)
  replace Ht := hid (Ht.out.below hst hst.size)
  replace Hx := hid (Hx.out.below hst hst.size)
  replace Ho := hid (Ho.out.below hst hst.size)
  replace Hoo := hid (Hoo.out.below hst hst.size)
  replace Hy := hid (Hy.out.below hst hst.size)
  replace Hz := hid (Hz.out.below hst hst.size)
  clear hst
  obtain ⟨W0, rfl⟩ : ∃ W0 : World, W0 = V := ⟨_, rfl⟩
  have l5 := B5.lt
  go_wp2_with (fail)
  refine (of_new W0 [1, 2]).mono ?_
  rintro e W2 ⟨Aml, nml, cml, rfl, hml, hb⟩
  have Hml := hid hml
  clear hml
  replace hbel := hbel.trans (hb.mono hsz)
  replace hsz := hbel.size
  replace B1 := B1.below hb B1.lt
  replace B2 := B2.below hb B2.lt
  replace B3 := B3.below hb B3.lt
  clear p10 p11 l1 p20 p21 l2 p30 p31 l3
  have p10 := B1.cell 0
  have p11 := B1.cell 1
  have l1 := B1.lt
  have p20 := B2.cell 0
  have p21 := B2.cell 1
  have l2 := B2.lt
  have p30 := B3.cell 0
  have p31 := B3.cell 1
  have l3 := B3.lt
  replace B4 := B4.below hb B4.lt
  clear l4
  have l4 := B4.lt
  replace B5 := B5.below hb B5.lt
  clear l5
  have l5 := B5.lt
  replace HLb := hid (HLb.out.below hb hb.size)
  replace HLc := hid (HLc.out.below hb hb.size)
  replace HLd := hid (HLd.out.below hb hb.size)
  replace Hl := hid (Hl.out.below hb hb.size)
  replace Ha := hid (Ha.out.below hb hb.size)
  replace Ht := hid (Ht.out.below hb hb.size)
  replace Hx := hid (Hx.out.below hb hb.size)
  replace Ho := hid (Ho.out.below hb hb.size)
  replace Hoo := hid (Hoo.out.below hb hb.size)
  replace Hy := hid (Hy.out.below hb hb.size)
  replace Hz := hid (Hz.out.below hb hb.size)
  clear hb
  obtain ⟨W0, rfl⟩ : ∃ W0 : World, W0 = W2 := ⟨_, rfl⟩
  go_wp2_with (fail)
  refine (ints_any _ Al Aml nl cl nml cml [1, 2] [1, 2] (Hl.out.below (by repeat' (first | with_reducible assumption | with_reducible exact Below.refl _ _ | refine Below.alloc ?_ ?_ _ | refine Below.setCell ?_ ?_ _ | refine Below.drew ?_ | refine below_drewN ?_ _ | (simp; done) | (simp; omega) | omega)) (by first | (simp; done) | (simp; omega) | omega)) (Hml.out.below (by repeat' (first | with_reducible assumption | with_reducible exact Below.refl _ _ | refine Below.alloc ?_ ?_ _ | refine Below.setCell ?_ ?_ _ | refine Below.drew ?_ | refine below_drewN ?_ _ | (simp; done) | (simp; omega) | omega)) (by first | (simp; done) | (simp; omega) | omega)) (by have := Hl.out.len; simp at this; omega)).mono ?_
  rw [kEqs.1]
  rintro e W2 ⟨rfl, hb⟩
  have hst : Below W0.heap.size W0 W2 := Below.trans (by repeat' (first | with_reducible assumption | with_reducible exact Below.refl _ _ | refine Below.alloc ?_ ?_ _ | refine Below.setCell ?_ ?_ _ | refine Below.drew ?_ | refine below_drewN ?_ _ | (simp; done) | (simp; omega) | omega)) (hb.mono (by first | (simp; done) | (simp; omega) | omega))
  clear hb
  replace hbel := hbel.trans (hst.mono hsz)
  replace hsz := hbel.size
  replace B1 := B1.below hst B1.lt
  replace B2 := B2.below hst B2.lt
  replace B3 := B3.below hst B3.lt
  clear p10 p11 l1 p20 p21 l2 p30 p31 l3
  have p10 := B1.cell 0
  have p11 := B1.cell 1
  have l1 := B1.lt
  have p20 := B2.cell 0
  have p21 := B2.cell 1
  have l2 := B2.lt
  have p30 := B3.cell 0
  have p31 := B3.cell 1
  have l3 := B3.lt
  replace B4 := B4.below hst B4.lt
  clear l4
  have l4 := B4.lt
  replace B5 := B5.below hst B5.lt
  clear l5
  have l5 := B5.lt
  replace HLb := hid (HLb.out.below hst hst.size)
  replace HLc := hid (HLc.out.below hst hst.size)
  replace HLd := hid (HLd.out.below hst hst.size)
  replace Hl := hid (Hl.out.below hst hst.size)
  replace Ha := hid (Ha.out.below hst hst.size)
  replace Ht := hid (Ht.out.below hst hst.size)
  replace Hx := hid (Hx.out.below hst hst.size)
  replace Ho := hid (Ho.out.below hst hst.size)
  replace Hoo := hid (Hoo.out.below hst hst.size)
  replace Hy := hid (Hy.out.below hst hst.size)
  replace Hz := hid (Hz.out.below hst hst.size)
  replace Hml := hid (Hml.out.below hst hst.size)
  clear hst
  obtain ⟨W0, rfl⟩ : ∃ W0 : World, W0 = W2 := ⟨_, rfl⟩
  clear Hl
  clear Hml
  go_wp2_with (fail)
  refine (of_new W0 [0, 2]).mono ?_
  rintro e W2 ⟨Ama, nma, cma, rfl, hma, hb⟩
  have Hma := hid hma
  clear hma
  replace hbel := hbel.trans (hb.mono hsz)
  replace hsz := hbel.size
  replace B1 := B1.below hb B1.lt
  replace B2 := B2.below hb B2.lt
  replace B3 := B3.below hb B3.lt
  clear p10 p11 l1 p20 p21 l2 p30 p31 l3
  have p10 := B1.cell 0
  have p11 := B1.cell 1
  have l1 := B1.lt
  have p20 := B2.cell 0
  have p21 := B2.cell 1
  have l2 := B2.lt
  have p30 := B3.cell 0
  have p31 := B3.cell 1
  have l3 := B3.lt
  replace B4 := B4.below hb B4.lt
  clear l4
  have l4 := B4.lt
  replace B5 := B5.below hb B5.lt
  clear l5
  have l5 := B5.lt
  replace HLb := hid (HLb.out.below hb hb.size)
  replace HLc := hid (HLc.out.below hb hb.size)
  replace HLd := hid (HLd.out.below hb hb.size)
  replace Ha := hid (Ha.out.below hb hb.size)
  replace Ht := hid (Ht.out.below hb hb.size)
  replace Hx := hid (Hx.out.below hb hb.size)
  replace Ho := hid (Ho.out.below hb hb.size)
  replace Hoo := hid (Hoo.out.below hb hb.size)
  replace Hy := hid (Hy.out.below hb hb.size)
  replace Hz := hid (Hz.out.below hb hb.size)
  clear hb
  obtain ⟨W0, rfl⟩ : ∃ W0 : World, W0 = W2 := ⟨_, rfl⟩
  go_wp2_with (fail)
  refine (ints_any _ Aa Ama na na nma cma [0, 2] [0, 2] (Ha.out.below (by repeat' (first | with_reducible assumption | with_reducible exact Below.refl _ _ | refine Below.alloc ?_ ?_ _ | refine Below.setCell ?_ ?_ _ | refine Below.drew ?_ | refine below_drewN ?_ _ | (simp; done) | (simp; omega) | omega)) (by first | (simp; done) | (simp; omega) | omega)) (Hma.out.below (by repeat' (first | with_reducible assumption | with_reducible exact Below.refl _ _ | refine Below.alloc ?_ ?_ _ | refine Below.setCell ?_ ?_ _ | refine Below.drew ?_ | refine below_drewN ?_ _ | (simp; done) | (simp; omega) | omega)) (by first | (simp; done) | (simp; omega) | omega)) (by have := Ha.out.len; simp at this; omega)).mono ?_
  rw [kEqs.2.1]
  rintro e W2 ⟨rfl, hb⟩
  have hst : Below W0.heap.size W0 W2 := Below.trans (by repeat' (first | with_reducible assumption | with_reducible exact Below.refl _ _ | refine Below.alloc ?_ ?_ _ | refine Below.setCell ?_ ?_ _ | refine Below.drew ?_ | refine below_drewN ?_ _ | (simp; done) | (simp; omega) | omega)) (hb.mono (by first | (simp; done) | (simp; omega) | omega))
  clear hb
  replace hbel := hbel.trans (hst.mono hsz)
  replace hsz := hbel.size
  replace B1 := B1.below hst B1.lt
  replace B2 := B2.below hst B2.lt
  replace B3 := B3.below hst B3.lt
  clear p10 p11 l1 p20 p21 l2 p30 p31 l3
  have p10 := B1.cell 0
  have p11 := B1.cell 1
  have l1 := B1.lt
  have p20 := B2.cell 0
  have p21 := B2.cell 1
  have l2 := B2.lt
  have p30 := B3.cell 0
  have p31 := B3.cell 1
  have l3 := B3.lt
  replace B4 := B4.below hst B4.lt
  clear l4
  have l4 := B4.lt
  replace B5 := B5.below hst B5.lt
  clear l5
  have l5 := B5.lt
  replace HLb := hid (HLb.out.below hst hst.size)
  replace HLc := hid (HLc.out.below hst hst.size)
  replace HLd := hid (HLd.out.below hst hst.size)
  replace Ha := hid (Ha.out.below hst hst.size)
  replace Ht := hid (Ht.out.below hst hst.size)
  replace Hx := hid (Hx.out.below hst hst.size)
  replace Ho := hid (Ho.out.below hst hst.size)
  replace Hoo := hid (Hoo.out.below hst hst.size)
  replace Hy := hid (Hy.out.below hst hst.size)
  replace Hz := hid (Hz.out.below hst hst.size)
  replace Hma := hid (Hma.out.below hst hst.size)
  clear hst
  obtain ⟨W0, rfl⟩ : ∃ W0 : World, W0 = W2 := ⟨_, rfl⟩
  clear Ha
  clear Hma
  go_wp2_with (fail)
  refine (of_new W0 [1, 2]).mono ?_
  rintro e W2 ⟨Amt, nmt, cmt, rfl, hmt, hb⟩
  have Hmt := hid hmt
  clear hmt
  replace hbel := hbel.trans (hb.mono hsz)
  replace hsz := hbel.size
  replace B1 := B1.below hb B1.lt
  replace B2 := B2.below hb B2.lt
  replace B3 := B3.below hb B3.lt
  clear p10 p11 l1 p20 p21 l2 p30 p31 l3
  have p10 := B1.cell 0
  have p11 := B1.cell 1
  have l1 := B1.lt
  have p20 := B2.cell 0
  have p21 := B2.cell 1
  have l2 := B2.lt
  have p30 := B3.cell 0
  have p31 := B3.cell 1
  have l3 := B3.lt
  replace B4 := B4.below hb B4.lt
  clear l4
  have l4 := B4.lt
  replace B5 := B5.below hb B5.lt
  clear l5
  have l5 := B5.lt
  replace HLb := hid (HLb.out.below hb hb.size)
  replace HLc := hid (HLc.out.below hb hb.size)
  replace HLd := hid (HLd.out.below hb hb.size)
  replace Ht := hid (Ht.out.below hb hb.size)
  replace Hx := hid (Hx.out.below hb hb.size)
  replace Ho := hid (Ho.out.below hb hb.size)
  replace Hoo := hid (Hoo.out.below hb hb.size)
  replace Hy := hid (Hy.out.below hb hb.size)
  replace Hz := hid (Hz.out.below hb hb.size)
  clear hb
  obtain ⟨W0, rfl⟩ : ∃ W0 : World, W0 = W2 := ⟨_, rfl⟩
  go_wp2_with (fail)
  refine (ints_any _ At Amt nt ct nmt cmt [1, 2] [1, 2] (Ht.out.below (by repeat' (first | with_reducible assumption | with_reducible exact Below.refl _ _ | refine Below.alloc ?_ ?_ _ | refine Below.setCell ?_ ?_ _ | refine Below.drew ?_ | refine below_drewN ?_ _ | (simp; done) | (simp; omega) | omega)) (by first | (simp; done) | (simp; omega) | omega)) (Hmt.out.below (by repeat' (first | with_reducible assumption | with_reducible exact Below.refl _ _ | refine Below.alloc ?_ ?_ _ | refine Below.setCell ?_ ?_ _ | refine Below.drew ?_ | refine below_drewN ?_ _ | (simp; done) | (simp; omega) | omega)) (by first | (simp; done) | (simp; omega) | omega)) (by have := Ht.out.len; simp at this; omega)).mono ?_
  rw [kEqs.1]
  rintro e W2 ⟨rfl, hb⟩
  have hst : Below W0.heap.size W0 W2 := Below.trans (by repeat' (first | with_reducible assumption | with_reducible exact Below.refl _ _ | refine Below.alloc ?_ ?_ _ | refine Below.setCell ?_ ?_ _ | refine Below.drew ?_ | refine below_drewN ?_ _ | (simp; done) | (simp; omega) | omega)) (hb.mono (by first | (simp; done) | (simp; omega) | omega))
  clear hb
  replace hbel := hbel.trans (hst.mono hsz)
  replace hsz := hbel.size
  replace B1 := B1.below hst B1.lt
  replace B2 := B2.below hst B2.lt
  replace B3 := B3.below hst B3.lt
  clear p10 p11 l1 p20 p21 l2 p30 p31 l3
  have p10 := B1.cell 0
  have p11 := B1.cell 1
  have l1 := B1.lt
  have p20 := B2.cell 0
  have p21 := B2.cell 1
  have l2 := B2.lt
  have p30 := B3.cell 0
  have p31 := B3.cell 1
  have l3 := B3.lt
  replace B4 := B4.below hst B4.lt
  clear l4
  have l4 := B4.lt
  replace B5 := B5.below hst B5.lt
  clear l5
  have l5 := B5.lt
  replace HLb := hid (HLb.out.below hst hst.size)
  replace HLc := hid (HLc.out.below hst hst.size)
  replace HLd := hid (HLd.out.below hst hst.size)
  replace Ht := hid (Ht.out.below hst hst.size)
  replace Hx := hid (Hx.out.below hst hst.size)
  replace Ho := hid (Ho.out.below hst hst.size)
  replace Hoo := hid (Hoo.out.below hst hst.size)
  replace Hy := hid (Hy.out.below hst hst.size)
  replace Hz := hid (Hz.out.below hst hst.size)
  replace Hmt := hid (Hmt.out.below hst hst.size)
  clear hst
  obtain ⟨W0, rfl⟩ : ∃ W0 : World, W0 = W2 := ⟨_, rfl⟩
  clear Ht
  clear Hmt
  go_wp2_with (fail)
  refine (of_new W0 [1, 2]).mono ?_
  rintro e W2 ⟨Au1, nu1, cu1, rfl, hu1, hb⟩
  have Hu1 := hid hu1
  clear hu1
  replace hbel := hbel.trans (hb.mono hsz)
  replace hsz := hbel.size
  replace B1 := B1.below hb B1.lt
  replace B2 := B2.below hb B2.lt
  replace B3 := B3.below hb B3.lt
  clear p10 p11 l1 p20 p21 l2 p30 p31 l3
  have p10 := B1.cell 0
  have p11 := B1.cell 1
  have l1 := B1.lt
  have p20 := B2.cell 0
  have p21 := B2.cell 1
  have l2 := B2.lt
  have p30 := B3.cell 0
  have p31 := B3.cell 1
  have l3 := B3.lt
  replace B4 := B4.below hb B4.lt
  clear l4
  have l4 := B4.lt
  replace B5 := B5.below hb B5.lt
  clear l5
  have l5 := B5.lt
  replace HLb := hid (HLb.out.below hb hb.size)
  replace HLc := hid (HLc.out.below hb hb.size)
  replace HLd := hid (HLd.out.below hb hb.size)
  replace Hx := hid (Hx.out.below hb hb.size)
  replace Ho := hid (Ho.out.below hb hb.size)
  replace Hoo := hid (Hoo.out.below hb hb.size)
  replace Hy := hid (Hy.out.below hb hb.size)
  replace Hz := hid (Hz.out.below hb hb.size)
  clear hb
  obtain ⟨W0, rfl⟩ : ∃ W0 : World, W0 = W2 := ⟨_, rfl⟩
  go_wp2_with (fail)
  refine (of_new W0 [2, 3]).mono ?_
  rintro e W2 ⟨Au2, nu2, cu2, rfl, hu2, hb⟩
  have Hu2 := hid hu2
  clear hu2
  replace hbel := hbel.trans (hb.mono hsz)
  replace hsz := hbel.size
  replace B1 := B1.below hb B1.lt
  replace B2 := B2.below hb B2.lt
  replace B3 := B3.below hb B3.lt
  clear p10 p11 l1 p20 p21 l2 p30 p31 l3
  have p10 := B1.cell 0
  have p11 := B1.cell 1
  have l1 := B1.lt
  have p20 := B2.cell 0
  have p21 := B2.cell 1
  have l2 := B2.lt
  have p30 := B3.cell 0
  have p31 := B3.cell 1
  have l3 := B3.lt
  replace B4 := B4.below hb B4.lt
  clear l4
  have l4 := B4.lt
  replace B5 := B5.below hb B5.lt
  clear l5
  have l5 := B5.lt
  replace HLb := hid (HLb.out.below hb hb.size)
  replace HLc := hid (HLc.out.below hb hb.size)
  replace HLd := hid (HLd.out.below hb hb.size)
  replace Hx := hid (Hx.out.below hb hb.size)
  replace Ho := hid (Ho.out.below hb hb.size)
  replace Hoo := hid (Hoo.out.below hb hb.size)
  replace Hy := hid (Hy.out.below hb hb.size)
  replace Hz := hid (Hz.out.below hb hb.size)
  replace Hu1 := hid (Hu1.out.below hb hb.size)
  clear hb
  obtain ⟨W0, rfl⟩ : ∃ W0 : World, W0 = W2 := ⟨_, rfl⟩
  go_wp2_with (fail)
  go_wp2_with (fail)
  refine (lists_any Ax (some ⟨W0.heap.size, 0, none⟩) nx cx 2 2 [[1, 2], [2, 3]] [[1, 2], [2, 3]] _ (Hx.out.below (by repeat' (first | with_reducible assumption | with_reducible exact Below.refl _ _ | refine Below.alloc ?_ ?_ _ | refine Below.setCell ?_ ?_ _ | refine Below.drew ?_ | refine below_drewN ?_ _ | (simp; done) | (simp; omega) | omega)) (by first | (simp; done) | (simp; omega) | omega)) (lis_two (Blk.new _ _ _) (Hu1.out.below (by repeat' (first | with_reducible assumption | with_reducible exact Below.refl _ _ | refine Below.alloc ?_ ?_ _ | refine Below.setCell ?_ ?_ _ | refine Below.drew ?_ | refine below_drewN ?_ _ | (simp; done) | (simp; omega) | omega)) (by first | (simp; done) | (simp; omega) | omega)) (Hu2.out.below (by repeat' (first | with_reducible assumption | with_reducible exact Below.refl _ _ | refine Below.alloc ?_ ?_ _ | refine Below.setCell ?_ ?_ _ | refine Below.drew ?_ | refine below_drewN ?_ _ | (simp; done) | (simp; omega) | omega)) (by first | (simp; done) | (simp; omega) | omega))) (by decide) (by have := Hx.out.1; simp at this; omega)).mono ?_
  rw [kEqs.2.2.1]
  rintro e W2 ⟨rfl, hb⟩
  have hst : Below W0.heap.size W0 W2 := Below.trans (by repeat' (first | with_reducible assumption | with_reducible exact Below.refl _ _ | refine Below.alloc ?_ ?_ _ | refine Below.setCell ?_ ?_ _ | refine Below.drew ?_ | refine below_drewN ?_ _ | (simp; done) | (simp; omega) | omega)) (hb.mono (by first | (simp; done) | (simp; omega) | omega))
  clear hb
  replace hbel := hbel.trans (hst.mono hsz)
  replace hsz := hbel.size
  replace B1 := B1.below hst B1.lt
  replace B2 := B2.below hst B2.lt
  replace B3 := B3.below hst B3.lt
  clear p10 p11 l1 p20 p21 l2 p30 p31 l3
  have p10 := B1.cell 0
  have p11 := B1.cell 1
  have l1 := B1.lt
  have p20 := B2.cell 0
  have p21 := B2.cell 1
  have l2 := B2.lt
  have p30 := B3.cell 0
  have p31 := B3.cell 1
  have l3 := B3.lt
  replace B4 := B4.below hst B4.lt
  clear l4
  have l4 := B4.lt
  replace B5 := B5.below hst B5.lt
  clear l5
  have l5 := B5.lt
  replace HLb := hid (HLb.out.below hst hst.size)
  replace HLc := hid (HLc.out.below hst hst.size)
  replace HLd := hid (HLd.out.below hst hst.size)
  replace Hx := hid (Hx.out.below hst hst.size)
  replace Ho := hid (Ho.out.below hst hst.size)
  replace Hoo := hid (Hoo.out.below hst hst.size)
  replace Hy := hid (Hy.out.below hst hst.size)
  replace Hz := hid (Hz.out.below hst hst.size)
  replace Hu1 := hid (Hu1.out.below hst hst.size)
  replace Hu2 := hid (Hu2.out.below hst hst.size)
  clear hst
  obtain ⟨W0, rfl⟩ : ∃ W0 : World, W0 = W2 := ⟨_, rfl⟩
  clear Hu1
  clear Hu2
  clear Hx
  go_wp2_with (fail)
  refine Sx.wp_region_freeG (fun W => Below W0.heap.size W0 W) (hSb W0) (SpA [.val (.slice Ao no co), .is [1, 3], .is [1, 3], .val (.bool true), .val (.bool true), .val (.int .i64 2), .val (.bool true), .val (.bool true), .val (.bool true), .val (.agg #[.int .i64 4, .slice Ay ny cy]), .is [1, 3], .is [1, 3], .is [2], .is [2], .li [[1, 3], [2]], .bk 4 [[1, 3], [2]], .val (.bool true), .val (.bool true), .val (.bool true), .val (.agg #[.int .i64 5, .slice Az nz cz]), .is [0, 2], .is [0, 2], .is [1, 3], .is [1, 3], .li [[0, 2], [1, 3]], .bk 5 [[0, 2], [1, 3]], .val (.bool true), .val (.bool true), .val (.bool true)]) (SpA.keep _) (fun k => ([[], [], [1], [0, 2], [3], [4], [5, 4], [4, 6], [7], [8], [8], [10, 8], [8], [12, 8], [11, 13, 8], [14, 8], [9, 15, 8], [8, 16], [17], [18], [18], [20, 18], [18], [22, 18], [21, 23, 18], [24, 18], [19, 25, 18], [18, 26], [27]] : List (List Nat)).getD k []) [0, 1, 2, 3, 4, 5, 6, 7, 8, 9, 10, 11, 12, 13, 14, 15, 16, 17, 18, 19, 20, 21, 22, 23, 24, 25, 26, 27, 28] rfl ?X21 ?hX21 (by kernel_rfl) (by kernel_rfl) ((Below.refl _ _).drew) ?hC21 ?hQ21
  case hX21 =>
    intro e
    simp only [Sx.putF, Sx.dstAt, List.getElem?_toArray, List.getElem?_cons_succ, List.getElem?_cons_zero, Option.bind_some, Act.put, List.setIfInBounds_toArray, List.set_cons_zero, List.set_cons_succ]
    exact rfl
  case hC21 =>
    intro k o ho e W hx hs hd
    match k, ho, hd with
    | 0, ho, hd =>
      have ho := Option.some.inj ho
      subst ho
      refine ⟨rfl, ?_⟩
      go_simp
      simp only [Sx.LV]
      exact ⟨Below.refl _ _, rfl⟩
    | 1, ho, hd =>
      have ho := Option.some.inj ho
      subst ho
      refine ⟨rfl, ?_⟩
      go_simp
      simp only [Sx.LV]
      exact ⟨(Below.refl _ _).alloc (Nat.le_refl _) _, _, _, _, rfl, ins_blk (l := [1, 3]) (Blk.new _ _ _) (by simp)⟩
    | 2, ho, hd =>
      have ho := Option.some.inj ho
      subst ho
      obtain ⟨A1, n1, c1, e1, h1⟩ : Sp.ok (.is [1, 3]) (e 1) W := hd 1 (by decide)
      refine ⟨rfl, ?_⟩
      go_simp
      simp only [Sx.LV]
      refine (of_any _ _).mono ?_
      rintro e1 w1 ⟨rfl, rfl⟩
      exact ⟨_, rfl, Below.refl _ _, _, _, _, rfl, h1⟩
    | 3, ho, hd =>
      have ho := Option.some.inj ho
      subst ho
      have e0 : e 0 = (.slice Ao no co) := hd 0 (by decide)
      obtain ⟨A2, n2, c2, e2, h2⟩ : Sp.ok (.is [1, 3]) (e 2) W := hd 2 (by decide)
      refine ⟨rfl, ?_⟩
      go_simp
      simp only [Sx.LV]
      refine (ints_any W Ao A2 no co n2 c2 [1, 3] [1, 3] (Ho.out.below hx hx.size) h2 (by have := Ho.out.len; simp at this; omega)).mono ?_
      rw [kEqs.2.2.2.1]
      rintro e1 W1 ⟨rfl, hb⟩
      exact ⟨_, rfl, hb, rfl⟩
    | 4, ho, hd =>
      have ho := Option.some.inj ho
      subst ho
      have e3 : e 3 = (.bool true) := hd 3 (by decide)
      refine ⟨rfl, ?_⟩
      go_simp
      simp only [Sx.LV]
      exact ⟨Below.refl _ _, rfl⟩
    | 5, ho, hd =>
      have ho := Option.some.inj ho
      subst ho
      have e4 : e 4 = (.bool true) := hd 4 (by decide)
      refine ⟨(show Region.wanted _ _ = gdB true (e 4) from by kernel_rfl).trans (by rw [e4]; rfl), ?_⟩
      go_simp
      simp only [Sx.LV]
      exact ⟨Below.refl _ _, rfl⟩
    | 6, ho, hd =>
      have ho := Option.some.inj ho
      subst ho
      have e5 : e 5 = (.int .i64 2) := hd 5 (by decide)
      have e4 : e 4 = (.bool true) := hd 4 (by decide)
      refine ⟨(show Region.wanted _ _ = gdB true (e 4) from by kernel_rfl).trans (by rw [e4]; rfl), ?_⟩
      go_simp
      simp only [Sx.LV]
      exact ⟨Below.refl _ _, rfl⟩
    | 7, ho, hd =>
      have ho := Option.some.inj ho
      subst ho
      have e4 : e 4 = (.bool true) := hd 4 (by decide)
      have e6 : e 6 = (.bool true) := hd 6 (by decide)
      refine ⟨rfl, ?_⟩
      go_simp
      simp only [Sx.LV]
      exact ⟨Below.refl _ _, rfl⟩
    | 8, ho, hd =>
      have ho := Option.some.inj ho
      subst ho
      have e7 : e 7 = (.bool true) := hd 7 (by decide)
      refine ⟨rfl, ?_⟩
      go_simp
      simp only [Sx.LV]
      exact ⟨Below.refl _ _, rfl⟩
    | 9, ho, hd =>
      have ho := Option.some.inj ho
      subst ho
      have e8 : e 8 = (.bool true) := hd 8 (by decide)
      have f0 := (B4.below hs l4).cell 0
      have f1 := (B4.below hs l4).cell 1
      have f2 := (B4.below hs l4).lt
      refine ⟨(show Region.wanted _ _ = gdB true (e 8) from by kernel_rfl).trans (by rw [e8]; rfl), ?_⟩
      go_simp
      simp only [Sx.LV]
      exact ⟨Below.refl _ _, rfl⟩
    | 10, ho, hd =>
      have ho := Option.some.inj ho
      subst ho
      have e8 : e 8 = (.bool true) := hd 8 (by decide)
      refine ⟨(show Region.wanted _ _ = gdB true (e 8) from by kernel_rfl).trans (by rw [e8]; rfl), ?_⟩
      go_simp
      simp only [Sx.LV]
      exact ⟨(Below.refl _ _).alloc (Nat.le_refl _) _, _, _, _, rfl, ins_blk (l := [1, 3]) (Blk.new _ _ _) (by simp)⟩
    | 11, ho, hd =>
      have ho := Option.some.inj ho
      subst ho
      obtain ⟨A10, n10, c10, e10, h10⟩ : Sp.ok (.is [1, 3]) (e 10) W := hd 10 (by decide)
      have e8 : e 8 = (.bool true) := hd 8 (by decide)
      refine ⟨(show Region.wanted _ _ = gdB true (e 8) from by kernel_rfl).trans (by rw [e8]; rfl), ?_⟩
      go_simp
      simp only [Sx.LV]
      refine (of_any _ _).mono ?_
      rintro e1 w1 ⟨rfl, rfl⟩
      exact ⟨_, rfl, Below.refl _ _, _, _, _, rfl, h10⟩
    | 12, ho, hd =>
      have ho := Option.some.inj ho
      subst ho
      have e8 : e 8 = (.bool true) := hd 8 (by decide)
      refine ⟨(show Region.wanted _ _ = gdB true (e 8) from by kernel_rfl).trans (by rw [e8]; rfl), ?_⟩
      go_simp
      simp only [Sx.LV]
      exact ⟨(Below.refl _ _).alloc (Nat.le_refl _) _, _, _, _, rfl, ins_blk (l := [2]) (Blk.new _ _ _) (by simp)⟩
    | 13, ho, hd =>
      have ho := Option.some.inj ho
      subst ho
      obtain ⟨A12, n12, c12, e12, h12⟩ : Sp.ok (.is [2]) (e 12) W := hd 12 (by decide)
      have e8 : e 8 = (.bool true) := hd 8 (by decide)
      refine ⟨(show Region.wanted _ _ = gdB true (e 8) from by kernel_rfl).trans (by rw [e8]; rfl), ?_⟩
      go_simp
      simp only [Sx.LV]
      refine (of_any _ _).mono ?_
      rintro e1 w1 ⟨rfl, rfl⟩
      exact ⟨_, rfl, Below.refl _ _, _, _, _, rfl, h12⟩
    | 14, ho, hd =>
      have ho := Option.some.inj ho
      subst ho
      obtain ⟨A11, n11, c11, e11, h11⟩ : Sp.ok (.is [1, 3]) (e 11) W := hd 11 (by decide)
      obtain ⟨A13, n13, c13, e13, h13⟩ : Sp.ok (.is [2]) (e 13) W := hd 13 (by decide)
      have e8 : e 8 = (.bool true) := hd 8 (by decide)
      refine ⟨(show Region.wanted _ _ = gdB true (e 8) from by kernel_rfl).trans (by rw [e8]; rfl), ?_⟩
      go_simp
      simp only [Sx.LV]
      have hbx : Below W.heap.size W _ := (Below.refl W.heap.size W).alloc (Nat.le_refl _) (.cells #[.slice A11 n11 c11, .slice A13 n13 c13] 25)
      exact ⟨hbx, _, _, _, rfl, lis_two (Blk.new _ _ _) (h11.below hbx hbx.size) (h13.below hbx hbx.size)⟩
    | 15, ho, hd =>
      have ho := Option.some.inj ho
      subst ho
      obtain ⟨A14, n14, c14, e14, h14⟩ : Sp.ok (.li [[1, 3], [2]]) (e 14) W := hd 14 (by decide)
      have e8 : e 8 = (.bool true) := hd 8 (by decide)
      refine ⟨(show Region.wanted _ _ = gdB true (e 8) from by kernel_rfl).trans (by rw [e8]; rfl), ?_⟩
      go_simp
      simp only [Sx.LV]
      refine (book_any 4 A14 n14 c14 _).mono ?_
      rintro e1 W1 ⟨rfl, hb⟩
      exact ⟨_, rfl, hb, _, _, _, rfl, h14.below hb hb.size⟩
    | 16, ho, hd =>
      have ho := Option.some.inj ho
      subst ho
      have e9 : e 9 = (.agg #[.int .i64 4, .slice Ay ny cy]) := hd 9 (by decide)
      obtain ⟨A15, n15, c15, e15, h15⟩ : Sp.ok (.bk 4 [[1, 3], [2]]) (e 15) W := hd 15 (by decide)
      have e8 : e 8 = (.bool true) := hd 8 (by decide)
      refine ⟨(show Region.wanted _ _ = gdB true (e 8) from by kernel_rfl).trans (by rw [e8]; rfl), ?_⟩
      go_simp
      simp only [Sx.LV]
      have hz := h15
      refine (sameB_any Ay A15 ny cy n15 c15 [[1, 3], [2]] [[1, 3], [2]] 4 4 W (Hy.out.below hx hx.size) h15 (by decide) (by have := Hy.out.1; simp at this; omega)).mono ?_
      rw [kEqs.2.2.2.2.1]
      rintro e1 W1 ⟨rfl, hb⟩
      exact ⟨_, rfl, hb, rfl⟩
    | 17, ho, hd =>
      have ho := Option.some.inj ho
      subst ho
      have e8 : e 8 = (.bool true) := hd 8 (by decide)
      have e16 : e 16 = (.bool true) := hd 16 (by decide)
      refine ⟨rfl, ?_⟩
      go_simp
      simp only [Sx.LV]
      exact ⟨Below.refl _ _, rfl⟩
    | 18, ho, hd =>
      have ho := Option.some.inj ho
      subst ho
      have e17 : e 17 = (.bool true) := hd 17 (by decide)
      refine ⟨rfl, ?_⟩
      go_simp
      simp only [Sx.LV]
      exact ⟨Below.refl _ _, rfl⟩
    | 19, ho, hd =>
      have ho := Option.some.inj ho
      subst ho
      have e18 : e 18 = (.bool true) := hd 18 (by decide)
      have f0 := (B5.below hs l5).cell 0
      have f1 := (B5.below hs l5).cell 1
      have f2 := (B5.below hs l5).lt
      refine ⟨(show Region.wanted _ _ = gdB true (e 18) from by kernel_rfl).trans (by rw [e18]; rfl), ?_⟩
      go_simp
      simp only [Sx.LV]
      exact ⟨Below.refl _ _, rfl⟩
    | 20, ho, hd =>
      have ho := Option.some.inj ho
      subst ho
      have e18 : e 18 = (.bool true) := hd 18 (by decide)
      refine ⟨(show Region.wanted _ _ = gdB true (e 18) from by kernel_rfl).trans (by rw [e18]; rfl), ?_⟩
      go_simp
      simp only [Sx.LV]
      exact ⟨(Below.refl _ _).alloc (Nat.le_refl _) _, _, _, _, rfl, ins_blk (l := [0, 2]) (Blk.new _ _ _) (by simp)⟩
    | 21, ho, hd =>
      have ho := Option.some.inj ho
      subst ho
      obtain ⟨A20, n20, c20, e20, h20⟩ : Sp.ok (.is [0, 2]) (e 20) W := hd 20 (by decide)
      have e18 : e 18 = (.bool true) := hd 18 (by decide)
      refine ⟨(show Region.wanted _ _ = gdB true (e 18) from by kernel_rfl).trans (by rw [e18]; rfl), ?_⟩
      go_simp
      simp only [Sx.LV]
      refine (of_any _ _).mono ?_
      rintro e1 w1 ⟨rfl, rfl⟩
      exact ⟨_, rfl, Below.refl _ _, _, _, _, rfl, h20⟩
    | 22, ho, hd =>
      have ho := Option.some.inj ho
      subst ho
      have e18 : e 18 = (.bool true) := hd 18 (by decide)
      refine ⟨(show Region.wanted _ _ = gdB true (e 18) from by kernel_rfl).trans (by rw [e18]; rfl), ?_⟩
      go_simp
      simp only [Sx.LV]
      exact ⟨(Below.refl _ _).alloc (Nat.le_refl _) _, _, _, _, rfl, ins_blk (l := [1, 3]) (Blk.new _ _ _) (by simp)⟩
    | 23, ho, hd =>
      have ho := Option.some.inj ho
      subst ho
      obtain ⟨A22, n22, c22, e22, h22⟩ : Sp.ok (.is [1, 3]) (e 22) W := hd 22 (by decide)
      have e18 : e 18 = (.bool true) := hd 18 (by decide)
      refine ⟨(show Region.wanted _ _ = gdB true (e 18) from by kernel_rfl).trans (by rw [e18]; rfl), ?_⟩
      go_simp
      simp only [Sx.LV]
      refine (of_any _ _).mono ?_
      rintro e1 w1 ⟨rfl, rfl⟩
      exact ⟨_, rfl, Below.refl _ _, _, _, _, rfl, h22⟩
    | 24, ho, hd =>
      have ho := Option.some.inj ho
      subst ho
      obtain ⟨A21, n21, c21, e21, h21⟩ : Sp.ok (.is [0, 2]) (e 21) W := hd 21 (by decide)
      obtain ⟨A23, n23, c23, e23, h23⟩ : Sp.ok (.is [1, 3]) (e 23) W := hd 23 (by decide)
      have e18 : e 18 = (.bool true) := hd 18 (by decide)
      refine ⟨(show Region.wanted _ _ = gdB true (e 18) from by kernel_rfl).trans (by rw [e18]; rfl), ?_⟩
      go_simp
      simp only [Sx.LV]
      have hbx : Below W.heap.size W _ := (Below.refl W.heap.size W).alloc (Nat.le_refl _) (.cells #[.slice A21 n21 c21, .slice A23 n23 c23] 25)
      exact ⟨hbx, _, _, _, rfl, lis_two (Blk.new _ _ _) (h21.below hbx hbx.size) (h23.below hbx hbx.size)⟩
    | 25, ho, hd =>
      have ho := Option.some.inj ho
      subst ho
      obtain ⟨A24, n24, c24, e24, h24⟩ : Sp.ok (.li [[0, 2], [1, 3]]) (e 24) W := hd 24 (by decide)
      have e18 : e 18 = (.bool true) := hd 18 (by decide)
      refine ⟨(show Region.wanted _ _ = gdB true (e 18) from by kernel_rfl).trans (by rw [e18]; rfl), ?_⟩
      go_simp
      simp only [Sx.LV]
      refine (book_any 5 A24 n24 c24 _).mono ?_
      rintro e1 W1 ⟨rfl, hb⟩
      exact ⟨_, rfl, hb, _, _, _, rfl, h24.below hb hb.size⟩
    | 26, ho, hd =>
      have ho := Option.some.inj ho
      subst ho
      have e19 : e 19 = (.agg #[.int .i64 5, .slice Az nz cz]) := hd 19 (by decide)
      obtain ⟨A25, n25, c25, e25, h25⟩ : Sp.ok (.bk 5 [[0, 2], [1, 3]]) (e 25) W := hd 25 (by decide)
      have e18 : e 18 = (.bool true) := hd 18 (by decide)
      refine ⟨(show Region.wanted _ _ = gdB true (e 18) from by kernel_rfl).trans (by rw [e18]; rfl), ?_⟩
      go_simp
      simp only [Sx.LV]
      have hz := h25
      refine (sameB_any Az A25 nz cz n25 c25 [[0, 2], [1, 3]] [[0, 2], [1, 3]] 5 5 W (Hz.out.below hx hx.size) h25 (by decide) (by have := Hz.out.1; simp at this; omega)).mono ?_
      rw [kEqs.2.2.2.2.2]
      rintro e1 W1 ⟨rfl, hb⟩
      exact ⟨_, rfl, hb, rfl⟩
    | 27, ho, hd =>
      have ho := Option.some.inj ho
      subst ho
      have e18 : e 18 = (.bool true) := hd 18 (by decide)
      have e26 : e 26 = (.bool true) := hd 26 (by decide)
      refine ⟨rfl, ?_⟩
      go_simp
      simp only [Sx.LV]
      exact ⟨Below.refl _ _, rfl⟩
    | 28, ho, hd =>
      have ho := Option.some.inj ho
      subst ho
      have e27 : e 27 = (.bool true) := hd 27 (by decide)
      refine ⟨rfl, ?_⟩
      go_simp
      simp only [Sx.LV]
      exact ⟨Below.refl _ _, rfl⟩
    | k + 29, ho, _ => cases ho
  intro e V hv hst0 hp
  have e28 : e 28 = (.bool true) := hp 28 (by decide)
  simp only [e28]
  clear hp hv
  replace hbel := hbel.trans (hst0.mono hsz)
  replace hsz := hbel.size
  replace B1 := B1.below hst0 B1.lt
  replace B2 := B2.below hst0 B2.lt
  replace B3 := B3.below hst0 B3.lt
  clear p10 p11 l1 p20 p21 l2 p30 p31 l3
  have p10 := B1.cell 0
  have p11 := B1.cell 1
  have l1 := B1.lt
  have p20 := B2.cell 0
  have p21 := B2.cell 1
  have l2 := B2.lt
  have p30 := B3.cell 0
  have p31 := B3.cell 1
  have l3 := B3.lt
  replace B4 := B4.below hst0 B4.lt
  clear l4
  have l4 := B4.lt
  replace B5 := B5.below hst0 B5.lt
  clear l5
  have l5 := B5.lt
  replace HLb := hid (HLb.out.below hst0 hst0.size)
  replace HLc := hid (HLc.out.below hst0 hst0.size)
  replace HLd := hid (HLd.out.below hst0 hst0.size)
  replace Ho := hid (Ho.out.below hst0 hst0.size)
  replace Hoo := hid (Hoo.out.below hst0 hst0.size)
  replace Hy := hid (Hy.out.below hst0 hst0.size)
  replace Hz := hid (Hz.out.below hst0 hst0.size)
  clear hst0
  obtain ⟨W0, rfl⟩ : ∃ W0 : World, W0 = V := ⟨_, rfl⟩
  go_wp2
  go_ret
  exact ⟨rfl, hbel⟩
end Go.Proofs.Ytnpilfpackdimaa
