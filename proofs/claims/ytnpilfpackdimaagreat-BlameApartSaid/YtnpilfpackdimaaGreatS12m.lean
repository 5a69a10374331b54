/- The statement BlameApart holds: whatever the arguments, the law returns true and leaves its arguments as they were. -/
import Derived.Test.YtnpilfpackdimaaGreatMm
import Derived.Test.YtnpilfpackdimaaGreatMl
set_option linter.unusedSimpArgs false
set_option linter.unusedVariables false
namespace Go.Proofs.YtnpilfpackdimaaGreat
open Go.RowKit Go.Shelf
attribute [local go_sem] Oper.semAt_some
set_option maxRecDepth 1000000 in
set_option maxHeartbeats 40000000 in
theorem blameApart_walk (w : World) (I1 : Int) (A1 : Option Addr) (n c1 : Nat) (la : List (List Int)) (I2 : Int) (A2 : Option Addr) (n2 c2 : Nat) (lb : List (List Int)) (hl : LiS w w.heap.size A1 n la) (hl2 : LiS w w.heap.size A2 n2 lb) (hA1 : A1 = none → n = 0 ∧ c1 = 0) :
    Calls Tryz.prog 12 #[.agg #[.int .i64 I1, .slice A1 n c1], .agg #[.int .i64 I2, .slice A2 n2 c2]] w fun e w' => e = .returned (.bool true) ∧ Below w.heap.size w w' := by
  have la1 := hid hl.1
  have la2 := hid hl2.1
  have HA1 := hid hA1
  clear hA1
  cases hf : fineB I1 la
  · have Hf := hid hf
    clear hf
    obtain ⟨W0, hWb⟩ : ∃ W0, ((w).alloc (.cells #[.int .i64 I1, .slice A1 n c1] 24)).alloc (.cells #[.int .i64 I2, .slice A2 n2 c2] 24) = W0 := ⟨_, rfl⟩
    have hbel : Below w.heap.size w W0 := by rw [← hWb]; exact (by repeat' (first | with_reducible assumption | with_reducible exact Below.refl _ _ | refine Below.alloc ?_ ?_ _ | refine Below.setCell ?_ ?_ _ | refine Below.drew ?_ | refine below_drewN ?_ _ | (simp; done) | (simp; omega) | omega))
    have hsz := hbel.size
    have bA : Blk W0 (w.heap.size) 24 #[.int .i64 I1, .slice A1 n c1] := by rw [← hWb]; exact (Blk.new' rfl).alloc _
    have pA0 := bA.cell 0
    have pA1 := bA.cell 1
    have lA := bA.lt
    have bB : Blk W0 (w.heap.size + 1) 24 #[.int .i64 I2, .slice A2 n2 c2] := by rw [← hWb]; exact Blk.new' (by first | (simp; done) | (simp; omega) | omega)
    have pB0 := bB.cell 0
    have pB1 := bB.cell 1
    have lB := bB.lt
    have HL := hid (hl.below hbel hsz)
    clear hl
    have HM := hid (hl2.below hbel hsz)
    clear hl2
    go_enter Tryz.func12, Tryz.ntmps12
    go_wp2_with (fail)
    refine (fine_any A1 n c1 la I1 _ (HL.out.below (by repeat' (first | with_reducible assumption | with_reducible exact Below.refl _ _ | refine Below.alloc ?_ ?_ _ | refine Below.setCell ?_ ?_ _ | refine Below.drew ?_ | refine below_drewN ?_ _ | (simp; done) | (simp; omega) | omega)) (by first | (simp; done) | (simp; omega) | omega))).mono ?_
    rw [Hf.out]
    rintro e W1 ⟨rfl, hb⟩
    have hst : Below W0.heap.size W0 W1 := Below.trans (by repeat' (first | with_reducible assumption | with_reducible exact Below.refl _ _ | refine Below.alloc ?_ ?_ _ | refine Below.setCell ?_ ?_ _ | refine Below.drew ?_ | refine below_drewN ?_ _ | (simp; done) | (simp; omega) | omega)) (hb.mono (by first | (simp; done) | (simp; omega) | omega))
    replace hbel := hbel.trans (hst.mono hsz)
    replace hsz := hbel.size
    replace bA := bA.below hst bA.lt
    clear pA0 pA1 lA
    have pA0 := bA.cell 0
    have pA1 := bA.cell 1
    have lA := bA.lt
    replace bB := bB.below hst bB.lt
    clear pB0 pB1 lB
    have pB0 := bB.cell 0
    have pB1 := bB.cell 1
    have lB := bB.lt
    replace HL := hid (HL.out.below hst hst.size)
    replace HM := hid (HM.out.below hst hst.size)
    clear hb hst
    try clear hWb
    obtain ⟨W0, rfl⟩ : ∃ W0 : World, W0 = W1 := ⟨_, rfl⟩
    go_wp2_with (fail)
    refine (works_any _).mono ?_
    rintro e W1 ⟨rfl, hb⟩
    have hst : Below W0.heap.size W0 W1 := Below.trans (by repeat' (first | with_reducible assumption | with_reducible exact Below.refl _ _ | refine Below.alloc ?_ ?_ _ | refine Below.setCell ?_ ?_ _ | refine Below.drew ?_ | refine below_drewN ?_ _ | (simp; done) | (simp; omega) | omega)) (hb.mono (by first | (simp; done) | (simp; omega) | omega))
    replace hbel := hbel.trans (hst.mono hsz)
    replace hsz := hbel.size
    replace bA := bA.below hst bA.lt
    clear pA0 pA1 lA
    have pA0 := bA.cell 0
    have pA1 := bA.cell 1
    have lA := bA.lt
    replace bB := bB.below hst bB.lt
    clear pB0 pB1 lB
    have pB0 := bB.cell 0
    have pB1 := bB.cell 1
    have lB := bB.lt
    replace HL := hid (HL.out.below hst hst.size)
    replace HM := hid (HM.out.below hst hst.size)
    clear hb hst
    try clear hWb
    obtain ⟨W0, rfl⟩ : ∃ W0 : World, W0 = W1 := ⟨_, rfl⟩
    go_wp2
    go_ret
    exact ⟨rfl, hbel⟩
  · obtain ⟨-, hchk⟩ := fineB_t.1 hf
    obtain ⟨Ja, rfl, -, hJ1, hJ8, hln, hv, hv8⟩ := book_nat hchk
    have Hf := hid hf
    clear hf
    cases hf2 : fineB I2 lb
    · have Hf2 := hid hf2
      clear hf2 hchk hv hv8 hln
      obtain ⟨W0, hWb⟩ : ∃ W0, ((w).alloc (.cells #[.int .i64 (Ja : Int), .slice A1 n c1] 24)).alloc (.cells #[.int .i64 I2, .slice A2 n2 c2] 24) = W0 := ⟨_, rfl⟩
      have hbel : Below w.heap.size w W0 := by rw [← hWb]; exact (by repeat' (first | with_reducible assumption | with_reducible exact Below.refl _ _ | refine Below.alloc ?_ ?_ _ | refine Below.setCell ?_ ?_ _ | refine Below.drew ?_ | refine below_drewN ?_ _ | (simp; done) | (simp; omega) | omega))
      have hsz := hbel.size
      have bA : Blk W0 (w.heap.size) 24 #[.int .i64 (Ja : Int), .slice A1 n c1] := by rw [← hWb]; exact (Blk.new' rfl).alloc _
      have pA0 := bA.cell 0
      have pA1 := bA.cell 1
      have lA := bA.lt
      have bB : Blk W0 (w.heap.size + 1) 24 #[.int .i64 I2, .slice A2 n2 c2] := by rw [← hWb]; exact Blk.new' (by first | (simp; done) | (simp; omega) | omega)
      have pB0 := bB.cell 0
      have pB1 := bB.cell 1
      have lB := bB.lt
      have HL := hid (hl.below hbel hsz)
      clear hl
      have HM := hid (hl2.below hbel hsz)
      clear hl2
      go_enter Tryz.func12, Tryz.ntmps12
      go_wp2_with (fail)
      refine (fine_any A1 n c1 la Ja _ (HL.out.below (by repeat' (first | with_reducible assumption | with_reducible exact Below.refl _ _ | refine Below.alloc ?_ ?_ _ | refine Below.setCell ?_ ?_ _ | refine Below.drew ?_ | refine below_drewN ?_ _ | (simp; done) | (simp; omega) | omega)) (by first | (simp; done) | (simp; omega) | omega))).mono ?_
      rw [Hf.out]
      rintro e W1 ⟨rfl, hb⟩
      have hst : Below W0.heap.size W0 W1 := Below.trans (by repeat' (first | with_reducible assumption | with_reducible exact Below.refl _ _ | refine Below.alloc ?_ ?_ _ | refine Below.setCell ?_ ?_ _ | refine Below.drew ?_ | refine below_drewN ?_ _ | (simp; done) | (simp; omega) | omega)) (hb.mono (by first | (simp; done) | (simp; omega) | omega))
      replace hbel := hbel.trans (hst.mono hsz)
      replace hsz := hbel.size
      replace bA := bA.below hst bA.lt
      clear pA0 pA1 lA
      have pA0 := bA.cell 0
      have pA1 := bA.cell 1
      have lA := bA.lt
      replace bB := bB.below hst bB.lt
      clear pB0 pB1 lB
      have pB0 := bB.cell 0
      have pB1 := bB.cell 1
      have lB := bB.lt
      replace HL := hid (HL.out.below hst hst.size)
      replace HM := hid (HM.out.below hst hst.size)
      clear hb hst
      try clear hWb
      obtain ⟨W0, rfl⟩ : ∃ W0 : World, W0 = W1 := ⟨_, rfl⟩
      go_wp2_with (fail)
      refine (fine_any A2 n2 c2 lb I2 _ (HM.out.below (by repeat' (first | with_reducible assumption | with_reducible exact Below.refl _ _ | refine Below.alloc ?_ ?_ _ | refine Below.setCell ?_ ?_ _ | refine Below.drew ?_ | refine below_drewN ?_ _ | (simp; done) | (simp; omega) | omega)) (by first | (simp; done) | (simp; omega) | omega))).mono ?_
      rw [Hf2.out]
      rintro e W1 ⟨rfl, hb⟩
      have hst : Below W0.heap.size W0 W1 := Below.trans (by repeat' (first | with_reducible assumption | with_reducible exact Below.refl _ _ | refine Below.alloc ?_ ?_ _ | refine Below.setCell ?_ ?_ _ | refine Below.drew ?_ | refine below_drewN ?_ _ | (simp; done) | (simp; omega) | omega)) (hb.mono (by first | (simp; done) | (simp; omega) | omega))
      replace hbel := hbel.trans (hst.mono hsz)
      replace hsz := hbel.size
      replace bA := bA.below hst bA.lt
      clear pA0 pA1 lA
      have pA0 := bA.cell 0
      have pA1 := bA.cell 1
      have lA := bA.lt
      replace bB := bB.below hst bB.lt
      clear pB0 pB1 lB
      have pB0 := bB.cell 0
      have pB1 := bB.cell 1
      have lB := bB.lt
      replace HL := hid (HL.out.below hst hst.size)
      replace HM := hid (HM.out.below hst hst.size)
      clear hb hst
      try clear hWb
      obtain ⟨W0, rfl⟩ : ∃ W0 : World, W0 = W1 := ⟨_, rfl⟩
      go_wp2_with (fail)
      refine (works_any _).mono ?_
      rintro e W1 ⟨rfl, hb⟩
      have hst : Below W0.heap.size W0 W1 := Below.trans (by repeat' (first | with_reducible assumption | with_reducible exact Below.refl _ _ | refine Below.alloc ?_ ?_ _ | refine Below.setCell ?_ ?_ _ | refine Below.drew ?_ | refine below_drewN ?_ _ | (simp; done) | (simp; omega) | omega)) (hb.mono (by first | (simp; done) | (simp; omega) | omega))
      replace hbel := hbel.trans (hst.mono hsz)
      replace hsz := hbel.size
      replace bA := bA.below hst bA.lt
      clear pA0 pA1 lA
      have pA0 := bA.cell 0
      have pA1 := bA.cell 1
      have lA := bA.lt
      replace bB := bB.below hst bB.lt
      clear pB0 pB1 lB
      have pB0 := bB.cell 0
      have pB1 := bB.cell 1
      have lB := bB.lt
      replace HL := hid (HL.out.below hst hst.size)
      replace HM := hid (HM.out.below hst hst.size)
      clear hb hst
      try clear hWb
      obtain ⟨W0, rfl⟩ : ∃ W0 : World, W0 = W1 := ⟨_, rfl⟩
      go_wp2
      go_ret
      exact ⟨rfl, hbel⟩
    · obtain ⟨-, hchk2⟩ := fineB_t.1 hf2
      obtain ⟨Jb, rfl, -, kJ1, kJ8, kln, kv, kv8⟩ := book_nat hchk2
      have Hf2 := hid hf2
      clear hf2
      have zJ : IntKind.i64.wrap ((Ja : Int) + (Jb : Int)) = (Ja : Int) + (Jb : Int) := IntWalk.i64_in _ (by omega)
      have hn : n ≤ 10 := by rw [← la1.out]; exact hln
      have hn2 : n2 ≤ 10 := by rw [← la2.out]; exact kln
      have zn : IntKind.i64.wrap ((n : Int) + (n2 : Int)) = (n : Int) + (n2 : Int) := IntWalk.i64_in _ (by omega)
      by_cases hJ : 8 < Ja + Jb
      · have hJi : (8 : Int) < (Ja : Int) + (Jb : Int) := by omega
        clear hchk hchk2 hv hv8 kv kv8 hln kln
        obtain ⟨W0, hWb⟩ : ∃ W0, ((w).alloc (.cells #[.int .i64 (Ja : Int), .slice A1 n c1] 24)).alloc (.cells #[.int .i64 (Jb : Int), .slice A2 n2 c2] 24) = W0 := ⟨_, rfl⟩
        have hbel : Below w.heap.size w W0 := by rw [← hWb]; exact (by repeat' (first | with_reducible assumption | with_reducible exact Below.refl _ _ | refine Below.alloc ?_ ?_ _ | refine Below.setCell ?_ ?_ _ | refine Below.drew ?_ | refine below_drewN ?_ _ | (simp; done) | (simp; omega) | omega))
        have hsz := hbel.size
        have bA : Blk W0 (w.heap.size) 24 #[.int .i64 (Ja : Int), .slice A1 n c1] := by rw [← hWb]; exact (Blk.new' rfl).alloc _
        have pA0 := bA.cell 0
        have pA1 := bA.cell 1
        have lA := bA.lt
        have bB : Blk W0 (w.heap.size + 1) 24 #[.int .i64 (Jb : Int), .slice A2 n2 c2] := by rw [← hWb]; exact Blk.new' (by first | (simp; done) | (simp; omega) | omega)
        have pB0 := bB.cell 0
        have pB1 := bB.cell 1
        have lB := bB.lt
        have HL := hid (hl.below hbel hsz)
        clear hl
        have HM := hid (hl2.below hbel hsz)
        clear hl2
        go_enter Tryz.func12, Tryz.ntmps12
        go_wp2_with (fail)
        refine (fine_any A1 n c1 la Ja _ (HL.out.below (by repeat' (first | with_reducible assumption | with_reducible exact Below.refl _ _ | refine Below.alloc ?_ ?_ _ | refine Below.setCell ?_ ?_ _ | refine Below.drew ?_ | refine below_drewN ?_ _ | (simp; done) | (simp; omega) | omega)) (by first | (simp; done) | (simp; omega) | omega))).mono ?_
        rw [Hf.out]
        rintro e W1 ⟨rfl, hb⟩
        have hst : Below W0.heap.size W0 W1 := Below.trans (by repeat' (first | with_reducible assumption | with_reducible exact Below.refl _ _ | refine Below.alloc ?_ ?_ _ | refine Below.setCell ?_ ?_ _ | refine Below.drew ?_ | refine below_drewN ?_ _ | (simp; done) | (simp; omega) | omega)) (hb.mono (by first | (simp; done) | (simp; omega) | omega))
        replace hbel := hbel.trans (hst.mono hsz)
        replace hsz := hbel.size
        replace bA := bA.below hst bA.lt
        clear pA0 pA1 lA
        have pA0 := bA.cell 0
        have pA1 := bA.cell 1
        have lA := bA.lt
        replace bB := bB.below hst bB.lt
        clear pB0 pB1 lB
        have pB0 := bB.cell 0
        have pB1 := bB.cell 1
        have lB := bB.lt
        replace HL := hid (HL.out.below hst hst.size)
        replace HM := hid (HM.out.below hst hst.size)
        clear hb hst
        try clear hWb
        obtain ⟨W0, rfl⟩ : ∃ W0 : World, W0 = W1 := ⟨_, rfl⟩
        go_wp2_with (fail)
        refine (fine_any A2 n2 c2 lb Jb _ (HM.out.below (by repeat' (first | with_reducible assumption | with_reducible exact Below.refl _ _ | refine Below.alloc ?_ ?_ _ | refine Below.setCell ?_ ?_ _ | refine Below.drew ?_ | refine below_drewN ?_ _ | (simp; done) | (simp; omega) | omega)) (by first | (simp; done) | (simp; omega) | omega))).mono ?_
        rw [Hf2.out]
        rintro e W1 ⟨rfl, hb⟩
        have hst : Below W0.heap.size W0 W1 := Below.trans (by repeat' (first | with_reducible assumption | with_reducible exact Below.refl _ _ | refine Below.alloc ?_ ?_ _ | refine Below.setCell ?_ ?_ _ | refine Below.drew ?_ | refine below_drewN ?_ _ | (simp; done) | (simp; omega) | omega)) (hb.mono (by first | (simp; done) | (simp; omega) | omega))
        replace hbel := hbel.trans (hst.mono hsz)
        replace hsz := hbel.size
        replace bA := bA.below hst bA.lt
        clear pA0 pA1 lA
        have pA0 := bA.cell 0
        have pA1 := bA.cell 1
        have lA := bA.lt
        replace bB := bB.below hst bB.lt
        clear pB0 pB1 lB
        have pB0 := bB.cell 0
        have pB1 := bB.cell 1
        have lB := bB.lt
        replace HL := hid (HL.out.below hst hst.size)
        replace HM := hid (HM.out.below hst hst.size)
        clear hb hst
        try clear hWb
        obtain ⟨W0, rfl⟩ : ∃ W0 : World, W0 = W1 := ⟨_, rfl⟩
        go_wp2_with (fail)
        refine (works_any _).mono ?_
        rintro e W1 ⟨rfl, hb⟩
        have hst : Below W0.heap.size W0 W1 := Below.trans (by repeat' (first | with_reducible assumption | with_reducible exact Below.refl _ _ | refine Below.alloc ?_ ?_ _ | refine Below.setCell ?_ ?_ _ | refine Below.drew ?_ | refine below_drewN ?_ _ | (simp; done) | (simp; omega) | omega)) (hb.mono (by first | (simp; done) | (simp; omega) | omega))
        replace hbel := hbel.trans (hst.mono hsz)
        replace hsz := hbel.size
        replace bA := bA.below hst bA.lt
        clear pA0 pA1 lA
        have pA0 := bA.cell 0
        have pA1 := bA.cell 1
        have lA := bA.lt
        replace bB := bB.below hst bB.lt
        clear pB0 pB1 lB
        have pB0 := bB.cell 0
        have pB1 := bB.cell 1
        have lB := bB.lt
        replace HL := hid (HL.out.below hst hst.size)
        replace HM := hid (HM.out.below hst hst.size)
        clear hb hst
        try clear hWb
        obtain ⟨W0, rfl⟩ : ∃ W0 : World, W0 = W1 := ⟨_, rfl⟩
        go_wp2
        go_ret
        exact ⟨rfl, hbel⟩
      · have hJi : ¬ (8 : Int) < (Ja : Int) + (Jb : Int) := by omega
        by_cases hN : 10 < n + n2
        · have hNi : (10 : Int) < (n : Int) + (n2 : Int) := by omega
          clear hchk hchk2 hv hv8 kv kv8 hln kln
          obtain ⟨W0, hWb⟩ : ∃ W0, ((w).alloc (.cells #[.int .i64 (Ja : Int), .slice A1 n c1] 24)).alloc (.cells #[.int .i64 (Jb : Int), .slice A2 n2 c2] 24) = W0 := ⟨_, rfl⟩
          have hbel : Below w.heap.size w W0 := by rw [← hWb]; exact (by repeat' (first | with_reducible assumption | with_reducible exact Below.refl _ _ | refine Below.alloc ?_ ?_ _ | refine Below.setCell ?_ ?_ _ | refine Below.drew ?_ | refine below_drewN ?_ _ | (simp; done) | (simp; omega) | omega))
          have hsz := hbel.size
          have bA : Blk W0 (w.heap.size) 24 #[.int .i64 (Ja : Int), .slice A1 n c1] := by rw [← hWb]; exact (Blk.new' rfl).alloc _
          have pA0 := bA.cell 0
          have pA1 := bA.cell 1
          have lA := bA.lt
          have bB : Blk W0 (w.heap.size + 1) 24 #[.int .i64 (Jb : Int), .slice A2 n2 c2] := by rw [← hWb]; exact Blk.new' (by first | (simp; done) | (simp; omega) | omega)
          have pB0 := bB.cell 0
          have pB1 := bB.cell 1
          have lB := bB.lt
          have HL := hid (hl.below hbel hsz)
          clear hl
          have HM := hid (hl2.below hbel hsz)
          clear hl2
          go_enter Tryz.func12, Tryz.ntmps12
          go_wp2_with (fail)
          refine (fine_any A1 n c1 la Ja _ (HL.out.below (by repeat' (first | with_reducible assumption | with_reducible exact Below.refl _ _ | refine Below.alloc ?_ ?_ _ | refine Below.setCell ?_ ?_ _ | refine Below.drew ?_ | refine below_drewN ?_ _ | (simp; done) | (simp; omega) | omega)) (by first | (simp; done) | (simp; omega) | omega))).mono ?_
          rw [Hf.out]
          rintro e W1 ⟨rfl, hb⟩
          have hst : Below W0.heap.size W0 W1 := Below.trans (by repeat' (first | with_reducible assumption | with_reducible exact Below.refl _ _ | refine Below.alloc ?_ ?_ _ | refine Below.setCell ?_ ?_ _ | refine Below.drew ?_ | refine below_drewN ?_ _ | (simp; done) | (simp; omega) | omega)) (hb.mono (by first | (simp; done) | (simp; omega) | omega))
          replace hbel := hbel.trans (hst.mono hsz)
          replace hsz := hbel.size
          replace bA := bA.below hst bA.lt
          clear pA0 pA1 lA
          have pA0 := bA.cell 0
          have pA1 := bA.cell 1
          have lA := bA.lt
          replace bB := bB.below hst bB.lt
          clear pB0 pB1 lB
          have pB0 := bB.cell 0
          have pB1 := bB.cell 1
          have lB := bB.lt
          replace HL := hid (HL.out.below hst hst.size)
          replace HM := hid (HM.out.below hst hst.size)
          clear hb hst
          try clear hWb
          obtain ⟨W0, rfl⟩ : ∃ W0 : World, W0 = W1 := ⟨_, rfl⟩
          go_wp2_with (fail)
          refine (fine_any A2 n2 c2 lb Jb _ (HM.out.below (by repeat' (first | with_reducible assumption | with_reducible exact Below.refl _ _ | refine Below.alloc ?_ ?_ _ | refine Below.setCell ?_ ?_ _ | refine Below.drew ?_ | refine below_drewN ?_ _ | (simp; done) | (simp; omega) | omega)) (by first | (simp; done) | (simp; omega) | omega))).mono ?_
          rw [Hf2.out]
          rintro e W1 ⟨rfl, hb⟩
          have hst : Below W0.heap.size W0 W1 := Below.trans (by repeat' (first | with_reducible assumption | with_reducible exact Below.refl _ _ | refine Below.alloc ?_ ?_ _ | refine Below.setCell ?_ ?_ _ | refine Below.drew ?_ | refine below_drewN ?_ _ | (simp; done) | (simp; omega) | omega)) (hb.mono (by first | (simp; done) | (simp; omega) | omega))
          replace hbel := hbel.trans (hst.mono hsz)
          replace hsz := hbel.size
          replace bA := bA.below hst bA.lt
          clear pA0 pA1 lA
          have pA0 := bA.cell 0
          have pA1 := bA.cell 1
          have lA := bA.lt
          replace bB := bB.below hst bB.lt
          clear pB0 pB1 lB
          have pB0 := bB.cell 0
          have pB1 := bB.cell 1
          have lB := bB.lt
          replace HL := hid (HL.out.below hst hst.size)
          replace HM := hid (HM.out.below hst hst.size)
          clear hb hst
          try clear hWb
          obtain ⟨W0, rfl⟩ : ∃ W0 : World, W0 = W1 := ⟨_, rfl⟩
          go_wp2_with (fail)
          refine (works_any _).mono ?_
          rintro e W1 ⟨rfl, hb⟩
          have hst : Below W0.heap.size W0 W1 := Below.trans (by repeat' (first | with_reducible assumption | with_reducible exact Below.refl _ _ | refine Below.alloc ?_ ?_ _ | refine Below.setCell ?_ ?_ _ | refine Below.drew ?_ | refine below_drewN ?_ _ | (simp; done) | (simp; omega) | omega)) (hb.mono (by first | (simp; done) | (simp; omega) | omega))
          replace hbel := hbel.trans (hst.mono hsz)
          replace hsz := hbel.size
          replace bA := bA.below hst bA.lt
          clear pA0 pA1 lA
          have pA0 := bA.cell 0
          have pA1 := bA.cell 1
          have lA := bA.lt
          replace bB := bB.below hst bB.lt
          clear pB0 pB1 lB
          have pB0 := bB.cell 0
          have pB1 := bB.cell 1
          have lB := bB.lt
          replace HL := hid (HL.out.below hst hst.size)
          replace HM := hid (HM.out.below hst hst.size)
          clear hb hst
          try clear hWb
          obtain ⟨W0, rfl⟩ : ∃ W0 : World, W0 = W1 := ⟨_, rfl⟩
          go_wp2
          go_ret
          exact ⟨rfl, hbel⟩
        · have hNi : ¬ (10 : Int) < (n : Int) + (n2 : Int) := by omega
          have hJ9 : Ja + Jb ≤ 8 := by omega
          have hN9 : la.length + lb.length ≤ 10 := by rw [la1.out, la2.out]; omega
          obtain ⟨f1, f2, f3, f4, f5, f6, f7, f8⟩ := both_facts hchk hchk2 hJ9 hN9
          have hal1 := alL_eq hchk
          have hal2 := alL_eq hchk2
          have hal3 := alL_eq f1
          rw [Int.toNat_natCast] at hal1 hal2 hal3
          have hak1 := hid (alK_true hchk)
          have hak2 := hid (alK_true hchk2)
          have hak3 := alK_true f1
          have K1 : Hid (∀ l ∈ la, l.length ≤ 1000000) := hid (fun l h => by have := isL_len8 (hv8 l h) (by omega); omega)
          have K2 : Hid (∀ l ∈ lb, l.length ≤ 1000000) := hid (fun l h => by have := isL_len8 (kv8 l h) (by omega); omega)
          have hbX8 : ∀ l ∈ bothL Ja la lb, isL 8 0 l = true := fun l h => isL_weak (by omega) (both_isL hv kv l h)
          have hXln : (bothL Ja la lb).length ≤ 10 := by unfold bothL; simpa using hN9
          have w1 := allR_len70 (I := Ja) (by omega) hv
          have w2 := allR_len70 (I := Jb) (by omega) kv
          have hXe := hid (show la ++ lb.map (shL Ja) = bothL Ja la lb from rfl)
          have hb1 : Hid ((bestV Ja la).length ≤ 1000000) := hid (by rw [bestV_eq]; have := rblV_len Ja la; omega)
          have hb2 : Hid ((bestV Jb lb).length ≤ 1000000) := hid (by rw [bestV_eq]; have := rblV_len Jb lb; omega)
          have hb3 : (bestV ((Ja + Jb : Nat) : Int) (bothL Ja la lb)).length ≤ 1000000 := by rw [bestV_eq]; have := rblV_len ((Ja + Jb : Nat) : Int) (bothL Ja la lb); omega
          have m1 : (aprV Ja la).length ≤ 10 := by rw [aprV_eq]; have := rapV_len Ja la; rw [la1.out] at this; omega
          have m2 : (aprV Jb lb).length ≤ 10 := by rw [aprV_eq]; have := rapV_len Jb lb; rw [la2.out] at this; omega
          obtain ⟨J, hJe⟩ : ∃ J, Ja + Jb = J := ⟨_, rfl⟩
          obtain ⟨X, hX⟩ : ∃ X, bothL Ja la lb = X := ⟨_, rfl⟩
          rw [hJe, hX] at f1 f4 f5 f6 f7 f8 hal3 hak3 hb3
          rw [hX] at hbX8 hXln hXe
          have zJ2 : (Ja : Int) + (Jb : Int) = (J : Int) := by omega
          rw [zJ2] at zJ hJi
          have hJ7 : J ≤ 8 := by omega
          have KX : Hid (∀ l ∈ X, l.length ≤ 1000000) := hid (fun l h => by have := isL_len8 (hbX8 l h) (by omega); omega)
          obtain ⟨L1, hL1⟩ : ∃ v, allR Ja la = v := ⟨_, rfl⟩
          obtain ⟨L2, hL2⟩ : ∃ v, allR Jb lb = v := ⟨_, rfl⟩
          obtain ⟨L3, hL3⟩ : ∃ v, allR J X = v := ⟨_, rfl⟩
          rw [hL1] at f7 hal1 w1
          rw [hL2] at f7 hal2 w2
          rw [hL3] at f7 hal3
          obtain ⟨P1, hP1⟩ : ∃ v, aprV Ja la = v := ⟨_, rfl⟩
          obtain ⟨P2, hP2⟩ : ∃ v, aprV Jb lb = v := ⟨_, rfl⟩
          obtain ⟨P3, hP3⟩ : ∃ v, aprV J X = v := ⟨_, rfl⟩
          rw [hP1, hP2, hP3] at f8
          rw [hP1] at m1
          rw [hP2] at m2
          obtain ⟨N1, hN1⟩ : ∃ v, fwV Ja la = v := ⟨_, rfl⟩
          obtain ⟨N2, hN2⟩ : ∃ v, fwV Jb lb = v := ⟨_, rfl⟩
          obtain ⟨N3, hN3⟩ : ∃ v, fwV J X = v := ⟨_, rfl⟩
          obtain ⟨i1, hi1⟩ : ∃ v, fwIs Ja la = v := ⟨_, rfl⟩
          obtain ⟨i2, hi2⟩ : ∃ v, fwIs Jb lb = v := ⟨_, rfl⟩
          obtain ⟨i3, hi3⟩ : ∃ v, fwIs J X = v := ⟨_, rfl⟩
          rw [hi1, hi2, hi3] at f5
          rw [hi3, hN1, hN2, hN3] at f6
          have bN1 : 0 ≤ N1 ∧ N1 ≤ 1000000 := by rw [← hN1]; unfold fwV; have := hb1.out; split <;> omega
          have bN2 : 0 ≤ N2 ∧ N2 ≤ 1000000 := by rw [← hN2]; unfold fwV; have := hb2.out; split <;> omega
          subst f5
          have Hal1 := hid hal1
          have Hal2 := hid hal2
          have Hal3 := hid hal3
          have HN1 := hid hN1
          have HN2 := hid hN2
          have HN3 := hid hN3
          have Hi1 := hid hi1
          have Hi2 := hid hi2
          have Hi3 := hid hi3
          have HP1 := hid hP1
          have HP2 := hid hP2
          have HP3 := hid hP3
          have Hc1 := hid hchk
          have Hc2 := hid hchk2
          have Hc3 := hid f1
          have F2 := hid f2
          have F3 := hid f3
          have F4 := hid f4
          have F6 := hid f6
          have F7 := hid f7
          have F8 := hid f8
          have hak3 := hid hak3
          have hb3 := hid hb3
          have Hv8 := hid kv8
          have HXl := hid hXln
          have Hw1 := hid w1
          have Hw2 := hid w2
          have Hm1 := hid m1
          have Hm2 := hid m2
          clear hchk hchk2 hv hv8 kv kv8 hln kln f1 f2 f3 f4 f6 f7 f8 hal1 hal2 hal3 hL1 hL2 hL3 hP1 hP2 hP3 hN1 hN2 hN3 hi1 hi2 hi3 hX hJe hbX8 hXln hJ hN hN9 w1 w2 m1 m2
          obtain ⟨W0, hWb⟩ : ∃ W0, ((w).alloc (.cells #[.int .i64 (Ja : Int), .slice A1 n c1] 24)).alloc (.cells #[.int .i64 (Jb : Int), .slice A2 n2 c2] 24) = W0 := ⟨_, rfl⟩
          have hbel : Below w.heap.size w W0 := by rw [← hWb]; exact (by repeat' (first | with_reducible assumption | with_reducible exact Below.refl _ _ | refine Below.alloc ?_ ?_ _ | refine Below.setCell ?_ ?_ _ | refine Below.drew ?_ | refine below_drewN ?_ _ | (simp; done) | (simp; omega) | omega))
          have hsz := hbel.size
          have bA : Blk W0 (w.heap.size) 24 #[.int .i64 (Ja : Int), .slice A1 n c1] := by rw [← hWb]; exact (Blk.new' rfl).alloc _
          have pA0 := bA.cell 0
          have pA1 := bA.cell 1
          have lA := bA.lt
          have bB : Blk W0 (w.heap.size + 1) 24 #[.int .i64 (Jb : Int), .slice A2 n2 c2] := by rw [← hWb]; exact Blk.new' (by first | (simp; done) | (simp; omega) | omega)
          have pB0 := bB.cell 0
          have pB1 := bB.cell 1
          have lB := bB.lt
          have HL := hid (hl.below hbel hsz)
          clear hl
          have HM := hid (hl2.below hbel hsz)
          clear hl2
          go_enter Tryz.func12, Tryz.ntmps12
          go_wp2_with (fail)
          refine (fine_any A1 n c1 la Ja _ (HL.out.below (by repeat' (first | with_reducible assumption | with_reducible exact Below.refl _ _ | refine Below.alloc ?_ ?_ _ | refine Below.setCell ?_ ?_ _ | refine Below.drew ?_ | refine below_drewN ?_ _ | (simp; done) | (simp; omega) | omega)) (by first | (simp; done) | (simp; omega) | omega))).mono ?_
          rw [Hf.out]
          rintro e W1 ⟨rfl, hb⟩
          have hst : Below W0.heap.size W0 W1 := Below.trans (by repeat' (first | with_reducible assumption | with_reducible exact Below.refl _ _ | refine Below.alloc ?_ ?_ _ | refine Below.setCell ?_ ?_ _ | refine Below.drew ?_ | refine below_drewN ?_ _ | (simp; done) | (simp; omega) | omega)) (hb.mono (by first | (simp; done) | (simp; omega) | omega))
          replace hbel := hbel.trans (hst.mono hsz)
          replace hsz := hbel.size
          replace bA := bA.below hst bA.lt
          clear pA0 pA1 lA
          have pA0 := bA.cell 0
          have pA1 := bA.cell 1
          have lA := bA.lt
          replace bB := bB.below hst bB.lt
          clear pB0 pB1 lB
          have pB0 := bB.cell 0
          have pB1 := bB.cell 1
          have lB := bB.lt
          replace HL := hid (HL.out.below hst hst.size)
          replace HM := hid (HM.out.below hst hst.size)
          clear hb hst
          try clear hWb
          obtain ⟨W0, rfl⟩ : ∃ W0 : World, W0 = W1 := ⟨_, rfl⟩
          go_wp2_with (fail)
          refine (fine_any A2 n2 c2 lb Jb _ (HM.out.below (by repeat' (first | with_reducible assumption | with_reducible exact Below.refl _ _ | refine Below.alloc ?_ ?_ _ | refine Below.setCell ?_ ?_ _ | refine Below.drew ?_ | refine below_drewN ?_ _ | (simp; done) | (simp; omega) | omega)) (by first | (simp; done) | (simp; omega) | omega))).mono ?_
          rw [Hf2.out]
          rintro e W1 ⟨rfl, hb⟩
          have hst : Below W0.heap.size W0 W1 := Below.trans (by repeat' (first | with_reducible assumption | with_reducible exact Below.refl _ _ | refine Below.alloc ?_ ?_ _ | refine Below.setCell ?_ ?_ _ | refine Below.drew ?_ | refine below_drewN ?_ _ | (simp; done) | (simp; omega) | omega)) (hb.mono (by first | (simp; done) | (simp; omega) | omega))
          replace hbel := hbel.trans (hst.mono hsz)
          replace hsz := hbel.size
          replace bA := bA.below hst bA.lt
          clear pA0 pA1 lA
          have pA0 := bA.cell 0
          have pA1 := bA.cell 1
          have lA := bA.lt
          replace bB := bB.below hst bB.lt
          clear pB0 pB1 lB
          have pB0 := bB.cell 0
          have pB1 := bB.cell 1
          have lB := bB.lt
          replace HL := hid (HL.out.below hst hst.size)
          replace HM := hid (HM.out.below hst hst.size)
          clear hb hst
          try clear hWb
          obtain ⟨W0, rfl⟩ : ∃ W0 : World, W0 = W1 := ⟨_, rfl⟩
          go_wp2_with (fail)
          obtain ⟨XA, rfl⟩ : ∃ X : World, X = W0 := ⟨_, rfl⟩
          refine Sx.wp_region_freeD (fun W => Below XA.heap.size XA W) (hSb XA) (AkF XA.heap.size A1 n c1 la Ja Jb J (.pointer (some ⟨w.heap.size, 0, none⟩)) (.pointer (some ⟨w.heap.size + 1, 0, none⟩)) (.pointer (some ⟨w.heap.size, 1, none⟩))) (AkF.ext) (fun k => ([[], [0], [], [2], [1, 3], [], [], [6], [5, 7], [4, 8], [], [8, 9, 10]] : List (List Nat)).getD k []) supK (fun k => ([[], [], [], [], [], [], [], [], [5], [], [], [5, 10]] : List (List Nat)).getD k []) (fun k => ([[], [], [], [], [], [], [], [], [5, 7], [8], [], [10, 9, 8, 5]] : List (List Nat)).getD k []) AkF.loc [0, 1, 2, 3, 4, 5, 6, 7, 8, 9, 10, 11] rfl ?X1 ?hX1 (by kernel_rfl) (by kernel_rfl) ((Below.refl _ _).drew) ?hC1 ?hQ1
          case hX1 =>
            intro e
            simp only [Sx.putF, Sx.dstAt, List.getElem?_toArray, List.getElem?_cons_succ, List.getElem?_cons_zero, Option.bind_some, Act.put, List.setIfInBounds_toArray, List.set_cons_zero, List.set_cons_succ]
            exact rfl
          case hC1 =>
            intro k o ho e W hs hd
            match k, ho, hd with
            | 0, ho, hd =>
              have ho := Option.some.inj ho
              subst ho
              refine ⟨rfl, ?_⟩
              refine Sx.lv_of fun K hK => ?_
              go_simp
              simp only [Sx.LV]
              exact hK _ _ ⟨hs, rfl, fun j _ _ _ e' h => AkF.ext j e' _ _ h (Below.refl _ _)⟩
            | 1, ho, hd =>
              have ho := Option.some.inj ho
              subst ho
              refine ⟨rfl, ?_⟩
              have e0 : e 0 = .pointer (some ⟨w.heap.size, 0, none⟩) := hd 0 (by decide)
              have f0 := (bA.below hs lA).cell 0
              have f1 := (bA.below hs lA).cell 1
              have f2 := (bA.below hs lA).lt
              have f3 := (bB.below hs lB).cell 0
              have f4 := (bB.below hs lB).cell 1
              have f5 := (bB.below hs lB).lt
              refine Sx.lv_of fun K hK => ?_
              go_simp
              simp only [Sx.LV]
              exact hK _ _ ⟨hs, rfl, fun j _ _ _ e' h => AkF.ext j e' _ _ h (Below.refl _ _)⟩
            | 2, ho, hd =>
              have ho := Option.some.inj ho
              subst ho
              refine ⟨rfl, ?_⟩
              refine Sx.lv_of fun K hK => ?_
              go_simp
              simp only [Sx.LV]
              exact hK _ _ ⟨hs, rfl, fun j _ _ _ e' h => AkF.ext j e' _ _ h (Below.refl _ _)⟩
            | 3, ho, hd =>
              have ho := Option.some.inj ho
              subst ho
              refine ⟨rfl, ?_⟩
              have e2 : e 2 = .pointer (some ⟨w.heap.size + 1, 0, none⟩) := hd 2 (by decide)
              have f0 := (bA.below hs lA).cell 0
              have f1 := (bA.below hs lA).cell 1
              have f2 := (bA.below hs lA).lt
              have f3 := (bB.below hs lB).cell 0
              have f4 := (bB.below hs lB).cell 1
              have f5 := (bB.below hs lB).lt
              refine Sx.lv_of fun K hK => ?_
              go_simp
              simp only [Sx.LV]
              exact hK _ _ ⟨hs, rfl, fun j _ _ _ e' h => AkF.ext j e' _ _ h (Below.refl _ _)⟩
            | 4, ho, hd =>
              have ho := Option.some.inj ho
              subst ho
              refine ⟨rfl, ?_⟩
              have e1 : e 1 = .int .i64 (Ja : Int) := hd 1 (by decide)
              have e3 : e 3 = .int .i64 (Jb : Int) := hd 3 (by decide)
              refine Sx.lv_of fun K hK => ?_
              go_simp
              simp only [Sx.LV]
              exact hK _ _ ⟨hs, rfl, fun j _ _ _ e' h => AkF.ext j e' _ _ h (Below.refl _ _)⟩
            | 5, ho, hd =>
              have ho := Option.some.inj ho
              subst ho
              refine ⟨rfl, ?_⟩
              have hxa : Below W.heap.size W (W.alloc (.cells #[] 25)) := (Below.refl _ _).alloc (Nat.le_refl _) _
              refine Sx.lv_of fun K hK => ?_
              go_simp
              simp only [Sx.LV]
              exact hK _ _ ⟨hs.trans (hxa.mono hs.size), ⟨W.heap.size, rfl, Blk.new _ _ _, hs.size⟩, fun j _ _ _ e' h => AkF.ext j e' _ _ h hxa⟩
            | 6, ho, hd =>
              have ho := Option.some.inj ho
              subst ho
              refine ⟨rfl, ?_⟩
              refine Sx.lv_of fun K hK => ?_
              go_simp
              simp only [Sx.LV]
              exact hK _ _ ⟨hs, rfl, fun j _ _ _ e' h => AkF.ext j e' _ _ h (Below.refl _ _)⟩
            | 7, ho, hd =>
              have ho := Option.some.inj ho
              subst ho
              refine ⟨rfl, ?_⟩
              have e6 : e 6 = .pointer (some ⟨w.heap.size, 1, none⟩) := hd 6 (by decide)
              have f0 := (bA.below hs lA).cell 0
              have f1 := (bA.below hs lA).cell 1
              have f2 := (bA.below hs lA).lt
              have f3 := (bB.below hs lB).cell 0
              have f4 := (bB.below hs lB).cell 1
              have f5 := (bB.below hs lB).lt
              refine Sx.lv_of fun K hK => ?_
              go_simp
              simp only [Sx.LV]
              exact hK _ _ ⟨hs, rfl, fun j _ _ _ e' h => AkF.ext j e' _ _ h (Below.refl _ _)⟩
            | 8, ho, hd =>
              have ho := Option.some.inj ho
              subst ho
              refine ⟨rfl, ?_⟩
              obtain ⟨h, e5, hh, hB⟩ : ∃ h, e 5 = .slice (some ⟨h, 0, none⟩) 0 0 ∧ Blk W h 25 #[] ∧ XA.heap.size ≤ h := hd 5 (by decide)
              have e7 : e 7 = .slice A1 n c1 := hd 7 (by decide)
              obtain ⟨i0, hi0, hi1, hi2, hi3⟩ := info_parts' infoL
              obtain ⟨vs, hvs, hcs⟩ := lis_cells HL.out
              refine lv_append_src W _ _ 22 rfl XA.heap.size 25 i0 _ 1 24 underLL hi0 hi1 hi2 hi3 rfl (by decide) _ 0 [] e5 ⟨rfl, .inr ⟨h, 0, #[], rfl, hB, hh, by omega, by unfold maxLen; omega, rfl, rfl⟩⟩ A1 n c1 vs e7 W.heap.size (hvs.below' hs hs.size) HA1.out hcs.2.1 (by unfold maxLen; omega) (by omega) hs.size ?_
              intro v' W' ho hg hat
              have hs2 : Below XA.heap.size XA W' := hs.grown hg hs.size (fun r hr => by cases hr; exact hB)
              refine ⟨hs2, ?_, AkF.app hh hg⟩
              show NewLw W' XA.heap.size (fun b => b < XA.heap.size) (Sx.upd e 8 v' 8) la
              simp only [Sx.upd, if_true]
              rw [Nat.zero_add, List.nil_append] at ho
              exact newLw_of ho hcs.1 hcs.2.2 hs2
            | 9, ho, hd =>
              have ho := Option.some.inj ho
              subst ho
              refine ⟨rfl, ?_⟩
              have e4 : e 4 = .int .i64 (J : Int) := hd 4 (by decide)
              have h8 : NewLw W XA.heap.size (fun b => b < XA.heap.size) (e 8) la := hd 8 (by decide)
              obtain ⟨A8, c8, e8, -⟩ := lis_of_lw h8
              obtain ⟨m8, hm8⟩ : ∃ m, la.length = m := ⟨_, rfl⟩
              rw [hm8] at e8
              clear hm8
              refine Sx.lv_of fun K hK => ?_
              go_simp
              simp only [Sx.LV]
              exact hK _ _ ⟨hs, (by show _ = Value.agg #[_, e 8]; rw [e8]; rfl), fun j _ _ _ e' h => AkF.ext j e' _ _ h (Below.refl _ _)⟩
            | 10, ho, hd =>
              have ho := Option.some.inj ho
              subst ho
              refine ⟨rfl, ?_⟩
              have hxa : Below W.heap.size W (W.alloc (.cells #[.int .i64 0, .slice none 0 0] 24)) := (Below.refl _ _).alloc (Nat.le_refl _) _
              refine Sx.lv_of fun K hK => ?_
              go_simp
              simp only [Sx.LV]
              exact hK _ _ ⟨hs.trans (hxa.mono hs.size), ⟨W.heap.size, rfl, hs.size, Blk.new _ _ _⟩, fun j _ _ _ e' h => AkF.ext j e' _ _ h hxa⟩
            | 11, ho, hd =>
              have ho := Option.some.inj ho
              subst ho
              refine ⟨rfl, ?_⟩
              have e9 : e 9 = .agg #[.int .i64 (J : Int), e 8] := hd 9 (by decide)
              obtain ⟨T, e10, hBT, hT⟩ : ∃ T, e 10 = .pointer (some ⟨T, 0, none⟩) ∧ XA.heap.size ≤ T ∧ Blk W T 24 #[.int .i64 0, .slice none 0 0] := hd 10 (by decide)
              have h8 : NewLw W XA.heap.size (fun b => b < XA.heap.size) (e 8) la := hd 8 (by decide)
              obtain ⟨A8, c8, e8, -⟩ := lis_of_lw h8
              obtain ⟨m8, hm8⟩ : ∃ m, la.length = m := ⟨_, rfl⟩
              rw [hm8] at e8
              clear hm8
              have f0 := hT.cell 0
              have f1 := hT.cell 1
              have f2 := hT.lt
              have f3 := hT.frozen 0
              have f4 := hT.frozen 1
              rw [e8] at e9
              refine Sx.lv_of fun K hK => ?_
              go_simp
              simp only [Sx.LV]
              refine hK _ _ ⟨(hs.setCell hBT _).setCell hBT _, ⟨T, e10, hBT, ?_⟩, AkF.put hT hBT⟩
              rw [show Sx.upd e 11 undef 8 = .slice A8 m8 c8 from e8]
              exact hT.set2
            | k + 12, ho, _ => cases ho
          intro e W1 hb hp
          have h8 : NewLw W1 XA.heap.size (fun b => b < XA.heap.size) (e 8) la := hp 8 (by decide) (by decide)
          obtain ⟨T, e10, hBT, hT⟩ : ∃ T, e 10 = .pointer (some ⟨T, 0, none⟩) ∧ XA.heap.size ≤ T ∧ Blk W1 T 24 #[.int .i64 (J : Int), e 8] := hp 11 (by decide) (by decide)
          have hN := h8.mono (P' := fun b => b ≠ T) (Nat.le_refl _) (fun b hb => by have hb : b < XA.heap.size := hb; omega)
          obtain ⟨A8, c8, e8, -⟩ := lis_of_lw h8
          rw [la1.out] at e8
          rw [e8] at hT hN
          simp only [e10]
          have HN := hid hN
          have HT := hid hT
          clear hp h8 e8 hN hT
          have hlA := hb
          clear hb
          try clear hWb
          obtain ⟨i0, hi0, hi1, hi2, hi3⟩ := info_parts' infoI
          have I0 := hid hi0; have I1 := hid hi1; have I2 := hid hi2; have I3 := hid hi3
          clear hi0 hi1 hi2 hi3
          go_wp2_with (fail)
          go_loopw [6, 7, 8] (fun h r m wr => ∃ k : Nat, k ≤ n2 ∧ h = .int .i64 k ∧ (∃ (A8 : Option Addr) (c8 : Nat), Hid (NewLw wr XA.heap.size (fun b => b ≠ T) (.slice A8 (n + k) c8) (la ++ (lb.take k).map (shL Ja))) ∧ Hid (Blk wr T 24 #[.int .i64 (J : Int), .slice A8 (n + k) c8])) ∧ Below XA.heap.size XA wr) (fun h _ _ _ => n2 - (intOf h).toNat)
          case atStart => exact ⟨0, by omega, rfl, ⟨A8, c8, hid (by simpa using HN.out), HT⟩, hlA⟩
          case round =>
            clear HN HT A8 c8 hlA
            obtain ⟨k, hk, rfl, ⟨A8, c8, hN, hT⟩, hlA⟩ := hrel
            replace hbel := hbel.trans (hlA.mono hsz)
            replace hsz := hbel.size
            replace bA := bA.below hlA bA.lt
            clear pA0 pA1 lA
            have pA0 := bA.cell 0
            have pA1 := bA.cell 1
            have lA := bA.lt
            replace bB := bB.below hlA bB.lt
            clear pB0 pB1 lB
            have pB0 := bB.cell 0
            have pB1 := bB.cell 1
            have lB := bB.lt
            replace HL := hid (HL.out.below hlA hlA.size)
            replace HM := hid (HM.out.below hlA hlA.size)
            obtain ⟨W0, rfl⟩ : ∃ W0 : World, W0 = wr := ⟨_, rfl⟩
            have bT := hT.out
            clear hT
            have pT0 := bT.cell 0
            have pT1 := bT.cell 1
            have lT := bT.lt
            by_cases hlt : k < n2
            · have hlti : (k : Int) < n2 := by omega
              obtain ⟨b1, o1, x, A3, m3, c3, rfl, hb1, hx, q0, hin3⟩ := HM.out.at_ hlt
              have hxv := Hv8.out x (List.mem_of_getElem? hx)
              have hm3 : m3 ≤ 8 := by have := isL_len8 hxv (by omega); have := hin3.len; omega
              have hk0 : (0 : Int) ≤ k := by omega
              have htk : Hid (lb.take (k + 1) = lb.take k ++ [x]) := hid (by rw [List.take_add_one, hx]; rfl)
              have hzb := hid (fun z (hz : z ∈ x) => isL_bd hxv z hz)
              have Hin3 := hid hin3
              have hxlen := hid hin3.len
              clear hx hxv hin3
              go_wp2_with (fail)
              obtain ⟨X2, rfl⟩ : ∃ X : World, X = W0 := ⟨_, rfl⟩
              have hlT := bT.lt
              have q00 := q0
              have hb10 := hb1
              have bA2 := hid bA
              have bB2 := hid bB
              have Hin2 := Hin3
              have HN0 := hN
              clear q0
              go_loopw [7, 8] (fun r m wr => ∃ d : Nat, d ≤ m3 ∧ m = .int .i64 d ∧ Hid (wr.ownsRow X2.heap.size 3 1 r d ((shL Ja (x.take d)).flatMap cI)) ∧ Below X2.heap.size X2 wr) (fun _ m _ => m3 - (intOf m).toNat)
              case atStart => exact ⟨0, by omega, rfl, hid (World.ownsRow_nil _ _ _ _), Below.refl _ _⟩
              case round =>
                obtain ⟨d, hd, rfl, hrow, hlB⟩ := hrel
                replace hbel := hbel.trans (hlB.mono hsz)
                replace hsz := hbel.size
                replace hlA := hlA.trans (hlB.mono hlA.size)
                replace bA := bA.below hlB bA.lt
                clear pA0 pA1 lA
                have pA0 := bA.cell 0
                have pA1 := bA.cell 1
                have lA := bA.lt
                replace bB := bB.below hlB bB.lt
                clear pB0 pB1 lB
                have pB0 := bB.cell 0
                have pB1 := bB.cell 1
                have lB := bB.lt
                replace bT := bT.below hlB bT.lt
                clear pT0 pT1 lT
                have pT0 := bT.cell 0
                have pT1 := bT.cell 1
                have lT := bT.lt
                replace HL := hid (HL.out.below hlB hlB.size)
                replace HM := hid (HM.out.below hlB hlB.size)
                replace Hin3 := hid (Hin3.out.below hlB hlB.size)
                have q0 := (hlB.cell (p := ⟨b1, o1 + k, none⟩) hb1).trans q00
                have hb1w := Nat.lt_of_lt_of_le hb1 hlB.size
                obtain ⟨W0, rfl⟩ : ∃ W0 : World, W0 = wr := ⟨_, rfl⟩
                by_cases hd3 : d < m3
                · have hd3i : (d : Int) < m3 := by omega
                  have hd0 : (0 : Int) ≤ d := by omega
                  obtain ⟨b4, o4, z, hA4, hb4, hz, r00⟩ := Hin2.out.at_ hd3
                  subst hA4
                  have hz8 := hzb.out z (List.mem_of_getElem? hz)
                  have zz : IntKind.i64.wrap (z + (Ja : Int)) = z + (Ja : Int) := IntWalk.i64_in _ (by omega)
                  have hnt : shL Ja (x.take (d + 1)) = shL Ja (x.take d) ++ [z + (Ja : Int)] := by rw [List.take_add_one, hz]; unfold shL; rw [List.map_append]; rfl
                  have Hf9 : Hid ((shL Ja (x.take (d + 1))).flatMap cI = (shL Ja (x.take d)).flatMap cI ++ [.int .i64 (z + (Ja : Int))]) := hid (by rw [hnt, List.flatMap_append]; rfl)
                  have Hl9 : Hid ((shL Ja (x.take d)).length = d) := hid (by unfold shL; simp; have := hxlen.out; omega)
                  clear hz hnt
                  go_wp2_with (fail)
                  refine Sx.wp_region_el (fun W => Below X2.heap.size X2 W) (hSb X2) [0, 1, 2, 3, 4, 5, 6, 7, 8, 9, 10, 11] 3 (by kernel_rfl) (by kernel_rfl) (hlB.drew) ?_
                  simp only [pick, List.getElem?_toArray, List.getElem?_cons_zero, List.getElem?_cons_succ]
                  (refine Sx.wpE_val (v := ?_) (by rfl) (fun W hW => ?_) ?_; rotate_left; (· have g0 := (bA2.out.below hW bA2.out.lt).cell 0; have g1 := (bA2.out.below hW bA2.out.lt).lt; have g2 := (bB2.out.below hW bB2.out.lt).cell 1; have g3 := (bB2.out.below hW bB2.out.lt).lt; have g4 := (hW.cell (p := ⟨b1, o1 + k, none⟩) hb10).trans q00; have g5 := Nat.lt_of_lt_of_le hb10 hW.size; have g6 := (hW.cell (p := ⟨b4, o4 + d, none⟩) hb4).trans r00; have g7 := Nat.lt_of_lt_of_le hb4 hW.size; go_simp; with_reducible rfl); simp only [Act.put, List.setIfInBounds_toArray, List.set_cons_zero, List.set_cons_succ])
                  (refine Sx.wpE_val (v := ?_) (by rfl) (fun W hW => ?_) ?_; rotate_left; (· have g0 := (bA2.out.below hW bA2.out.lt).cell 0; have g1 := (bA2.out.below hW bA2.out.lt).lt; have g2 := (bB2.out.below hW bB2.out.lt).cell 1; have g3 := (bB2.out.below hW bB2.out.lt).lt; have g4 := (hW.cell (p := ⟨b1, o1 + k, none⟩) hb10).trans q00; have g5 := Nat.lt_of_lt_of_le hb10 hW.size; have g6 := (hW.cell (p := ⟨b4, o4 + d, none⟩) hb4).trans r00; have g7 := Nat.lt_of_lt_of_le hb4 hW.size; go_simp; with_reducible rfl); simp only [Act.put, List.setIfInBounds_toArray, List.set_cons_zero, List.set_cons_succ])
                  (refine Sx.wpE_val (v := ?_) (by rfl) (fun W hW => ?_) ?_; rotate_left; (· have g0 := (bA2.out.below hW bA2.out.lt).cell 0; have g1 := (bA2.out.below hW bA2.out.lt).lt; have g2 := (bB2.out.below hW bB2.out.lt).cell 1; have g3 := (bB2.out.below hW bB2.out.lt).lt; have g4 := (hW.cell (p := ⟨b1, o1 + k, none⟩) hb10).trans q00; have g5 := Nat.lt_of_lt_of_le hb10 hW.size; have g6 := (hW.cell (p := ⟨b4, o4 + d, none⟩) hb4).trans r00; have g7 := Nat.lt_of_lt_of_le hb4 hW.size; go_simp; with_reducible rfl); simp only [Act.put, List.setIfInBounds_toArray, List.set_cons_zero, List.set_cons_succ])
                  (refine Sx.wpE_val (v := ?_) (by rfl) (fun W hW => ?_) ?_; rotate_left; (· have g0 := (bA2.out.below hW bA2.out.lt).cell 0; have g1 := (bA2.out.below hW bA2.out.lt).lt; have g2 := (bB2.out.below hW bB2.out.lt).cell 1; have g3 := (bB2.out.below hW bB2.out.lt).lt; have g4 := (hW.cell (p := ⟨b1, o1 + k, none⟩) hb10).trans q00; have g5 := Nat.lt_of_lt_of_le hb10 hW.size; have g6 := (hW.cell (p := ⟨b4, o4 + d, none⟩) hb4).trans r00; have g7 := Nat.lt_of_lt_of_le hb4 hW.size; go_simp; with_reducible rfl); simp only [Act.put, List.setIfInBounds_toArray, List.set_cons_zero, List.set_cons_succ])
                  (refine Sx.wpE_val (v := ?_) (by rfl) (fun W hW => ?_) ?_; rotate_left; (· have g0 := (bA2.out.below hW bA2.out.lt).cell 0; have g1 := (bA2.out.below hW bA2.out.lt).lt; have g2 := (bB2.out.below hW bB2.out.lt).cell 1; have g3 := (bB2.out.below hW bB2.out.lt).lt; have g4 := (hW.cell (p := ⟨b1, o1 + k, none⟩) hb10).trans q00; have g5 := Nat.lt_of_lt_of_le hb10 hW.size; have g6 := (hW.cell (p := ⟨b4, o4 + d, none⟩) hb4).trans r00; have g7 := Nat.lt_of_lt_of_le hb4 hW.size; go_simp; with_reducible rfl); simp only [Act.put, List.setIfInBounds_toArray, List.set_cons_zero, List.set_cons_succ])
                  (refine Sx.wpE_val (v := ?_) (by rfl) (fun W hW => ?_) ?_; rotate_left; (· have g0 := (bA2.out.below hW bA2.out.lt).cell 0; have g1 := (bA2.out.below hW bA2.out.lt).lt; have g2 := (bB2.out.below hW bB2.out.lt).cell 1; have g3 := (bB2.out.below hW bB2.out.lt).lt; have g4 := (hW.cell (p := ⟨b1, o1 + k, none⟩) hb10).trans q00; have g5 := Nat.lt_of_lt_of_le hb10 hW.size; have g6 := (hW.cell (p := ⟨b4, o4 + d, none⟩) hb4).trans r00; have g7 := Nat.lt_of_lt_of_le hb4 hW.size; go_simp; with_reducible rfl); simp only [Act.put, List.setIfInBounds_toArray, List.set_cons_zero, List.set_cons_succ])
                  (refine Sx.wpE_val (v := ?_) (by rfl) (fun W hW => ?_) ?_; rotate_left; (· have g0 := (bA2.out.below hW bA2.out.lt).cell 0; have g1 := (bA2.out.below hW bA2.out.lt).lt; have g2 := (bB2.out.below hW bB2.out.lt).cell 1; have g3 := (bB2.out.below hW bB2.out.lt).lt; have g4 := (hW.cell (p := ⟨b1, o1 + k, none⟩) hb10).trans q00; have g5 := Nat.lt_of_lt_of_le hb10 hW.size; have g6 := (hW.cell (p := ⟨b4, o4 + d, none⟩) hb4).trans r00; have g7 := Nat.lt_of_lt_of_le hb4 hW.size; go_simp; with_reducible rfl); simp only [Act.put, List.setIfInBounds_toArray, List.set_cons_zero, List.set_cons_succ])
                  (refine Sx.wpE_val (v := ?_) (by rfl) (fun W hW => ?_) ?_; rotate_left; (· have g0 := (bA2.out.below hW bA2.out.lt).cell 0; have g1 := (bA2.out.below hW bA2.out.lt).lt; have g2 := (bB2.out.below hW bB2.out.lt).cell 1; have g3 := (bB2.out.below hW bB2.out.lt).lt; have g4 := (hW.cell (p := ⟨b1, o1 + k, none⟩) hb10).trans q00; have g5 := Nat.lt_of_lt_of_le hb10 hW.size; have g6 := (hW.cell (p := ⟨b4, o4 + d, none⟩) hb4).trans r00; have g7 := Nat.lt_of_lt_of_le hb4 hW.size; go_simp; with_reducible rfl); simp only [Act.put, List.setIfInBounds_toArray, List.set_cons_zero, List.set_cons_succ])
                  (refine Sx.wpE_val (v := ?_) (by rfl) (fun W hW => ?_) ?_; rotate_left; (· have g0 := (bA2.out.below hW bA2.out.lt).cell 0; have g1 := (bA2.out.below hW bA2.out.lt).lt; have g2 := (bB2.out.below hW bB2.out.lt).cell 1; have g3 := (bB2.out.below hW bB2.out.lt).lt; have g4 := (hW.cell (p := ⟨b1, o1 + k, none⟩) hb10).trans q00; have g5 := Nat.lt_of_lt_of_le hb10 hW.size; have g6 := (hW.cell (p := ⟨b4, o4 + d, none⟩) hb4).trans r00; have g7 := Nat.lt_of_lt_of_le hb4 hW.size; go_simp; with_reducible rfl); simp only [Act.put, List.setIfInBounds_toArray, List.set_cons_zero, List.set_cons_succ])
                  (refine Sx.wpE_val (v := ?_) (by rfl) (fun W hW => ?_) ?_; rotate_left; (· have g0 := (bA2.out.below hW bA2.out.lt).cell 0; have g1 := (bA2.out.below hW bA2.out.lt).lt; have g2 := (bB2.out.below hW bB2.out.lt).cell 1; have g3 := (bB2.out.below hW bB2.out.lt).lt; have g4 := (hW.cell (p := ⟨b1, o1 + k, none⟩) hb10).trans q00; have g5 := Nat.lt_of_lt_of_le hb10 hW.size; have g6 := (hW.cell (p := ⟨b4, o4 + d, none⟩) hb4).trans r00; have g7 := Nat.lt_of_lt_of_le hb4 hW.size; go_simp; with_reducible rfl); simp only [Act.put, List.setIfInBounds_toArray, List.set_cons_zero, List.set_cons_succ])
                  (refine Sx.wpE_val (v := ?_) (by rfl) (fun W hW => ?_) ?_; rotate_left; (· have g0 := (bA2.out.below hW bA2.out.lt).cell 0; have g1 := (bA2.out.below hW bA2.out.lt).lt; have g2 := (bB2.out.below hW bB2.out.lt).cell 1; have g3 := (bB2.out.below hW bB2.out.lt).lt; have g4 := (hW.cell (p := ⟨b1, o1 + k, none⟩) hb10).trans q00; have g5 := Nat.lt_of_lt_of_le hb10 hW.size; have g6 := (hW.cell (p := ⟨b4, o4 + d, none⟩) hb4).trans r00; have g7 := Nat.lt_of_lt_of_le hb4 hW.size; go_simp; with_reducible rfl); simp only [Act.put, List.setIfInBounds_toArray, List.set_cons_zero, List.set_cons_succ])
                  (refine Sx.wpE_val (v := ?_) (by rfl) (fun W hW => ?_) ?_; rotate_left; (· have g0 := (bA2.out.below hW bA2.out.lt).cell 0; have g1 := (bA2.out.below hW bA2.out.lt).lt; have g2 := (bB2.out.below hW bB2.out.lt).cell 1; have g3 := (bB2.out.below hW bB2.out.lt).lt; have g4 := (hW.cell (p := ⟨b1, o1 + k, none⟩) hb10).trans q00; have g5 := Nat.lt_of_lt_of_le hb10 hW.size; have g6 := (hW.cell (p := ⟨b4, o4 + d, none⟩) hb4).trans r00; have g7 := Nat.lt_of_lt_of_le hb4 hW.size; go_simp; with_reducible rfl); simp only [Act.put, List.setIfInBounds_toArray, List.set_cons_zero, List.set_cons_succ])
                  simp only [Sx.wpE]
                  (refine Sx.wpM_one 12 _ (by simp only [List.getElem?_toArray, List.getElem?_cons_zero, List.getElem?_cons_succ]; rfl) (by kernel_rfl) (by rfl) ?_)
                  intro Y0 hu0 hs0
                  (go_simp; simp only [LUpon, Act.put]; try simp only [List.setIfInBounds_toArray, List.set_cons_zero, List.set_cons_succ])
                  refine ⟨hs0.alloc hs0.size _, ?_⟩
                  have hr0 := owns_below (w := W0.drew) hrow.out hu0
                  have hxa : Below Y0.heap.size Y0 (Y0.alloc (.cells #[.int .i64 (z + (Ja : Int))] 3)) := (Below.refl _ _).alloc (Nat.le_refl _) _
                  have hr1 := hid (owns_below hr0 hxa)
                  have hb0 : Blk (Y0.alloc (.cells #[.int .i64 (z + (Ja : Int))] 3)) Y0.heap.size 3 #[.int .i64 (z + (Ja : Int))] := Blk.new _ _ _
                  have hs1 := hs0.alloc hs0.size (.cells #[.int .i64 (z + (Ja : Int))] 3)
                  clear hr0 hxa hu0 hs0
                  generalize hY1 : Y0.alloc (.cells #[.int .i64 (z + (Ja : Int))] 3) = Y1 at *
                  generalize hg0 : Y0.heap.size = g0 at *
                  clear hY1 hg0 Y0
                  (refine Sx.wpM_one 13 _ (by simp only [List.getElem?_toArray, List.getElem?_cons_zero, List.getElem?_cons_succ]; rfl) (by kernel_rfl) (by rfl) ?_)
                  intro Y2 hu2 hs2
                  have hr2 := owns_below hr1.out hu2
                  have hb2 := hb0.below hu2 hb0.lt
                  refine lupon_append_own _ _ _ 25 rfl X2.heap.size 3 i0 _ 1 8 underL I0.out I1.out I2.out I3.out rfl (by decide) _ d _ (by rfl) hr2 ⟨g0, 0, none⟩ 1 1 [.int .i64 (z + (Ja : Int))] (by rfl) rfl (fun j u hj => World.news_of_block hb2 j u hj) (one1 _) (by unfold maxLen; omega) (by omega) hs2.size ?_
                  intro v9 w9 ho9 hg9
                  have hs9 : Below X2.heap.size X2 w9 := hs2.grown hg9 hs2.size (fun r hr => (World.ownsRow.lt hr2 r hr).1)
                  refine ⟨hs9, ?_⟩
                  rw [← Hf9.out] at ho9
                  have Ho9 := hid ho9
                  clear ho9 hr2 hb2 hg9 hs2 hu2 hr1 hb0 hs1
                  simp only [Act.put, List.setIfInBounds_toArray, List.set_cons_zero, List.set_cons_succ]
                  (refine Sx.wpM_one 14 _ (by simp only [List.getElem?_toArray, List.getElem?_cons_zero, List.getElem?_cons_succ]; rfl) (by kernel_rfl) (by rfl) ?_)
                  intro Y3 hu3 hs3
                  (go_simp; simp only [LUpon, Act.put]; try simp only [List.setIfInBounds_toArray, List.set_cons_zero, List.set_cons_succ])
                  refine ⟨hs3, ?_⟩
                  have Ho3 := hid (owns_below Ho9.out hu3)
                  refine Sx.wpM_end (by kernel_rfl) ?_
                  intro Y4 hu4 hs4
                  have Ho4 := hid (owns_below Ho3.out hu4)
                  clear Ho9 Ho3 hs9 hu3 hs3 hu4
                  go_wp2
                  exact ⟨⟨d + 1, by omega, by go_num, Ho4, hs4⟩, by simp [intOf]; omega⟩
                · have hd3i : ¬ (d : Int) < m3 := by omega
                  have hdm : d = m3 := by omega
                  have hrw : Hid (W0.ownsRow X2.heap.size 3 1 u7 m3 ((shL Ja x).flatMap cI)) := hid (by have h9 : x.take d = x := List.take_of_length_le (by have := hxlen.out; omega); have := hrow.out; rw [h9, hdm] at this; exact this)
                  clear hrow hd3 hd hdm
                  have hN2 := hid (hN.out.below hlB)
                  obtain ⟨A5, c5, rfl, hr5, hc5, -⟩ := own_slb hrw.out
                  have hr5 : InS W0 W0.heap.size A5 m3 (shL Ja x) := hr5
                  have Hr5 := hid hr5
                  have hA5 : Hid (∀ b off, A5 = some ⟨b, off, none⟩ → X2.heap.size ≤ b) := hid (fun b off e => by subst e; exact (World.ownsRow.lt hrw.out b rfl).1)
                  clear hr5 hrw hN
                  have hownX : ∀ r, (Value.slice A8 (n + k) c8).ownBlock = some r → XA.heap.size ≤ r ∧ r < X2.heap.size := fun r hr => by
                    have h1 := newLw_own HN0.out r hr
                    exact ⟨h1.1, h1.2.1⟩
                  have hneT : (Value.slice A8 (n + k) c8).ownBlock ≠ some T := newLw_ne hN2.out bT (by decide)
                  have HownX := hid hownX
                  have HneT := hid hneT
                  clear hownX hneT
                  have hszA := hlA.size
                  have hszB := hlB.size
                  have hbA : Below W0.heap.size W0 (W0.alloc (.cells #[.slice A5 m3 c5] 25)) := (Below.refl _ _).alloc (Nat.le_refl _) _
                  have hN3 := hid (hN2.out.below hbA)
                  have hI3 : Hid (InS (W0.alloc (.cells #[.slice A5 m3 c5] 25)) (W0.alloc (.cells #[.slice A5 m3 c5] 25)).heap.size A5 m3 (shL Ja x)) := hid (Hr5.out.below hbA hbA.size)
                  have bT3 := hid (bT.alloc (.cells #[.slice A5 m3 c5] 25))
                  have hl4 := hlA.alloc hlA.size (.cells #[.slice A5 m3 c5] 25)
                  have hlk : (la ++ (lb.take k).map (shL Ja)).length ≤ 1000000 := by have := la1.out; simp; omega
                  have hszC : XA.heap.size ≤ (W0.alloc (.cells #[.slice A5 m3 c5] 25)).heap.size := by simp; omega
                  have Hlen9 : Hid ((la ++ (lb.take k).map (shL Ja) ++ [shL Ja x]).length = n + (k + 1)) := hid (by have h1 := la1.out; have h2 := la2.out; simp; omega)
                  clear hbA
                  go_wp2_with (at_builtin; refine newLw_append rfl (by rfl) _ _ rfl XA.heap.size _ _ _ rfl hN3.out W0.heap.size A5 m3 c5 (shL Ja x) rfl (Blk.new' rfl) hI3.out (fun hm b9 off9 e9 => ⟨fun e10 => by have h1 := hA5.out b9 off9 e9; have h2 := HownX.out b9 e10; omega, by have h1 := hA5.out b9 off9 e9; omega⟩) hlk hszC ?_; intro v8 w4 hn4 hg4 _; have hb4 : Below XA.heap.size XA w4 := hl4.grown hg4 hszC (fun r hr => (HownX.out r hr).1); have bT4 := bT3.out.grown hg4 (fun e => HneT.out e.symm); obtain ⟨A9, c9, e9, -⟩ := lis_of_lw hn4; rw [Hlen9.out] at e9; subst e9; have t40 := bT4.cell 0; have t41 := bT4.cell 1; have t42 := bT4.lt; have t43 := bT4.frozen 1)
                  clear t40 t41 t42 t43
                  refine ⟨⟨k + 1, by omega, by go_num, ⟨A9, c9, hid ?_, hid ?_⟩, hb4.setCell hBT _⟩, by simp [intOf]; omega⟩
                  · rw [htk.out, List.map_append, ← List.append_assoc]
                    exact newLw_putR (fun b hb => hb) hn4 bT4
                  · exact bT4.set_ 1 _
            · have hlti : ¬ (k : Int) < n2 := by omega
              have htk : lb.take k = lb := List.take_of_length_le (by rw [la2.out]; omega)
              have hX2 := lis_of_lw hN.out
              rw [htk, hXe.out] at hX2
              obtain ⟨A9, c9, e9, hX9⟩ := hX2
              have hlm : X.length = n + k := by have h1 := la1.out; have h2 := la2.out; rw [← hXe.out]; simp; omega
              rw [hlm] at e9 hX9
              cases e9
              obtain ⟨nx, hnx⟩ : ∃ v, n + k = v := ⟨_, rfl⟩
              rw [hnx] at hX9 bT pT0 pT1
              have hnx9 : nx ≤ 20 := by omega
              have HX9 := hid hX9
              clear hX9 hN htk hlm hk hlt hnx
              go_wp2_with (fail)
              refine (few_any A1 n c1 la Ja _ (HL.out.below (by repeat' (first | with_reducible assumption | with_reducible exact Below.refl _ _ | refine Below.alloc ?_ ?_ _ | refine Below.setCell ?_ ?_ _ | refine Below.drew ?_ | refine below_drewN ?_ _ | (simp; done) | (simp; omega) | omega)) (by first | (simp; done) | (simp; omega) | omega)) (by omega) K1.out hb1.out).mono ?_
              rw [HN1.out, Hi1.out, F2.out]
              rintro e W1 ⟨rfl, hb⟩
              have hst : Below W0.heap.size W0 W1 := Below.trans (by repeat' (first | with_reducible assumption | with_reducible exact Below.refl _ _ | refine Below.alloc ?_ ?_ _ | refine Below.setCell ?_ ?_ _ | refine Below.drew ?_ | refine below_drewN ?_ _ | (simp; done) | (simp; omega) | omega)) (hb.mono (by first | (simp; done) | (simp; omega) | omega))
              replace hbel := hbel.trans (hst.mono hsz)
              replace hsz := hbel.size
              replace hlA := hlA.trans (hst.mono hlA.size)
              replace bA := bA.below hst bA.lt
              clear pA0 pA1 lA
              have pA0 := bA.cell 0
              have pA1 := bA.cell 1
              have lA := bA.lt
              replace bB := bB.below hst bB.lt
              clear pB0 pB1 lB
              have pB0 := bB.cell 0
              have pB1 := bB.cell 1
              have lB := bB.lt
              replace bT := bT.below hst bT.lt
              clear pT0 pT1 lT
              have pT0 := bT.cell 0
              have pT1 := bT.cell 1
              have lT := bT.lt
              replace HL := hid (HL.out.below hst hst.size)
              replace HM := hid (HM.out.below hst hst.size)
              replace HX9 := hid (HX9.out.below hst hst.size)
              clear hb hst
              try clear hWb
              obtain ⟨W0, rfl⟩ : ∃ W0 : World, W0 = W1 := ⟨_, rfl⟩
              go_wp2_with (fail)
              refine (few_any A2 n2 c2 lb Jb _ (HM.out.below (by repeat' (first | with_reducible assumption | with_reducible exact Below.refl _ _ | refine Below.alloc ?_ ?_ _ | refine Below.setCell ?_ ?_ _ | refine Below.drew ?_ | refine below_drewN ?_ _ | (simp; done) | (simp; omega) | omega)) (by first | (simp; done) | (simp; omega) | omega)) (by omega) K2.out hb2.out).mono ?_
              rw [HN2.out, Hi2.out, F3.out]
              rintro e W1 ⟨rfl, hb⟩
              have hst : Below W0.heap.size W0 W1 := Below.trans (by repeat' (first | with_reducible assumption | with_reducible exact Below.refl _ _ | refine Below.alloc ?_ ?_ _ | refine Below.setCell ?_ ?_ _ | refine Below.drew ?_ | refine below_drewN ?_ _ | (simp; done) | (simp; omega) | omega)) (hb.mono (by first | (simp; done) | (simp; omega) | omega))
              replace hbel := hbel.trans (hst.mono hsz)
              replace hsz := hbel.size
              replace hlA := hlA.trans (hst.mono hlA.size)
              replace bA := bA.below hst bA.lt
              clear pA0 pA1 lA
              have pA0 := bA.cell 0
              have pA1 := bA.cell 1
              have lA := bA.lt
              replace bB := bB.below hst bB.lt
              clear pB0 pB1 lB
              have pB0 := bB.cell 0
              have pB1 := bB.cell 1
              have lB := bB.lt
              replace bT := bT.below hst bT.lt
              clear pT0 pT1 lT
              have pT0 := bT.cell 0
              have pT1 := bT.cell 1
              have lT := bT.lt
              replace HL := hid (HL.out.below hst hst.size)
              replace HM := hid (HM.out.below hst hst.size)
              replace HX9 := hid (HX9.out.below hst hst.size)
              clear hb hst
              try clear hWb
              obtain ⟨W0, rfl⟩ : ∃ W0 : World, W0 = W1 := ⟨_, rfl⟩
              go_wp2_with (fail)
              refine (few_any A8 nx c8 X J _ (HX9.out.below (by repeat' (first | with_reducible assumption | with_reducible exact Below.refl _ _ | refine Below.alloc ?_ ?_ _ | refine Below.setCell ?_ ?_ _ | refine Below.drew ?_ | refine below_drewN ?_ _ | (simp; done) | (simp; omega) | omega)) (by first | (simp; done) | (simp; omega) | omega)) (by omega) KX.out hb3.out).mono ?_
              rw [HN3.out, Hi3.out, F4.out]
              rintro e W1 ⟨rfl, hb⟩
              have hst : Below W0.heap.size W0 W1 := Below.trans (by repeat' (first | with_reducible assumption | with_reducible exact Below.refl _ _ | refine Below.alloc ?_ ?_ _ | refine Below.setCell ?_ ?_ _ | refine Below.drew ?_ | refine below_drewN ?_ _ | (simp; done) | (simp; omega) | omega)) (hb.mono (by first | (simp; done) | (simp; omega) | omega))
              replace hbel := hbel.trans (hst.mono hsz)
              replace hsz := hbel.size
              replace hlA := hlA.trans (hst.mono hlA.size)
              replace bA := bA.below hst bA.lt
              clear pA0 pA1 lA
              have pA0 := bA.cell 0
              have pA1 := bA.cell 1
              have lA := bA.lt
              replace bB := bB.below hst bB.lt
              clear pB0 pB1 lB
              have pB0 := bB.cell 0
              have pB1 := bB.cell 1
              have lB := bB.lt
              replace bT := bT.below hst bT.lt
              clear pT0 pT1 lT
              have pT0 := bT.cell 0
              have pT1 := bT.cell 1
              have lT := bT.lt
              replace HL := hid (HL.out.below hst hst.size)
              replace HM := hid (HM.out.below hst hst.size)
              replace HX9 := hid (HX9.out.below hst hst.size)
              clear hb hst
              try clear hWb
              obtain ⟨W0, rfl⟩ : ∃ W0 : World, W0 = W1 := ⟨_, rfl⟩
              go_wp2_with (fail)
              refine (allL_any A1 n c1 la Ja _ (HL.out.below (by repeat' (first | with_reducible assumption | with_reducible exact Below.refl _ _ | refine Below.alloc ?_ ?_ _ | refine Below.setCell ?_ ?_ _ | refine Below.drew ?_ | refine below_drewN ?_ _ | (simp; done) | (simp; omega) | omega)) (by first | (simp; done) | (simp; omega) | omega)) (by omega) K1.out).mono ?_
              rw [hak1.out, Hal1.out]
              rintro e W1 ⟨D1, d1, x1, rfl, h, hb⟩
              have hst : Below W0.heap.size W0 W1 := Below.trans (by repeat' (first | with_reducible assumption | with_reducible exact Below.refl _ _ | refine Below.alloc ?_ ?_ _ | refine Below.setCell ?_ ?_ _ | refine Below.drew ?_ | refine below_drewN ?_ _ | (simp; done) | (simp; omega) | omega)) (hb.mono (by first | (simp; done) | (simp; omega) | omega))
              replace hbel := hbel.trans (hst.mono hsz)
              replace hsz := hbel.size
              replace hlA := hlA.trans (hst.mono hlA.size)
              replace bA := bA.below hst bA.lt
              clear pA0 pA1 lA
              have pA0 := bA.cell 0
              have pA1 := bA.cell 1
              have lA := bA.lt
              replace bB := bB.below hst bB.lt
              clear pB0 pB1 lB
              have pB0 := bB.cell 0
              have pB1 := bB.cell 1
              have lB := bB.lt
              replace bT := bT.below hst bT.lt
              clear pT0 pT1 lT
              have pT0 := bT.cell 0
              have pT1 := bT.cell 1
              have lT := bT.lt
              replace HL := hid (HL.out.below hst hst.size)
              replace HM := hid (HM.out.below hst hst.size)
              replace HX9 := hid (HX9.out.below hst hst.size)
              have HD1 := hid h
              clear h
              clear hb hst
              try clear hWb
              obtain ⟨W0, rfl⟩ : ∃ W0 : World, W0 = W1 := ⟨_, rfl⟩
              go_wp2_with (fail)
              refine (allL_any A2 n2 c2 lb Jb _ (HM.out.below (by repeat' (first | with_reducible assumption | with_reducible exact Below.refl _ _ | refine Below.alloc ?_ ?_ _ | refine Below.setCell ?_ ?_ _ | refine Below.drew ?_ | refine below_drewN ?_ _ | (simp; done) | (simp; omega) | omega)) (by first | (simp; done) | (simp; omega) | omega)) (by omega) K2.out).mono ?_
              rw [hak2.out, Hal2.out]
              rintro e W1 ⟨D2, d2, x2, rfl, h, hb⟩
              have hst : Below W0.heap.size W0 W1 := Below.trans (by repeat' (first | with_reducible assumption | with_reducible exact Below.refl _ _ | refine Below.alloc ?_ ?_ _ | refine Below.setCell ?_ ?_ _ | refine Below.drew ?_ | refine below_drewN ?_ _ | (simp; done) | (simp; omega) | omega)) (hb.mono (by first | (simp; done) | (simp; omega) | omega))
              replace hbel := hbel.trans (hst.mono hsz)
              replace hsz := hbel.size
              replace hlA := hlA.trans (hst.mono hlA.size)
              replace bA := bA.below hst bA.lt
              clear pA0 pA1 lA
              have pA0 := bA.cell 0
              have pA1 := bA.cell 1
              have lA := bA.lt
              replace bB := bB.below hst bB.lt
              clear pB0 pB1 lB
              have pB0 := bB.cell 0
              have pB1 := bB.cell 1
              have lB := bB.lt
              replace bT := bT.below hst bT.lt
              clear pT0 pT1 lT
              have pT0 := bT.cell 0
              have pT1 := bT.cell 1
              have lT := bT.lt
              replace HL := hid (HL.out.below hst hst.size)
              replace HM := hid (HM.out.below hst hst.size)
              replace HX9 := hid (HX9.out.below hst hst.size)
              replace HD1 := hid (HD1.out.below hst hst.size)
              have HD2 := hid h
              clear h
              clear hb hst
              try clear hWb
              obtain ⟨W0, rfl⟩ : ∃ W0 : World, W0 = W1 := ⟨_, rfl⟩
              go_wp2_with (fail)
              refine (allL_any A8 nx c8 X J _ (HX9.out.below (by repeat' (first | with_reducible assumption | with_reducible exact Below.refl _ _ | refine Below.alloc ?_ ?_ _ | refine Below.setCell ?_ ?_ _ | refine Below.drew ?_ | refine below_drewN ?_ _ | (simp; done) | (simp; omega) | omega)) (by first | (simp; done) | (simp; omega) | omega)) (by omega) KX.out).mono ?_
              rw [hak3.out, Hal3.out]
              rintro e W1 ⟨D3, d3, x3, rfl, h, hb⟩
              have hst : Below W0.heap.size W0 W1 := Below.trans (by repeat' (first | with_reducible assumption | with_reducible exact Below.refl _ _ | refine Below.alloc ?_ ?_ _ | refine Below.setCell ?_ ?_ _ | refine Below.drew ?_ | refine below_drewN ?_ _ | (simp; done) | (simp; omega) | omega)) (hb.mono (by first | (simp; done) | (simp; omega) | omega))
              replace hbel := hbel.trans (hst.mono hsz)
              replace hsz := hbel.size
              replace hlA := hlA.trans (hst.mono hlA.size)
              replace bA := bA.below hst bA.lt
              clear pA0 pA1 lA
              have pA0 := bA.cell 0
              have pA1 := bA.cell 1
              have lA := bA.lt
              replace bB := bB.below hst bB.lt
              clear pB0 pB1 lB
              have pB0 := bB.cell 0
              have pB1 := bB.cell 1
              have lB := bB.lt
              replace bT := bT.below hst bT.lt
              clear pT0 pT1 lT
              have pT0 := bT.cell 0
              have pT1 := bT.cell 1
              have lT := bT.lt
              replace HL := hid (HL.out.below hst hst.size)
              replace HM := hid (HM.out.below hst hst.size)
              replace HX9 := hid (HX9.out.below hst hst.size)
              replace HD1 := hid (HD1.out.below hst hst.size)
              replace HD2 := hid (HD2.out.below hst hst.size)
              have HD3 := hid h
              clear h
              clear hb hst
              try clear hWb
              obtain ⟨W0, rfl⟩ : ∃ W0 : World, W0 = W1 := ⟨_, rfl⟩
              go_wp2_with (fail)
              refine (apartF_any A1 n c1 la Ja _ (HL.out.below (by repeat' (first | with_reducible assumption | with_reducible exact Below.refl _ _ | refine Below.alloc ?_ ?_ _ | refine Below.setCell ?_ ?_ _ | refine Below.drew ?_ | refine below_drewN ?_ _ | (simp; done) | (simp; omega) | omega)) (by first | (simp; done) | (simp; omega) | omega)) (by omega) K1.out).mono ?_
              rw [HP1.out, Hc1.out]
              rintro e W1 ⟨E1, e1, rfl, h, hb⟩
              have hst : Below W0.heap.size W0 W1 := Below.trans (by repeat' (first | with_reducible assumption | with_reducible exact Below.refl _ _ | refine Below.alloc ?_ ?_ _ | refine Below.setCell ?_ ?_ _ | refine Below.drew ?_ | refine below_drewN ?_ _ | (simp; done) | (simp; omega) | omega)) (hb.mono (by first | (simp; done) | (simp; omega) | omega))
              replace hbel := hbel.trans (hst.mono hsz)
              replace hsz := hbel.size
              replace hlA := hlA.trans (hst.mono hlA.size)
              replace bA := bA.below hst bA.lt
              clear pA0 pA1 lA
              have pA0 := bA.cell 0
              have pA1 := bA.cell 1
              have lA := bA.lt
              replace bB := bB.below hst bB.lt
              clear pB0 pB1 lB
              have pB0 := bB.cell 0
              have pB1 := bB.cell 1
              have lB := bB.lt
              replace bT := bT.below hst bT.lt
              clear pT0 pT1 lT
              have pT0 := bT.cell 0
              have pT1 := bT.cell 1
              have lT := bT.lt
              replace HL := hid (HL.out.below hst hst.size)
              replace HM := hid (HM.out.below hst hst.size)
              replace HX9 := hid (HX9.out.below hst hst.size)
              replace HD1 := hid (HD1.out.below hst hst.size)
              replace HD2 := hid (HD2.out.below hst hst.size)
              replace HD3 := hid (HD3.out.below hst hst.size)
              have HE1 := hid h
              clear h
              clear hb hst
              try clear hWb
              obtain ⟨W0, rfl⟩ : ∃ W0 : World, W0 = W1 := ⟨_, rfl⟩
              go_wp2_with (fail)
              refine (apartF_any A2 n2 c2 lb Jb _ (HM.out.below (by repeat' (first | with_reducible assumption | with_reducible exact Below.refl _ _ | refine Below.alloc ?_ ?_ _ | refine Below.setCell ?_ ?_ _ | refine Below.drew ?_ | refine below_drewN ?_ _ | (simp; done) | (simp; omega) | omega)) (by first | (simp; done) | (simp; omega) | omega)) (by omega) K2.out).mono ?_
              rw [HP2.out, Hc2.out]
              rintro e W1 ⟨E2, e2, rfl, h, hb⟩
              have hst : Below W0.heap.size W0 W1 := Below.trans (by repeat' (first | with_reducible assumption | with_reducible exact Below.refl _ _ | refine Below.alloc ?_ ?_ _ | refine Below.setCell ?_ ?_ _ | refine Below.drew ?_ | refine below_drewN ?_ _ | (simp; done) | (simp; omega) | omega)) (hb.mono (by first | (simp; done) | (simp; omega) | omega))
              replace hbel := hbel.trans (hst.mono hsz)
              replace hsz := hbel.size
              replace hlA := hlA.trans (hst.mono hlA.size)
              replace bA := bA.below hst bA.lt
              clear pA0 pA1 lA
              have pA0 := bA.cell 0
              have pA1 := bA.cell 1
              have lA := bA.lt
              replace bB := bB.below hst bB.lt
              clear pB0 pB1 lB
              have pB0 := bB.cell 0
              have pB1 := bB.cell 1
              have lB := bB.lt
              replace bT := bT.below hst bT.lt
              clear pT0 pT1 lT
              have pT0 := bT.cell 0
              have pT1 := bT.cell 1
              have lT := bT.lt
              replace HL := hid (HL.out.below hst hst.size)
              replace HM := hid (HM.out.below hst hst.size)
              replace HX9 := hid (HX9.out.below hst hst.size)
              replace HD1 := hid (HD1.out.below hst hst.size)
              replace HD2 := hid (HD2.out.below hst hst.size)
              replace HD3 := hid (HD3.out.below hst hst.size)
              replace HE1 := hid (HE1.out.below hst hst.size)
              have HE2 := hid h
              clear h
              clear hb hst
              try clear hWb
              obtain ⟨W0, rfl⟩ : ∃ W0 : World, W0 = W1 := ⟨_, rfl⟩
              go_wp2_with (fail)
              refine (apartF_any A8 nx c8 X J _ (HX9.out.below (by repeat' (first | with_reducible assumption | with_reducible exact Below.refl _ _ | refine Below.alloc ?_ ?_ _ | refine Below.setCell ?_ ?_ _ | refine Below.drew ?_ | refine below_drewN ?_ _ | (simp; done) | (simp; omega) | omega)) (by first | (simp; done) | (simp; omega) | omega)) (by omega) KX.out).mono ?_
              rw [HP3.out, Hc3.out]
              rintro e W1 ⟨E3, e3, rfl, h, hb⟩
              have hst : Below W0.heap.size W0 W1 := Below.trans (by repeat' (first | with_reducible assumption | with_reducible exact Below.refl _ _ | refine Below.alloc ?_ ?_ _ | refine Below.setCell ?_ ?_ _ | refine Below.drew ?_ | refine below_drewN ?_ _ | (simp; done) | (simp; omega) | omega)) (hb.mono (by first | (simp; done) | (simp; omega) | omega))
              replace hbel := hbel.trans (hst.mono hsz)
              replace hsz := hbel.size
              replace hlA := hlA.trans (hst.mono hlA.size)
              replace bA := bA.below hst bA.lt
              clear pA0 pA1 lA
              have pA0 := bA.cell 0
              have pA1 := bA.cell 1
              have lA := bA.lt
              replace bB := bB.below hst bB.lt
              clear pB0 pB1 lB
              have pB0 := bB.cell 0
              have pB1 := bB.cell 1
              have lB := bB.lt
              replace bT := bT.below hst bT.lt
              clear pT0 pT1 lT
              have pT0 := bT.cell 0
              have pT1 := bT.cell 1
              have lT := bT.lt
              replace HL := hid (HL.out.below hst hst.size)
              replace HM := hid (HM.out.below hst hst.size)
              replace HX9 := hid (HX9.out.below hst hst.size)
              replace HD1 := hid (HD1.out.below hst hst.size)
              replace HD2 := hid (HD2.out.below hst hst.size)
              replace HD3 := hid (HD3.out.below hst hst.size)
              replace HE1 := hid (HE1.out.below hst hst.size)
              replace HE2 := hid (HE2.out.below hst hst.size)
              have HE3 := hid h
              clear h
              clear hb hst
              try clear hWb
              obtain ⟨W0, rfl⟩ : ∃ W0 : World, W0 = W1 := ⟨_, rfl⟩
              have hd1 : d1 ≤ 70 := by rw [← HD1.out.1]; exact Hw1.out
              have hd2 : d2 ≤ 70 := by rw [← HD2.out.1]; exact Hw2.out
              have hdm : d1 * d2 ≤ 70 * 70 := Nat.mul_le_mul hd1 hd2
              have hd3 : Hid (d3 = d1 * d2) := hid (by rw [← HD3.out.1, ← HD1.out.1, ← HD2.out.1]; exact F7.out)
              have he1 : e1 ≤ 10 := by rw [← HE1.out.len]; exact Hm1.out
              have he2 : e2 ≤ 10 := by rw [← HE2.out.len]; exact Hm2.out
              have he3 : Hid (e3 = e1 + e2) := hid (by rw [← HE3.out.len, ← HE1.out.len, ← HE2.out.len]; exact F8.out)
              have zm : (d1 : Int) * (d2 : Int) = (d3 : Int) := by rw [hd3.out]; push_cast; rfl
              have zm2 : IntKind.i64.wrap (d3 : Int) = (d3 : Int) := IntWalk.i64_in _ (by have := hd3.out; omega)
              have ze : (e1 : Int) + (e2 : Int) = (e3 : Int) := by have := he3.out; omega
              have ze2 : IntKind.i64.wrap (e3 : Int) = (e3 : Int) := IntWalk.i64_in _ (by have := he3.out; omega)
              clear hdm
              cases i1
              · skip
                cases i2
                · skip
                  go_wp2_with (fail)
                  refine (works_any _).mono ?_
                  rintro e W1 ⟨rfl, hb⟩
                  have hst : Below W0.heap.size W0 W1 := Below.trans (by repeat' (first | with_reducible assumption | with_reducible exact Below.refl _ _ | refine Below.alloc ?_ ?_ _ | refine Below.setCell ?_ ?_ _ | refine Below.drew ?_ | refine below_drewN ?_ _ | (simp; done) | (simp; omega) | omega)) (hb.mono (by first | (simp; done) | (simp; omega) | omega))
                  replace hbel := hbel.trans (hst.mono hsz)
                  replace hsz := hbel.size
                  replace hlA := hlA.trans (hst.mono hlA.size)
                  replace bA := bA.below hst bA.lt
                  clear pA0 pA1 lA
                  have pA0 := bA.cell 0
                  have pA1 := bA.cell 1
                  have lA := bA.lt
                  replace bB := bB.below hst bB.lt
                  clear pB0 pB1 lB
                  have pB0 := bB.cell 0
                  have pB1 := bB.cell 1
                  have lB := bB.lt
                  replace bT := bT.below hst bT.lt
                  clear pT0 pT1 lT
                  have pT0 := bT.cell 0
                  have pT1 := bT.cell 1
                  have lT := bT.lt
                  replace HL := hid (HL.out.below hst hst.size)
                  replace HM := hid (HM.out.below hst hst.size)
                  replace HX9 := hid (HX9.out.below hst hst.size)
                  replace HD1 := hid (HD1.out.below hst hst.size)
                  replace HD2 := hid (HD2.out.below hst hst.size)
                  replace HD3 := hid (HD3.out.below hst hst.size)
                  replace HE1 := hid (HE1.out.below hst hst.size)
                  replace HE2 := hid (HE2.out.below hst hst.size)
                  replace HE3 := hid (HE3.out.below hst hst.size)
                  clear hb hst
                  try clear hWb
                  obtain ⟨W0, rfl⟩ : ∃ W0 : World, W0 = W1 := ⟨_, rfl⟩
                  go_wp2
                  go_ret
                  exact ⟨rfl, hbel⟩
                · skip
                  go_wp2_with (fail)
                  refine (works_any _).mono ?_
                  rintro e W1 ⟨rfl, hb⟩
                  have hst : Below W0.heap.size W0 W1 := Below.trans (by repeat' (first | with_reducible assumption | with_reducible exact Below.refl _ _ | refine Below.alloc ?_ ?_ _ | refine Below.setCell ?_ ?_ _ | refine Below.drew ?_ | refine below_drewN ?_ _ | (simp; done) | (simp; omega) | omega)) (hb.mono (by first | (simp; done) | (simp; omega) | omega))
                  replace hbel := hbel.trans (hst.mono hsz)
                  replace hsz := hbel.size
                  replace hlA := hlA.trans (hst.mono hlA.size)
                  replace bA := bA.below hst bA.lt
                  clear pA0 pA1 lA
                  have pA0 := bA.cell 0
                  have pA1 := bA.cell 1
                  have lA := bA.lt
                  replace bB := bB.below hst bB.lt
                  clear pB0 pB1 lB
                  have pB0 := bB.cell 0
                  have pB1 := bB.cell 1
                  have lB := bB.lt
                  replace bT := bT.below hst bT.lt
                  clear pT0 pT1 lT
                  have pT0 := bT.cell 0
                  have pT1 := bT.cell 1
                  have lT := bT.lt
                  replace HL := hid (HL.out.below hst hst.size)
                  replace HM := hid (HM.out.below hst hst.size)
                  replace HX9 := hid (HX9.out.below hst hst.size)
                  replace HD1 := hid (HD1.out.below hst hst.size)
                  replace HD2 := hid (HD2.out.below hst hst.size)
                  replace HD3 := hid (HD3.out.below hst hst.size)
                  replace HE1 := hid (HE1.out.below hst hst.size)
                  replace HE2 := hid (HE2.out.below hst hst.size)
                  replace HE3 := hid (HE3.out.below hst hst.size)
                  clear hb hst
                  try clear hWb
                  obtain ⟨W0, rfl⟩ : ∃ W0 : World, W0 = W1 := ⟨_, rfl⟩
                  go_wp2
                  go_ret
                  exact ⟨rfl, hbel⟩
              · skip
                cases i2
                · skip
                  go_wp2_with (fail)
                  refine (works_any _).mono ?_
                  rintro e W1 ⟨rfl, hb⟩
                  have hst : Below W0.heap.size W0 W1 := Below.trans (by repeat' (first | with_reducible assumption | with_reducible exact Below.refl _ _ | refine Below.alloc ?_ ?_ _ | refine Below.setCell ?_ ?_ _ | refine Below.drew ?_ | refine below_drewN ?_ _ | (simp; done) | (simp; omega) | omega)) (hb.mono (by first | (simp; done) | (simp; omega) | omega))
                  replace hbel := hbel.trans (hst.mono hsz)
                  replace hsz := hbel.size
                  replace hlA := hlA.trans (hst.mono hlA.size)
                  replace bA := bA.below hst bA.lt
                  clear pA0 pA1 lA
                  have pA0 := bA.cell 0
                  have pA1 := bA.cell 1
                  have lA := bA.lt
                  replace bB := bB.below hst bB.lt
                  clear pB0 pB1 lB
                  have pB0 := bB.cell 0
                  have pB1 := bB.cell 1
                  have lB := bB.lt
                  replace bT := bT.below hst bT.lt
                  clear pT0 pT1 lT
                  have pT0 := bT.cell 0
                  have pT1 := bT.cell 1
                  have lT := bT.lt
                  replace HL := hid (HL.out.below hst hst.size)
                  replace HM := hid (HM.out.below hst hst.size)
                  replace HX9 := hid (HX9.out.below hst hst.size)
                  replace HD1 := hid (HD1.out.below hst hst.size)
                  replace HD2 := hid (HD2.out.below hst hst.size)
                  replace HD3 := hid (HD3.out.below hst hst.size)
                  replace HE1 := hid (HE1.out.below hst hst.size)
                  replace HE2 := hid (HE2.out.below hst hst.size)
                  replace HE3 := hid (HE3.out.below hst hst.size)
                  clear hb hst
                  try clear hWb
                  obtain ⟨W0, rfl⟩ : ∃ W0 : World, W0 = W1 := ⟨_, rfl⟩
                  go_wp2
                  go_ret
                  exact ⟨rfl, hbel⟩
                · skip
                  have g6 := F6.out rfl
                  have zf : N1 + N2 = N3 := g6.symm
                  have zf2 : IntKind.i64.wrap N3 = N3 := IntWalk.i64_in _ (by omega)
                  clear g6
                  go_wp2_with (fail)
                  refine (works_any _).mono ?_
                  rintro e W1 ⟨rfl, hb⟩
                  have hst : Below W0.heap.size W0 W1 := Below.trans (by repeat' (first | with_reducible assumption | with_reducible exact Below.refl _ _ | refine Below.alloc ?_ ?_ _ | refine Below.setCell ?_ ?_ _ | refine Below.drew ?_ | refine below_drewN ?_ _ | (simp; done) | (simp; omega) | omega)) (hb.mono (by first | (simp; done) | (simp; omega) | omega))
                  replace hbel := hbel.trans (hst.mono hsz)
                  replace hsz := hbel.size
                  replace hlA := hlA.trans (hst.mono hlA.size)
                  replace bA := bA.below hst bA.lt
                  clear pA0 pA1 lA
                  have pA0 := bA.cell 0
                  have pA1 := bA.cell 1
                  have lA := bA.lt
                  replace bB := bB.below hst bB.lt
                  clear pB0 pB1 lB
                  have pB0 := bB.cell 0
                  have pB1 := bB.cell 1
                  have lB := bB.lt
                  replace bT := bT.below hst bT.lt
                  clear pT0 pT1 lT
                  have pT0 := bT.cell 0
                  have pT1 := bT.cell 1
                  have lT := bT.lt
                  replace HL := hid (HL.out.below hst hst.size)
                  replace HM := hid (HM.out.below hst hst.size)
                  replace HX9 := hid (HX9.out.below hst hst.size)
                  replace HD1 := hid (HD1.out.below hst hst.size)
                  replace HD2 := hid (HD2.out.below hst hst.size)
                  replace HD3 := hid (HD3.out.below hst hst.size)
                  replace HE1 := hid (HE1.out.below hst hst.size)
                  replace HE2 := hid (HE2.out.below hst hst.size)
                  replace HE3 := hid (HE3.out.below hst hst.size)
                  clear hb hst
                  try clear hWb
                  obtain ⟨W0, rfl⟩ : ∃ W0 : World, W0 = W1 := ⟨_, rfl⟩
                  go_wp2
                  go_ret
                  exact ⟨rfl, hbel⟩

section
open Go.ChangeShapes Go.WideShapes Go.ChangeAt Go.RowKit
set_option maxRecDepth 100000 in
theorem blameApart_lifted (os : Os) (started : os.Started) (H : Type) (enc : TypeId × Value → H) :
    ReturnsInHanded {} Tryz.checked os 12 .any (Rows.blameApartSpec.pre6 enc Tryz.prog Tryz.f12 Rows.blameApartRow.domain false) (Rows.blameApartSpec.post enc Tryz.prog Tryz.f12 false true false false) := by
  refine returnsInHanded_of_change (C := Tryz.checked) ownKx started (by kernel_rfl) Tryz.func12
    (ChangeSpec.witness6 (enc := enc) (C := Tryz.checked) false ⟨#[], #[.agg #[.int .i64 0, .slice none 0 0], .agg #[.int .i64 0, .slice none 0 0]], []⟩ 8 (by kernel_rfl) (by kernel_rfl) (by kernel_rfl) (by kernel_rfl)) ?_
  intro W base args ds gs before hval0 hW hcnd _
  have hval : ∀ (j : Nat) t v, Tryz.f12.params[j]? = some t → args[j]? = some v → Value.okWide Tryz.prog W .any base t v := hval0
  have hW' := hW
  obtain ⟨p, q, hA0, hV, rfl, hfz, hnd⟩ := hW
  have hA : DataW.TrodAll enc Tryz.prog W 0 (fun _ => true) true Tryz.f12.params.toList args.toList ds p := hA0
  have hlt : ∀ x ∈ p, x.block < W.heap.size := fun x hx => hW'.lt x (List.mem_append_left _ hx)
  have hAll : ∀ W', Below W.heap.size W W' → DataW.TrodAll enc Tryz.prog W' 0 (fun b => decide (b < W.heap.size)) true Tryz.f12.params.toList args.toList ds p := fun W' hb => all_below laidOut hb (readable_of (by kernel_rfl)) hlt hA
  rw [Tryz.params12] at hA hval
  obtain ⟨v0, v1, d0, d1, p0, p1, rfl, rfl, rfl, h0, h1⟩ := trodAll_two hA
  obtain ⟨rfl, rfl⟩ := trodVars_none hV
  clear hA0 hval0
  obtain ⟨I0, A0, n0, c0, rfl, wI0, hc0, hN0, l0, hl0, hr0⟩ := open_book (hval 0 24 v0 rfl rfl) h0
  obtain ⟨I1, A1, n1, c1, rfl, wI1, hc1, hN1, l1, hl1, hr1⟩ := open_book (hval 1 24 v1 rfl rfl) h1
  refine (blameApart_walk W I0 A0 n0 c0 l0 I1 A1 n1 c1 l1 hr0 hr1 hN0).mono fun e W' ⟨he, hb⟩ => ?_
  subst he
  exact ⟨_, rfl, ⟨_, _, _, [], _, [], hW', trodAll_cons_mk (shut_bool Tryz.underlying4 _) trodAll_mk0, hAll W' hb, rfl, hb.frame _, fun h => by cases h⟩⟩
/-- The law: whatever the input, it returns true, and the input reads as it did. -/
theorem blameApart_holds : Rows.BlameApartSaid :=
  OpenClaim.holds_of_wide 12 Tryz.f12 rfl rfl rfl rfl rfl rfl rfl ⟨rfl, rfl, rfl, rfl, rfl⟩ rfl rfl rfl rfl rfl (by kernel_rfl) Tryz.func12 (by kernel_rfl)
    (of_decide_eq_true (by kernel_rfl)) (by unfold Func.isWrapper; first | (rw [if_pos (by decide +kernel)]; kernel_rfl) | (rw [if_neg (by decide +kernel)]; exact ⟨rfl, rfl⟩))
    (fun os started H enc _ => blameApart_lifted os started H enc)
end
end Go.Proofs.YtnpilfpackdimaaGreat

