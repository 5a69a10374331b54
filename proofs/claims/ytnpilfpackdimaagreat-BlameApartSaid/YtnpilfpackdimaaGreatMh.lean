/- Texts of the proof, laid together by program. -/
import Derived.Test.YtnpilfpackdimaaGreatMg
import Derived.Test.YtnpilfpackdimaaGreatMf
import Derived.Test.YtnpilfpackdimaaGreatMc
import Derived.Test.YtnpilfpackdimaaGreatMb
set_option linter.unusedSimpArgs false
set_option linter.unusedVariables false
/- Walks: Dual. -/
namespace Go.Proofs.YtnpilfpackdimaaGreat
open Go.RowKit Go.Shelf
attribute [local go_sem] Oper.semAt_some
def dualV (I : Int) (ls : List (List Int)) : List (List Int) := if chkBook I ls ≠ 0 then [] else allP ls
set_option maxRecDepth 100000 in
set_option maxHeartbeats 1600000 in
theorem dual_any (A : Option Addr) (n c : Nat) (ls : List (List Int)) (I : Int) (w : World) (hl : LiS w w.heap.size A n ls) (hn : n ≤ 1000000) (hw : ∀ l ∈ ls, l.length ≤ 1000000) :
    Calls Tryz.prog 37 #[.agg #[.int .i64 I, .slice A n c]] w fun e w' => ∃ A' m' c', e = .returned (.tuple #[.agg #[.int .i64 (coreI I ls), .slice A' m' c'], .int .i64 (chkBook I ls)]) ∧ LiP w' w'.heap.size A' m' (dualV I ls) ∧ Below w.heap.size w w' := by
  have HL := hid hl
  have HW := hid hw
  clear hl hw
  by_cases he : chkBook I ls = 0
  · have HO := hid (fun w h => open_ok A none n c 0 0 ls [] I w h (lis_nil _ _) hn HW.out (by omega) (by simp) (by rw [openE_nil]; exact he))
    have hv : Hid (dualV I ls = allP ls) := hid (if_neg (by simpa using he))
    have hvi : Hid (coreI I ls = I) := hid (if_neg (by simpa using he))
    have HA := hid (fun g w h => all_any g I A n c ls w h hn (book8 he))
    obtain ⟨mv, hmv⟩ : ∃ mv, allP ls = mv := ⟨_, rfl⟩
    rw [hmv] at hv HA
    rw [he]
    clear he hmv
    go_enter Tryz.func37, Tryz.ntmps37
    go_wp2_with (fail)
    refine (HO.out _ (HL.out.below (by repeat' (first | with_reducible assumption | with_reducible exact Below.refl _ _ | refine Below.alloc ?_ ?_ _ | refine Below.setCell ?_ ?_ _ | refine Below.drew ?_ | refine below_drewN ?_ _ | (simp; done) | (simp; omega) | omega)) (by first | (simp; done) | (simp; omega) | omega))).mono ?_
    rintro e w1 ⟨g, rfl, hg, hd, hb1⟩
    have hbel : Below w.heap.size w w1 := Below.trans (by repeat' (first | with_reducible assumption | with_reducible exact Below.refl _ _ | refine Below.alloc ?_ ?_ _ | refine Below.setCell ?_ ?_ _ | refine Below.drew ?_ | refine below_drewN ?_ _ | (simp; done) | (simp; omega) | omega)) (hb1.mono (by first | (simp; done) | (simp; omega) | omega))
    have k0 : w1.cell? ⟨w.heap.size, 0, none⟩ = some (.int .i64 I) := (hb1.cell (p := ⟨w.heap.size, 0, none⟩) (by first | (simp; done) | (simp; omega) | omega)).trans (by go_simp)
    have k1 : w1.cell? ⟨w.heap.size, 1, none⟩ = some (.slice A n c) := (hb1.cell (p := ⟨w.heap.size, 1, none⟩) (by first | (simp; done) | (simp; omega) | omega)).trans (by go_simp)
    have k2 : w1.cell? ⟨w.heap.size + 1, 0, none⟩ = some (.int .i64 0) := (hb1.cell (p := ⟨w.heap.size + 1, 0, none⟩) (by first | (simp; done) | (simp; omega) | omega)).trans (by go_simp)
    have k3 : w1.cell? ⟨w.heap.size + 1, 1, none⟩ = some (.slice none 0 0) := (hb1.cell (p := ⟨w.heap.size + 1, 1, none⟩) (by first | (simp; done) | (simp; omega) | omega)).trans (by go_simp)
    have k4 : w1.frozen? ⟨w.heap.size + 1, 0, none⟩ = false := ((bcell hb1).2 (w.heap.size + 1) 0 (by first | (simp; done) | (simp; omega) | omega)).trans (by go_simp)
    have k5 : w1.frozen? ⟨w.heap.size + 1, 1, none⟩ = false := ((bcell hb1).2 (w.heap.size + 1) 1 (by first | (simp; done) | (simp; omega) | omega)).trans (by go_simp)
    have hz1 : w.heap.size + 1 < w1.heap.size := (by have := hb1.size; simp at this; omega)
    have HD := hid (hd.below (Below.refl _ _).drew)
    have k6 := hd.1.cell 1
    have k7 := hd.1.lt
    have k8 : w.heap.size + 1 < g := by simp at hg; omega
    clear hd hb1
    go_wp2
    refine Sx.wp_region_el (CS w g I A n c) (fun X Y h he => h.ext he) [0, 1, 2] 4 (by kernel_rfl) (by kernel_rfl) (CS.ext (X := w1) ⟨hbel, k0, k6, k7, k8, hz1, ⟨_, k2⟩, ⟨_, k3⟩, k4, k5⟩ (Below.refl _ _).drew) ?_
    simp only [pick, List.getElem?_toArray, List.getElem?_cons_zero, List.getElem?_cons_succ]
    iterate 3 (refine Sx.wpE_val (v := ?_) (by rfl) (fun W hW => ?_) ?_; rotate_left; (· obtain ⟨h1W, h2W, h3W, -⟩ := hW; go_simp; with_reducible rfl); simp only [Act.put, List.setIfInBounds_toArray, List.set_cons_zero, List.set_cons_succ])
    simp only [Sx.wpE]
    (refine Sx.wpM_one 3 _ (by simp only [List.getElem?_toArray, List.getElem?_cons_zero, List.getElem?_cons_succ]; rfl) (by kernel_rfl) (by rfl) ?_)
    intro X hX hS
    (go_simp; simp only [LUpon, Act.put]; try simp only [List.setIfInBounds_toArray, List.set_cons_zero, List.set_cons_succ])
    refine (HA.out g X (HD.out.below hX)).mono ?_
    rintro e Y ⟨A7, m, c7, rfl, -, hi2, hb2⟩
    have HI := hid (hi2.mono (lo' := w.heap.size + 2) hS.2.2.2.2.2.1)
    refine ⟨_, rfl, hS.ext hb2, ?_⟩
    (refine Sx.wpM_one 4 _ (by simp only [List.getElem?_toArray, List.getElem?_cons_zero, List.getElem?_cons_succ]; rfl) (by kernel_rfl) (by rfl) ?_)
    intro X2 hX2 hS2
    (go_simp; simp only [LUpon, Act.put]; try simp only [List.setIfInBounds_toArray, List.set_cons_zero, List.set_cons_succ])
    refine ⟨hS2, ?_⟩
    (refine Sx.wpM_one 5 _ (by simp only [List.getElem?_toArray, List.getElem?_cons_zero, List.getElem?_cons_succ]; rfl) (by kernel_rfl) (by rfl) ?_)
    intro X3 hX3 hS3
    have HI3 := hid (HI.out.below (hX2.trans (hX3.mono hX2.size)) (Nat.le_trans hX2.size hX3.size))
    obtain ⟨q1, q2, q3, q3l, q3g, q4, ⟨x5, q5⟩, ⟨x6, q6⟩, q7, q8⟩ := hS3
    (go_simp; simp only [LUpon, Act.put]; try simp only [List.setIfInBounds_toArray, List.set_cons_zero, List.set_cons_succ])
    obtain ⟨V, hV⟩ : ∃ V, (X3.setCell ⟨w.heap.size + 1, 0, none⟩ (.int .i64 I)).setCell ⟨w.heap.size + 1, 1, none⟩ (.slice A7 m c7) = V := ⟨_, rfl⟩
    have hqV : X3.heap.size = V.heap.size := by rw [← hV]; simp
    have hbV : Below w.heap.size w V := by rw [← hV]; exact (q1.setCell (by simp) _).setCell (by simp) _
    have hcV : ∀ b off, w.heap.size + 1 < b → V.cell? ⟨b, off, none⟩ = X3.cell? ⟨b, off, none⟩ := fun b off hb => by
      rw [← hV, World.cell?_setCell_other, World.cell?_setCell_other] <;> (intro h; cases h; omega)
    have e0 : V.cell? ⟨w.heap.size, 0, none⟩ = some (.int .i64 I) := by
      rw [← hV, World.cell?_setCell_other, World.cell?_setCell_other] <;> first | exact q2 | (intro h; simp at h)
    have e1 : V.cell? ⟨w.heap.size + 1, 0, none⟩ = some (.int .i64 I) := by
      rw [← hV]
      refine (World.cell?_setCell_other _ _ _ _ ?_).trans (World.cell?_setCell_same _ _ _ q5)
      intro h; simp at h
    have e2 : V.cell? ⟨w.heap.size + 1, 1, none⟩ = some (.slice A7 m c7) := by
      rw [← hV]
      refine World.cell?_setCell_same (u := x6) _ _ _ ((World.cell?_setCell_other _ _ _ _ ?_).trans q6)
      intro h; simp at h
    have hSV : CS w g I A n c V := ⟨hbV, e0, (hcV g 1 q3g).trans q3, by rw [← hqV]; exact q3l, q3g, by rw [← hqV]; exact q4, ⟨_, e1⟩, ⟨_, e2⟩, by rw [← hV]; simpa using q7, by rw [← hV]; simpa using q8⟩
    have HIV := hid (HI3.out.old (w' := V) (fun b off hb => hcV b off (by omega)))
    have HSV := hid hSV
    rw [hqV] at HIV
    rw [hV]
    refine ⟨hSV, ?_⟩
    clear hV hcV hS hS2 hX hX2 hX3 HI3 HI hi2 hb2 q1 q2 q3 q3l q3g q4 q5 q6 q7 q8 e0 hSV hbV
    (refine Sx.wpM_one 6 _ (by simp only [List.getElem?_toArray, List.getElem?_cons_zero, List.getElem?_cons_succ]; rfl) (by kernel_rfl) (by rfl) ?_)
    intro X5 hX5 hS5
    (go_simp; simp only [LUpon, Act.put]; try simp only [List.setIfInBounds_toArray, List.set_cons_zero, List.set_cons_succ])
    refine ⟨hS5, Sx.wpM_end (by kernel_rfl) ?_⟩
    intro X6 hX6 hS6
    have hVX := hX5.trans (hX6.mono hX5.size)
    have f1 := (hVX.cell (p := ⟨w.heap.size + 1, 0, none⟩) HSV.out.2.2.2.2.2.1).trans e1
    have f2 := (hVX.cell (p := ⟨w.heap.size + 1, 1, none⟩) HSV.out.2.2.2.2.2.1).trans e2
    have HI6 := hid (HIV.out.below hVX hVX.size)
    have hb6 := hS6.1
    clear hS5 hX5 hX6 hVX hS6 e1 e2
    go_wp2
    refine bodyPost_ret (v := .tuple #[.agg #[.int .i64 I, .slice A7 m c7], .int .i64 0]) (by first | (simp [results, Tryz.results37, go_sem]; done) | (simp [results, Tryz.results37, go_sem, *]; done) | (simp [results, Tryz.results37, go_sem, World.cell?_setCell_same', *]; done) | (simp [results, Tryz.results37, go_sem]; first | exact ⟨rfl, rfl⟩ | rfl)) rfl ⟨A7, m, c7, by rw [hvi.out], by rw [hv.out]; exact HI6.out.lip, hb6⟩
  · have hv : Hid (dualV I ls = []) := hid (if_pos he)
    have hvi : Hid (coreI I ls = 0) := hid (if_pos he)
    have HO := hid (fun w h => open_bad A none n c 0 0 ls [] I w h (lis_nil _ _) hn HW.out (by omega) (by simp) (by rw [openE_nil]; exact he))
    rw [openE_nil] at HO
    obtain ⟨ev, hev⟩ : ∃ ev, chkBook I ls = ev := ⟨_, rfl⟩
    rw [hev] at HO he ⊢
    have hbi : (ev != 0) = true := by simpa using he
    clear hev
    go_enter Tryz.func37, Tryz.ntmps37
    go_wp2_with (fail)
    refine (HO.out _ (HL.out.below (by repeat' (first | with_reducible assumption | with_reducible exact Below.refl _ _ | refine Below.alloc ?_ ?_ _ | refine Below.setCell ?_ ?_ _ | refine Below.drew ?_ | refine below_drewN ?_ _ | (simp; done) | (simp; omega) | omega)) (by first | (simp; done) | (simp; omega) | omega))).mono ?_
    rintro e w1 ⟨rfl, hb1⟩
    have hbel : Below w.heap.size w w1 := Below.trans (by repeat' (first | with_reducible assumption | with_reducible exact Below.refl _ _ | refine Below.alloc ?_ ?_ _ | refine Below.setCell ?_ ?_ _ | refine Below.drew ?_ | refine below_drewN ?_ _ | (simp; done) | (simp; omega) | omega)) (hb1.mono (by first | (simp; done) | (simp; omega) | omega))
    have k2 : w1.cell? ⟨w.heap.size + 1, 0, none⟩ = some (.int .i64 0) := (hb1.cell (p := ⟨w.heap.size + 1, 0, none⟩) (by first | (simp; done) | (simp; omega) | omega)).trans (by go_simp)
    have k3 : w1.cell? ⟨w.heap.size + 1, 1, none⟩ = some (.slice none 0 0) := (hb1.cell (p := ⟨w.heap.size + 1, 1, none⟩) (by first | (simp; done) | (simp; omega) | omega)).trans (by go_simp)
    have k4 : w1.frozen? ⟨w.heap.size + 1, 0, none⟩ = false := ((bcell hb1).2 (w.heap.size + 1) 0 (by first | (simp; done) | (simp; omega) | omega)).trans (by go_simp)
    have k5 : w1.frozen? ⟨w.heap.size + 1, 1, none⟩ = false := ((bcell hb1).2 (w.heap.size + 1) 1 (by first | (simp; done) | (simp; omega) | omega)).trans (by go_simp)
    go_wp2
    refine bodyPost_ret (v := .tuple #[.agg #[.int .i64 0, .slice none 0 0], .int .i64 ev]) (by first | (simp [results, Tryz.results37, go_sem]; done) | (simp [results, Tryz.results37, go_sem, *]; done) | (simp [results, Tryz.results37, go_sem, World.cell?_setCell_same', *]; done) | (simp [results, Tryz.results37, go_sem]; first | exact ⟨rfl, rfl⟩ | rfl)) rfl ⟨none, 0, 0, by rw [hvi.out], by rw [hv.out]; exact lip_nil _ _, (hbel.setCell (by simp) _).setCell (by simp) _⟩
end Go.Proofs.YtnpilfpackdimaaGreat
/- Walks (reference): CoreOf, Core, Dual. -/
namespace Go.Proofs.YtnpilfpackdimaaGreat
open Go.RowKit Go.Shelf
attribute [local go_sem] Oper.semAt_some
/-- What stays in a drawn region that writes the result's cells. -/
def CS2 (w : World) (I : Int) (A : Option Addr) (n c : Nat) (W : World) : Prop :=
  Below w.heap.size w W ∧ W.cell? ⟨w.heap.size, 0, none⟩ = some (.int .i64 I) ∧ W.cell? ⟨w.heap.size, 1, none⟩ = some (.slice A n c) ∧ w.heap.size + 1 < W.heap.size ∧ (∃ x, W.cell? ⟨w.heap.size + 1, 0, none⟩ = some x) ∧ (∃ x, W.cell? ⟨w.heap.size + 1, 1, none⟩ = some x) ∧ W.frozen? ⟨w.heap.size + 1, 0, none⟩ = false ∧ W.frozen? ⟨w.heap.size + 1, 1, none⟩ = false
theorem CS2.ext {w : World} {I : Int} {A : Option Addr} {n c : Nat} {X Y : World} (h : CS2 w I A n c X) (he : Below X.heap.size X Y) : CS2 w I A n c Y := by
  obtain ⟨h1, h2, h3, h4, ⟨x, h5⟩, ⟨y, h6⟩, h7, h8⟩ := h
  obtain ⟨-, hf⟩ := bcell he
  exact ⟨h1.trans (he.mono h1.size), (he.cell (p := ⟨w.heap.size, 0, none⟩) (Nat.lt_of_succ_lt h4)).trans h2, (he.cell (p := ⟨w.heap.size, 1, none⟩) (Nat.lt_of_succ_lt h4)).trans h3, Nat.lt_of_lt_of_le h4 he.size, ⟨x, (he.cell (p := ⟨w.heap.size + 1, 0, none⟩) h4).trans h5⟩, ⟨y, (he.cell (p := ⟨w.heap.size + 1, 1, none⟩) h4).trans h6⟩, (hf _ 0 h4).trans h7, (hf _ 1 h4).trans h8⟩
theorem CS2.of {w : World} {I : Int} {A : Option Addr} {n c : Nat} {X : World} {u v : Value} (hb : Below w.heap.size w X) (h1 : Blk X w.heap.size 24 #[.int .i64 I, .slice A n c]) (h2 : Blk X (w.heap.size + 1) 24 #[u, v]) : CS2 w I A n c X :=
  ⟨hb, h1.cell 0, h1.cell 1, h2.lt, ⟨_, h2.cell 0⟩, ⟨_, h2.cell 1⟩, h2.frozen 0, h2.frozen 1⟩
/-- The result is written: what lies elsewhere stays. -/
theorem CS2.put {w : World} {I : Int} {A : Option Addr} {n c : Nat} {X : World} (h : CS2 w I A n c X) (a b : Value) : ∃ V, (X.setCell ⟨w.heap.size + 1, 0, none⟩ a).setCell ⟨w.heap.size + 1, 1, none⟩ b = V ∧ CS2 w I A n c V ∧ V.cell? ⟨w.heap.size + 1, 0, none⟩ = some a ∧ V.cell? ⟨w.heap.size + 1, 1, none⟩ = some b ∧ X.heap.size = V.heap.size ∧ ∀ q, q ≠ w.heap.size + 1 → V.heap[q]? = X.heap[q]? := by
  obtain ⟨q1, q2, q3, q4, ⟨x5, q5⟩, ⟨x6, q6⟩, q7, q8⟩ := h
  refine ⟨_, rfl, ⟨(q1.setCell (by simp) _).setCell (by simp) _, ?_, ?_, by simpa using q4, ⟨a, ?_⟩, ⟨b, ?_⟩, by simpa using q7, by simpa using q8⟩, ?_, ?_, by simp, fun q hq => (Below.heap_setCell _ _ _ _ hq).trans (Below.heap_setCell _ _ _ _ hq)⟩
  · refine (World.cell?_setCell_other _ _ _ _ ?_).trans ((World.cell?_setCell_other _ _ _ _ ?_).trans q2) <;> (intro h; simp at h)
  · refine (World.cell?_setCell_other _ _ _ _ ?_).trans ((World.cell?_setCell_other _ _ _ _ ?_).trans q3) <;> (intro h; simp at h)
  · refine (World.cell?_setCell_other _ _ _ _ ?_).trans (World.cell?_setCell_same _ _ _ q5)
    intro h; simp at h
  · refine World.cell?_setCell_same (u := x6) _ _ _ ((World.cell?_setCell_other _ _ _ _ ?_).trans q6)
    intro h; simp at h
  · refine (World.cell?_setCell_other _ _ _ _ ?_).trans (World.cell?_setCell_same _ _ _ q5)
    intro h; simp at h
  · refine World.cell?_setCell_same (u := x6) _ _ _ ((World.cell?_setCell_other _ _ _ _ ?_).trans q6)
    intro h; simp at h
theorem NewLw.far {w w' : World} {base : Nat} {P : Nat → Prop} {v : Value} {ls : List (List Int)} (h : NewLw w base P v ls) {g : Nat} (hP : ∀ b, P b → b ≠ g) (hb : g < base) (hs : w.heap.size = w'.heap.size) (hk : ∀ q, q ≠ g → w'.heap[q]? = w.heap[q]?) : NewLw w' base P v ls := by
  obtain ⟨vs, h1, h2, h3⟩ := h
  refine ⟨vs, owns_same h1 (fun q hq => hk q (by have := (World.ownsRow.lt h1 q hq).1; omega)), h2, fun k l hl => ?_⟩
  obtain ⟨A, m, c, h4, h5, h6⟩ := h3 k l hl
  exact ⟨A, m, c, h4, h5.cells_ (by omega) (fun hm b off e j _ => World.cell?_of_block (hk b (hP b (h6 hm b off e).2.2))), fun hm b off e => by have := h6 hm b off e; rw [← hs]; exact this⟩
set_option maxRecDepth 100000 in
set_option maxHeartbeats 4000000 in
theorem rcoreOf_any (P : Nat → Prop) (A : Option Addr) (n c : Nat) (ls : List (List Int)) (I : Int) (w : World) (hl : LiQ w w.heap.size P A n ls) (hn : n ≤ 100000) (hv : ∀ l ∈ ls, isL 8 0 l = true) :
    Calls Tryz.prog 89 #[.agg #[.int .i64 I, .slice A n c]] w fun e w' => ∃ v, e = .returned (.agg #[.int .i64 I, v]) ∧ NewLw w' w.heap.size (fun b => P b ∧ b < w.heap.size) v (coreR ls) ∧ Below w.heap.size w w' := by
  have hlen := hid hl.1
  have HL := hid hl
  have HV := hid hv
  have HI := hid (fun (h : Nat) (W : World) hl hh => risIdle_any A n c ls I h W hl (by omega) hv hh)
  clear hl hv
  obtain ⟨W0, hW0⟩ : ∃ W0, (w.alloc (.cells #[.int .i64 I, .slice A n c] 24)).alloc (.cells #[.int .i64 0, .slice none 0 0] 24) = W0 := ⟨_, rfl⟩
  have B0 : Blk W0 w.heap.size 24 #[.int .i64 I, .slice A n c] := by rw [← hW0]; exact (Blk.new' rfl).alloc _
  have B1 : Blk W0 (w.heap.size + 1) 24 #[.int .i64 0, .slice none 0 0] := by rw [← hW0]; exact Blk.new' (by first | (simp; done) | (simp; omega) | omega)
  have hb0 : Below w.heap.size w W0 := by rw [← hW0]; exact (by repeat' (first | with_reducible assumption | with_reducible exact Below.refl _ _ | refine Below.alloc ?_ ?_ _ | refine Below.setCell ?_ ?_ _ | refine Below.drew ?_ | refine below_drewN ?_ _ | (simp; done) | (simp; omega) | omega))
  have hz0 : W0.heap.size = w.heap.size + 2 := by rw [← hW0]; simp
  have HB0 := hid B0
  have HB1 := hid B1
  clear B0 B1
  go_enter Tryz.func89, Tryz.ntmps89
  go_wp2
  go_loopw [3, 4] (fun v i wr => ∃ k : Nat, k ≤ n ∧ i = .int .i64 k ∧ Hid (NewLw wr (w.heap.size + 2) (fun b => P b ∧ b < w.heap.size) v (coreL ls k)) ∧ Hid (Blk wr w.heap.size 24 #[.int .i64 I, .slice A n c]) ∧ Hid (Blk wr (w.heap.size + 1) 24 #[.int .i64 0, .slice none 0 0]) ∧ Below w.heap.size w wr) (fun _ i _ => n - (intOf i).toNat)
  case atStart => exact ⟨0, by omega, rfl, hid (NewLw.nil _ _ _), HB0, HB1, hb0⟩
  case round =>
    clear HB0 HB1 hb0 hz0 hW0
    obtain ⟨k, hk, rfl, hN, hB, hB1, hbw⟩ := hrel
    have hszw := hbw.size
    have c0 := hB.out.cell 0
    have c1 := hB.out.cell 1
    have l1 := hB.out.lt
    have l2 := hB1.out.lt
    by_cases hlt : k < n
    · have hlti : (k : Int) < n := by omega
      obtain ⟨b1, off, x, A', m', c', hAe, hb1, hm, q0, hin0, hPx0⟩ := (HL.out.below hbw (Nat.le_refl _)).at_ hlt
      have hin : InS wr wr.heap.size A' m' x := hin0.cells_ hszw (fun _ _ _ _ _ _ => rfl)
      have hPx : 0 < m' → ∀ b off, A' = some ⟨b, off, none⟩ → P b ∧ b < w.heap.size := fun hm b off e => ⟨hPx0 hm b off e, ins_lt0 hin0 hm b off e⟩
      have hid1 := HI.out k wr (HL.out.lis.below hbw hszw) hlt
      have hs := coreL_succ hm
      have hcl := coreL_len ls k
      have HIx := hid hin
      have HPx := hid hPx
      clear hm hin hin0 hPx hPx0
      subst hAe
      cases hx : idleB ls k
      · rw [hx] at hs hid1
        simp only [Bool.false_eq_true, if_false] at hs
        have Hs := hid hs
        clear hs hx
        have hb1w : b1 < wr.heap.size := by omega
        go_wp2_with (fail)
        refine hid1.mono ?_
        rintro e w2 ⟨rfl, hb2⟩
        have c12 := (hb2.cell (p := ⟨w.heap.size, 1, none⟩) l1).trans c1
        have q02 := (hb2.cell (p := ⟨b1, off + k, none⟩) hb1w).trans q0
        have l12 := Nat.lt_of_lt_of_le l1 hb2.size
        have hb12 := Nat.lt_of_lt_of_le hb1w hb2.size
        have hbw2 := hbw.trans (hb2.mono hszw)
        have hz2 := hbw2.size
        have hbA : Below w2.heap.size w2 (w2.alloc (.cells #[.slice A' m' c'] 25)) := (Below.refl _ _).alloc (Nat.le_refl _) _
        have hN3 : Hid (NewLw (w2.alloc (.cells #[.slice A' m' c'] 25)) (w.heap.size + 2) (fun b => P b ∧ b < w.heap.size) u3 (coreL ls k)) := hid (hN.out.below (hb2.trans (hbA.mono hb2.size)))
        have hI3 : Hid (InS (w2.alloc (.cells #[.slice A' m' c'] 25)) (w2.alloc (.cells #[.slice A' m' c'] 25)).heap.size A' m' x) := hid (HIx.out.below (hb2.trans (hbA.mono hb2.size)) (by have := hb2.size; simp; omega))
        have hB3 : Hid (Blk (w2.alloc (.cells #[.slice A' m' c'] 25)) w.heap.size 24 #[.int .i64 I, .slice (some ⟨b1, off, none⟩) n c]) := hid ((hB.out.below hb2 l1).alloc _)
        have hB13 : Hid (Blk (w2.alloc (.cells #[.slice A' m' c'] 25)) (w.heap.size + 1) 24 #[.int .i64 0, .slice none 0 0]) := hid ((hB1.out.below hb2 l2).alloc _)
        have hown : ∀ r, u3.ownBlock = some r → w.heap.size + 2 ≤ r := fun r hr => by
          obtain ⟨vs, ho, -⟩ := hN.out
          exact (World.ownsRow.lt ho r hr).1
        have Hown := hid hown
        have hszA : w.heap.size + 2 ≤ (w2.alloc (.cells #[.slice A' m' c'] 25)).heap.size := by simp; have := hb2.size; omega
        have hbw4 := hbw2.alloc hz2 (.cells #[.slice A' m' c'] 25)
        clear hN hB hB1 hown hbA c0 c1 q0
        go_wp2_with (at_builtin; refine newLw_append rfl (by rfl) _ _ rfl (w.heap.size + 2) _ _ _ rfl hN3.out w2.heap.size A' m' c' x rfl (Blk.new' rfl) hI3.out (fun hm b' off' e' => ⟨fun e3 => by have h1 := (HPx.out hm b' off' e').2; have h2 := Hown.out b' e3; omega, HPx.out hm b' off' e'⟩) (by omega) hszA ?_; intro v4 w4 hn4 hg4 hat4)
        have hb4 : Below w.heap.size w w4 := hbw4.grown hg4 (by simp; omega) (fun r hr => by have := Hown.out r hr; omega)
        have hB4 := hid (hB3.out.grown hg4 (fun e => by have := Hown.out _ e.symm; omega))
        have hB5 := hid (hB13.out.grown hg4 (fun e => by have := Hown.out _ e.symm; omega))
        exact ⟨⟨k + 1, by omega, by go_num, hid (by rw [Hs.out]; exact hn4), hB4, hB5, hb4⟩, by simp [intOf]; omega⟩
      · rw [hx] at hs hid1
        simp only [if_true, List.append_nil] at hs
        have Hs := hid hs
        clear hs hx
        go_wp2_with (fail)
        refine hid1.mono ?_
        rintro e w2 ⟨rfl, hb2⟩
        go_wp2
        exact ⟨⟨k + 1, by omega, by go_num, hid (by rw [Hs.out]; exact hN.out.below hb2), hid (hB.out.below hb2 l1), hid (hB1.out.below hb2 l2), hbw.trans (hb2.mono hszw)⟩, by simp [intOf]; omega⟩
    · obtain rfl : k = n := by omega
      obtain ⟨A9, c9, rfl, hq9, -⟩ := hN.out.liq
      have hol := coreL_len ls k
      have hsr := fun (X : World) (hX : Below wr.heap.size wr X) => rsorted_any (fun b => P b ∧ b < w.heap.size) A9 (coreL ls k).length c9 (coreL ls k) X (hq9.below hX hX.size) (by omega) (fun l hl => by
        have := isL_len8 (HV.out l (coreL_mem (by rw [hlen.out]; exact Nat.le_refl _) hl)) (by omega); omega)
      have hfin : Hid (coreR ls = sortL (coreL ls k)) := hid (by unfold coreR; rw [hlen.out])
      obtain ⟨n9, hn9⟩ : ∃ n9, (coreL ls k).length = n9 := ⟨_, rfl⟩
      obtain ⟨S9, hS9⟩ : ∃ S9, sortL (coreL ls k) = S9 := ⟨_, rfl⟩
      rw [hn9, hS9] at hsr
      rw [hS9] at hfin
      rw [hn9]
      have Hsr := hid hsr
      have hcs : CS2 w I A k c wr := CS2.of hbw hB.out hB1.out
      clear hN hq9 hol hn9 hS9 hsr
      go_wp2
      refine Sx.wp_region_el (CS2 w I A k c) (fun X Y h he => h.ext he) [0, 1, 2] 3 (by kernel_rfl) (by kernel_rfl) (CS2.ext hcs (Below.refl _ _).drew) ?_
      simp only [pick, List.getElem?_toArray, List.getElem?_cons_zero, List.getElem?_cons_succ]
      iterate 3 (refine Sx.wpE_val (v := ?_) (by rfl) (fun W hW => ?_) ?_; rotate_left; (· obtain ⟨h1W, h2W, h3W, h4W, -⟩ := hW; go_simp; with_reducible rfl); simp only [Act.put, List.setIfInBounds_toArray, List.set_cons_zero, List.set_cons_succ])
      simp only [Sx.wpE]
      (refine Sx.wpM_one 3 _ (by simp only [List.getElem?_toArray, List.getElem?_cons_zero, List.getElem?_cons_succ]; rfl) (by kernel_rfl) (by rfl) ?_)
      intro X hX hS
      (go_simp; simp only [LUpon, Act.put]; try simp only [List.setIfInBounds_toArray, List.set_cons_zero, List.set_cons_succ])
      refine (Hsr.out X ((Below.refl _ wr).drew.trans hX)).mono ?_
      rintro e Y ⟨v9, rfl, hn9, hb9⟩
      obtain ⟨A8, c8, rfl, -, -⟩ := hn9.liq
      obtain ⟨n8, hn8⟩ : ∃ n8, S9.length = n8 := ⟨_, rfl⟩
      rw [hn8] at hn9 ⊢
      refine ⟨_, rfl, hS.ext hb9, ?_⟩
      have hzX := hS.2.2.2.1
      (refine Sx.wpM_one 4 _ (by simp only [List.getElem?_toArray, List.getElem?_cons_zero, List.getElem?_cons_succ]; rfl) (by kernel_rfl) (by rfl) ?_)
      intro X2 hX2 hS2
      (go_simp; simp only [LUpon, Act.put]; try simp only [List.setIfInBounds_toArray, List.set_cons_zero, List.set_cons_succ])
      refine ⟨hS2, ?_⟩
      (refine Sx.wpM_one 5 _ (by simp only [List.getElem?_toArray, List.getElem?_cons_zero, List.getElem?_cons_succ]; rfl) (by kernel_rfl) (by rfl) ?_)
      intro X3 hX3 hS3
      have hn3 := hn9.below (hX2.trans (hX3.mono hX2.size))
      obtain ⟨V, hV, hSV, e1, e2, hzV, hkV⟩ := hS3.put (.int .i64 I) (.slice A8 n8 c8)
      have hn4 := hid ((hn3.far (g := w.heap.size + 1) (fun b hb => by have := hb.2; omega) (by omega) hzV hkV).mono (base' := w.heap.size) (by omega) (fun _ h => h))
      obtain ⟨q1, q2, q3, q4, ⟨x5, q5⟩, ⟨x6, q6⟩, q7, q8⟩ := hS3
      (go_simp; simp only [LUpon, Act.put]; try simp only [List.setIfInBounds_toArray, List.set_cons_zero, List.set_cons_succ])
      refine ⟨hSV, Sx.wpM_end (by kernel_rfl) ?_⟩
      intro X4 hX4 hS4
      have f1 := (hX4.cell (p := ⟨w.heap.size + 1, 0, none⟩) hSV.2.2.2.1).trans e1
      have f2 := (hX4.cell (p := ⟨w.heap.size + 1, 1, none⟩) hSV.2.2.2.1).trans e2
      have hn5 := hid (hn4.out.below hX4)
      have hb5 := hS4.1
      clear hn8 hS4 hSV hV hkV hn3 hn4 hn9 e1 e2 q1 q2 q3 q4 q5 q6 q7 q8 hX hX2 hX3 hX4 hS hS2 hb9
      go_wp2
      refine bodyPost_ret (v := .agg #[.int .i64 I, .slice A8 n8 c8]) (by first | (simp [results, Tryz.results89, go_sem]; done) | (simp [results, Tryz.results89, go_sem, *]; done) | (simp [results, Tryz.results89, go_sem, World.cell?_setCell_same', *]; done) | (simp [results, Tryz.results89, go_sem]; first | exact ⟨rfl, rfl⟩ | rfl)) rfl ⟨_, rfl, by rw [hfin.out]; exact hn5.out, hb5⟩
end Go.Proofs.YtnpilfpackdimaaGreat
/- Walks (reference): Core, Dual. -/
namespace Go.Proofs.YtnpilfpackdimaaGreat
open Go.RowKit Go.Shelf
attribute [local go_sem] Oper.semAt_some
def rcrV (I : Int) (ls : List (List Int)) : List (List Int) := if chkBook I ls ≠ 0 then [] else coreR ls
set_option maxRecDepth 100000 in
set_option maxHeartbeats 1600000 in
theorem rcore_any (A : Option Addr) (n c : Nat) (ls : List (List Int)) (I : Int) (w : World) (hl : LiS w w.heap.size A n ls) (hn : n ≤ 100000) (hw : ∀ l ∈ ls, l.length ≤ 1000000) :
    Calls Tryz.prog 36 #[.agg #[.int .i64 I, .slice A n c]] w fun e w' => ∃ v, e = .returned (.tuple #[.agg #[.int .i64 (coreI I ls), v], .int .i64 (chkBook I ls)]) ∧ NewLw w' w.heap.size (fun b => b < w.heap.size) v (rcrV I ls) ∧ Below w.heap.size w w' := by
  have HL := hid hl.liq
  have HC := hid (fun W h => rcheckBook_any A n c ls I W h (by omega) hw)
  clear hl hw
  by_cases he : chkBook I ls = 0
  · have hv : Hid (rcrV I ls = coreR ls) := hid (if_neg (by simpa using he))
    have hvi : Hid (coreI I ls = I) := hid (if_neg (by simpa using he))
    have HA := hid (fun W h => rcoreOf_any (fun b => b < w.heap.size) A n c ls I W h hn (book8 he))
    rw [he] at HC ⊢
    obtain ⟨L, hL⟩ : ∃ L, coreR ls = L := ⟨_, rfl⟩
    rw [hL] at HA hv
    clear he hL
    go_enter Tryz.func36, Tryz.ntmps36
    go_wp2_with (fail)
    obtain ⟨W0, hW0⟩ : ∃ W0, (w.alloc (.cells #[.int .i64 I, .slice A n c] 24)).alloc (.cells #[.int .i64 0, .slice none 0 0] 24) = W0 := ⟨_, rfl⟩
    have B0 : Blk W0 w.heap.size 24 #[.int .i64 I, .slice A n c] := by rw [← hW0]; exact (Blk.new' rfl).alloc _
    have B1 : Blk W0 (w.heap.size + 1) 24 #[.int .i64 0, .slice none 0 0] := by rw [← hW0]; exact Blk.new' (by first | (simp; done) | (simp; omega) | omega)
    have hb0 : Below w.heap.size w W0 := by rw [← hW0]; exact (by repeat' (first | with_reducible assumption | with_reducible exact Below.refl _ _ | refine Below.alloc ?_ ?_ _ | refine Below.setCell ?_ ?_ _ | refine Below.drew ?_ | refine below_drewN ?_ _ | (simp; done) | (simp; omega) | omega))
    rw [hW0]
    clear hW0
    refine (HC.out _ (HL.out.lis.below hb0 hb0.size)).mono ?_
    rintro e w1 ⟨rfl, hb1⟩
    have hbel : Below w.heap.size w w1 := hb0.trans (hb1.mono hb0.size)
    replace B0 := B0.below hb1 B0.lt
    replace B1 := B1.below hb1 B1.lt
    have c0 := B0.cell 0
    have c1 := B0.cell 1
    have l0 := B0.lt
    have l1 := B1.lt
    have hcs : CS2 w I A n c w1 := CS2.of hbel B0 B1
    have HLw := hid (HL.out.below hbel hbel.size)
    clear hb1 hb0
    go_wp2_with (fail)
    refine (HA.out _ HLw.out).mono ?_
    rintro e w2 ⟨v, rfl, hn2, hb2⟩
    obtain ⟨A8, c8, rfl, -, -⟩ := hn2.liq
    obtain ⟨n8, hn8⟩ : ∃ n8, L.length = n8 := ⟨_, rfl⟩
    rw [hn8] at hn2 ⊢
    have hcs2 := hcs.ext hb2
    obtain ⟨V, hV, hSV, e1, e2, hzV, hkV⟩ := hcs2.put (.int .i64 I) (.slice A8 n8 c8)
    have hn4 := hid ((hn2.far (g := w.heap.size + 1) (fun b hb => by have := hb.1; omega) l1 hzV hkV).mono (base' := w.heap.size) (by have := hbel.size; omega) (fun _ h => h.1))
    have hb5 := hSV.1
    have lV := hSV.2.2.2.1
    obtain ⟨q1, q2, q3, q4, ⟨x5, q5⟩, ⟨x6, q6⟩, q7, q8⟩ := hcs2
    clear hn8 hSV hkV hn2 hcs q1 hb2
    go_wp2
    refine bodyPost_ret (v := .tuple #[.agg #[.int .i64 I, .slice A8 n8 c8], .int .i64 0]) (by first | (simp [results, Tryz.results36, go_sem]; done) | (simp [results, Tryz.results36, go_sem, *]; done) | (simp [results, Tryz.results36, go_sem, World.cell?_setCell_same', *]; done) | (simp [results, Tryz.results36, go_sem]; first | exact ⟨rfl, rfl⟩ | rfl)) rfl ⟨.slice A8 n8 c8, by rw [hvi.out], by rw [hv.out]; exact hn4.out, hb5⟩
  · have hv : Hid (rcrV I ls = []) := hid (if_pos he)
    have hvi : Hid (coreI I ls = 0) := hid (if_pos he)
    obtain ⟨ev, hev⟩ : ∃ ev, chkBook I ls = ev := ⟨_, rfl⟩
    rw [hev] at HC he ⊢
    have hbi : (ev != 0) = true := by simpa using he
    clear hev
    go_enter Tryz.func36, Tryz.ntmps36
    go_wp2_with (fail)
    obtain ⟨W0, hW0⟩ : ∃ W0, (w.alloc (.cells #[.int .i64 I, .slice A n c] 24)).alloc (.cells #[.int .i64 0, .slice none 0 0] 24) = W0 := ⟨_, rfl⟩
    have B0 : Blk W0 w.heap.size 24 #[.int .i64 I, .slice A n c] := by rw [← hW0]; exact (Blk.new' rfl).alloc _
    have B1 : Blk W0 (w.heap.size + 1) 24 #[.int .i64 0, .slice none 0 0] := by rw [← hW0]; exact Blk.new' (by first | (simp; done) | (simp; omega) | omega)
    have hb0 : Below w.heap.size w W0 := by rw [← hW0]; exact (by repeat' (first | with_reducible assumption | with_reducible exact Below.refl _ _ | refine Below.alloc ?_ ?_ _ | refine Below.setCell ?_ ?_ _ | refine Below.drew ?_ | refine below_drewN ?_ _ | (simp; done) | (simp; omega) | omega))
    rw [hW0]
    clear hW0
    refine (HC.out _ (HL.out.lis.below hb0 hb0.size)).mono ?_
    rintro e w1 ⟨rfl, hb1⟩
    have hbel : Below w.heap.size w w1 := hb0.trans (hb1.mono hb0.size)
    replace B0 := B0.below hb1 B0.lt
    replace B1 := B1.below hb1 B1.lt
    have c0 := B0.cell 0
    have c1 := B0.cell 1
    have l0 := B0.lt
    have l1 := B1.lt
    have hcs : CS2 w I A n c w1 := CS2.of hbel B0 B1
    have HLw := hid (HL.out.below hbel hbel.size)
    clear hb1 hb0
    go_wp2_with (fail)
    refine (HC.out _ HLw.out.lis).mono ?_
    rintro e w2 ⟨rfl, hb2⟩
    have hcs2 := hcs.ext hb2
    obtain ⟨V, hV, hSV, e1, e2, hzV, hkV⟩ := hcs2.put (.int .i64 0) (.slice none 0 0)
    have hb5 := hSV.1
    have lV := hSV.2.2.2.1
    obtain ⟨q1, q2, q3, q4, ⟨x5, q5⟩, ⟨x6, q6⟩, q7, q8⟩ := hcs2
    clear hSV hkV hcs q1 hb2
    go_wp2
    refine bodyPost_ret (v := .tuple #[.agg #[.int .i64 0, .slice none 0 0], .int .i64 ev]) (by first | (simp [results, Tryz.results36, go_sem]; done) | (simp [results, Tryz.results36, go_sem, *]; done) | (simp [results, Tryz.results36, go_sem, World.cell?_setCell_same', *]; done) | (simp [results, Tryz.results36, go_sem]; first | exact ⟨rfl, rfl⟩ | rfl)) rfl ⟨.slice none 0 0, by rw [hvi.out], by rw [hv.out]; exact NewLw.nil _ _ _, hb5⟩
set_option maxRecDepth 100000 in
set_option maxHeartbeats 1600000 in
theorem rdual_any (A : Option Addr) (n c : Nat) (ls : List (List Int)) (I : Int) (w : World) (hl : LiS w w.heap.size A n ls) (hn : n ≤ 100000) (hw : ∀ l ∈ ls, l.length ≤ 1000000) :
    Calls Tryz.prog 38 #[.agg #[.int .i64 I, .slice A n c]] w fun e w' => ∃ v, e = .returned (.tuple #[.agg #[.int .i64 (coreI I ls), v], .int .i64 (chkBook I ls)]) ∧ NewLw w' w.heap.size (fun b => w.heap.size ≤ b) v (ralV I ls) ∧ Below w.heap.size w w' := by
  have HL := hid hl.liq
  have HC := hid (fun W h => rcheckBook_any A n c ls I W h (by omega) hw)
  clear hl hw
  by_cases he : chkBook I ls = 0
  · obtain ⟨J, rfl⟩ : ∃ J : Nat, I = J := ⟨I.toNat, by have := (book_good he).1; omega⟩
    have hJ8 : J ≤ 8 := by have := (book_good he).2.1; omega
    have hv : Hid (ralV J ls = allR J ls) := hid (if_neg (by simpa using he))
    have hvi : Hid (coreI J ls = J) := hid (if_neg (by simpa using he))
    have HA := hid (fun W h => rallOf_any A n c ls J W h (by omega) (book8 he) hJ8)
    rw [he] at HC ⊢
    obtain ⟨L, hL⟩ : ∃ L, allR J ls = L := ⟨_, rfl⟩
    rw [hL] at HA hv
    clear he hL
    go_enter Tryz.func38, Tryz.ntmps38
    go_wp2_with (fail)
    obtain ⟨W0, hW0⟩ : ∃ W0, (w.alloc (.cells #[.int .i64 (J : Int), .slice A n c] 24)).alloc (.cells #[.int .i64 0, .slice none 0 0] 24) = W0 := ⟨_, rfl⟩
    have B0 : Blk W0 w.heap.size 24 #[.int .i64 (J : Int), .slice A n c] := by rw [← hW0]; exact (Blk.new' rfl).alloc _
    have B1 : Blk W0 (w.heap.size + 1) 24 #[.int .i64 0, .slice none 0 0] := by rw [← hW0]; exact Blk.new' (by first | (simp; done) | (simp; omega) | omega)
    have hb0 : Below w.heap.size w W0 := by rw [← hW0]; exact (by repeat' (first | with_reducible assumption | with_reducible exact Below.refl _ _ | refine Below.alloc ?_ ?_ _ | refine Below.setCell ?_ ?_ _ | refine Below.drew ?_ | refine below_drewN ?_ _ | (simp; done) | (simp; omega) | omega))
    rw [hW0]
    clear hW0
    refine (HC.out _ (HL.out.lis.below hb0 hb0.size)).mono ?_
    rintro e w1 ⟨rfl, hb1⟩
    have hbel : Below w.heap.size w w1 := hb0.trans (hb1.mono hb0.size)
    replace B0 := B0.below hb1 B0.lt
    replace B1 := B1.below hb1 B1.lt
    have c0 := B0.cell 0
    have c1 := B0.cell 1
    have l0 := B0.lt
    have l1 := B1.lt
    have hcs : CS2 w (J : Int) A n c w1 := CS2.of hbel B0 B1
    have HLw := hid (HL.out.below hbel hbel.size)
    clear hb1 hb0
    go_wp2
    refine Sx.wp_region_el (CS2 w (J : Int) A n c) (fun X Y h he => h.ext he) [0, 1, 2] 4 (by kernel_rfl) (by kernel_rfl) (CS2.ext hcs (Below.refl _ _).drew) ?_
    simp only [pick, List.getElem?_toArray, List.getElem?_cons_zero, List.getElem?_cons_succ]
    iterate 3 (refine Sx.wpE_val (v := ?_) (by rfl) (fun W hW => ?_) ?_; rotate_left; (· obtain ⟨h1W, h2W, h3W, h4W, -⟩ := hW; go_simp; with_reducible rfl); simp only [Act.put, List.setIfInBounds_toArray, List.set_cons_zero, List.set_cons_succ])
    simp only [Sx.wpE]
    (refine Sx.wpM_one 3 _ (by simp only [List.getElem?_toArray, List.getElem?_cons_zero, List.getElem?_cons_succ]; rfl) (by kernel_rfl) (by rfl) ?_)
    intro X hX hS
    (go_simp; simp only [LUpon, Act.put]; try simp only [List.setIfInBounds_toArray, List.set_cons_zero, List.set_cons_succ])
    refine (HA.out X (HLw.out.lis.below ((Below.refl _ w1).drew.trans hX) ((Below.refl _ w1).drew.trans hX).size)).mono ?_
    rintro e Y ⟨v9, rfl, hn9, hb9⟩
    obtain ⟨A8, c8, rfl, -, -⟩ := hn9.liq
    obtain ⟨n8, hn8⟩ : ∃ n8, L.length = n8 := ⟨_, rfl⟩
    rw [hn8] at hn9 ⊢
    refine ⟨_, rfl, hS.ext hb9, ?_⟩
    have hzX := hS.2.2.2.1
    (refine Sx.wpM_one 4 _ (by simp only [List.getElem?_toArray, List.getElem?_cons_zero, List.getElem?_cons_succ]; rfl) (by kernel_rfl) (by rfl) ?_)
    intro X2 hX2 hS2
    (go_simp; simp only [LUpon, Act.put]; try simp only [List.setIfInBounds_toArray, List.set_cons_zero, List.set_cons_succ])
    refine ⟨hS2, ?_⟩
    (refine Sx.wpM_one 5 _ (by simp only [List.getElem?_toArray, List.getElem?_cons_zero, List.getElem?_cons_succ]; rfl) (by kernel_rfl) (by rfl) ?_)
    intro X3 hX3 hS3
    have hn3 := hn9.below (hX2.trans (hX3.mono hX2.size))
    obtain ⟨V, hV, hSV, e1, e2, hzV, hkV⟩ := hS3.put (.int .i64 (J : Int)) (.slice A8 n8 c8)
    have hn4 := hid ((hn3.far (g := w.heap.size + 1) (fun b hb => by omega) (by omega) hzV hkV).mono (base' := w.heap.size) (P' := fun b => w.heap.size ≤ b) (by omega) (fun _ h => by omega))
    obtain ⟨q1, q2, q3, q4, ⟨x5, q5⟩, ⟨x6, q6⟩, q7, q8⟩ := hS3
    (go_simp; simp only [LUpon, Act.put]; try simp only [List.setIfInBounds_toArray, List.set_cons_zero, List.set_cons_succ])
    refine ⟨hSV, ?_⟩
    (refine Sx.wpM_one 6 _ (by simp only [List.getElem?_toArray, List.getElem?_cons_zero, List.getElem?_cons_succ]; rfl) (by kernel_rfl) (by rfl) ?_)
    intro X5 hX5 hS5
    (go_simp; simp only [LUpon, Act.put]; try simp only [List.setIfInBounds_toArray, List.set_cons_zero, List.set_cons_succ])
    refine ⟨hS5, Sx.wpM_end (by kernel_rfl) ?_⟩
    intro X4 hX4 hS4
    have hVX := hX5.trans (hX4.mono hX5.size)
    have f1 := (hVX.cell (p := ⟨w.heap.size + 1, 0, none⟩) hSV.2.2.2.1).trans e1
    have f2 := (hVX.cell (p := ⟨w.heap.size + 1, 1, none⟩) hSV.2.2.2.1).trans e2
    have hn5 := hid (hn4.out.below hVX)
    have hb5 := hS4.1
    clear hn8 hS4 hSV hV hkV hn3 hn4 hn9 e1 e2 q1 q2 q3 q4 q5 q6 q7 q8 hX hX2 hX3 hX4 hS hS2 hb9 hVX hX5 hS5 hcs c0 c1 B0 B1
    go_wp2
    refine bodyPost_ret (v := .tuple #[.agg #[.int .i64 (J : Int), .slice A8 n8 c8], .int .i64 0]) (by first | (simp [results, Tryz.results38, go_sem]; done) | (simp [results, Tryz.results38, go_sem, *]; done) | (simp [results, Tryz.results38, go_sem, World.cell?_setCell_same', *]; done) | (simp [results, Tryz.results38, go_sem]; first | exact ⟨rfl, rfl⟩ | rfl)) rfl ⟨.slice A8 n8 c8, by rw [hvi.out], by rw [hv.out]; exact hn5.out, hb5⟩
  · have hv : Hid (ralV I ls = []) := hid (if_pos he)
    have hvi : Hid (coreI I ls = 0) := hid (if_pos he)
    obtain ⟨ev, hev⟩ : ∃ ev, chkBook I ls = ev := ⟨_, rfl⟩
    rw [hev] at HC he ⊢
    have hbi : (ev != 0) = true := by simpa using he
    clear hev
    go_enter Tryz.func38, Tryz.ntmps38
    go_wp2_with (fail)
    obtain ⟨W0, hW0⟩ : ∃ W0, (w.alloc (.cells #[.int .i64 I, .slice A n c] 24)).alloc (.cells #[.int .i64 0, .slice none 0 0] 24) = W0 := ⟨_, rfl⟩
    have B0 : Blk W0 w.heap.size 24 #[.int .i64 I, .slice A n c] := by rw [← hW0]; exact (Blk.new' rfl).alloc _
    have B1 : Blk W0 (w.heap.size + 1) 24 #[.int .i64 0, .slice none 0 0] := by rw [← hW0]; exact Blk.new' (by first | (simp; done) | (simp; omega) | omega)
    have hb0 : Below w.heap.size w W0 := by rw [← hW0]; exact (by repeat' (first | with_reducible assumption | with_reducible exact Below.refl _ _ | refine Below.alloc ?_ ?_ _ | refine Below.setCell ?_ ?_ _ | refine Below.drew ?_ | refine below_drewN ?_ _ | (simp; done) | (simp; omega) | omega))
    rw [hW0]
    clear hW0
    refine (HC.out _ (HL.out.lis.below hb0 hb0.size)).mono ?_
    rintro e w1 ⟨rfl, hb1⟩
    have hbel : Below w.heap.size w w1 := hb0.trans (hb1.mono hb0.size)
    replace B0 := B0.below hb1 B0.lt
    replace B1 := B1.below hb1 B1.lt
    have c0 := B0.cell 0
    have c1 := B0.cell 1
    have l0 := B0.lt
    have l1 := B1.lt
    have hcs : CS2 w I A n c w1 := CS2.of hbel B0 B1
    have HLw := hid (HL.out.below hbel hbel.size)
    clear hb1 hb0
    go_wp2_with (fail)
    refine (HC.out _ HLw.out.lis).mono ?_
    rintro e w2 ⟨rfl, hb2⟩
    have hcs2 := hcs.ext hb2
    obtain ⟨V, hV, hSV, e1, e2, hzV, hkV⟩ := hcs2.put (.int .i64 0) (.slice none 0 0)
    have hb5 := hSV.1
    have lV := hSV.2.2.2.1
    obtain ⟨q1, q2, q3, q4, ⟨x5, q5⟩, ⟨x6, q6⟩, q7, q8⟩ := hcs2
    clear hSV hkV hcs q1 hb2
    go_wp2
    refine bodyPost_ret (v := .tuple #[.agg #[.int .i64 0, .slice none 0 0], .int .i64 ev]) (by first | (simp [results, Tryz.results38, go_sem]; done) | (simp [results, Tryz.results38, go_sem, *]; done) | (simp [results, Tryz.results38, go_sem, World.cell?_setCell_same', *]; done) | (simp [results, Tryz.results38, go_sem]; first | exact ⟨rfl, rfl⟩ | rfl)) rfl ⟨.slice none 0 0, by rw [hvi.out], by rw [hv.out]; exact NewLw.nil _ _ _, hb5⟩
end Go.Proofs.YtnpilfpackdimaaGreat
/- Walks (reference): IsApart, CheckApart. -/
namespace Go.Proofs.YtnpilfpackdimaaGreat
open Go.RowKit Go.Shelf
attribute [local go_sem] Oper.semAt_some
def seenN (ls : List (List Int)) (h : Nat) : Nat → Nat
  | 0 => 0
  | k + 1 => if h.testBit k then seenN ls h k ||| bitsL (ls.getD k []) else seenN ls h k
def badN (ls : List (List Int)) (h k : Nat) : Bool := h.testBit k && (bitsL (ls.getD k []) == 0 || bitsL (ls.getD k []) &&& seenN ls h k != 0)
def rapB (ls : List (List Int)) (h : Nat) : Bool := (List.range ls.length).all fun k => !badN ls h k
set_option maxRecDepth 100000 in
set_option maxHeartbeats 4000000 in
theorem risApart_any (A : Option Addr) (n c : Nat) (ls : List (List Int)) (I : Int) (h : Nat) (w : World) (hl : LiS w w.heap.size A n ls) (hn : n ≤ 60) (hv : ∀ l ∈ ls, isL 8 0 l = true) (hh : h < 2 ^ 62) :
    Calls Tryz.prog 66 #[.agg #[.int .i64 I, .slice A n c], .int .i64 (h : Int)] w fun e w' => e = .returned (.bool (rapB ls h)) ∧ Below w.heap.size w w' := by
  have hlen := hid hl.1
  have HL := hid hl
  have HV := hid hv
  have HH := hid hh
  obtain ⟨iv, hiv⟩ : ∃ iv, rapB ls h = iv := ⟨_, rfl⟩
  have Hiv := hid hiv
  rw [hiv]
  clear hl hv hiv hh
  obtain ⟨W0, hW0⟩ : ∃ W0, w.alloc (.cells #[.int .i64 I, .slice A n c] 24) = W0 := ⟨_, rfl⟩
  have B0 : Blk W0 w.heap.size 24 #[.int .i64 I, .slice A n c] := by rw [← hW0]; exact Blk.new' rfl
  have hb0 : Below w.heap.size w W0 := by rw [← hW0]; exact (Below.refl _ _).alloc (Nat.le_refl _) _
  have HB0 := hid B0
  clear B0
  go_enter Tryz.func66, Tryz.ntmps66
  go_wp2
  go_loopw [5, 6, 7] (fun v i _ wr => ∃ k : Nat, k ≤ n ∧ i = .int .i64 k ∧ v = .int .i64 ((seenN ls h k : Nat) : Int) ∧ seenN ls h k < 256 ∧ Hid ((List.range k).all (fun k => !badN ls h k) = true) ∧ wr = W0) (fun _ i _ _ => n - (intOf i).toNat)
  case atStart => exact ⟨0, by omega, rfl, rfl, by simp [seenN], hid (by simp), rfl⟩
  case round =>
    clear hW0
    obtain ⟨k, hk, rfl, rfl, hsn, hno, rfl⟩ := hrel
    have c1 := HB0.out.cell 1
    have l1 := HB0.out.lt
    by_cases hlt : k < n
    · obtain ⟨b1, off, x, A', m', c', rfl, hb1, hm, c0, hin⟩ := (HL.out.below hb0 hb0.size).at_ hlt
      have hxv := HV.out x (List.mem_of_getElem? hm)
      have hx8 : m' ≤ 8 := by have := isL_len8 hxv (by omega); have := hin.len; omega
      have hlti : (k : Int) < n := by omega
      have hcx := rbits_any A' m' c' x wr hin (by omega) (fun z hz => by have := isL_bd hxv z hz; omega)
      have hM8 : bitsL x < 256 := bitsL_lt (n := 8) hxv
      have hgx : ls.getD k [] = x := by rw [List.getD_eq_getElem?_getD, hm]; rfl
      have hbk : badN ls h k = (h.testBit k && (bitsL x == 0 || bitsL x &&& seenN ls h k != 0)) := by unfold badN; rw [hgx]
      have hsk : seenN ls h (k + 1) = if h.testBit k then seenN ls h k ||| bitsL x else seenN ls h k := by rw [← hgx]; rfl
      have hall : (List.range (k + 1)).all (fun k => !badN ls h k) = ((List.range k).all (fun k => !badN ls h k) && !badN ls h k) := by rw [List.range_succ, List.all_append]; simp
      rw [hno.out, Bool.true_and] at hall
      have hlow := low_bit' h k HH.out
      obtain ⟨M, hM⟩ : ∃ M, bitsL x = M := ⟨_, rfl⟩
      obtain ⟨N, hN⟩ : ∃ N, seenN ls h k = N := ⟨_, rfl⟩
      rw [hM] at hcx hbk hsk hM8
      rw [hN] at hbk hsk hsn ⊢
      have hand := bits_and_i64_nat M N (by omega) (by omega)
      have hor := bits_or_i64_nat N M (by omega) (by omega)
      have hor8 : N ||| M < 256 := Nat.or_lt_two_pow (n := 8) (by omega) (by omega)
      have Hcx := hid hcx
      have hkn : k < ls.length := by rw [hlen.out]; exact hlt
      clear hm hin hxv hM hcx hgx hN
      cases ht : h.testBit k
      · rw [ht] at hbk hsk hlow
        simp only [Bool.false_eq_true, if_false, Bool.false_and] at hbk hsk hlow
        have Hs : Hid ((List.range (k + 1)).all (fun k => !badN ls h k) = true) := hid (by rw [hall, hbk]; rfl)
        have Hsk := hid hsk
        clear hbk hsk hall ht hand hor
        go_wp2_with (go_at_call 47; refine Hcx.out.mono ?_; rintro e w2 ⟨rfl, rfl⟩)
        exact ⟨⟨k + 1, by omega, by go_num, by rw [Hsk.out], by rw [Hsk.out]; exact hsn, Hs, trivial⟩, by simp [intOf]; omega⟩
      · rw [ht] at hbk hsk hlow
        simp only [if_true, Bool.true_and] at hbk hsk hlow
        cases hb : badN ls h k
        · have Hs : Hid ((List.range (k + 1)).all (fun k => !badN ls h k) = true) := hid (by rw [hall, hb]; rfl)
          have Hsk := hid hsk
          rw [hb] at hbk
          have e1 : M ≠ 0 := by intro e; rw [e] at hbk; simp at hbk
          have e2 : M &&& N = 0 := by
            have := hbk.symm
            simp only [Bool.or_eq_false_iff, bne_eq_false_iff_eq] at this
            exact this.2
          have e1j : ¬ (M : Int) = 0 := by omega
          rw [e2] at hand
          clear hbk hsk hall ht hb e2
          go_wp2_with (go_at_call 47; refine Hcx.out.mono ?_; rintro e w2 ⟨rfl, rfl⟩)
          exact ⟨⟨k + 1, by omega, by go_num, by rw [Hsk.out], by rw [Hsk.out]; exact hor8, Hs, trivial⟩, by simp [intOf]; omega⟩
        · have Hf : Hid (rapB ls h = false) := hid (by
            unfold rapB
            rw [Bool.eq_false_iff]
            intro e
            have := List.all_eq_true.1 e k (List.mem_range.2 hkn)
            rw [hb] at this; cases this)
          rw [hb] at hbk
          by_cases e1 : M = 0
          · have e1j : (M : Int) = 0 := by omega
            have e1b : ((M : Int) == 0) = true := beq_iff_eq.2 e1j
            clear e1 hbk hsk hall ht hb
            go_wp2_with (go_at_call 47; refine Hcx.out.mono ?_; rintro e w2 ⟨rfl, rfl⟩)
            refine bodyPost_ret (v := .bool false) (by first | (simp [results, Tryz.results66, go_sem]; done) | (simp [results, Tryz.results66, go_sem, *]; done) | (simp [results, Tryz.results66, go_sem, World.cell?_setCell_same', *]; done) | (simp [results, Tryz.results66, go_sem]; first | exact ⟨rfl, rfl⟩ | rfl)) rfl ⟨by rw [← Hiv.out, Hf.out], hb0⟩
          · have e2 : M &&& N ≠ 0 := by
              have := hbk.symm
              simp only [Bool.or_eq_true, beq_iff_eq, bne_iff_ne] at this
              rcases this with h' | h'
              · exact absurd h' e1
              · exact h'
            have e1j : ¬ (M : Int) = 0 := by omega
            have e2j : ¬ ((M &&& N : Nat) : Int) = 0 := by omega
            have e2b : (((M &&& N : Nat) : Int) != 0) = true := bne_iff_ne.2 e2j
            obtain ⟨R, hR⟩ : ∃ R : Int, ((M &&& N : Nat) : Int) = R := ⟨_, rfl⟩
            rw [hR] at hand e2j e2b
            clear hR
            clear hbk hsk hall ht hb e2 e1
            go_wp2_with (go_at_call 47; refine Hcx.out.mono ?_; rintro e w2 ⟨rfl, rfl⟩)
            refine bodyPost_ret (v := .bool false) (by first | (simp [results, Tryz.results66, go_sem]; done) | (simp [results, Tryz.results66, go_sem, *]; done) | (simp [results, Tryz.results66, go_sem, World.cell?_setCell_same', *]; done) | (simp [results, Tryz.results66, go_sem]; first | exact ⟨rfl, rfl⟩ | rfl)) rfl ⟨by rw [← Hiv.out, Hf.out], hb0⟩
    · obtain rfl : k = n := by omega
      have Hf : Hid (rapB ls h = true) := hid (by unfold rapB; rw [hlen.out]; exact hno.out)
      go_wp2
      refine bodyPost_ret (v := .bool true) (by first | (simp [results, Tryz.results66, go_sem]; done) | (simp [results, Tryz.results66, go_sem, *]; done) | (simp [results, Tryz.results66, go_sem, World.cell?_setCell_same', *]; done) | (simp [results, Tryz.results66, go_sem]; first | exact ⟨rfl, rfl⟩ | rfl)) rfl ⟨by rw [← Hiv.out, Hf.out], hb0⟩
end Go.Proofs.YtnpilfpackdimaaGreat
/- Plain law: the core; hires that are apart. -/
namespace Go.Proofs.YtnpilfpackdimaaGreat
theorem and_self_iff {a b : Nat} : (a &&& b = a) ↔ ∀ i, a.testBit i = true → b.testBit i = true := by
  constructor
  · intro h i hi
    have := congrArg (fun n => n.testBit i) h
    simp only [Nat.testBit_and, hi, Bool.true_and] at this
    exact this
  · intro h
    refine Nat.eq_of_testBit_eq fun i => ?_
    rw [Nat.testBit_and]
    cases hi : a.testBit i
    · rfl
    · rw [h i hi]; rfl
theorem and_sub {a b : Nat} (ha : a < 256) : (a &&& b == a) = subB a b := by
  rw [Bool.eq_iff_iff, beq_iff_eq, and_self_iff, subB_iff ha]
theorem bits8 {l : List Int} (h : isL 8 0 l = true) : bitsL l < 256 := bitsL_lt (n := 8) h
theorem getD_mem {ls : List (List Int)} {i : Nat} (h : i < ls.length) : ls.getD i [] ∈ ls := by
  rw [List.getD_eq_getElem?_getD, List.getElem?_eq_getElem h]; exact List.getElem_mem _
theorem idle_iff {ls : List (List Int)} (hv : ∀ l ∈ ls, isL 8 0 l = true) {h : Nat} : idleB ls h = true ↔ ∃ i, i < ls.length ∧ i ≠ h ∧ subB (bitsL (ls.getD i [])) (bitsL (ls.getD h [])) = true ∧ (bitsL (ls.getD i []) ≠ bitsL (ls.getD h []) ∨ i < h) := by
  unfold idleB
  rw [List.any_eq_true]
  constructor
  · rintro ⟨i, hi, h1⟩
    have hi' := List.mem_range.1 hi
    unfold idl1 at h1
    rw [and_sub (bits8 (hv _ (getD_mem hi')))] at h1
    simp only [Bool.and_eq_true, decide_eq_true_eq, Bool.or_eq_true, bne_iff_ne] at h1
    exact ⟨i, hi', h1.1.1, h1.1.2, h1.2⟩
  · rintro ⟨i, hi, h1, h2, h3⟩
    refine ⟨i, List.mem_range.2 hi, ?_⟩
    unfold idl1
    rw [and_sub (bits8 (hv _ (getD_mem hi)))]
    simp only [Bool.and_eq_true, decide_eq_true_eq, Bool.or_eq_true, bne_iff_ne]
    exact ⟨⟨h1, h2⟩, h3⟩
theorem mem_coreL {ls : List (List Int)} {k : Nat} {l : List Int} : l ∈ coreL ls k ↔ ∃ h, h < k ∧ idleB ls h = false ∧ ls.getD h [] = l := by
  unfold coreL
  rw [List.mem_map]
  constructor
  · rintro ⟨h, hh, e⟩
    obtain ⟨h1, h2⟩ := List.mem_filter.1 hh
    exact ⟨h, List.mem_range.1 h1, by simpa using h2, e⟩
  · rintro ⟨h, h1, h2, e⟩
    exact ⟨h, List.mem_filter.2 ⟨List.mem_range.2 h1, by simp [h2]⟩, e⟩
theorem coreL_nodup {ls : List (List Int)} (hv : ∀ l ∈ ls, isL 8 0 l = true) : (coreL ls ls.length).Nodup := by
  unfold coreL
  rw [List.Nodup, List.pairwise_map]
  refine List.Pairwise.imp_of_mem ?_ (List.Pairwise.sublist List.filter_sublist List.pairwise_lt_range)
  intro a b ha hb hlt e
  obtain ⟨ha1, -⟩ := List.mem_filter.1 ha
  obtain ⟨hb1, hb2⟩ := List.mem_filter.1 hb
  have ha' := List.mem_range.1 ha1
  have : idleB ls b = true := (idle_iff hv).2 ⟨a, ha', by omega, by rw [e]; exact subB_refl (bits8 (hv _ (getD_mem (List.mem_range.1 hb1)))), .inr hlt⟩
  rw [this] at hb2; cases hb2
theorem S0_iff {ls : List (List Int)} {x : Nat} : S0 ls x = true ↔ ∃ i, i < ls.length ∧ bitsL (ls.getD i []) = x := by
  unfold S0
  rw [List.any_eq_true]
  constructor
  · rintro ⟨l, hl, h⟩
    obtain ⟨i, hi, he⟩ := List.getElem_of_mem hl
    exact ⟨i, hi, by rw [List.getD_eq_getElem?_getD, List.getElem?_eq_getElem hi, Option.getD_some, he]; simpa using h⟩
  · rintro ⟨i, hi, h⟩
    exact ⟨_, getD_mem hi, beq_iff_eq.2 h⟩
/-- The core of the program is the reference's. -/
theorem core_eq {ls : List (List Int)} (hv : ∀ l ∈ ls, isL 8 0 l = true) : coreR ls = leastL ls := by
  refine srt_ext (sortL_srt (coreL_nodup hv)) (ordL_srt _) fun l => ?_
  unfold coreR leastL
  rw [mem_sortL, mem_coreL, mem_ordL]
  constructor
  · rintro ⟨h, hh, hi, rfl⟩
    have hvh := hv _ (getD_mem hh)
    refine ⟨bitsL (ls.getD h []), bits8 hvh, minB_iff.2 ⟨S0_iff.2 ⟨h, hh, rfl⟩, fun y hy hs hne => ?_⟩, listed_bits (n := 8) hvh⟩
    obtain ⟨i, hil, rfl⟩ := S0_iff.1 hs
    rw [Bool.eq_false_iff]
    intro hsub
    have : idleB ls h = true := (idle_iff hv).2 ⟨i, hil, fun e => hne (by rw [e]), hsub, .inl hne⟩
    rw [this] at hi; cases hi
  · rintro ⟨x, hx, hm, rfl⟩
    obtain ⟨hs, hmin⟩ := minB_iff.1 hm
    have hex : ∃ i, (List.range ls.length).find? (fun i => bitsL (ls.getD i []) == x) = some i := by
      obtain ⟨i, hi, he⟩ := S0_iff.1 hs
      cases hf : (List.range ls.length).find? (fun i => bitsL (ls.getD i []) == x) with
      | some k => exact ⟨k, rfl⟩
      | none =>
        have := List.find?_eq_none.1 hf i (List.mem_range.2 hi)
        exact absurd (beq_iff_eq.2 he) this
    obtain ⟨h, hf⟩ := hex
    have hhx : bitsL (ls.getD h []) = x := by simpa using List.find?_some hf
    have hhl : h < ls.length := List.mem_range.1 (List.mem_of_find?_eq_some hf)
    have hfirst : ∀ i, i < h → bitsL (ls.getD i []) ≠ x := fun i hi e => by
      rw [List.find?_range_eq_some] at hf
      have := hf.2.2 i hi
      rw [beq_iff_eq.2 e] at this; cases this
    refine ⟨h, hhl, ?_, ?_⟩
    · rw [Bool.eq_false_iff]
      intro hid
      obtain ⟨i, hil, hne, hsub, ho⟩ := (idle_iff hv).1 hid
      have hei : bitsL (ls.getD i []) = x := Classical.byContradiction fun hn => by
        have := hmin _ (bits8 (hv _ (getD_mem hil))) (S0_iff.2 ⟨i, hil, rfl⟩) hn
        rw [hhx] at hsub
        rw [hsub] at this; cases this
      rcases ho with ho | ho
      · exact ho (by rw [hei, hhx])
      · exact hfirst i ho hei
    · rw [← hhx]; exact (listed_bits (n := 8) (hv _ (getD_mem hhl))).symm
end Go.Proofs.YtnpilfpackdimaaGreat
/- Walks (reference): CheckApart, Apart. -/
namespace Go.Proofs.YtnpilfpackdimaaGreat
open Go.RowKit Go.Shelf
attribute [local go_sem] Oper.semAt_some
def rcpE (I : Int) (ls : List (List Int)) (hs : List Int) : Int := if chkBook I ls ≠ 0 then chkBook I ls else if isL ls.length 0 hs = false then 3 else if rapB ls (bitsL hs) = false then 16 else 0
set_option maxRecDepth 100000 in
set_option maxHeartbeats 1600000 in
theorem rcheckApart_any (A B : Option Addr) (n c m d : Nat) (ls : List (List Int)) (hs : List Int) (I : Int) (w : World) (hl : LiS w w.heap.size A n ls) (hs0 : InS w w.heap.size B m hs) (hn : n ≤ 1000000) (hw : ∀ l ∈ ls, l.length ≤ 1000000) (hm : m ≤ 1000000) :
    Calls Tryz.prog 24 #[.agg #[.int .i64 I, .slice A n c], .slice B m d] w fun e w' => e = .returned (.int .i64 (rcpE I ls hs)) ∧ Below w.heap.size w w' := by
  have hlen := hid hl.1
  have HL := hid hl
  have HS := hid hs0
  have HC := hid (fun W h => rcheckBook_any A n c ls I W h hn hw)
  have HI := hid (fun W h => isSet_any B m d hs (n : Int) W h hm)
  have hb0 : Below w.heap.size w (w.alloc (.cells #[.int .i64 I, .slice A n c] 24)) := (Below.refl _ _).alloc (Nat.le_refl _) _
  clear hl hs0 hw
  by_cases he : chkBook I ls = 0
  · have hn10 : n ≤ 10 := by have := (book_good he).2.2.1; have := hlen.out; omega
    have hv : Hid (rcpE I ls hs = if isL n 0 hs = false then 3 else if rapB ls (bitsL hs) = false then 16 else 0) := hid (by unfold rcpE; rw [if_neg (by simpa using he), hlen.out])
    have H8 := hid (book8 he)
    rw [he] at HC
    cases hx : isL (n : Int) 0 hs
    · rw [hx] at hv HI
      clear hx he
      go_enter Tryz.func24, Tryz.ntmps24
      go_wp2_with (fail)
      refine (HC.out _ (HL.out.below hb0 hb0.size)).mono ?_
      rintro e w1 ⟨rfl, hb1⟩
      have hbel : Below w.heap.size w w1 := Below.trans (by repeat' (first | with_reducible assumption | with_reducible exact Below.refl _ _ | refine Below.alloc ?_ ?_ _ | refine Below.setCell ?_ ?_ _ | refine Below.drew ?_ | refine below_drewN ?_ _ | (simp; done) | (simp; omega) | omega)) (hb1.mono (by first | (simp; done) | (simp; omega) | omega))
      have c0 : w1.cell? ⟨w.heap.size, 0, none⟩ = some (.int .i64 I) := (hb1.cell (p := ⟨w.heap.size, 0, none⟩) (by first | (simp; done) | (simp; omega) | omega)).trans (by go_simp)
      have c1 : w1.cell? ⟨w.heap.size, 1, none⟩ = some (.slice A n c) := (hb1.cell (p := ⟨w.heap.size, 1, none⟩) (by first | (simp; done) | (simp; omega) | omega)).trans (by go_simp)
      have hq0 : w.heap.size < w1.heap.size := (by have := hb1.size; simp at this; omega)
      have HLw := hid (HL.out.below hbel hbel.size)
      clear hb1 hb0
      go_wp2_with (fail)
      refine (HI.out _ (HS.out.below hbel hbel.size)).mono ?_
      rintro e w2 ⟨rfl, hb2⟩
      have hbe2 := hbel.trans (hb2.mono hbel.size)
      go_wp2
      refine bodyPost_ret (v := .int .i64 3) (by first | (simp [results, Tryz.results24, go_sem]; done) | (simp [results, Tryz.results24, go_sem, *]; done) | (simp [results, Tryz.results24, go_sem, World.cell?_setCell_same', *]; done) | (simp [results, Tryz.results24, go_sem]; first | exact ⟨rfl, rfl⟩ | rfl)) rfl ⟨by rw [hv.out]; rfl, hbe2⟩
    · have hsb := isL_bd hx
      have hsn : bitsL hs < 2 ^ 62 := Nat.lt_of_lt_of_le (bitsL_lt (n := n) hx) (Nat.pow_le_pow_right (by decide) (by omega))
      have HR := hid (fun W h => rbits_any B m d hs W h hm (fun y hy => by have := hsb y hy; omega))
      have HA := hid (fun W h => risApart_any A n c ls I (bitsL hs) W h (by omega) H8.out hsn)
      rw [hx] at hv HI
      obtain ⟨N, hN⟩ : ∃ N, bitsL hs = N := ⟨_, rfl⟩
      rw [hN] at HR HA hv
      clear hx he hN hsb hsn
      cases ha : rapB ls N
      all_goals
        rw [ha] at hv HA
        clear ha
        go_enter Tryz.func24, Tryz.ntmps24
        go_wp2_with (fail)
        refine (HC.out _ (HL.out.below hb0 hb0.size)).mono ?_
        rintro e w1 ⟨rfl, hb1⟩
        have hbel : Below w.heap.size w w1 := Below.trans (by repeat' (first | with_reducible assumption | with_reducible exact Below.refl _ _ | refine Below.alloc ?_ ?_ _ | refine Below.setCell ?_ ?_ _ | refine Below.drew ?_ | refine below_drewN ?_ _ | (simp; done) | (simp; omega) | omega)) (hb1.mono (by first | (simp; done) | (simp; omega) | omega))
        have c0 : w1.cell? ⟨w.heap.size, 0, none⟩ = some (.int .i64 I) := (hb1.cell (p := ⟨w.heap.size, 0, none⟩) (by first | (simp; done) | (simp; omega) | omega)).trans (by go_simp)
        have c1 : w1.cell? ⟨w.heap.size, 1, none⟩ = some (.slice A n c) := (hb1.cell (p := ⟨w.heap.size, 1, none⟩) (by first | (simp; done) | (simp; omega) | omega)).trans (by go_simp)
        have hq0 : w.heap.size < w1.heap.size := (by have := hb1.size; simp at this; omega)
        have HLw := hid (HL.out.below hbel hbel.size)
        clear hb1 hb0
        go_wp2_with (fail)
        refine (HI.out _ (HS.out.below hbel hbel.size)).mono ?_
        rintro e w2 ⟨rfl, hb2⟩
        have hbe2 := hbel.trans (hb2.mono hbel.size)
        have d0 := (hb2.cell (p := ⟨w.heap.size, 0, none⟩) hq0).trans c0
        have d1 := (hb2.cell (p := ⟨w.heap.size, 1, none⟩) hq0).trans c1
        have hq2 := Nat.lt_of_lt_of_le hq0 hb2.size
        clear hb2 c0 c1
        go_wp2
        refine wp_region_hd_all (fun W => Below w2.heap.size w2 W) (by kernel_rfl) (by kernel_rfl) ((Below.refl _ _).drew) ?_
        iterate 2 (refine wpHd_val (v := ?_) (by rfl) (fun W hW => ?_) ?_; rotate_left; (· obtain ⟨hcW, hfW⟩ := bcell hW; go_simp; with_reducible rfl); simp only [Act.put, List.setIfInBounds_toArray, List.set_cons_zero, List.set_cons_succ])
        (refine wpHd_callB (by rfl) (fun W hW => ((HR.out W (HS.out.below (hbe2.trans (hW.mono hbe2.size)) (Nat.le_trans hbe2.size hW.size))).mono (fun e w' h => ⟨h.1, by rw [← h.2]; exact Below.refl _ _⟩))) (fun W hW => ?_) ?_; (· obtain ⟨hcW, hfW⟩ := bcell hW; go_simp); simp only [Act.put, List.setIfInBounds_toArray, List.set_cons_zero, List.set_cons_succ])
        (refine wpHd_callB (by rfl) (fun W hW => (HA.out W (HL.out.below (hbe2.trans (hW.mono hbe2.size)) (Nat.le_trans hbe2.size hW.size)))) (fun W hW => ?_) ?_; (· obtain ⟨hcW, hfW⟩ := bcell hW; go_simp); simp only [Act.put, List.setIfInBounds_toArray, List.set_cons_zero, List.set_cons_succ])
        (refine wpHd_val (v := ?_) (by rfl) (fun W hW => ?_) ?_; rotate_left; (· obtain ⟨hcW, hfW⟩ := bcell hW; go_simp; with_reducible rfl); simp only [Act.put, List.setIfInBounds_toArray, List.set_cons_zero, List.set_cons_succ])
        refine wpHd_nil ?_
        intro W9 hW9
        have hbw9 := hbe2.trans (hW9.mono hbe2.size)
        clear d0 d1
        go_wp2
      · refine bodyPost_ret (v := .int .i64 16) (by first | (simp [results, Tryz.results24, go_sem]; done) | (simp [results, Tryz.results24, go_sem, *]; done) | (simp [results, Tryz.results24, go_sem, World.cell?_setCell_same', *]; done) | (simp [results, Tryz.results24, go_sem]; first | exact ⟨rfl, rfl⟩ | rfl)) rfl ⟨by rw [hv.out]; rfl, hbw9⟩
      · refine bodyPost_ret (v := .int .i64 0) (by first | (simp [results, Tryz.results24, go_sem]; done) | (simp [results, Tryz.results24, go_sem, *]; done) | (simp [results, Tryz.results24, go_sem, World.cell?_setCell_same', *]; done) | (simp [results, Tryz.results24, go_sem]; first | exact ⟨rfl, rfl⟩ | rfl)) rfl ⟨by rw [hv.out]; rfl, hbw9⟩
  · have hv : Hid (rcpE I ls hs = chkBook I ls) := hid (if_pos he)
    obtain ⟨ev, hev⟩ : ∃ ev, chkBook I ls = ev := ⟨_, rfl⟩
    rw [hev] at hv HC he
    have hbi : (ev != 0) = true := by simpa using he
    clear hev
    go_enter Tryz.func24, Tryz.ntmps24
    go_wp2_with (fail)
    refine (HC.out _ (HL.out.below hb0 hb0.size)).mono ?_
    rintro e w1 ⟨rfl, hb1⟩
    have hbel : Below w.heap.size w w1 := Below.trans (by repeat' (first | with_reducible assumption | with_reducible exact Below.refl _ _ | refine Below.alloc ?_ ?_ _ | refine Below.setCell ?_ ?_ _ | refine Below.drew ?_ | refine below_drewN ?_ _ | (simp; done) | (simp; omega) | omega)) (hb1.mono (by first | (simp; done) | (simp; omega) | omega))
    have c0 : w1.cell? ⟨w.heap.size, 0, none⟩ = some (.int .i64 I) := (hb1.cell (p := ⟨w.heap.size, 0, none⟩) (by first | (simp; done) | (simp; omega) | omega)).trans (by go_simp)
    have c1 : w1.cell? ⟨w.heap.size, 1, none⟩ = some (.slice A n c) := (hb1.cell (p := ⟨w.heap.size, 1, none⟩) (by first | (simp; done) | (simp; omega) | omega)).trans (by go_simp)
    have hq0 : w.heap.size < w1.heap.size := (by have := hb1.size; simp at this; omega)
    have HLw := hid (HL.out.below hbel hbel.size)
    clear hb1 hb0
    go_wp2_with (fail)
    refine (HC.out _ HLw.out).mono ?_
    rintro e w2 ⟨rfl, hb2⟩
    have hbe2 := hbel.trans (hb2.mono hbel.size)
    go_wp2
    refine bodyPost_ret (v := .int .i64 ev) (by first | (simp [results, Tryz.results24, go_sem]; done) | (simp [results, Tryz.results24, go_sem, *]; done) | (simp [results, Tryz.results24, go_sem, World.cell?_setCell_same', *]; done) | (simp [results, Tryz.results24, go_sem]; first | exact ⟨rfl, rfl⟩ | rfl)) rfl ⟨by rw [hv.out], hbe2⟩
/-- The better of the hires so far and those that bits say. -/
def betR (ls : List (List Int)) (b : List Int) (x : Nat) : List Int := if rapB ls x && (decide (b.length < (listed x ls.length).length) || (decide ((listed x ls.length).length = b.length) && before (listed x ls.length) b)) then listed x ls.length else b
def bstR (ls : List (List Int)) (k : Nat) : List Int := (List.range k).foldl (betR ls) []
theorem bstR_succ (ls : List (List Int)) (k : Nat) : bstR ls (k + 1) = betR ls (bstR ls k) k := by
  unfold bstR; rw [List.range_succ, List.foldl_append]; rfl
def rapV (I : Int) (ls : List (List Int)) : List Int := if chkBook I ls ≠ 0 then [] else bstR ls (2 ^ ls.length)
theorem bstR_len (ls : List (List Int)) : ∀ k, (bstR ls k).length ≤ ls.length
  | 0 => by simp [bstR]
  | k + 1 => by
    rw [bstR_succ]
    unfold betR
    split
    · exact listed_len _ _
    · exact bstR_len ls k
set_option maxRecDepth 100000 in
set_option maxHeartbeats 4000000 in
theorem rapart_any (A : Option Addr) (n c : Nat) (ls : List (List Int)) (I : Int) (w : World) (hl : LiS w w.heap.size A n ls) (hn : n ≤ 1000000) (hw : ∀ l ∈ ls, l.length ≤ 1000000) :
    Calls Tryz.prog 21 #[.agg #[.int .i64 I, .slice A n c]] w fun e w' => ∃ A' m' c', e = .returned (.tuple #[.slice A' m' c', .int .i64 (chkBook I ls)]) ∧ InS w' w'.heap.size A' m' (rapV I ls) ∧ Below w.heap.size w w' := by
  have hlen := hid hl.1
  have HL := hid hl
  have HC := hid (fun W h => rcheckBook_any A n c ls I W h hn hw)
  have hb0 : Below w.heap.size w (w.alloc (.cells #[.int .i64 I, .slice A n c] 24)) := (Below.refl _ _).alloc (Nat.le_refl _) _
  clear hl hw
  by_cases he : chkBook I ls = 0
  · have hn10 : n ≤ 10 := by have := (book_good he).2.2.1; have := hlen.out; omega
    have hv : Hid (rapV I ls = bstR ls (2 ^ n)) := hid (by unfold rapV; rw [if_neg (by simpa using he), hlen.out])
    have HA := hid (fun (h : Nat) (W : World) (hh : h < 2 ^ 62) hl => risApart_any A n c ls I h W hl (by omega) (book8 he) hh)
    rw [he] at HC ⊢
    have h2n : 2 ^ n ≤ 1024 := Nat.le_trans (Nat.pow_le_pow_right (by decide) hn10) (by decide)
    have hpw := pow_wrap n (by omega)
    obtain ⟨E, hE⟩ : ∃ E, 2 ^ n = E := ⟨_, rfl⟩
    have hEi : (2 : Int) ^ n = (E : Int) := by rw [← hE]; push_cast; rfl
    rw [hE] at h2n hpw hv
    rw [hEi] at hpw
    clear he hE
    go_enter Tryz.func21, Tryz.ntmps21
    go_wp2_with (fail)
    refine (HC.out _ (HL.out.below hb0 hb0.size)).mono ?_
    rintro e w1 ⟨rfl, hb1⟩
    have hbel : Below w.heap.size w w1 := Below.trans (by repeat' (first | with_reducible assumption | with_reducible exact Below.refl _ _ | refine Below.alloc ?_ ?_ _ | refine Below.setCell ?_ ?_ _ | refine Below.drew ?_ | refine below_drewN ?_ _ | (simp; done) | (simp; omega) | omega)) (hb1.mono (by first | (simp; done) | (simp; omega) | omega))
    have c0 : w1.cell? ⟨w.heap.size, 0, none⟩ = some (.int .i64 I) := (hb1.cell (p := ⟨w.heap.size, 0, none⟩) (by first | (simp; done) | (simp; omega) | omega)).trans (by go_simp)
    have c1 : w1.cell? ⟨w.heap.size, 1, none⟩ = some (.slice A n c) := (hb1.cell (p := ⟨w.heap.size, 1, none⟩) (by first | (simp; done) | (simp; omega) | omega)).trans (by go_simp)
    have hq0 : w.heap.size < w1.heap.size := (by have := hb1.size; simp at this; omega)
    have HLw := hid (HL.out.below hbel hbel.size)
    clear hb1 hb0
    go_wp2
    go_loopw [4, 5, 6] (fun v i _ wr => ∃ (k : Nat) (A' : Option Addr) (m' c' : Nat), k ≤ E ∧ i = .int .i64 k ∧ v = .slice A' m' c' ∧ Hid (InS wr wr.heap.size A' m' (bstR ls k)) ∧ Below w1.heap.size w1 wr) (fun _ i _ _ => E - (intOf i).toNat)
    case atStart => exact ⟨0, none, 0, 0, by omega, rfl, rfl, hid Sl.none_, Below.refl _ _⟩
    case round =>
      obtain ⟨k, A', m', c', hk, rfl, rfl, hin, hbw⟩ := hrel
      have hszw := hbw.size
      have d0 := (hbw.cell (p := ⟨w.heap.size, 0, none⟩) hq0).trans c0
      have d1 := (hbw.cell (p := ⟨w.heap.size, 1, none⟩) hq0).trans c1
      have l0 := Nat.lt_of_lt_of_le hq0 hszw
      have hbww := hbel.trans (hbw.mono hbel.size)
      by_cases hlt : k < E
      · have hlti : (k : Int) < E := by omega
        have hs := bstR_succ ls k
        have hbl := bstR_len ls k
        rw [hlen.out] at hbl
        have hll := listed_len k n
        obtain ⟨X, hX⟩ : ∃ X, bstR ls k = X := ⟨_, rfl⟩
        obtain ⟨l, hl⟩ : ∃ l, listed k n = l := ⟨_, rfl⟩
        have hbt : betR ls X k = if rapB ls k && (decide (X.length < l.length) || (decide (l.length = X.length) && before l X)) then l else X := by unfold betR; rw [hlen.out, hl]
        rw [hX, hbt] at hs
        rw [hX] at hin hbl
        rw [hl] at hll
        have hXl := hin.out.len
        have hap := HA.out k
        go_wp2_with (fail)
        refine (rlisted_any k n wr (by omega) (by omega)).mono ?_
        rw [hl]
        rintro e w3 ⟨v7, rfl, ho7, hb3⟩
        obtain ⟨A7, c7, rfl, hs7, -⟩ := own_src ho7
        obtain ⟨m7, hm7⟩ : ∃ m7, l.length = m7 := ⟨_, rfl⟩
        rw [hm7] at hs7 ho7 ⊢
        have hi7 : InS w3 w3.heap.size A7 m7 l := hs7
        have hbe3 := hbw.trans (hb3.mono hszw)
        have hbw3 := hbww.trans (hb3.mono hbww.size)
        have e0 := (hb3.cell (p := ⟨w.heap.size, 0, none⟩) l0).trans d0
        have e1 := (hb3.cell (p := ⟨w.heap.size, 1, none⟩) l0).trans d1
        have l3 := Nat.lt_of_lt_of_le l0 hb3.size
        have HI7 := hid hi7
        have HIn := hid (hin.out.below hb3 hb3.size)
        have hap3 := hap w3 (by omega) (HL.out.below hbw3 hbw3.size)
        have Hap := hid hap3
        rw [hm7, hXl] at hs
        have hm7b : m7 ≤ 16 := by omega
        have hm'b : m' ≤ 16 := by omega
        clear hX hl hbt hap hs7 hi7 ho7 d0 d1 hin hm7 hap3
        cases hr : rapB ls k
        · rw [hr] at hs Hap
          simp only [Bool.false_and, Bool.false_eq_true, if_false] at hs
          have Hs := hid hs
          clear hs hr
          go_wp2_with (go_at_call 66; refine Hap.out.mono ?_; rintro e w4 ⟨rfl, hb4⟩)
          exact ⟨⟨k + 1, A', m', c', by omega, by go_num, rfl, hid (by rw [Hs.out]; exact HIn.out.below hb4 hb4.size), hbe3.trans (hb4.mono hbe3.size)⟩, by simp [intOf]; omega⟩
        · rw [hr] at hs Hap
          simp only [Bool.true_and] at hs
          by_cases h1 : m' < m7
          · have h1i : (m' : Int) < m7 := by omega
            rw [decide_eq_true h1] at hs
            simp only [Bool.true_or, if_true] at hs
            have Hs := hid hs
            clear hs hr
            go_wp2_with (go_at_call 66; refine Hap.out.mono ?_; rintro e w4 ⟨rfl, hb4⟩)
            exact ⟨⟨k + 1, A7, m7, c7, by omega, by go_num, rfl, hid (by rw [Hs.out]; exact HI7.out.below hb4 hb4.size), hbe3.trans (hb4.mono hbe3.size)⟩, by simp [intOf]; omega⟩
          · have h1i : ¬ (m' : Int) < m7 := by omega
            rw [decide_eq_false h1] at hs
            simp only [Bool.false_or] at hs
            by_cases h2 : m7 = m'
            · subst h2
              rw [decide_eq_true rfl] at hs
              simp only [Bool.true_and] at hs
              have hcb := hid (fun (W : World) h h2 => rbefore_any A7 A' m7 c7 m7 c' l X W h h2 (by omega) (by omega))
              cases hbf : before l X
              · rw [hbf] at hs hcb
                simp only [Bool.false_eq_true, if_false] at hs
                have Hs := hid hs
                clear hs hr hbf
                go_wp2_with (first | (go_at_call 66; refine Hap.out.mono ?_; rintro e w4 ⟨rfl, hb4⟩) | (go_at_call 67; refine (hcb.out _ (HI7.out.below hb4 hb4.size) (HIn.out.below hb4 hb4.size)).mono ?_; rintro e w5 ⟨rfl, hb5⟩))
                have hb45 := hb4.trans (hb5.mono hb4.size)
                exact ⟨⟨k + 1, A', m7, c', by omega, by go_num, rfl, hid (by rw [Hs.out]; exact HIn.out.below hb45 hb45.size), hbe3.trans (hb45.mono hbe3.size)⟩, by simp [intOf]; omega⟩
              · rw [hbf] at hs hcb
                simp only [if_true] at hs
                have Hs := hid hs
                clear hs hr hbf
                go_wp2_with (first | (go_at_call 66; refine Hap.out.mono ?_; rintro e w4 ⟨rfl, hb4⟩) | (go_at_call 67; refine (hcb.out _ (HI7.out.below hb4 hb4.size) (HIn.out.below hb4 hb4.size)).mono ?_; rintro e w5 ⟨rfl, hb5⟩))
                have hb45 := hb4.trans (hb5.mono hb4.size)
                exact ⟨⟨k + 1, A7, m7, c7, by omega, by go_num, rfl, hid (by rw [Hs.out]; exact HI7.out.below hb45 hb45.size), hbe3.trans (hb45.mono hbe3.size)⟩, by simp [intOf]; omega⟩
            · have h2j : ¬ (m7 : Int) = m' := by omega
              have h2i : ((m7 : Int) == (m' : Int)) = false := beq_eq_false_iff_ne.2 h2j
              rw [decide_eq_false h2] at hs
              simp only [Bool.false_and, Bool.false_eq_true, if_false] at hs
              have Hs := hid hs
              clear hs hr
              go_wp2_with (go_at_call 66; refine Hap.out.mono ?_; rintro e w4 ⟨rfl, hb4⟩)
              exact ⟨⟨k + 1, A', m', c', by omega, by go_num, rfl, hid (by rw [Hs.out]; exact HIn.out.below hb4 hb4.size), hbe3.trans (hb4.mono hbe3.size)⟩, by simp [intOf]; omega⟩
      · obtain rfl : k = E := by omega
        go_wp2
        refine bodyPost_ret (v := .tuple #[.slice A' m' c', .int .i64 0]) (by first | (simp [results, Tryz.results21, go_sem]; done) | (simp [results, Tryz.results21, go_sem, *]; done) | (simp [results, Tryz.results21, go_sem, World.cell?_setCell_same', *]; done) | (simp [results, Tryz.results21, go_sem]; first | exact ⟨rfl, rfl⟩ | rfl)) rfl ⟨A', m', c', rfl, by rw [hv.out]; exact hin.out, hbww⟩
  · have hv : Hid (rapV I ls = []) := hid (if_pos he)
    obtain ⟨ev, hev⟩ : ∃ ev, chkBook I ls = ev := ⟨_, rfl⟩
    rw [hev] at HC he ⊢
    have hbi : (ev != 0) = true := by simpa using he
    clear hev
    go_enter Tryz.func21, Tryz.ntmps21
    go_wp2_with (fail)
    refine (HC.out _ (HL.out.below hb0 hb0.size)).mono ?_
    rintro e w1 ⟨rfl, hb1⟩
    have hbel : Below w.heap.size w w1 := Below.trans (by repeat' (first | with_reducible assumption | with_reducible exact Below.refl _ _ | refine Below.alloc ?_ ?_ _ | refine Below.setCell ?_ ?_ _ | refine Below.drew ?_ | refine below_drewN ?_ _ | (simp; done) | (simp; omega) | omega)) (hb1.mono (by first | (simp; done) | (simp; omega) | omega))
    have c0 : w1.cell? ⟨w.heap.size, 0, none⟩ = some (.int .i64 I) := (hb1.cell (p := ⟨w.heap.size, 0, none⟩) (by first | (simp; done) | (simp; omega) | omega)).trans (by go_simp)
    have c1 : w1.cell? ⟨w.heap.size, 1, none⟩ = some (.slice A n c) := (hb1.cell (p := ⟨w.heap.size, 1, none⟩) (by first | (simp; done) | (simp; omega) | omega)).trans (by go_simp)
    have hq0 : w.heap.size < w1.heap.size := (by have := hb1.size; simp at this; omega)
    have HLw := hid (HL.out.below hbel hbel.size)
    clear hb1 hb0
    go_wp2_with (fail)
    refine (HC.out _ HLw.out).mono ?_
    rintro e w2 ⟨rfl, hb2⟩
    have hbe2 := hbel.trans (hb2.mono hbel.size)
    go_wp2
    refine bodyPost_ret (v := .tuple #[.slice none 0 0, .int .i64 ev]) (by first | (simp [results, Tryz.results21, go_sem]; done) | (simp [results, Tryz.results21, go_sem, *]; done) | (simp [results, Tryz.results21, go_sem, World.cell?_setCell_same', *]; done) | (simp [results, Tryz.results21, go_sem]; first | exact ⟨rfl, rfl⟩ | rfl)) rfl ⟨none, 0, 0, rfl, by rw [hv.out]; exact Sl.none_, hbe2⟩
end Go.Proofs.YtnpilfpackdimaaGreat
/- Plain law: hires that are apart: the program's search finds the reference's best. -/
namespace Go.Proofs.YtnpilfpackdimaaGreat
theorem all_congrM {α : Type} {p q : α → Bool} : ∀ {l : List α}, (∀ x ∈ l, p x = q x) → l.all p = l.all q
  | [], _ => rfl
  | x :: l, h => by
    rw [List.all_cons, List.all_cons, h x (List.mem_cons_self ..), all_congrM fun y hy => h y (List.mem_cons_of_mem _ hy)]
theorem apP_snoc (ls : List (List Int)) (hs : List Int) (i : Int) : apP ls (hs ++ [i]) = (apP ls hs && (!(hire ls i).isEmpty && !(hire ls i).any fun x => (sB ls hs).testBit x.toNat)) := by
  unfold apP
  rw [List.length_append, List.length_singleton, apK_succ]
  congr 1
  · unfold apK
    refine all_congrM fun k hk => ?_
    have hk' := List.mem_range.1 hk
    unfold ap1
    rw [List.take_append_of_le_length (by omega)]
    have e : (hs ++ [i]).getD k 0 = hs.getD k 0 := by
      rw [List.getD_eq_getElem?_getD, List.getD_eq_getElem?_getD, List.getElem?_append_left hk']
    rw [e]
  · rw [ap1_at (i := i) (by rw [List.getElem?_append_right (Nat.le_refl _)]; simp), List.take_append_of_le_length (Nat.le_refl _), List.take_length]
theorem seenN_eq (ls : List (List Int)) (h : Nat) : ∀ k, seenN ls h k = sB ls (listed h k)
  | 0 => rfl
  | k + 1 => by
    rw [listed_succ]
    show (if h.testBit k then seenN ls h k ||| bitsL (ls.getD k []) else seenN ls h k) = _
    cases hb : h.testBit k
    · simp [seenN_eq ls h k]
    · rw [if_pos rfl, if_pos rfl, seenN_eq ls h k]
      unfold sB
      rw [List.foldl_append]; rfl
theorem bitsL_zero {l : List Int} (h : isL 8 0 l = true) : (bitsL l == 0) = l.isEmpty := by
  rw [Bool.eq_iff_iff, beq_iff_eq, List.isEmpty_iff]
  constructor
  · intro e
    have := listed_bits (n := 8) h
    rw [e] at this
    rw [← this]; rfl
  · rintro rfl; rfl
theorem badN_eq {ls : List (List Int)} (hv : ∀ l ∈ ls, isL 8 0 l = true) {h k : Nat} (hk : k < ls.length) : (!badN ls h k) = (!h.testBit k || (!(hire ls k).isEmpty && !(hire ls k).any fun x => (sB ls (listed h k)).testBit x.toNat)) := by
  have hl := hv _ (getD_mem hk)
  unfold badN
  rw [bitsL_zero hl, ← seenN_eq]
  have e : (bitsL (ls.getD k []) &&& seenN ls h k != 0) = (ls.getD k []).any (inB (seenN ls h k)) := by
    rw [Bool.eq_iff_iff, bne_iff_ne, Ne, bitsL_and (fun x hx => (isL_bd hl x hx).1)]
    simp
  rw [e]
  have e2 : hire ls (k : Int) = ls.getD k [] := rfl
  rw [e2]
  show _ = (!h.testBit k || (!(ls.getD k []).isEmpty && !(ls.getD k []).any (inB (seenN ls h k))))
  cases h.testBit k <;> cases (ls.getD k []).isEmpty <;> cases (ls.getD k []).any (inB (seenN ls h k)) <;> rfl
theorem rapB_to {ls : List (List Int)} (hv : ∀ l ∈ ls, isL 8 0 l = true) (h : Nat) : ∀ m, m ≤ ls.length → ((List.range m).all fun k => !badN ls h k) = apP ls (listed h m)
  | 0, _ => by simp [listed, apP, apK]
  | m + 1, hm => by
    rw [List.range_succ, List.all_append, rapB_to hv h m (by omega), listed_succ]
    simp only [List.all_cons, List.all_nil, Bool.and_true]
    rw [badN_eq hv (by omega)]
    cases hb : h.testBit m
    · simp
    · rw [if_pos rfl, apP_snoc]; simp
theorem rapB_eq {ls : List (List Int)} (hv : ∀ l ∈ ls, isL 8 0 l = true) (h : Nat) : rapB ls h = apP ls (listed h ls.length) := rapB_to hv h _ (Nat.le_refl _)
theorem rapB_bits {ls : List (List Int)} (hv : ∀ l ∈ ls, isL 8 0 l = true) {hs : List Int} (h : isL (ls.length : Int) 0 hs = true) : rapB ls (bitsL hs) = apP ls hs := by
  rw [rapB_eq hv, listed_bits h]
/-- r is the best of some lists: none is longer, none as long comes before it. -/
def BestOf (E : List Int → Prop) (r : List Int) : Prop := E r ∧ ∀ l, E l → l.length < r.length ∨ (l.length = r.length ∧ before l r = false)
theorem best_uniq {E : List Int → Prop} {r r' : List Int} (h : BestOf E r) (h' : BestOf E r') : r = r' := by
  refine Classical.byContradiction fun hne => ?_
  rcases h.2 r' h'.1 with h1 | ⟨h1, h2⟩
  · rcases h'.2 r h.1 with h3 | ⟨h3, -⟩ <;> omega
  · rcases h'.2 r h.1 with h3 | ⟨-, h4⟩
    · omega
    · have := before_tot hne h4
      rw [this] at h2; cases h2
theorem bstR_best {ls : List (List Int)} (hv : ∀ l ∈ ls, isL 8 0 l = true) : ∀ k, 0 < k → k ≤ 2 ^ ls.length → BestOf (fun l => ∃ x, x < k ∧ l = listed x ls.length ∧ apP ls l = true) (bstR ls k)
  | 0, h, _ => by omega
  | k + 1, _, hk => by
    rw [bstR_succ]
    rcases Nat.eq_zero_or_pos k with h0 | h0
    · subst h0
      have e : bstR ls 0 = [] := rfl
      have e2 : listed 0 ls.length = [] := by
        cases h : listed 0 ls.length with
        | nil => rfl
        | cons y t =>
          have : y ∈ listed 0 ls.length := by rw [h]; exact List.mem_cons_self ..
          obtain ⟨i, -, -, hb⟩ := mem_listed.1 this
          rw [Nat.zero_testBit] at hb; cases hb
      have hb : betR ls [] 0 = [] := by unfold betR; rw [e2]; split <;> rfl
      rw [e, hb]
      refine ⟨⟨0, by omega, e2.symm, rfl⟩, ?_⟩
      rintro l ⟨x, hx, rfl, -⟩
      have : x = 0 := by omega
      subst this
      rw [e2]
      exact .inr ⟨rfl, rfl⟩
    · have ih := bstR_best hv k h0 (by omega)
      obtain ⟨⟨x0, hx0, e0, ha0⟩, hbest⟩ := ih
      obtain ⟨b, hb⟩ : ∃ b, bstR ls k = b := ⟨_, rfl⟩
      rw [hb] at e0 ha0 hbest ⊢
      unfold betR
      rw [rapB_eq hv]
      by_cases hc : (apP ls (listed k ls.length) && (decide (b.length < (listed k ls.length).length) || (decide ((listed k ls.length).length = b.length) && before (listed k ls.length) b))) = true
      · rw [if_pos hc]
        simp only [Bool.and_eq_true, Bool.or_eq_true, decide_eq_true_eq] at hc
        refine ⟨⟨k, by omega, rfl, hc.1⟩, ?_⟩
        rintro l ⟨x, hx, rfl, hal⟩
        rcases Nat.lt_succ_iff_lt_or_eq.1 hx with hxk | rfl
        · have h3 := hbest _ ⟨x, hxk, rfl, hal⟩
          rcases hc.2 with h4 | ⟨h4, h5⟩
          · left
            rcases h3 with h6 | ⟨h6, -⟩ <;> omega
          · rcases h3 with h6 | ⟨h6, h7⟩
            · left; omega
            · right
              refine ⟨by omega, ?_⟩
              rw [Bool.eq_false_iff]
              intro h8
              rw [before_trans h8 h5] at h7; cases h7
        · exact .inr ⟨rfl, before_irr _⟩
      · rw [if_neg hc]
        refine ⟨⟨x0, by omega, e0, ha0⟩, ?_⟩
        rintro l ⟨x, hx, rfl, hal⟩
        rcases Nat.lt_succ_iff_lt_or_eq.1 hx with hxk | rfl
        · exact hbest _ ⟨x, hxk, rfl, hal⟩
        · rw [hal] at hc
          simp only [Bool.true_and, Bool.or_eq_true, Bool.and_eq_true, decide_eq_true_eq, not_or, not_and] at hc
          rcases Nat.lt_or_ge (listed x ls.length).length b.length with h1 | h1
          · exact .inl h1
          · have h2 : (listed x ls.length).length = b.length := by omega
            exact .inr ⟨h2, by simpa using hc.2 h2⟩
theorem bstR_all {ls : List (List Int)} (hv : ∀ l ∈ ls, isL 8 0 l = true) : BestOf (fun l => isL (ls.length : Int) 0 l = true ∧ apP ls l = true) (bstR ls (2 ^ ls.length)) := by
  obtain ⟨⟨x, hx, e, ha⟩, h2⟩ := bstR_best hv (2 ^ ls.length) (Nat.two_pow_pos _) (Nat.le_refl _)
  refine ⟨⟨by rw [e]; exact isL_listed' _ _, ha⟩, fun l hl => ?_⟩
  exact h2 l ⟨bitsL l, bitsL_lt hl.1, (listed_bits hl.1).symm, hl.2⟩
end Go.Proofs.YtnpilfpackdimaaGreat
/- Plain law: the search for hires that are apart finds the best. -/
namespace Go.Proofs.YtnpilfpackdimaaGreat
theorem before_app (b : List Int) (x y : List Int) : before (b ++ x) (b ++ y) = before x y := by
  induction b with
  | nil => rfl
  | cons z b ih => rw [List.cons_append, List.cons_append, before_cons, if_pos rfl, ih]
theorem apP_pre (ls : List (List Int)) (l : List Int) : ∀ t, apP ls (l ++ t) = true → apP ls l = true := by
  intro t
  induction t using snoc_rec with
  | h0 => intro h; rwa [List.append_nil] at h
  | h1 t x ih =>
    intro h
    rw [← List.append_assoc, apP_snoc, Bool.and_eq_true] at h
    exact ih h.1
/-- Lists of hires that are apart, begin as given, and go on below a number first. -/
def FwL (ls : List (List Int)) (i0 i : Nat) (begun l : List Int) : Prop := ∃ t, l = begun ++ t ∧ isL (ls.length : Int) (i0 : Int) t = true ∧ apP ls l = true ∧ ∀ y t', t = y :: t' → y < (i : Int)
theorem FwL.one {ls : List (List Int)} {i : Nat} {begun : List Int} (h : apP ls begun = true) : BestOf (FwL ls i i begun) begun := by
  refine ⟨⟨[], by rw [List.append_nil], rfl, h, fun y t' e => by cases e⟩, ?_⟩
  rintro l ⟨t, rfl, ht, -, hy⟩
  cases t with
  | nil => exact .inr ⟨by rw [List.append_nil], by rw [List.append_nil]; exact before_irr _⟩
  | cons y t =>
    have h1 := hy y t rfl
    have h2 := (isL_cons.1 ht).1.1
    omega
theorem mostL_best {ls : List (List Int)} : ∀ (r i : Nat) (begun out : List Int) (i0 : Nat), i + r = ls.length → i0 ≤ i → BestOf (FwL ls i0 i begun) out → BestOf (FwL ls i0 ls.length begun) (mostL ls r begun i out)
  | 0, i, begun, out, i0, hi, _, h => by
    have : i = ls.length := by omega
    subst this; exact h
  | r + 1, i, begun, out, i0, hi, hi0, h => by
    rw [mostL]
    refine mostL_best r (i + 1) begun _ i0 (by omega) (by omega) ?_
    obtain ⟨⟨t0, ht0, hl0, ha0, hy0⟩, hbest⟩ := h
    have hsplit : ∀ l, FwL ls i0 (i + 1) begun l → FwL ls i0 i begun l ∨ (apP ls (begun ++ [(i : Int)]) = true ∧ FwL ls (i + 1) ls.length (begun ++ [(i : Int)]) l) := by
      rintro l ⟨t, rfl, ht, ha, hy⟩
      cases t with
      | nil => exact .inl ⟨[], rfl, rfl, ha, fun y t' e => by cases e⟩
      | cons y t =>
        have h1 := hy y t rfl
        obtain ⟨⟨h2, h3⟩, h4⟩ := isL_cons.1 ht
        by_cases e : y = i
        · subst e
          right
          have e2 : begun ++ (i : Int) :: t = (begun ++ [(i : Int)]) ++ t := by simp
          refine ⟨apP_pre ls _ t (by rw [← e2]; exact ha), t, e2, h4, ha, fun z t' ez => ?_⟩
          subst ez
          exact (isL_cons.1 h4).1.2
        · exact .inl ⟨y :: t, rfl, ht, ha, fun z t' ez => by cases ez; omega⟩
    by_cases hap : apP ls (begun ++ [(i : Int)]) = true
    · rw [if_pos hap]
      have hsub := mostL_best r (i + 1) (begun ++ [(i : Int)]) (begun ++ [(i : Int)]) (i + 1) (by omega) (Nat.le_refl _) (FwL.one hap)
      obtain ⟨sub, hs⟩ : ∃ sub, mostL ls r (begun ++ [(i : Int)]) (i + 1) (begun ++ [(i : Int)]) = sub := ⟨_, rfl⟩
      rw [hs] at hsub ⊢
      obtain ⟨⟨t1, ht1, hl1, ha1, -⟩, hb1⟩ := hsub
      have hsubE : FwL ls i0 (i + 1) begun sub := by
        refine ⟨(i : Int) :: t1, by rw [ht1]; simp, isL_cons.2 ⟨⟨by omega, by omega⟩, hl1⟩, ha1, fun y t' e => by cases e; omega⟩
      by_cases hlt : out.length < sub.length
      · rw [if_pos hlt]
        refine ⟨hsubE, fun l hl => ?_⟩
        rcases hsplit l hl with h1 | ⟨-, h1⟩
        · left
          rcases hbest l h1 with h2 | ⟨h2, -⟩ <;> omega
        · exact hb1 l h1
      · rw [if_neg hlt]
        refine ⟨⟨t0, ht0, hl0, ha0, fun y t' e => by have := hy0 y t' e; omega⟩, fun l hl => ?_⟩
        rcases hsplit l hl with h1 | ⟨-, h1⟩
        · exact hbest l h1
        · have hle : l.length ≤ sub.length := by rcases hb1 l h1 with h2 | ⟨h2, -⟩ <;> omega
          rcases Nat.lt_or_ge l.length out.length with h2 | h2
          · exact .inl h2
          · right
            refine ⟨by omega, ?_⟩
            obtain ⟨t, rfl, -, -, -⟩ := h1
            have e2 : (begun ++ [(i : Int)]) ++ t = begun ++ (i : Int) :: t := by simp
            rw [ht0, e2, before_app]
            cases t0 with
            | nil =>
              rw [ht0, e2] at h2
              simp at h2
              have h3 := hlt
              rw [ht0] at h3
              rw [e2] at hle
              simp at h3 hle
              omega
            | cons y t' =>
              have h3 := hy0 y t' rfl
              rw [before_cons, if_neg (by omega)]
              simp; omega
    · rw [if_neg hap]
      refine ⟨⟨t0, ht0, hl0, ha0, fun y t' e => by have := hy0 y t' e; omega⟩, fun l hl => ?_⟩
      rcases hsplit l hl with h1 | ⟨h1, -⟩
      · exact hbest l h1
      · exact absurd h1 hap
/-- The hires that the program returns are the reference's. -/
theorem apart_eq {ls : List (List Int)} (hv : ∀ l ∈ ls, isL 8 0 l = true) : mostP ls [] 0 = bstR ls (2 ^ ls.length) := by
  refine best_uniq (E := fun l => isL (ls.length : Int) 0 l = true ∧ apP ls l = true) ?_ (bstR_all hv)
  obtain ⟨⟨t, ht, hl, ha, -⟩, hb⟩ := mostL_best (ls := ls) ls.length 0 [] [] 0 (by omega) (Nat.le_refl _) (FwL.one rfl)
  have e : mostP ls [] 0 = mostL ls ls.length [] 0 [] := rfl
  rw [List.nil_append] at ht
  rw [e]
  refine ⟨⟨by rw [ht]; exact hl, ha⟩, fun l hl => hb l ⟨l, rfl, hl.1, hl.2, fun y t' e => ?_⟩⟩
  subst e
  exact (isL_cons.1 hl.1).1.2
end Go.Proofs.YtnpilfpackdimaaGreat
/- Walk: the sets of so many inns, one by one: what goes on, whatever the loop. -/
namespace Go.Proofs.YtnpilfpackdimaaGreat
open Go.RowKit Go.Shelf
attribute [local go_sem] Oper.semAt_some
/-- A set: its slice, and what it reads as. -/
structure PE where
  v : Value
  l : List Int
def encP (x : PE) : Array Value := #[x.v]
def RdP (n : Nat) (x : PE) (W : World) : Prop := ∃ A c, x.v = .slice A n c ∧ InS W W.heap.size A n x.l ∧ (n = 0 → A = none ∧ c = 0) ∧ (∀ v ∈ x.l, 0 ≤ v ∧ v < 8) ∧ ∀ b off, A = some ⟨b, off, none⟩ → b < W.heap.size ∧ ∃ cs fr, W.heap[b]? = some (.cells cs 3 fr)
theorem rdP_keep {n : Nat} (x : PE) (W W' : World) (h : RdP n x W) (hk : ∀ (k : Nat) (o : Obj), W.heap[k]? = some o → o.isCells = true → W'.heap[k]? = some o) (hz : W.heap.size ≤ W'.heap.size) : RdP n x W' := by
  obtain ⟨A, c, h1, h2, h4, h8, h9⟩ := h
  refine ⟨A, c, h1, ⟨h2.1, fun hn => ?_⟩, h4, h8, fun b off e => ⟨Nat.lt_of_lt_of_le (h9 b off e).1 hz, by obtain ⟨-, cs, fr, h6⟩ := h9 b off e; exact ⟨cs, fr, hk _ _ h6 rfl⟩⟩⟩
  obtain ⟨b, off, e, hb, hc⟩ := h2.2 hn
  refine ⟨b, off, e, by omega, fun j u hu => ?_⟩
  have h4 := hc j u hu
  obtain ⟨o, ho, hoc⟩ := cells_of_cell h4
  exact (World.cell?_of_block ((hk _ o ho hoc).trans ho.symm)).trans h4
/-- All sets of m of the inns from f on, behind those that a list begins with. -/
def gooF (I m : Nat) : Nat → Nat → List Int → List (List Int)
  | 0, _, b => if b.length = m then [b] else []
  | d + 1, f, b => if b.length = m then [b] else (List.range' f (I - f)).flatMap fun i => gooF I m d (i + 1) (b ++ [(i : Int)])
def gooTo (I m d f : Nat) (b : List Int) (i : Nat) : List (List Int) := (List.range' f (i - f)).flatMap fun i => gooF I m d (i + 1) (b ++ [(i : Int)])
theorem gooTo_next {I m d f i : Nat} {b : List Int} (h : f ≤ i) : gooTo I m d f b (i + 1) = gooTo I m d f b i ++ gooF I m d (i + 1) (b ++ [(i : Int)]) := by
  unfold gooTo
  rw [show i + 1 - f = (i - f) + 1 by omega, List.range'_concat, List.flatMap_append]
  congr 1
  simp [show f + (i - f) = i by omega]
theorem gooTo_len {I m d f : Nat} {b : List Int} {i j : Nat} (h : i ≤ j) : (gooTo I m d f b i).length ≤ (gooTo I m d f b j).length := by
  induction j with
  | zero => rw [Nat.le_zero.1 h]; exact Nat.le_refl _
  | succ j ih =>
    rcases Nat.eq_or_lt_of_le h with h1 | h1
    · rw [h1]; exact Nat.le_refl _
    · refine Nat.le_trans (ih (by omega)) ?_
      by_cases hf : f ≤ j
      · rw [gooTo_next hf, List.length_append]; omega
      · unfold gooTo
        rw [show j - f = 0 by omega, show j + 1 - f = 0 by omega]; exact Nat.le_refl _
/-- What the recursion reads. -/
structure GIn (W : World) (own : Foot) (g I : Nat) : Prop where
  hI : W.cell? ⟨g, 0, none⟩ = some (.int .i64 (I : Int))
  lt : g < W.heap.size
  no : ¬ own g
theorem no_grow {W W' : World} {own own' : Foot} (hg : Grow own W own' W') {q : Nat} (hq : q < W.heap.size) (hn : ¬ own q) : ¬ own' q := fun h' => by
  rcases hg.from_ q h' with h1 | h1
  · exact hn h1
  · omega
theorem GIn.grow {W W' : World} {own own' : Foot} {g I : Nat} (h : GIn W own g I) (hg : Grow own W own' W') : GIn W' own' g I :=
  ⟨(World.cell?_of_block (hg.same _ h.lt h.no)).trans h.hI, Nat.lt_of_lt_of_le h.lt hg.size, no_grow hg h.lt h.no⟩
/-- A list that a loop cannot write. -/
def InO (W : World) (own : Foot) (A : Option Addr) (k : Nat) (b : List Int) : Prop := InS W W.heap.size A k b ∧ ∀ bb off, A = some ⟨bb, off, none⟩ → bb < W.heap.size ∧ ¬ own bb ∧ ∃ cs fr, W.heap[bb]? = some (.cells cs 3 fr)
theorem InO.grow {W W' : World} {own own' : Foot} {A : Option Addr} {k : Nat} {b : List Int} (h : InO W own A k b) (hg : Grow own W own' W') : InO W' own' A k b :=
  ⟨ins_at h.1 hg.size (fun b' off e hb => hg.same _ hb (h.2 b' off e).2.1), fun b' off e => ⟨Nat.lt_of_lt_of_le (h.2 b' off e).1 hg.size, no_grow hg (h.2 b' off e).1 (h.2 b' off e).2.1, by obtain ⟨h1, h2, cs, fr, h3⟩ := h.2 b' off e; exact ⟨cs, fr, (hg.same _ h1 h2).trans h3⟩⟩⟩
end Go.Proofs.YtnpilfpackdimaaGreat
/- Walk: the sets of so many inns: goOn, a recursion that yields. -/
namespace Go.Proofs.YtnpilfpackdimaaGreat
open Go.RowKit Go.Shelf
attribute [local go_sem] Oper.semAt_some
/-- What goOn promises. -/
def GoP (J Jx : List PE → Foot → World → Prop) (pre : List PE) (L : List (List Int)) (own : Foot) (W : World) (e : Ending) (W' : World) : Prop :=
  ∃ bv : Bool, e = .returned (.bool bv) ∧ (bv = true → ∃ xs own', xs.map PE.l = L ∧ J (pre ++ xs) own' W' ∧ Grow own W own' W') ∧ (bv = false → ∃ p own', p.map PE.l <+: L ∧ Jx (pre ++ p) own' W' ∧ Grow own W own' W')
theorem gooTo_pre {I m d f i j : Nat} {b : List Int} (h : i ≤ j) : gooTo I m d f b i <+: gooTo I m d f b j := by
  induction j with
  | zero => rw [Nat.le_zero.1 h]; exact List.prefix_rfl
  | succ j ih =>
    rcases Nat.eq_or_lt_of_le h with h1 | h1
    · rw [h1]; exact List.prefix_rfl
    · refine (ih (by omega)).trans ?_
      by_cases hf : f ≤ j
      · rw [gooTo_next hf]; exact List.prefix_append _ _
      · unfold gooTo
        rw [show j - f = 0 by omega, show j + 1 - f = 0 by omega]; exact List.prefix_rfl
theorem own_capN' {w : World} {base n c : Nat} {e : TypeId} {size : Nat} {A : Option Addr} {xs : List Value} (ho : w.ownsRow base e size (.slice A n c) n xs) : n ≤ c := by
  rcases ho.2 with ⟨e1, e2⟩ | ⟨g, cap, cur, e1, -, -, h, -⟩
  · cases e1; omega
  · cases e1; exact h
set_option maxRecDepth 100000 in
set_option maxHeartbeats 4000000 in
theorem goOn_walk (I m g l s Nb : Nat) (hI8 : I ≤ 8) (hm8 : m ≤ 8) (J Jx : List PE → Foot → World → Prop) (hJs : Stab s J) (hJxs : Stab s Jx) (hT : Takes (Wd none) Tryz.prog l encP (RdP m) Nb J Jx) :
    ∀ (d f : Nat) (b : List Int) (pre : List PE) (own : Foot) (W : World) (A : Option Addr) (k c D : Nat), I ≤ f + d → f ≤ 9 → b.length = k → k ≤ f → (k = 0 → A = none ∧ c = 0) → (∀ x ∈ b, 0 ≤ x ∧ x < 8) → k ≤ c → GIn W own g I → InO W own A k b → J pre own W → pre.length + (gooF I m d f b).length ≤ Nb → (∀ q, own q → q < W.heap.size) → s ≤ W.heap.size →
      CallsIn (Wd none) D Tryz.prog 98 #[.pointer (some ⟨g, 0, none⟩), .slice A k c, .int .i64 (f : Int), .int .i64 (m : Int), .func (.yield l) #[] #[]] W (GoP J Jx pre (gooF I m d f b) own W) := by
  have HJs := hid hJs
  have HJxs := hid hJxs
  have HT := hid hT
  have hd0 : (Wd none).depth = none := rfl
  clear hJs hJxs hT
  intro d
  induction d with
  | zero =>
    intro f b pre own W A k c D hfd hf9 hbl hkf hA hb8 hkc hG hIn hJ hNb hlt hsz
    have Hlt := hid hlt
    have HJ := hid hJ
    have HG := hid hG
    have HIn := hid hIn
    have Hb8 := hid hb8
    have HA := hid hA
    have Hbl := hid hbl
    clear hlt hJ hG hIn hb8 hA hbl
    by_cases hkm : k = m
    · subst hkm
      have hg : Hid (gooF I k 0 f b = [b]) := hid (by rw [gooF, if_pos Hbl.out])
      rw [hg.out] at hNb
      refine callsIn_of_wp_marks (F := Wd none) Tryz.func98 rfl trivial ?_ rfl
      simp only [Tryz.ntmps98, List.size_toArray, List.length_cons, List.length_nil, Nat.reduceAdd, Nat.reduceSub, Array.replicate_succ, Array.replicate_zero, List.push_toArray, List.append_toArray, List.nil_append, List.cons_append]
      obtain ⟨fn, tmps, asg, bdy, hy, hR⟩ := YieldAt.one hd0 (D - 1) (HT.out D pre own ⟨.slice A k c, b⟩ W HJ.out (by simp only [List.length_singleton] at hNb; omega) Hlt.out ⟨A, c, rfl, HIn.out.1, HA.out, Hb8.out, fun bb off e => ⟨(HIn.out.2 bb off e).1, (HIn.out.2 bb off e).2.2⟩⟩)
      simp only [encP] at hy
      gi_wp2_with (refine RoundIn.mono hR ?_; rintro e w3 ⟨bv, rfl, ht, hf⟩)
      refine leavesM_marks [] _ (by simp) (by simp) (fun w' ho' => ⟨.bool bv, by simp [results, Tryz.results98, go_sem], bv, rfl, fun h => ?_, fun h => ?_⟩)
      · obtain ⟨own', hj, hg'⟩ := ht h
        rw [hg.out]
        exact ⟨[⟨.slice A k c, b⟩], own', rfl, stab_off HJs.out hj ho' (by simp), grow_off hg' ho' (by simp)⟩
      · obtain ⟨own', hj, hg'⟩ := hf h
        rw [hg.out]
        exact ⟨[⟨.slice A k c, b⟩], own', List.prefix_rfl, stab_off HJxs.out hj ho' (by simp), grow_off hg' ho' (by simp)⟩
    · have hgf : Hid (gooF I m 0 f b = []) := hid (by rw [gooF, if_neg (by rw [Hbl.out]; exact hkm)])
      have hkmi : ((k : Int) == (m : Int)) = false := beq_eq_false_iff_ne.2 (by omega)
      refine callsIn_of_wp_marks (F := Wd none) Tryz.func98 rfl trivial ?_ rfl
      simp only [Tryz.ntmps98, List.size_toArray, List.length_cons, List.length_nil, Nat.reduceAdd, Nat.reduceSub, Array.replicate_succ, Array.replicate_zero, List.push_toArray, List.append_toArray, List.nil_append, List.cons_append]
      gi_wp2
      gi_loopw [11] (fun v w4 => v = .int .i64 (f : Int) ∧ w4 = W) (fun v _ => 0)
      case atStart => exact ⟨rfl, rfl⟩
      case round =>
        obtain ⟨rfl, rfl⟩ := hrel
        have c0 := HG.out.hI
        have lg := HG.out.lt
        have hcI : ¬ (f : Int) < I := by omega
        gi_wp2
        refine leavesM_marks [] _ (by simp) (by simp) (fun w' ho' => ⟨.bool true, by simp [results, Tryz.results98, go_sem], true, rfl, fun _ => ?_, fun h => absurd h (by decide)⟩)
        rw [hgf.out]
        exact ⟨[], own, rfl, by rw [List.append_nil]; exact stab_off HJs.out HJ.out ho' (by simp), grow_off (Grow.refl Hlt.out) ho' (by simp)⟩
  | succ d ih =>
    intro f b pre own W A k c D hfd hf9 hbl hkf hA hb8 hkc hG hIn hJ hNb hlt hsz
    have IH := hid ih
    have Hlt := hid hlt
    have HJ := hid hJ
    have HG := hid hG
    have HIn := hid hIn
    have Hb8 := hid hb8
    have HA := hid hA
    have Hbl := hid hbl
    clear ih hlt hJ hG hIn hb8 hA hbl
    by_cases hkm : k = m
    · subst hkm
      have hg : Hid (gooF I k (d + 1) f b = [b]) := hid (by rw [gooF, if_pos Hbl.out])
      rw [hg.out] at hNb
      refine callsIn_of_wp_marks (F := Wd none) Tryz.func98 rfl trivial ?_ rfl
      simp only [Tryz.ntmps98, List.size_toArray, List.length_cons, List.length_nil, Nat.reduceAdd, Nat.reduceSub, Array.replicate_succ, Array.replicate_zero, List.push_toArray, List.append_toArray, List.nil_append, List.cons_append]
      obtain ⟨fn, tmps, asg, bdy, hy, hR⟩ := YieldAt.one hd0 (D - 1) (HT.out D pre own ⟨.slice A k c, b⟩ W HJ.out (by simp only [List.length_singleton] at hNb; omega) Hlt.out ⟨A, c, rfl, HIn.out.1, HA.out, Hb8.out, fun bb off e => ⟨(HIn.out.2 bb off e).1, (HIn.out.2 bb off e).2.2⟩⟩)
      simp only [encP] at hy
      gi_wp2_with (refine RoundIn.mono hR ?_; rintro e w3 ⟨bv, rfl, ht, hf⟩)
      refine leavesM_marks [] _ (by simp) (by simp) (fun w' ho' => ⟨.bool bv, by simp [results, Tryz.results98, go_sem], bv, rfl, fun h => ?_, fun h => ?_⟩)
      · obtain ⟨own', hj, hg'⟩ := ht h
        rw [hg.out]
        exact ⟨[⟨.slice A k c, b⟩], own', rfl, stab_off HJs.out hj ho' (by simp), grow_off hg' ho' (by simp)⟩
      · obtain ⟨own', hj, hg'⟩ := hf h
        rw [hg.out]
        exact ⟨[⟨.slice A k c, b⟩], own', List.prefix_rfl, stab_off HJxs.out hj ho' (by simp), grow_off hg' ho' (by simp)⟩
    · have hgf : Hid (gooF I m (d + 1) f b = gooTo I m d f b I) := hid (by rw [gooF, if_neg (by rw [Hbl.out]; exact hkm)]; rfl)
      have hkmi : ((k : Int) == (m : Int)) = false := beq_eq_false_iff_ne.2 (by omega)
      refine callsIn_of_wp_marks (F := Wd none) Tryz.func98 rfl trivial ?_ rfl
      simp only [Tryz.ntmps98, List.size_toArray, List.length_cons, List.length_nil, Nat.reduceAdd, Nat.reduceSub, Array.replicate_succ, Array.replicate_zero, List.push_toArray, List.append_toArray, List.nil_append, List.cons_append]
      gi_wp2
      gi_loopw [11] (fun v w4 => ∃ (i : Nat) (xs : List PE) (own' : Foot), f ≤ i ∧ i ≤ max f I ∧ v = .int .i64 (i : Int) ∧ Hid (xs.map PE.l = gooTo I m d f b i) ∧ Hid (J (pre ++ xs) own' w4) ∧ Hid (Grow own W own' w4)) (fun v _ => I - (intOf v).toNat)
      case atStart => exact ⟨f, [], own, Nat.le_refl _, by omega, rfl, hid (by simp [gooTo]), hid (by rw [List.append_nil]; exact HJ.out), hid (Grow.refl Hlt.out)⟩
      case round =>
        obtain ⟨i, xs, own', hfi, hiI, rfl, hxs, hJx, hgr⟩ := hrel
        have HGr := HG.out.grow hgr.out
        have c0 := HGr.hI
        have lg := HGr.lt
        have HInr := hid (HIn.out.grow hgr.out)
        have HG2 := hid HGr
        clear HGr
        have hz1 := hgr.out.size
        by_cases hlt : i < I
        · have hlti : (i : Int) < I := by omega
          have hci : ((i + 1 : Nat) : Int) = (i : Int) + 1 := by omega
          have hbi : ∀ x ∈ b ++ [(i : Int)], 0 ≤ x ∧ x < 8 := fun x hx => by
            rcases List.mem_append.1 hx with h | h
            · exact Hb8.out x h
            · rw [List.mem_singleton.1 h]; omega
          have hNi : (pre ++ xs).length + (gooF I m d (i + 1) (b ++ [(i : Int)])).length ≤ Nb := by
            have h1 := congrArg List.length hxs.out
            have h2 := gooTo_len (I := I) (m := m) (d := d) (f := f) (b := b) (show i + 1 ≤ I by omega)
            rw [gooTo_next hfi, List.length_append] at h2
            rw [hgf.out] at hNb
            rw [List.length_map] at h1
            rw [List.length_append]
            omega
          have hih := fun (V : World) (q cap : Nat) h1 h2 h3 h4 h5 => IH.out (i + 1) (b ++ [(i : Int)]) (pre ++ xs) own' V (some ⟨q, 0, none⟩) (k + 1) cap (D - 1) (by omega) (by omega) (by rw [List.length_append, Hbl.out]; rfl) (by omega) (by omega) hbi h1 h2 h3 h4 hNi h5 
          rw [hci] at hih
          have Hih := hid hih
          have HF := hid (fun (W : World) (h : InS W W.heap.size A k b) => full_of_ins h (fun h0 => (HA.out h0).1))
          have Hfl : Hid ((b.flatMap cI).length = k * 1) := hid (by rw [flatI_len', Hbl.out, Nat.mul_one])
          obtain ⟨i0, hi0, hi1, hi2, hi3⟩ := info_parts' infoI
          have I0 := hid hi0; have I1 := hid hi1; have I2 := hid hi2; have I3 := hid hi3
          have hb4 : Below wr.heap.size wr (wr.alloc (.cells #[.int .i64 (i : Int)] 3)) := (Below.refl _ _).alloc (Nat.le_refl _) _
          have HI4 := hid (HInr.out.1.below hb4 hb4.size)
          have Hfb4 := hid (HF.out _ HI4.out)
          have hcase : (A = none ∧ k = 0 ∧ c = 0) ∨ ∃ bb off, A = some ⟨bb, off, none⟩ ∧ 0 < k := by
            rcases Nat.eq_zero_or_pos k with h0 | h0
            · exact .inl ⟨(HA.out h0).1, h0, (HA.out h0).2⟩
            · obtain ⟨bb, off, e, -⟩ := ins_some HInr.out.1 h0
              exact .inr ⟨bb, off, e, h0⟩
          clear hi0 hi1 hi2 hi3 hih hNi hbi HF hb4
          have hkm8 : k < 8 := by omega
          obtain ⟨Q, hQ⟩ : ∃ Q, gooF I m d (i + 1) (b ++ [(i : Int)]) = Q := ⟨_, rfl⟩
          have hnext : Hid (gooTo I m d f b (i + 1) = gooTo I m d f b i ++ Q) := hid (by rw [gooTo_next hfi, hQ])
          rw [hQ] at Hih
          clear hQ
          rcases hcase with ⟨rfl, rfl, rfl⟩ | ⟨bb, off, rfl, hk0⟩
          · gi_wp2_with (first | (gi_at_builtin; refine wpListIn_append_cap rfl _ _ 25 rfl 0 3 i0 _ 1 8 underL I0.out I1.out I2.out I3.out rfl _ 0 (b.flatMap cI) rfl Hfl.out Hfb4.out ⟨wr.heap.size, 0, none⟩ 1 1 [.int .i64 (i : Int)] rfl rfl (fun j u hj => World.news_of_block (Blk.new' rfl) j u hj) (by decide) (by unfold maxLen; omega) (by omega) (Nat.zero_le _) ?_; intro cap w9 ho9 hg9 hz9))
            have hb9 : Below wr.heap.size wr w9 := below_grown0 ((Below.refl _ _).alloc (Nat.le_refl _) _) hg9 (Nat.le_refl _)
            have hgw : Grow own' wr own' w9 := grow_below hgr.out.lt hb9
            have hsz9 : s ≤ w9.heap.size := by have := hb9.size; omega
            have hin9 : InO w9 own' (some ⟨wr.heap.size + 1, 0, none⟩) (0 + 1) (b ++ [(i : Int)]) := by
              refine ⟨?_, fun bb' off' e => ?_⟩
              · have h9 := Sl.of_own ho9
                rw [show b.flatMap cI ++ [Value.int .i64 (i : Int)] = (b ++ [(i : Int)]).flatMap cI by rw [List.flatMap_append]; rfl, World.size_alloc] at h9
                exact h9
              · cases e
                refine ⟨by simpa using hz9, fun h => ?_, by have h9 := own_cellsAt ho9; rw [World.size_alloc] at h9; exact h9⟩
                have := hgr.out.lt _ h
                omega
            have hj9 : J (pre ++ xs) own' w9 := HJs.out _ own' wr w9 hJx.out (fun j _ hlt' => hb9.block j hlt') hb9.size hb9.os hb9.tape hb9.output
            have hcap9 : 0 + 1 ≤ cap := by have h9 := own_capN' ho9; simpa using h9
            have hcall := Hih.out w9 (wr.heap.size + 1) cap hcap9 (HG2.out.grow hgw) hin9 hj9 (fun q hq => Nat.lt_of_lt_of_le (hgr.out.lt q hq) hb9.size) hsz9
            have Hgw := hid hgw
            clear hin9 hj9 hcap9 hgw ho9 hg9
            refine CallsIn.mono hcall ?_
            rintro e w5 ⟨bv, rfl, ht, hf⟩
            cases bv
            · obtain ⟨p, own2, hp, hj2, hg2⟩ := hf rfl
              clear ht hf
              gi_wp2
              refine leavesM_marks [] _ (by simp) (by simp) (fun w' ho' => ⟨.bool false, by simp [results, Tryz.results98, go_sem], false, rfl, fun h => absurd h (by decide), fun _ => ?_⟩)
              rw [hgf.out]
              refine ⟨xs ++ p, own2, ?_, by rw [← List.append_assoc]; exact stab_off HJxs.out hj2 ho' (by simp), grow_off (hgr.out.trans (Hgw.out.trans hg2)) ho' (by simp)⟩
              rw [List.map_append, hxs.out]
              exact (List.prefix_append_right_inj _).2 hp |>.trans (by rw [← hnext.out]; exact gooTo_pre (by omega))
            · obtain ⟨ys, own2, hp, hj2, hg2⟩ := ht rfl
              have Hj2 := hid hj2
              have Hg2 := hid (hgr.out.trans (Hgw.out.trans hg2))
              have Hp := hid hp
              clear ht hf hj2 hg2 hp
              gi_wp2
              (first | exact ⟨⟨i + 1, xs ++ ys, own2, by omega, by omega, by go_num, hid (by rw [List.map_append, hxs.out, Hp.out, hnext.out]), hid (by rw [← List.append_assoc]; exact Hj2.out), Hg2⟩, (by first | (simp [intOf]; omega) | (simp [intOf]; done))⟩ | (refine ⟨?_, ?_⟩; (focus ((repeat apply Exists.intro); refine ⟨?_, rfl⟩; exact ⟨i + 1, xs ++ ys, own2, by omega, by omega, by go_num, hid (by rw [List.map_append, hxs.out, Hp.out, hnext.out]), hid (by rw [← List.append_assoc]; exact Hj2.out), Hg2⟩)); (first | (simp [intOf]; omega) | (simp [intOf]; done))))
          · gi_wp2_with (first | (gi_at_builtin; refine wpListIn_append_cap rfl _ _ 25 rfl 0 3 i0 _ 1 8 underL I0.out I1.out I2.out I3.out rfl _ k (b.flatMap cI) rfl Hfl.out Hfb4.out ⟨wr.heap.size, 0, none⟩ 1 1 [.int .i64 (i : Int)] rfl rfl (fun j u hj => World.news_of_block (Blk.new' rfl) j u hj) (by decide) (by unfold maxLen; omega) (by omega) (Nat.zero_le _) ?_; intro cap w9 ho9 hg9 hz9))
            have hb9 : Below wr.heap.size wr w9 := below_grown0 ((Below.refl _ _).alloc (Nat.le_refl _) _) hg9 (Nat.le_refl _)
            have hgw : Grow own' wr own' w9 := grow_below hgr.out.lt hb9
            have hsz9 : s ≤ w9.heap.size := by have := hb9.size; omega
            have hin9 : InO w9 own' (some ⟨wr.heap.size + 1, 0, none⟩) (k + 1) (b ++ [(i : Int)]) := by
              refine ⟨?_, fun bb' off' e => ?_⟩
              · have h9 := Sl.of_own ho9
                rw [show b.flatMap cI ++ [Value.int .i64 (i : Int)] = (b ++ [(i : Int)]).flatMap cI by rw [List.flatMap_append]; rfl, World.size_alloc] at h9
                exact h9
              · cases e
                refine ⟨by simpa using hz9, fun h => ?_, by have h9 := own_cellsAt ho9; rw [World.size_alloc] at h9; exact h9⟩
                have := hgr.out.lt _ h
                omega
            have hj9 : J (pre ++ xs) own' w9 := HJs.out _ own' wr w9 hJx.out (fun j _ hlt' => hb9.block j hlt') hb9.size hb9.os hb9.tape hb9.output
            have hcap9 : k + 1 ≤ cap := by have h9 := own_capN' ho9; simpa using h9
            have hcall := Hih.out w9 (wr.heap.size + 1) cap hcap9 (HG2.out.grow hgw) hin9 hj9 (fun q hq => Nat.lt_of_lt_of_le (hgr.out.lt q hq) hb9.size) hsz9
            have Hgw := hid hgw
            clear hin9 hj9 hcap9 hgw ho9 hg9
            refine CallsIn.mono hcall ?_
            rintro e w5 ⟨bv, rfl, ht, hf⟩
            cases bv
            · obtain ⟨p, own2, hp, hj2, hg2⟩ := hf rfl
              clear ht hf
              gi_wp2
              refine leavesM_marks [] _ (by simp) (by simp) (fun w' ho' => ⟨.bool false, by simp [results, Tryz.results98, go_sem], false, rfl, fun h => absurd h (by decide), fun _ => ?_⟩)
              rw [hgf.out]
              refine ⟨xs ++ p, own2, ?_, by rw [← List.append_assoc]; exact stab_off HJxs.out hj2 ho' (by simp), grow_off (hgr.out.trans (Hgw.out.trans hg2)) ho' (by simp)⟩
              rw [List.map_append, hxs.out]
              exact (List.prefix_append_right_inj _).2 hp |>.trans (by rw [← hnext.out]; exact gooTo_pre (by omega))
            · obtain ⟨ys, own2, hp, hj2, hg2⟩ := ht rfl
              have Hj2 := hid hj2
              have Hg2 := hid (hgr.out.trans (Hgw.out.trans hg2))
              have Hp := hid hp
              clear ht hf hj2 hg2 hp
              gi_wp2
              (first | exact ⟨⟨i + 1, xs ++ ys, own2, by omega, by omega, by go_num, hid (by rw [List.map_append, hxs.out, Hp.out, hnext.out]), hid (by rw [← List.append_assoc]; exact Hj2.out), Hg2⟩, (by first | (simp [intOf]; omega) | (simp [intOf]; done))⟩ | (refine ⟨?_, ?_⟩; (focus ((repeat apply Exists.intro); refine ⟨?_, rfl⟩; exact ⟨i + 1, xs ++ ys, own2, by omega, by omega, by go_num, hid (by rw [List.map_append, hxs.out, Hp.out, hnext.out]), hid (by rw [← List.append_assoc]; exact Hj2.out), Hg2⟩)); (first | (simp [intOf]; omega) | (simp [intOf]; done))))
        · have hcI : ¬ (i : Int) < I := by omega
          have hfin : Hid (xs.map PE.l = gooTo I m d f b I) := hid (by
            rw [hxs.out]
            rcases Nat.le_total f I with h | h
            · rw [show i = I by omega]
            · unfold gooTo; rw [show i - f = 0 by omega, show I - f = 0 by omega])
          gi_wp2
          refine leavesM_marks [] _ (by simp) (by simp) (fun w' ho' => ⟨.bool true, by simp [results, Tryz.results98, go_sem], true, rfl, fun _ => ?_, fun h => absurd h (by decide)⟩)
          rw [hgf.out]
          exact ⟨xs, own', hfin.out, stab_off HJs.out hJx.out ho' (by simp), grow_off hgr.out ho' (by simp)⟩
end Go.Proofs.YtnpilfpackdimaaGreat
