/- Texts of the proof, laid together by program. -/
import Derived.Test.YtnpilfpackdimaaMf
import Derived.Test.YtnpilfpackdimaaMa
set_option linter.unusedSimpArgs false
set_option linter.unusedVariables false
/- Walks (reference): CheckBook, setError, CheckBlame. -/
namespace Go.Proofs.Ytnpilfpackdimaa
open Go.RowKit Go.Shelf
attribute [local go_sem] Oper.semAt_some
theorem chk_many {I : Int} {ls : List (List Int)} (h : I < 1 ∨ 8 < I ∨ 10 < ls.length) : chkBook I ls = 6 := if_pos h
set_option maxRecDepth 100000 in
set_option maxHeartbeats 1600000 in
theorem rcheckBook_any (A : Option Addr) (n c : Nat) (ls : List (List Int)) (I : Int) (w : World) (hl : LiS w w.heap.size A n ls) (hn : n ≤ 1000000) (hw : ∀ l ∈ ls, l.length ≤ 1000000) :
    Calls Try.prog 14 #[.agg #[.int .i64 I, .slice A n c]] w fun e w' => e = .returned (.int .i64 (chkBook I ls)) ∧ Below w.heap.size w w' := by
  have hlen := hid hl.1
  have HL := hid hl
  have HW := hid hw
  clear hl hw
  have B0 : Blk (w.alloc (.cells #[.int .i64 I, .slice A n c] 24)) w.heap.size 24 #[.int .i64 I, .slice A n c] := Blk.new' rfl
  have hb0 : Below w.heap.size w (w.alloc (.cells #[.int .i64 I, .slice A n c] 24)) := (Below.refl _ _).alloc (Nat.le_refl _) _
  by_cases h1 : I < 1
  · have hv := hid (chk_many (I := I) (ls := ls) (.inl h1))
    go_enter Try.func14, Try.ntmps14
    go_wp2
    refine bodyPost_ret (v := .int .i64 6) (by first | (simp [results, Try.results14, go_sem]; done) | (simp [results, Try.results14, go_sem, *]; done) | (simp [results, Try.results14, go_sem, World.cell?_setCell_same', *]; done) | (simp [results, Try.results14, go_sem]; first | exact ⟨rfl, rfl⟩ | rfl)) rfl ⟨by rw [hv.out], (by repeat' (first | with_reducible assumption | with_reducible exact Below.refl _ _ | refine Below.alloc ?_ ?_ _ | refine Below.setCell ?_ ?_ _ | refine Below.drew ?_ | refine below_drewN ?_ _ | (simp; done) | (simp; omega) | omega))⟩
  by_cases h2 : 8 < I
  · have hv := hid (chk_many (I := I) (ls := ls) (.inr (.inl h2)))
    go_enter Try.func14, Try.ntmps14
    go_wp2
    refine bodyPost_ret (v := .int .i64 6) (by first | (simp [results, Try.results14, go_sem]; done) | (simp [results, Try.results14, go_sem, *]; done) | (simp [results, Try.results14, go_sem, World.cell?_setCell_same', *]; done) | (simp [results, Try.results14, go_sem]; first | exact ⟨rfl, rfl⟩ | rfl)) rfl ⟨by rw [hv.out], (by repeat' (first | with_reducible assumption | with_reducible exact Below.refl _ _ | refine Below.alloc ?_ ?_ _ | refine Below.setCell ?_ ?_ _ | refine Below.drew ?_ | refine below_drewN ?_ _ | (simp; done) | (simp; omega) | omega))⟩
  by_cases h3 : 10 < n
  · have hv := hid (chk_many (I := I) (ls := ls) (.inr (.inr (by rw [hlen.out]; exact h3))))
    have h3i : (10 : Int) < n := by omega
    go_enter Try.func14, Try.ntmps14
    go_wp2
    refine bodyPost_ret (v := .int .i64 6) (by first | (simp [results, Try.results14, go_sem]; done) | (simp [results, Try.results14, go_sem, *]; done) | (simp [results, Try.results14, go_sem, World.cell?_setCell_same', *]; done) | (simp [results, Try.results14, go_sem]; first | exact ⟨rfl, rfl⟩ | rfl)) rfl ⟨by rw [hv.out], (by repeat' (first | with_reducible assumption | with_reducible exact Below.refl _ _ | refine Below.alloc ?_ ?_ _ | refine Below.setCell ?_ ?_ _ | refine Below.drew ?_ | refine below_drewN ?_ _ | (simp; done) | (simp; omega) | omega))⟩
  have hv : Hid (chkBook I ls = if ls.all (isL I 0) = false then 3 else 0) := hid (if_neg (by rw [hlen.out]; omega))
  have h3i : ¬ (10 : Int) < n := by omega
  go_enter Try.func14, Try.ntmps14
  go_wp2
  clear h1 h2
  go_loopw [3] (fun i wr => ∃ k : Nat, k ≤ n ∧ i = .int .i64 k ∧ Hid ((ls.take k).any (fun l => !isL I 0 l) = false) ∧ Hid (Blk wr w.heap.size 24 #[.int .i64 I, .slice A n c]) ∧ Below w.heap.size w wr) (fun i _ => n - (intOf i).toNat)
  case atStart => exact ⟨0, by omega, rfl, hid (by simp), hid B0, hb0⟩
  case round =>
    clear B0 hb0
    obtain ⟨k, hk, rfl, hno, hB, hbw⟩ := hrel
    have hszw := hbw.size
    have c0 := hB.out.cell 0
    have c1 := hB.out.cell 1
    have l1 := hB.out.lt
    by_cases hlt : k < n
    · obtain ⟨b1, off, x, A', m, c', rfl, hb1, hm, q0, hin⟩ := (HL.out.below hbw hszw).at_ hlt
      have hlti : (k : Int) < n := by omega
      have hxl := HW.out x (List.mem_of_getElem? hm)
      have hmn : m ≤ 1000000 := by have := hin.len; omega
      have hb1r : b1 < wr.heap.size := by omega
      have Hm := hid hm
      have Hin := hid hin
      clear hm hin
      go_wp2
      refine wp_region_hd_all (fun W => Below wr.heap.size wr W) (by kernel_rfl) (by kernel_rfl) ((Below.refl _ _).drew) ?_
      iterate 7 (refine wpHd_val (v := ?_) (by rfl) (fun W hW => ?_) ?_; rotate_left; (· obtain ⟨hcW, hfW⟩ := bcell hW; go_simp; with_reducible rfl); simp only [Act.put, List.setIfInBounds_toArray, List.set_cons_zero, List.set_cons_succ])
      (refine wpHd_callB (by rfl) (fun W hW => (isSet_any A' m c' x I W (Hin.out.below hW hW.size) hmn)) (fun W hW => ?_) ?_; (· obtain ⟨hcW, hfW⟩ := bcell hW; go_simp); simp only [Act.put, List.setIfInBounds_toArray, List.set_cons_zero, List.set_cons_succ])
      cases hx : isL I 0 x
      · have Hf : Hid (ls.all (isL I 0) = false) := hid (by
          rw [Bool.eq_false_iff]
          intro h
          rw [List.all_eq_true.1 h x (List.mem_of_getElem? Hm.out)] at hx; cases hx)
        (refine wpHd_val (v := ?_) (by rfl) (fun W hW => ?_) ?_; rotate_left; (· obtain ⟨hcW, hfW⟩ := bcell hW; go_simp; with_reducible rfl); simp only [Act.put, List.setIfInBounds_toArray, List.set_cons_zero, List.set_cons_succ])
        refine wpHd_nil ?_
        intro W9 hW9
        have hbw9 := hbw.trans (hW9.mono hszw)
        clear hx
        go_wp2
        refine bodyPost_ret (v := .int .i64 3) (by first | (simp [results, Try.results14, go_sem]; done) | (simp [results, Try.results14, go_sem, *]; done) | (simp [results, Try.results14, go_sem, World.cell?_setCell_same', *]; done) | (simp [results, Try.results14, go_sem]; first | exact ⟨rfl, rfl⟩ | rfl)) rfl ⟨by rw [hv.out, Hf.out]; rfl, hbw9⟩
      · have Hs := hid (any_off hno.out Hm.out (by simp [hx]))
        (refine wpHd_val (v := ?_) (by rfl) (fun W hW => ?_) ?_; rotate_left; (· obtain ⟨hcW, hfW⟩ := bcell hW; go_simp; with_reducible rfl); simp only [Act.put, List.setIfInBounds_toArray, List.set_cons_zero, List.set_cons_succ])
        refine wpHd_nil ?_
        intro W9 hW9
        have hbw9 := hbw.trans (hW9.mono hszw)
        have hB9 := hid (hB.out.below hW9 l1)
        clear hx
        go_wp2
        exact ⟨⟨k + 1, by omega, by go_num, Hs, hB9, hbw9⟩, by simp [intOf]; omega⟩
    · obtain rfl : k = n := by omega
      have Hf : Hid (ls.all (isL I 0) = true) := hid (by
        have h := hno.out
        rw [List.take_of_length_le (by rw [hlen.out]; exact Nat.le_refl _), any_not_all] at h
        simpa using h)
      go_wp2
      refine bodyPost_ret (v := .int .i64 0) (by first | (simp [results, Try.results14, go_sem]; done) | (simp [results, Try.results14, go_sem, *]; done) | (simp [results, Try.results14, go_sem, World.cell?_setCell_same', *]; done) | (simp [results, Try.results14, go_sem]; first | exact ⟨rfl, rfl⟩ | rfl)) rfl ⟨by rw [hv.out, Hf.out]; rfl, hbw⟩
set_option maxRecDepth 100000 in
set_option maxHeartbeats 1600000 in
theorem rsetError_any (A B : Option Addr) (n c m d : Nat) (ls : List (List Int)) (s : List Int) (I : Int) (w : World) (hl : LiS w w.heap.size A n ls) (hs : InS w w.heap.size B m s) (hn : n ≤ 1000000) (hw : ∀ l ∈ ls, l.length ≤ 1000000) (hm : m ≤ 1000000) :
    Calls Try.prog 37 #[.agg #[.int .i64 I, .slice A n c], .slice B m d] w fun e w' => e = .returned (.int .i64 (openE I ls [s])) ∧ Below w.heap.size w w' := by
  have HL := hid hl
  have HS := hid hs
  have HC := hid (fun W h => rcheckBook_any A n c ls I W h hn hw)
  have HI := hid (fun W h => isSet_any B m d s I W h hm)
  clear hl hs hw
  have hb0 : Below w.heap.size w (w.alloc (.cells #[.int .i64 I, .slice A n c] 24)) := (Below.refl _ _).alloc (Nat.le_refl _) _
  by_cases he : chkBook I ls = 0
  · have hv : Hid (openE I ls [s] = if [s].all (isL I 0) = false then 3 else 0) := hid (if_neg (by simpa using he))
    rw [he] at HC
    cases hx : isL I 0 s
    all_goals
      have hv2 : Hid ([s].all (isL I 0) = isL I 0 s) := hid (by simp)
      have Hx := hid hx
      rw [hx] at HI
      clear hx he
      go_enter Try.func37, Try.ntmps37
      go_wp2_with (fail)
      refine (HC.out _ (HL.out.below hb0 hb0.size)).mono ?_
      rintro e w1 ⟨rfl, hb1⟩
      have hbel : Below w.heap.size w w1 := Below.trans (by repeat' (first | with_reducible assumption | with_reducible exact Below.refl _ _ | refine Below.alloc ?_ ?_ _ | refine Below.setCell ?_ ?_ _ | refine Below.drew ?_ | refine below_drewN ?_ _ | (simp; done) | (simp; omega) | omega)) (hb1.mono (by first | (simp; done) | (simp; omega) | omega))
      have c0 : w1.cell? ⟨w.heap.size, 0, none⟩ = some (.int .i64 I) := (hb1.cell (p := ⟨w.heap.size, 0, none⟩) (by first | (simp; done) | (simp; omega) | omega)).trans (by go_simp)
      have hq0 : w.heap.size < w1.heap.size := (by have := hb1.size; simp at this; omega)
      clear hb1 hb0
      go_wp2_with (fail)
      refine (HI.out _ (HS.out.below hbel hbel.size)).mono ?_
      rintro e w2 ⟨rfl, hb2⟩
      have hbe2 := hbel.trans (hb2.mono hbel.size)
      go_wp2
    · refine bodyPost_ret (v := .int .i64 3) (by first | (simp [results, Try.results37, go_sem]; done) | (simp [results, Try.results37, go_sem, *]; done) | (simp [results, Try.results37, go_sem, World.cell?_setCell_same', *]; done) | (simp [results, Try.results37, go_sem]; first | exact ⟨rfl, rfl⟩ | rfl)) rfl ⟨by rw [hv.out, hv2.out, Hx.out]; rfl, hbe2⟩
    · refine bodyPost_ret (v := .int .i64 0) (by first | (simp [results, Try.results37, go_sem]; done) | (simp [results, Try.results37, go_sem, *]; done) | (simp [results, Try.results37, go_sem, World.cell?_setCell_same', *]; done) | (simp [results, Try.results37, go_sem]; first | exact ⟨rfl, rfl⟩ | rfl)) rfl ⟨by rw [hv.out, hv2.out, Hx.out]; rfl, hbe2⟩
  · have hv : Hid (openE I ls [s] = chkBook I ls) := hid (if_pos he)
    obtain ⟨ev, hev⟩ : ∃ ev, chkBook I ls = ev := ⟨_, rfl⟩
    rw [hev] at hv HC he
    have hbi : (ev != 0) = true := by simpa using he
    clear hev
    go_enter Try.func37, Try.ntmps37
    go_wp2_with (fail)
    refine (HC.out _ (HL.out.below hb0 hb0.size)).mono ?_
    rintro e w1 ⟨rfl, hb1⟩
    have hbel : Below w.heap.size w w1 := Below.trans (by repeat' (first | with_reducible assumption | with_reducible exact Below.refl _ _ | refine Below.alloc ?_ ?_ _ | refine Below.setCell ?_ ?_ _ | refine Below.drew ?_ | refine below_drewN ?_ _ | (simp; done) | (simp; omega) | omega)) (hb1.mono (by first | (simp; done) | (simp; omega) | omega))
    have c0 : w1.cell? ⟨w.heap.size, 0, none⟩ = some (.int .i64 I) := (hb1.cell (p := ⟨w.heap.size, 0, none⟩) (by first | (simp; done) | (simp; omega) | omega)).trans (by go_simp)
    have c1 : w1.cell? ⟨w.heap.size, 1, none⟩ = some (.slice A n c) := (hb1.cell (p := ⟨w.heap.size, 1, none⟩) (by first | (simp; done) | (simp; omega) | omega)).trans (by go_simp)
    have hq0 : w.heap.size < w1.heap.size := (by have := hb1.size; simp at this; omega)
    clear hb1 hb0
    go_wp2_with (fail)
    refine (HC.out _ (HL.out.below hbel hbel.size)).mono ?_
    rintro e w2 ⟨rfl, hb2⟩
    have hbe2 := hbel.trans (hb2.mono hbel.size)
    go_wp2
    refine bodyPost_ret (v := .int .i64 ev) (by first | (simp [results, Try.results37, go_sem]; done) | (simp [results, Try.results37, go_sem, *]; done) | (simp [results, Try.results37, go_sem, World.cell?_setCell_same', *]; done) | (simp [results, Try.results37, go_sem]; first | exact ⟨rfl, rfl⟩ | rfl)) rfl ⟨by rw [hv.out], hbe2⟩
end Go.Proofs.Ytnpilfpackdimaa
/- Walks (reference): Spare, CheckBlame, CheckTight. -/
namespace Go.Proofs.Ytnpilfpackdimaa
open Go.RowKit Go.Shelf
attribute [local go_sem] Oper.semAt_some
theorem clr_all : (List.range 256).all (fun b => (List.range 8).all fun i => !b.testBit i || clr b i + 2 ^ i == b) = true := by kernel_rfl
theorem clr_add {b i : Nat} (hb : b < 256) (hi : i < 8) (h : b.testBit i = true) : clr b i + 2 ^ i = b := by
  have h1 := List.all_eq_true.1 (List.all_eq_true.1 clr_all b (List.mem_range.2 hb)) i (List.mem_range.2 hi)
  rw [h] at h1
  simpa using h1
/-- The first inn that can be left out. -/
def spR (I : Nat) (ls : List (List Int)) (b : Nat) : Int := idxA (fun i => b.testBit i && decide (missI ls (clr b i) < 0)) (List.range I)
set_option maxRecDepth 100000 in
set_option maxHeartbeats 1600000 in
theorem rspare_any (A : Option Addr) (n c : Nat) (ls : List (List Int)) (I : Nat) (b : Nat) (w : World) (hl : LiS w w.heap.size A n ls) (hn : n ≤ 1000000) (hv : ∀ l ∈ ls, isL 8 0 l = true) (hI : I ≤ 8) (hb : b < 256) :
    Calls Try.prog 41 #[.agg #[.int .i64 (I : Int), .slice A n c], .int .i64 (b : Int)] w fun e w' => e = .returned (.int .i64 (spR I ls b)) ∧ Below w.heap.size w w' := by
  have HL := hid hl
  have HB := hid hb
  have HM := hid (fun (x : Nat) (W : World) (hx : x < 2 ^ 62) h => rmissed_any A n c ls (I : Int) x W h hn hv hx)
  obtain ⟨iv, hiv⟩ : ∃ iv, spR I ls b = iv := ⟨_, rfl⟩
  have Hiv := hid hiv
  rw [hiv]
  clear hl hv hb hiv
  go_enter Try.func41, Try.ntmps41
  have B0 : Blk (w.alloc (.cells #[.int .i64 (I : Int), .slice A n c] 24)) w.heap.size 24 #[.int .i64 (I : Int), .slice A n c] := Blk.new' rfl
  have hb0 : Below w.heap.size w (w.alloc (.cells #[.int .i64 (I : Int), .slice A n c] 24)) := (Below.refl _ _).alloc (Nat.le_refl _) _
  go_wp2
  go_loopw [5] (fun i wr => ∃ k : Nat, k ≤ I ∧ i = .int .i64 k ∧ Hid (((List.range I).take k).any (fun i => b.testBit i && decide (missI ls (clr b i) < 0)) = false) ∧ Hid (Blk wr w.heap.size 24 #[.int .i64 (I : Int), .slice A n c]) ∧ Below w.heap.size w wr) (fun i _ => I - (intOf i).toNat)
  case atStart => exact ⟨0, by omega, rfl, hid (by simp), hid B0, hb0⟩
  case round =>
    clear B0 hb0
    obtain ⟨k, hk, rfl, hno, hB, hbw⟩ := hrel
    have hszw := hbw.size
    have c0 := hB.out.cell 0
    have c1 := hB.out.cell 1
    have l1 := hB.out.lt
    by_cases hlt : k < I
    · have hlti : (k : Int) < I := by omega
      have Hm : Hid ((List.range I)[k]? = some k) := hid (by rw [List.getElem?_range hlt])
      have hand := low_bit' b k (by have := HB.out; omega)
      cases ht : b.testBit k
      · rw [ht] at hand
        simp only [Bool.false_eq_true, if_false] at hand
        have Hs := hid (any_off hno.out Hm.out (by rw [ht]; rfl))
        clear ht
        go_wp2
        refine wp_region_hd_all (fun W => Below wr.heap.size wr W) (by kernel_rfl) (by kernel_rfl) ((Below.refl _ _).drew) ?_
        iterate 6 (refine wpHd_val (v := ?_) (by rfl) (fun W hW => ?_) ?_; rotate_left; (· obtain ⟨hcW, hfW⟩ := bcell hW; go_simp; with_reducible rfl); simp only [Act.put, List.setIfInBounds_toArray, List.set_cons_zero, List.set_cons_succ])
        iterate 7 (refine wpHd_not (by rfl) ?_; simp only [Act.put, List.setIfInBounds_toArray, List.set_cons_zero, List.set_cons_succ])
        (refine wpHd_val (v := ?_) (by rfl) (fun W hW => ?_) ?_; rotate_left; (· obtain ⟨hcW, hfW⟩ := bcell hW; go_simp; with_reducible rfl); simp only [Act.put, List.setIfInBounds_toArray, List.set_cons_zero, List.set_cons_succ])
        refine wpHd_nil ?_
        intro W9 hW9
        have hbw9 := hbw.trans (hW9.mono hszw)
        have hB9 := hid (hB.out.below hW9 l1)
        go_wp2
        exact ⟨⟨k + 1, by omega, by go_num, Hs, hB9, hbw9⟩, by simp [intOf]; omega⟩
      · rw [ht] at hand
        simp only [if_true] at hand
        have hca := clr_add HB.out (by omega : k < 8) ht
        have hsub : (b : Int) - (2 : Int) ^ k = ((clr b k : Nat) : Int) := by
          have e : (2 : Int) ^ k = ((2 ^ k : Nat) : Int) := by push_cast; rfl
          rw [e]; omega
        have hpw := pow_wrap k (by omega)
        obtain ⟨C, hC⟩ : ∃ C, clr b k = C := ⟨_, rfl⟩
        obtain ⟨mv, hmv⟩ : ∃ mv, missI ls (clr b k) = mv := ⟨_, rfl⟩
        have hm2 := HM.out (clr b k)
        rw [hmv, hC] at hm2
        rw [hC] at hsub hca
        have hC8 : C < 256 := by have := HB.out; have := Nat.two_pow_pos k; omega
        have Hm2 := hid hm2
        have zc : IntKind.i64.wrap ((b : Int) - (2 : Int) ^ k) = (C : Int) := by rw [hsub, IntKind.wrap_i64]; omega
        have zc2 : IntKind.i64.wrap ((b : Int) - ((2 ^ k : Nat) : Int)) = (C : Int) := by rw [show ((2 ^ k : Nat) : Int) = (2 : Int) ^ k by push_cast; rfl]; exact zc
        cases hx : decide (mv < 0)
        · have hxn : ¬ mv < 0 := of_decide_eq_false hx
          have Hs := hid (any_off hno.out Hm.out (by rw [ht, hmv, hx]; rfl))
          clear ht hm2 hmv hx hC hca hsub
          go_wp2
          refine wp_region_hd_all (fun W => Below wr.heap.size wr W) (by kernel_rfl) (by kernel_rfl) ((Below.refl _ _).drew) ?_
          iterate 11 (refine wpHd_val (v := ?_) (by rfl) (fun W hW => ?_) ?_; rotate_left; (· obtain ⟨hcW, hfW⟩ := bcell hW; go_simp; with_reducible rfl); simp only [Act.put, List.setIfInBounds_toArray, List.set_cons_zero, List.set_cons_succ])
          (refine wpHd_callB (by rfl) (fun W hW => (Hm2.out W (by omega) (HL.out.below (hbw.trans (hW.mono hszw)) (Nat.le_trans hszw hW.size)))) (fun W hW => ?_) ?_; (· obtain ⟨hcW, hfW⟩ := bcell hW; go_simp); simp only [Act.put, List.setIfInBounds_toArray, List.set_cons_zero, List.set_cons_succ])
          iterate 2 (refine wpHd_val (v := ?_) (by rfl) (fun W hW => ?_) ?_; rotate_left; (· obtain ⟨hcW, hfW⟩ := bcell hW; go_simp; with_reducible rfl); simp only [Act.put, List.setIfInBounds_toArray, List.set_cons_zero, List.set_cons_succ])
          refine wpHd_nil ?_
          intro W9 hW9
          have hbw9 := hbw.trans (hW9.mono hszw)
          have hB9 := hid (hB.out.below hW9 l1)
          clear zc zc2 hpw
          go_wp2
          exact ⟨⟨k + 1, by omega, by go_num, Hs, hB9, hbw9⟩, by simp [intOf]; omega⟩
        · have hxn : mv < 0 := of_decide_eq_true hx
          have Hf := hid (idxA_hit hno.out Hm.out (by rw [ht, hmv, hx]; rfl))
          clear ht hm2 hmv hx hC hca hsub
          go_wp2
          refine wp_region_hd_all (fun W => Below wr.heap.size wr W) (by kernel_rfl) (by kernel_rfl) ((Below.refl _ _).drew) ?_
          iterate 11 (refine wpHd_val (v := ?_) (by rfl) (fun W hW => ?_) ?_; rotate_left; (· obtain ⟨hcW, hfW⟩ := bcell hW; go_simp; with_reducible rfl); simp only [Act.put, List.setIfInBounds_toArray, List.set_cons_zero, List.set_cons_succ])
          (refine wpHd_callB (by rfl) (fun W hW => (Hm2.out W (by omega) (HL.out.below (hbw.trans (hW.mono hszw)) (Nat.le_trans hszw hW.size)))) (fun W hW => ?_) ?_; (· obtain ⟨hcW, hfW⟩ := bcell hW; go_simp); simp only [Act.put, List.setIfInBounds_toArray, List.set_cons_zero, List.set_cons_succ])
          iterate 2 (refine wpHd_val (v := ?_) (by rfl) (fun W hW => ?_) ?_; rotate_left; (· obtain ⟨hcW, hfW⟩ := bcell hW; go_simp; with_reducible rfl); simp only [Act.put, List.setIfInBounds_toArray, List.set_cons_zero, List.set_cons_succ])
          refine wpHd_nil ?_
          intro W9 hW9
          have hbw9 := hbw.trans (hW9.mono hszw)
          clear zc zc2 hpw
          go_wp2
          refine bodyPost_ret (v := .int .i64 k) (by first | (simp [results, Try.results41, go_sem]; done) | (simp [results, Try.results41, go_sem, *]; done) | (simp [results, Try.results41, go_sem, World.cell?_setCell_same', *]; done) | (simp [results, Try.results41, go_sem]; first | exact ⟨rfl, rfl⟩ | rfl)) rfl ⟨by rw [← Hiv.out]; unfold spR; rw [Hf.out], hbw9⟩
    · obtain rfl : k = I := by omega
      have Hf := hid (idxA_none (by have := hno.out; rwa [List.take_of_length_le (by rw [List.length_range]; exact Nat.le_refl _)] at this))
      go_wp2
      refine bodyPost_ret (v := .int .i64 (-1)) (by first | (simp [results, Try.results41, go_sem]; done) | (simp [results, Try.results41, go_sem, *]; done) | (simp [results, Try.results41, go_sem, World.cell?_setCell_same', *]; done) | (simp [results, Try.results41, go_sem]; first | exact ⟨rfl, rfl⟩ | rfl)) rfl ⟨by rw [← Hiv.out]; unfold spR; rw [Hf.out], hbw⟩
set_option maxRecDepth 100000 in
set_option maxHeartbeats 1600000 in
theorem rcheckBlame_any (A B : Option Addr) (n c m d : Nat) (ls : List (List Int)) (s : List Int) (I : Int) (w : World) (hl : LiS w w.heap.size A n ls) (hs : InS w w.heap.size B m s) (hn : n ≤ 1000000) (hw : ∀ l ∈ ls, l.length ≤ 1000000) (hm : m ≤ 1000000) :
    Calls Try.prog 8 #[.agg #[.int .i64 I, .slice A n c], .slice B m d] w fun e w' => e = .returned (.tuple #[.int .i64 (blmV I ls s), .int .i64 (blmE I ls s)]) ∧ Below w.heap.size w w' := by
  have hlen := hid hs.len
  have HL := hid hl
  have HS := hid hs
  have HC := hid (fun W h h2 => rsetError_any A B n c m d ls s I W h h2 hn hw hm)
  have hb0 : Below w.heap.size w (w.alloc (.cells #[.int .i64 I, .slice A n c] 24)) := (Below.refl _ _).alloc (Nat.le_refl _) _
  clear hl hs hw
  by_cases he : openE I ls [s] = 0
  · obtain ⟨hc, hall⟩ := openE_good he
    have hsv : isL 8 0 s = true := isL8 (hall s (List.mem_singleton.2 rfl)) (book_good hc).2.1
    have hv : Hid (blmV I ls s = if 0 ≤ missI ls (bitsL s) then missI ls (bitsL s) else s.length) := hid (if_neg (by simpa using he))
    have hve : Hid (blmE I ls s = if 0 ≤ missI ls (bitsL s) then 21 else 0) := hid (if_neg (by simpa using he))
    have HM := hid (fun W h => rmissed_any A n c ls I (bitsL s) W h hn (book8 hc) (Nat.lt_of_lt_of_le (bitsL_lt (n := 8) hsv) (by decide)))
    have HR := hid (fun W h => rbits_any B m d s W h hm (fun y hy => by have := isL_bd hsv y hy; omega))
    rw [he] at HC
    obtain ⟨mv, hmv⟩ : ∃ mv, missI ls (bitsL s) = mv := ⟨_, rfl⟩
    rw [hmv] at HM hv hve
    obtain ⟨bn, hbn⟩ : ∃ bn, bitsL s = bn := ⟨_, rfl⟩
    rw [hbn] at HM HR
    clear he hc hall hsv hmv hbn
    by_cases hx : 0 ≤ mv
    all_goals
      first | rw [if_pos hx] at hv hve | rw [if_neg hx] at hv hve
      go_enter Try.func8, Try.ntmps8
      go_wp2_with (fail)
      refine (HC.out _ (HL.out.below hb0 hb0.size) (HS.out.below hb0 hb0.size)).mono ?_
      rintro e w1 ⟨rfl, hb1⟩
      have hbel : Below w.heap.size w w1 := Below.trans (by repeat' (first | with_reducible assumption | with_reducible exact Below.refl _ _ | refine Below.alloc ?_ ?_ _ | refine Below.setCell ?_ ?_ _ | refine Below.drew ?_ | refine below_drewN ?_ _ | (simp; done) | (simp; omega) | omega)) (hb1.mono (by first | (simp; done) | (simp; omega) | omega))
      have c0 : w1.cell? ⟨w.heap.size, 0, none⟩ = some (.int .i64 I) := (hb1.cell (p := ⟨w.heap.size, 0, none⟩) (by first | (simp; done) | (simp; omega) | omega)).trans (by go_simp)
      have c1 : w1.cell? ⟨w.heap.size, 1, none⟩ = some (.slice A n c) := (hb1.cell (p := ⟨w.heap.size, 1, none⟩) (by first | (simp; done) | (simp; omega) | omega)).trans (by go_simp)
      have hq0 : w.heap.size < w1.heap.size := (by have := hb1.size; simp at this; omega)
      clear hb1 hb0
      go_wp2
      refine wp_region_hd_all (fun W => Below w1.heap.size w1 W) (by kernel_rfl) (by kernel_rfl) ((Below.refl _ _).drew) ?_
      iterate 2 (refine wpHd_val (v := ?_) (by rfl) (fun W hW => ?_) ?_; rotate_left; (· obtain ⟨hcW, hfW⟩ := bcell hW; go_simp; with_reducible rfl); simp only [Act.put, List.setIfInBounds_toArray, List.set_cons_zero, List.set_cons_succ])
      (refine wpHd_callB (by rfl) (fun W hW => ((HR.out W (HS.out.below (hbel.trans (hW.mono hbel.size)) (Nat.le_trans hbel.size hW.size))).mono (fun e w' h => ⟨h.1, by rw [← h.2]; exact Below.refl _ _⟩))) (fun W hW => ?_) ?_; (· obtain ⟨hcW, hfW⟩ := bcell hW; go_simp); simp only [Act.put, List.setIfInBounds_toArray, List.set_cons_zero, List.set_cons_succ])
      (refine wpHd_callB (by rfl) (fun W hW => (HM.out W (HL.out.below (hbel.trans (hW.mono hbel.size)) (Nat.le_trans hbel.size hW.size)))) (fun W hW => ?_) ?_; (· obtain ⟨hcW, hfW⟩ := bcell hW; go_simp); simp only [Act.put, List.setIfInBounds_toArray, List.set_cons_zero, List.set_cons_succ])
      (refine wpHd_val (v := ?_) (by rfl) (fun W hW => ?_) ?_; rotate_left; (· obtain ⟨hcW, hfW⟩ := bcell hW; go_simp; with_reducible rfl); simp only [Act.put, List.setIfInBounds_toArray, List.set_cons_zero, List.set_cons_succ])
      refine wpHd_nil ?_
      intro W9 hW9
      have hbw9 := hbel.trans (hW9.mono hbel.size)
      clear c0 c1
      go_wp2
    · refine bodyPost_ret (v := .tuple #[.int .i64 mv, .int .i64 21]) (by first | (simp [results, Try.results8, go_sem]; done) | (simp [results, Try.results8, go_sem, *]; done) | (simp [results, Try.results8, go_sem, World.cell?_setCell_same', *]; done) | (simp [results, Try.results8, go_sem]; first | exact ⟨rfl, rfl⟩ | rfl)) rfl ⟨by rw [hv.out, hve.out], hbw9⟩
    · refine bodyPost_ret (v := .tuple #[.int .i64 (m : Int), .int .i64 0]) (by first | (simp [results, Try.results8, go_sem]; done) | (simp [results, Try.results8, go_sem, *]; done) | (simp [results, Try.results8, go_sem, World.cell?_setCell_same', *]; done) | (simp [results, Try.results8, go_sem]; first | exact ⟨rfl, rfl⟩ | rfl)) rfl ⟨by rw [hv.out, hve.out, hlen.out], hbw9⟩
  · have hv : Hid (blmV I ls s = 0) := hid (if_pos he)
    have hve : Hid (blmE I ls s = openE I ls [s]) := hid (if_pos he)
    obtain ⟨ev, hev⟩ : ∃ ev, openE I ls [s] = ev := ⟨_, rfl⟩
    rw [hev] at hve HC he
    have hbi : (ev != 0) = true := by simpa using he
    clear hev
    go_enter Try.func8, Try.ntmps8
    go_wp2_with (fail)
    refine (HC.out _ (HL.out.below hb0 hb0.size) (HS.out.below hb0 hb0.size)).mono ?_
    rintro e w1 ⟨rfl, hb1⟩
    have hbel : Below w.heap.size w w1 := Below.trans (by repeat' (first | with_reducible assumption | with_reducible exact Below.refl _ _ | refine Below.alloc ?_ ?_ _ | refine Below.setCell ?_ ?_ _ | refine Below.drew ?_ | refine below_drewN ?_ _ | (simp; done) | (simp; omega) | omega)) (hb1.mono (by first | (simp; done) | (simp; omega) | omega))
    have c0 : w1.cell? ⟨w.heap.size, 0, none⟩ = some (.int .i64 I) := (hb1.cell (p := ⟨w.heap.size, 0, none⟩) (by first | (simp; done) | (simp; omega) | omega)).trans (by go_simp)
    have c1 : w1.cell? ⟨w.heap.size, 1, none⟩ = some (.slice A n c) := (hb1.cell (p := ⟨w.heap.size, 1, none⟩) (by first | (simp; done) | (simp; omega) | omega)).trans (by go_simp)
    have hq0 : w.heap.size < w1.heap.size := (by have := hb1.size; simp at this; omega)
    clear hb1 hb0
    go_wp2_with (fail)
    refine (HC.out _ (HL.out.below hbel hbel.size) (HS.out.below hbel hbel.size)).mono ?_
    rintro e w2 ⟨rfl, hb2⟩
    have hbe2 := hbel.trans (hb2.mono hbel.size)
    go_wp2
    refine bodyPost_ret (v := .tuple #[.int .i64 0, .int .i64 ev]) (by first | (simp [results, Try.results8, go_sem]; done) | (simp [results, Try.results8, go_sem, *]; done) | (simp [results, Try.results8, go_sem, World.cell?_setCell_same', *]; done) | (simp [results, Try.results8, go_sem]; first | exact ⟨rfl, rfl⟩ | rfl)) rfl ⟨by rw [hv.out, hve.out], hbe2⟩
end Go.Proofs.Ytnpilfpackdimaa
/- Walks (reference): CheckTight, Before. -/
namespace Go.Proofs.Ytnpilfpackdimaa
open Go.RowKit Go.Shelf
attribute [local go_sem] Oper.semAt_some
def rtgE (I : Int) (ls : List (List Int)) (s : List Int) : Int := if blmE I ls s ≠ 0 then blmE I ls s else if 0 ≤ spR I.toNat ls (bitsL s) then 16 else 0
def rtgV (I : Int) (ls : List (List Int)) (s : List Int) : Int := if blmE I ls s ≠ 0 then blmV I ls s else if 0 ≤ spR I.toNat ls (bitsL s) then spR I.toNat ls (bitsL s) else blmV I ls s
set_option maxRecDepth 100000 in
set_option maxHeartbeats 1600000 in
theorem rcheckTight_any (A B : Option Addr) (n c m d : Nat) (ls : List (List Int)) (s : List Int) (I : Int) (w : World) (hl : LiS w w.heap.size A n ls) (hs : InS w w.heap.size B m s) (hn : n ≤ 1000000) (hw : ∀ l ∈ ls, l.length ≤ 1000000) (hm : m ≤ 1000000) :
    Calls Try.prog 10 #[.agg #[.int .i64 I, .slice A n c], .slice B m d] w fun e w' => e = .returned (.tuple #[.int .i64 (rtgV I ls s), .int .i64 (rtgE I ls s)]) ∧ Below w.heap.size w w' := by
  have hlen := hid hs.len
  have HL := hid hl
  have HS := hid hs
  have HC := hid (fun W h h2 => rcheckBlame_any A B n c m d ls s I W h h2 hn hw hm)
  have hb0 : Below w.heap.size w (w.alloc (.cells #[.int .i64 I, .slice A n c] 24)) := (Below.refl _ _).alloc (Nat.le_refl _) _
  clear hl hs hw
  by_cases he : blmE I ls s = 0
  · obtain ⟨ho, -⟩ := blmE_good he
    obtain ⟨hc, hall⟩ := openE_good ho
    obtain ⟨J, rfl⟩ : ∃ J : Nat, I = J := ⟨I.toNat, by have := (book_good hc).1; omega⟩
    have hJ8 : J ≤ 8 := by have := (book_good hc).2.1; omega
    have hsv : isL 8 0 s = true := isL8 (hall s (List.mem_singleton.2 rfl)) (book_good hc).2.1
    have hv : Hid (rtgV J ls s = if 0 ≤ spR J ls (bitsL s) then spR J ls (bitsL s) else blmV J ls s) := hid (if_neg (by simpa using he))
    have hve : Hid (rtgE J ls s = if 0 ≤ spR J ls (bitsL s) then 16 else 0) := hid (if_neg (by simpa using he))
    have HM := hid (fun W h => rspare_any A n c ls J (bitsL s) W h hn (book8 hc) hJ8 (Nat.lt_of_lt_of_le (bitsL_lt (n := 8) hsv) (by decide)))
    have HR := hid (fun W h => rbits_any B m d s W h hm (fun y hy => by have := isL_bd hsv y hy; omega))
    rw [he] at HC
    obtain ⟨mv, hmv⟩ : ∃ mv, spR J ls (bitsL s) = mv := ⟨_, rfl⟩
    rw [hmv] at HM hv hve
    obtain ⟨bn, hbn⟩ : ∃ bn, bitsL s = bn := ⟨_, rfl⟩
    rw [hbn] at HM HR
    obtain ⟨bv, hbv⟩ : ∃ bv, blmV J ls s = bv := ⟨_, rfl⟩
    rw [hbv] at HC hv
    clear he hc hall hsv hmv hbn ho hbv
    by_cases hx : 0 ≤ mv
    all_goals
      first | rw [if_pos hx] at hv hve | rw [if_neg hx] at hv hve
      go_enter Try.func10, Try.ntmps10
      go_wp2_with (fail)
      refine (HC.out _ (HL.out.below hb0 hb0.size) (HS.out.below hb0 hb0.size)).mono ?_
      rintro e w1 ⟨rfl, hb1⟩
      have hbel : Below w.heap.size w w1 := Below.trans (by repeat' (first | with_reducible assumption | with_reducible exact Below.refl _ _ | refine Below.alloc ?_ ?_ _ | refine Below.setCell ?_ ?_ _ | refine Below.drew ?_ | refine below_drewN ?_ _ | (simp; done) | (simp; omega) | omega)) (hb1.mono (by first | (simp; done) | (simp; omega) | omega))
      have c0 : w1.cell? ⟨w.heap.size, 0, none⟩ = some (.int .i64 (J : Int)) := (hb1.cell (p := ⟨w.heap.size, 0, none⟩) (by first | (simp; done) | (simp; omega) | omega)).trans (by go_simp)
      have c1 : w1.cell? ⟨w.heap.size, 1, none⟩ = some (.slice A n c) := (hb1.cell (p := ⟨w.heap.size, 1, none⟩) (by first | (simp; done) | (simp; omega) | omega)).trans (by go_simp)
      have hq0 : w.heap.size < w1.heap.size := (by have := hb1.size; simp at this; omega)
      clear hb1 hb0
      go_wp2
      refine wp_region_hd_all (fun W => Below w1.heap.size w1 W) (by kernel_rfl) (by kernel_rfl) ((Below.refl _ _).drew) ?_
      iterate 2 (refine wpHd_val (v := ?_) (by rfl) (fun W hW => ?_) ?_; rotate_left; (· obtain ⟨hcW, hfW⟩ := bcell hW; go_simp; with_reducible rfl); simp only [Act.put, List.setIfInBounds_toArray, List.set_cons_zero, List.set_cons_succ])
      (refine wpHd_callB (by rfl) (fun W hW => ((HR.out W (HS.out.below (hbel.trans (hW.mono hbel.size)) (Nat.le_trans hbel.size hW.size))).mono (fun e w' h => ⟨h.1, by rw [← h.2]; exact Below.refl _ _⟩))) (fun W hW => ?_) ?_; (· obtain ⟨hcW, hfW⟩ := bcell hW; go_simp); simp only [Act.put, List.setIfInBounds_toArray, List.set_cons_zero, List.set_cons_succ])
      (refine wpHd_callB (by rfl) (fun W hW => (HM.out W (HL.out.below (hbel.trans (hW.mono hbel.size)) (Nat.le_trans hbel.size hW.size)))) (fun W hW => ?_) ?_; (· obtain ⟨hcW, hfW⟩ := bcell hW; go_simp); simp only [Act.put, List.setIfInBounds_toArray, List.set_cons_zero, List.set_cons_succ])
      (refine wpHd_val (v := ?_) (by rfl) (fun W hW => ?_) ?_; rotate_left; (· obtain ⟨hcW, hfW⟩ := bcell hW; go_simp; with_reducible rfl); simp only [Act.put, List.setIfInBounds_toArray, List.set_cons_zero, List.set_cons_succ])
      refine wpHd_nil ?_
      intro W9 hW9
      have hbw9 := hbel.trans (hW9.mono hbel.size)
      clear c0 c1
      go_wp2
    · refine bodyPost_ret (v := .tuple #[.int .i64 mv, .int .i64 16]) (by first | (simp [results, Try.results10, go_sem]; done) | (simp [results, Try.results10, go_sem, *]; done) | (simp [results, Try.results10, go_sem, World.cell?_setCell_same', *]; done) | (simp [results, Try.results10, go_sem]; first | exact ⟨rfl, rfl⟩ | rfl)) rfl ⟨by rw [hv.out, hve.out], hbw9⟩
    · refine bodyPost_ret (v := .tuple #[.int .i64 bv, .int .i64 0]) (by first | (simp [results, Try.results10, go_sem]; done) | (simp [results, Try.results10, go_sem, *]; done) | (simp [results, Try.results10, go_sem, World.cell?_setCell_same', *]; done) | (simp [results, Try.results10, go_sem]; first | exact ⟨rfl, rfl⟩ | rfl)) rfl ⟨by rw [hv.out, hve.out], hbw9⟩
  · have hv : Hid (rtgV I ls s = blmV I ls s) := hid (if_pos he)
    have hve : Hid (rtgE I ls s = blmE I ls s) := hid (if_pos he)
    obtain ⟨ev, hev⟩ : ∃ ev, blmE I ls s = ev := ⟨_, rfl⟩
    rw [hev] at hve HC he
    obtain ⟨bv, hbv⟩ : ∃ bv, blmV I ls s = bv := ⟨_, rfl⟩
    rw [hbv] at HC hv
    have hbi : (ev != 0) = true := by simpa using he
    clear hev hbv
    go_enter Try.func10, Try.ntmps10
    go_wp2_with (fail)
    refine (HC.out _ (HL.out.below hb0 hb0.size) (HS.out.below hb0 hb0.size)).mono ?_
    rintro e w1 ⟨rfl, hb1⟩
    have hbel : Below w.heap.size w w1 := Below.trans (by repeat' (first | with_reducible assumption | with_reducible exact Below.refl _ _ | refine Below.alloc ?_ ?_ _ | refine Below.setCell ?_ ?_ _ | refine Below.drew ?_ | refine below_drewN ?_ _ | (simp; done) | (simp; omega) | omega)) (hb1.mono (by first | (simp; done) | (simp; omega) | omega))
    clear hb1 hb0
    go_wp2
    refine bodyPost_ret (v := .tuple #[.int .i64 bv, .int .i64 ev]) (by first | (simp [results, Try.results10, go_sem]; done) | (simp [results, Try.results10, go_sem, *]; done) | (simp [results, Try.results10, go_sem, World.cell?_setCell_same', *]; done) | (simp [results, Try.results10, go_sem]; first | exact ⟨rfl, rfl⟩ | rfl)) rfl ⟨by rw [hv.out, hve.out], hbel⟩
end Go.Proofs.Ytnpilfpackdimaa
/- Walks (law): of, wide, great, Lists, Same, fine, set. -/
namespace Go.Proofs.Ytnpilfpackdimaa
open Go.RowKit Go.Shelf
attribute [local go_sem] Oper.semAt_some
theorem of_any (v : Value) (w : World) : Calls Try.prog 19 #[v] w fun e w' => e = .returned v ∧ w = w' := by
  go_enter Try.func19, Try.ntmps19
  go_wp2
  refine bodyPost_ret (v := v) (by first | (simp [results, Try.results19, go_sem]; done) | (simp [results, Try.results19, go_sem, *]; done) | (simp [results, Try.results19, go_sem, World.cell?_setCell_same', *]; done) | (simp [results, Try.results19, go_sem]; first | exact ⟨rfl, rfl⟩ | rfl)) rfl ⟨rfl, rfl⟩
def wideL (l : List (List Int)) : Bool := decide (90 < l.length) || !(l.all fun x => decide (x.length ≤ 12))
def greatL (l : List (List Int)) : Bool := decide (14 < l.length) || wideL l
def fineB (I : Int) (l : List (List Int)) : Bool := !greatL l && chkBook I l == 0
theorem wide_off {l : List (List Int)} (h : wideL l = false) : l.length ≤ 90 ∧ ∀ x ∈ l, x.length ≤ 12 := by
  unfold wideL at h
  rw [Bool.or_eq_false_iff] at h
  obtain ⟨h1, h2⟩ := h
  refine ⟨by have := of_decide_eq_false h1; omega, fun x hx => ?_⟩
  have h3 : (l.all fun x => decide (x.length ≤ 12)) = true := by simpa using h2
  exact of_decide_eq_true (List.all_eq_true.1 h3 x hx)
theorem great_off {l : List (List Int)} (h : greatL l = false) : l.length ≤ 14 ∧ ∀ x ∈ l, x.length ≤ 12 := by
  unfold greatL at h
  rw [Bool.or_eq_false_iff] at h
  exact ⟨by have := of_decide_eq_false h.1; omega, (wide_off h.2).2⟩
theorem fineB_t {I : Int} {l : List (List Int)} : fineB I l = true ↔ greatL l = false ∧ chkBook I l = 0 := by
  unfold fineB; rw [Bool.and_eq_true, Bool.not_eq_true', beq_iff_eq]
set_option maxRecDepth 10000 in
set_option maxHeartbeats 1600000 in
theorem wide_any (A : Option Addr) (n c : Nat) (l : List (List Int)) (w : World) (hl : LiS w w.heap.size A n l) :
    Calls Try.prog 26 #[.slice A n c] w fun e w' => e = .returned (.bool (wideL l)) ∧ Below w.heap.size w w' := by
  have HL := hid hl
  have la := hid hl.1
  clear hl
  by_cases hn : 90 < n
  · have hni : ((90 : Int) < (n : Int)) := by omega
    have hf : Hid (wideL l = true) := hid (by unfold wideL; rw [la.out, decide_eq_true hn]; rfl)
    go_enter Try.func26, Try.ntmps26
    go_wp2
    refine bodyPost_ret (v := .bool true) (by first | (simp [results, Try.results26, go_sem]; done) | (simp [results, Try.results26, go_sem, *]; done) | (simp [results, Try.results26, go_sem, World.cell?_setCell_same', *]; done) | (simp [results, Try.results26, go_sem]; first | exact ⟨rfl, rfl⟩ | rfl)) rfl ⟨by rw [hf.out], Below.refl _ _⟩
  · have hni : ¬ ((90 : Int) < (n : Int)) := by omega
    have hf : Hid (wideL l = !(l.all fun x => decide (x.length ≤ 12))) := hid (by unfold wideL; rw [la.out, decide_eq_false hn]; rfl)
    go_enter Try.func26, Try.ntmps26
    go_wp2_with (fail)
    go_loopw [3, 4] (fun v i wr => ∃ k mx : Nat, k ≤ n ∧ v = .int .i64 mx ∧ i = .int .i64 k ∧ Hid (decide (12 < mx) = !((l.take k).all fun x => decide (x.length ≤ 12))) ∧ w = wr) (fun _ i _ => n - (intOf i).toNat)
    case atStart => exact ⟨0, 0, by omega, rfl, rfl, hid (by simp), rfl⟩
    case round =>
      obtain ⟨k, mx, hk, rfl, rfl, hall, rfl⟩ := hrel
      by_cases hlt : k < n
      · obtain ⟨b1, o1, x, A1, m1, c1, rfl, hb1, hx, d1, hinx⟩ := HL.out.at_ hlt
        have hxl : Hid (x.length = m1) := hid hinx.len
        have hst : Hid (((l.take (k + 1)).all fun x => decide (x.length ≤ 12)) = (((l.take k).all fun x => decide (x.length ≤ 12)) && decide (m1 ≤ 12))) := hid (by rw [List.take_add_one, hx, List.all_append, ← hxl.out]; simp)
        have hlti : (k : Int) < n := by omega
        clear hx hinx
        have hnx : Hid (decide (12 < max mx m1) = !((l.take (k + 1)).all fun x => decide (x.length ≤ 12))) := hid (by
          rw [hst.out, Bool.not_and, ← hall.out]
          by_cases h1 : 12 < mx <;> by_cases h2 : m1 ≤ 12 <;> simp [h1, h2] <;> omega)
        go_wp2
        exact ⟨⟨k + 1, max mx m1, by omega, by congr 1; omega, by go_num, hnx, trivial⟩, by simp [intOf]; omega⟩
      · obtain rfl : n = k := by omega
        have hall2 := hall.out
        rw [List.take_of_length_le (by rw [la.out]; exact Nat.le_refl _)] at hall2
        have hf2 := hid (hf.out.trans hall2.symm)
        clear hall2
        by_cases h12 : 12 < mx
        · have h12i : ((12 : Int) < (mx : Int)) := by omega
          have hf3 := hid (hf2.out.trans (decide_eq_true h12))
          go_wp2
          refine bodyPost_ret (v := .bool true) (by first | (simp [results, Try.results26, go_sem]; done) | (simp [results, Try.results26, go_sem, *]; done) | (simp [results, Try.results26, go_sem, World.cell?_setCell_same', *]; done) | (simp [results, Try.results26, go_sem]; first | exact ⟨rfl, rfl⟩ | rfl)) rfl ⟨by rw [hf3.out], Below.refl _ _⟩
        · have h12i : ¬ ((12 : Int) < (mx : Int)) := by omega
          have hf3 := hid (hf2.out.trans (decide_eq_false h12))
          go_wp2
          refine bodyPost_ret (v := .bool false) (by first | (simp [results, Try.results26, go_sem]; done) | (simp [results, Try.results26, go_sem, *]; done) | (simp [results, Try.results26, go_sem, World.cell?_setCell_same', *]; done) | (simp [results, Try.results26, go_sem]; first | exact ⟨rfl, rfl⟩ | rfl)) rfl ⟨by rw [hf3.out], Below.refl _ _⟩
set_option maxRecDepth 10000 in
set_option maxHeartbeats 1600000 in
theorem great_any (A : Option Addr) (n c : Nat) (l : List (List Int)) (I : Int) (w : World) (hl : LiS w w.heap.size A n l) :
    Calls Try.prog 5 #[.agg #[.int .i64 I, .slice A n c]] w fun e w' => e = .returned (.bool (greatL l)) ∧ Below w.heap.size w w' := by
  have HL := hid hl
  have la := hid hl.1
  have hb0 : Below w.heap.size w (w.alloc (.cells #[.int .i64 I, .slice A n c] 24)) := (Below.refl _ _).alloc (Nat.le_refl _) _
  clear hl
  by_cases hn : 14 < n
  · have hni : ((14 : Int) < (n : Int)) := by omega
    have hf : Hid (greatL l = true) := hid (by unfold greatL; rw [la.out, decide_eq_true hn]; rfl)
    go_enter Try.func5, Try.ntmps5
    go_wp2
    refine bodyPost_ret (v := .bool true) (by first | (simp [results, Try.results5, go_sem]; done) | (simp [results, Try.results5, go_sem, *]; done) | (simp [results, Try.results5, go_sem, World.cell?_setCell_same', *]; done) | (simp [results, Try.results5, go_sem]; first | exact ⟨rfl, rfl⟩ | rfl)) rfl ⟨by rw [hf.out], hb0⟩
  · have hni : ¬ ((14 : Int) < (n : Int)) := by omega
    have hf : Hid (greatL l = wideL l) := hid (by unfold greatL; rw [la.out, decide_eq_false hn]; rfl)
    have hwd := wide_any A n c l _ (HL.out.below hb0 hb0.size)
    obtain ⟨bv, hbv⟩ : ∃ bv, wideL l = bv := ⟨_, rfl⟩
    rw [hbv] at hwd hf
    have Hwd := hid hwd
    clear hbv hwd
    go_enter Try.func5, Try.ntmps5
    go_wp2_with (go_at_call 26; refine Hwd.out.mono ?_; rintro e w1 ⟨rfl, hb1⟩)
    have hbel : Below w.heap.size w w1 := Below.trans (by repeat' (first | with_reducible assumption | with_reducible exact Below.refl _ _ | refine Below.alloc ?_ ?_ _ | refine Below.setCell ?_ ?_ _ | refine Below.drew ?_ | refine below_drewN ?_ _ | (simp; done) | (simp; omega) | omega)) (hb1.mono (by first | (simp; done) | (simp; omega) | omega))
    refine bodyPost_ret (v := .bool bv) (by first | (simp [results, Try.results5, go_sem]; done) | (simp [results, Try.results5, go_sem, *]; done) | (simp [results, Try.results5, go_sem, World.cell?_setCell_same', *]; done) | (simp [results, Try.results5, go_sem]; first | exact ⟨rfl, rfl⟩ | rfl)) rfl ⟨by rw [hf.out], hbel⟩
def eqLs (a b : List (List Int)) : Bool := decide (a = b)
theorem eqLs_t {a b : List (List Int)} : eqLs a b = true ↔ a = b := by simp [eqLs]
set_option maxRecDepth 10000 in
set_option maxHeartbeats 1600000 in
theorem lists_any (A B : Option Addr) (n c m d : Nat) (a b : List (List Int)) (w : World) (ha : LiS w w.heap.size A n a) (hb : LiS w w.heap.size B m b) (hw : ∀ l ∈ a, l.length ≤ 1000000) (hn : n ≤ 1000000) :
    Calls Try.prog 25 #[.slice A n c, .slice B m d] w fun e w' => e = .returned (.bool (eqLs a b)) ∧ Below w.heap.size w w' := by
  have la := hid ha.1
  have lb := hid hb.1
  have HA := hid ha
  have HB := hid hb
  have HW := hid hw
  clear ha hb hw
  by_cases hnm : n = m
  · subst hnm
    have t0 : ((n : Int) != (n : Int)) = false := by simp
    go_enter Try.func25, Try.ntmps25
    go_wp2
    go_loopw [5] (fun i wr => ∃ k : Nat, k ≤ n ∧ i = .int .i64 k ∧ Hid (a.take k = b.take k) ∧ Below w.heap.size w wr) (fun i _ => n - (intOf i).toNat)
    case atStart => exact ⟨0, by omega, rfl, by simp [Hid], Below.refl _ _⟩
    case round =>
      obtain ⟨k, hk, rfl, heq, hbw⟩ := hrel
      have hszw := hbw.size
      by_cases hlt : k < n
      · obtain ⟨b1, o1, x, A3, m3, c3, rfl, hb1, hx, q0, hin3⟩ := (HA.out.below hbw hszw).at_ hlt
        obtain ⟨b2, o2, y, A4, m4, c4, rfl, hb2, hy, r0, hin4⟩ := (HB.out.below hbw hszw).at_ hlt
        have hlti : (k : Int) < n := by omega
        have hxl : m3 ≤ 1000000 := by have := HW.out x (List.mem_of_getElem? hx); have := hin3.len; omega
        have Hx := hid hx
        have Hy := hid hy
        have Hin3 := hid hin3
        have Hin4 := hid hin4
        have hcs := hid (fun W h h2 => ints_any W A3 A4 m3 c3 m4 c4 x y h h2 hxl)
        have hb1r : b1 < wr.heap.size := by omega
        have hb2r : b2 < wr.heap.size := by omega
        clear hx hy hin3 hin4
        cases hq : eqI x y
        · have hxy : x ≠ y := fun e => by rw [eqI_t.2 e] at hq; cases hq
          have hne : a ≠ b := ne_of_at Hx.out Hy.out hxy
          have Hf : Hid (eqLs a b = false) := hid (by unfold eqLs; exact decide_eq_false hne)
          rw [hq] at hcs
          clear hq hxy hne
          go_wp2
          refine wp_region_hd_all (fun W => Below wr.heap.size wr W) (by kernel_rfl) (by kernel_rfl) ((Below.refl _ _).drew) ?_
          iterate 8 (refine wpHd_val (v := ?_) (by rfl) (fun W hW => ?_) ?_; rotate_left; (· obtain ⟨hcW, hfW⟩ := bcell hW; go_simp; with_reducible rfl); simp only [Act.put, List.setIfInBounds_toArray, List.set_cons_zero, List.set_cons_succ])
          (refine wpHd_callB (by rfl) (fun W hW => (hcs.out W (Hin3.out.below hW hW.size) (Hin4.out.below hW hW.size))) (fun W hW => ?_) ?_; (· obtain ⟨hcW, hfW⟩ := bcell hW; go_simp); simp only [Act.put, List.setIfInBounds_toArray, List.set_cons_zero, List.set_cons_succ])
          (refine wpHd_val (v := ?_) (by rfl) (fun W hW => ?_) ?_; rotate_left; (· obtain ⟨hcW, hfW⟩ := bcell hW; go_simp; with_reducible rfl); simp only [Act.put, List.setIfInBounds_toArray, List.set_cons_zero, List.set_cons_succ])
          refine wpHd_nil ?_
          intro W9 hW9
          have hbw9 := hbw.trans (hW9.mono hszw)
          clear q0 r0
          go_wp2
          refine bodyPost_ret (v := .bool false) (by first | (simp [results, Try.results25, go_sem]; done) | (simp [results, Try.results25, go_sem, *]; done) | (simp [results, Try.results25, go_sem, World.cell?_setCell_same', *]; done) | (simp [results, Try.results25, go_sem]; first | exact ⟨rfl, rfl⟩ | rfl)) rfl ⟨by rw [Hf.out], hbw9⟩
        · have hxy : x = y := eqI_t.1 hq
          have Hs := hid (take_eq_succ heq.out Hx.out (by rw [Hy.out, hxy]))
          rw [hq] at hcs
          clear hq hxy
          go_wp2
          refine wp_region_hd_all (fun W => Below wr.heap.size wr W) (by kernel_rfl) (by kernel_rfl) ((Below.refl _ _).drew) ?_
          iterate 8 (refine wpHd_val (v := ?_) (by rfl) (fun W hW => ?_) ?_; rotate_left; (· obtain ⟨hcW, hfW⟩ := bcell hW; go_simp; with_reducible rfl); simp only [Act.put, List.setIfInBounds_toArray, List.set_cons_zero, List.set_cons_succ])
          (refine wpHd_callB (by rfl) (fun W hW => (hcs.out W (Hin3.out.below hW hW.size) (Hin4.out.below hW hW.size))) (fun W hW => ?_) ?_; (· obtain ⟨hcW, hfW⟩ := bcell hW; go_simp); simp only [Act.put, List.setIfInBounds_toArray, List.set_cons_zero, List.set_cons_succ])
          (refine wpHd_val (v := ?_) (by rfl) (fun W hW => ?_) ?_; rotate_left; (· obtain ⟨hcW, hfW⟩ := bcell hW; go_simp; with_reducible rfl); simp only [Act.put, List.setIfInBounds_toArray, List.set_cons_zero, List.set_cons_succ])
          refine wpHd_nil ?_
          intro W9 hW9
          have hbw9 := hbw.trans (hW9.mono hszw)
          clear q0 r0
          go_wp2
          exact ⟨⟨k + 1, by omega, by go_num, Hs, hbw9⟩, by simp [intOf]; omega⟩
      · obtain rfl : k = n := by omega
        have Hf : Hid (eqLs a b = true) := hid (by
          have h := heq.out
          rw [List.take_of_length_le (by rw [la.out]; exact Nat.le_refl _), List.take_of_length_le (by rw [lb.out]; exact Nat.le_refl _)] at h
          exact eqLs_t.2 h)
        go_wp2
        refine bodyPost_ret (v := .bool true) (by first | (simp [results, Try.results25, go_sem]; done) | (simp [results, Try.results25, go_sem, *]; done) | (simp [results, Try.results25, go_sem, World.cell?_setCell_same', *]; done) | (simp [results, Try.results25, go_sem]; first | exact ⟨rfl, rfl⟩ | rfl)) rfl ⟨by rw [Hf.out], hbw⟩
  · have hne : a ≠ b := fun e => hnm (by rw [← la.out, ← lb.out, e])
    have Hf : Hid (eqLs a b = false) := hid (decide_eq_false hne)
    have t0 : ((n : Int) != (m : Int)) = true := by simp; omega
    clear hne
    go_enter Try.func25, Try.ntmps25
    go_wp2
    refine bodyPost_ret (v := .bool false) (by first | (simp [results, Try.results25, go_sem]; done) | (simp [results, Try.results25, go_sem, *]; done) | (simp [results, Try.results25, go_sem, World.cell?_setCell_same', *]; done) | (simp [results, Try.results25, go_sem]; first | exact ⟨rfl, rfl⟩ | rfl)) rfl ⟨by rw [Hf.out], Below.refl _ _⟩
set_option maxRecDepth 10000 in
set_option maxHeartbeats 1600000 in
theorem sameB_any (A B : Option Addr) (n c m d : Nat) (a b : List (List Int)) (I J : Int) (w : World) (ha : LiS w w.heap.size A n a) (hb : LiS w w.heap.size B m b) (hw : ∀ l ∈ a, l.length ≤ 1000000) (hn : n ≤ 1000000) :
    Calls Try.prog 32 #[.agg #[.int .i64 I, .slice A n c], .agg #[.int .i64 J, .slice B m d]] w fun e w' => e = .returned (.bool (decide (I = J) && eqLs a b)) ∧ Below w.heap.size w w' := by
  have HA := hid ha
  have HB := hid hb
  have hbl : Below w.heap.size w ((w.alloc (.cells #[.int .i64 I, .slice A n c] 24)).alloc (.cells #[.int .i64 J, .slice B m d] 24)) := (by repeat' (first | with_reducible assumption | with_reducible exact Below.refl _ _ | refine Below.alloc ?_ ?_ _ | refine Below.setCell ?_ ?_ _ | refine Below.drew ?_ | refine below_drewN ?_ _ | (simp; done) | (simp; omega) | omega))
  have hcl := hid (lists_any A B n c m d a b _ (HA.out.below hbl hbl.size) (HB.out.below hbl hbl.size) hw hn)
  clear ha hb hw
  by_cases hI : I = J
  · have hIb : (I == J) = true := by simpa using hI
    obtain ⟨bv, hbv⟩ : ∃ bv, eqLs a b = bv := ⟨_, rfl⟩
    rw [hbv] at hcl ⊢
    rw [decide_eq_true hI, Bool.true_and]
    clear hbv hI
    go_enter Try.func32, Try.ntmps32
    go_wp2_with (go_at_call 25; refine hcl.out.mono ?_; rintro e w1 ⟨rfl, hb1⟩)
    have hbel : Below w.heap.size w w1 := Below.trans (by repeat' (first | with_reducible assumption | with_reducible exact Below.refl _ _ | refine Below.alloc ?_ ?_ _ | refine Below.setCell ?_ ?_ _ | refine Below.drew ?_ | refine below_drewN ?_ _ | (simp; done) | (simp; omega) | omega)) (hb1.mono (by first | (simp; done) | (simp; omega) | omega))
    refine bodyPost_ret (v := .bool bv) (by first | (simp [results, Try.results32, go_sem]; done) | (simp [results, Try.results32, go_sem, *]; done) | (simp [results, Try.results32, go_sem, World.cell?_setCell_same', *]; done) | (simp [results, Try.results32, go_sem]; first | exact ⟨rfl, rfl⟩ | rfl)) rfl ⟨rfl, hbel⟩
  · have hIb : (I == J) = false := by simpa using hI
    rw [decide_eq_false hI, Bool.false_and]
    go_enter Try.func32, Try.ntmps32
    go_wp2
    refine bodyPost_ret (v := .bool false) (by first | (simp [results, Try.results32, go_sem]; done) | (simp [results, Try.results32, go_sem, *]; done) | (simp [results, Try.results32, go_sem, World.cell?_setCell_same', *]; done) | (simp [results, Try.results32, go_sem]; first | exact ⟨rfl, rfl⟩ | rfl)) rfl ⟨rfl, hbl⟩
end Go.Proofs.Ytnpilfpackdimaa
/- Walks (law): Book, and the books of the examples. -/
namespace Go.Proofs.Ytnpilfpackdimaa
open Go.RowKit Go.Shelf
attribute [local go_sem] Oper.semAt_some
set_option maxRecDepth 10000 in
theorem book_any (I : Int) (A : Option Addr) (n c : Nat) (w : World) : Calls Try.prog 33 #[.int .i64 I, .slice A n c] w fun e w' => e = .returned (.agg #[.int .i64 I, .slice A n c]) ∧ Below w.heap.size w w' := by
  go_enter Try.func33, Try.ntmps33
  go_wp2
  refine bodyPost_ret (v := .agg #[.int .i64 I, .slice A n c]) (by first | (simp [results, Try.results33, go_sem]; done) | (simp [results, Try.results33, go_sem, *]; done) | (simp [results, Try.results33, go_sem, World.cell?_setCell_same', *]; done) | (simp [results, Try.results33, go_sem]; first | exact ⟨rfl, rfl⟩ | rfl)) rfl ⟨rfl, (by repeat' (first | with_reducible assumption | with_reducible exact Below.refl _ _ | refine Below.alloc ?_ ?_ _ | refine Below.setCell ?_ ?_ _ | refine Below.drew ?_ | refine below_drewN ?_ _ | (simp; done) | (simp; omega) | omega))⟩
set_option maxRecDepth 10000 in
set_option maxHeartbeats 1600000 in
theorem none_any (w : World) : Calls Try.prog 18 #[] w fun e w' => ∃ A c, e = .returned (.agg #[.int .i64 2, .slice A 2 c]) ∧ LiS w' w'.heap.size A 2 [[], [0]] ∧ Below w.heap.size w w' := by
  go_enter Try.func18, Try.ntmps18
  go_wp2_with (first | (go_at_call 19; refine (of_any _ _).mono ?_; rintro e w1 ⟨rfl, rfl⟩) | (go_at_call 33; refine (book_any _ _ _ _ _).mono ?_; rintro e w2 ⟨rfl, hb2⟩; have T0 : Blk w2 w.heap.size 24 #[.int .i64 0, .slice none 0 0] := (((Blk.new' rfl).alloc _).alloc _).below hb2 (by first | (simp; done) | (simp; omega) | omega); have T1 : Blk w2 (w.heap.size + 1) 3 #[.int .i64 0] := ((Blk.new' (by first | (simp; done) | (simp; omega) | omega)).alloc _).below hb2 (by first | (simp; done) | (simp; omega) | omega); have T2 : Blk w2 (w.heap.size + 1 + 1) 25 #[.slice none 0 0, .slice (some ⟨w.heap.size + 1, 0, none⟩) 1 1] := (Blk.new' (by first | (simp; done) | (simp; omega) | omega)).below hb2 (by first | (simp; done) | (simp; omega) | omega); have k0 := T0.cell 0; have k1 := T0.cell 1; have l0 := T0.lt; have f0 := T0.frozen 0; have f1 := T0.frozen 1; have hbel : Below w.heap.size w w2 := Below.trans (by repeat' (first | with_reducible assumption | with_reducible exact Below.refl _ _ | refine Below.alloc ?_ ?_ _ | refine Below.setCell ?_ ?_ _ | refine Below.drew ?_ | refine below_drewN ?_ _ | (simp; done) | (simp; omega) | omega)) (hb2.mono (by first | (simp; done) | (simp; omega) | omega))))
  have T1' := (T1.far (p := ⟨w.heap.size, 0, none⟩) (by simp) (.int .i64 2)).far (p := ⟨w.heap.size, 1, none⟩) (by simp) (.slice (some ⟨w.heap.size + 1 + 1, 0, none⟩) 2 2)
  have T2' := (T2.far (p := ⟨w.heap.size, 0, none⟩) (by simp; omega) (.int .i64 2)).far (p := ⟨w.heap.size, 1, none⟩) (by simp; omega) (.slice (some ⟨w.heap.size + 1 + 1, 0, none⟩) 2 2)
  refine bodyPost_ret (v := .agg #[.int .i64 2, .slice (some ⟨w.heap.size + 1 + 1, 0, none⟩) 2 2]) (by first | (simp [results, Try.results18, go_sem]; done) | (simp [results, Try.results18, go_sem, *]; done) | (simp [results, Try.results18, go_sem, World.cell?_setCell_same', *]; done) | (simp [results, Try.results18, go_sem]; first | exact ⟨rfl, rfl⟩ | rfl)) rfl ⟨_, _, rfl, ?_, (hbel.setCell (by simp) _).setCell (by simp) _⟩
  refine lis_lit (vs := [.slice none 0 0, .slice (some ⟨w.heap.size + 1, 0, none⟩) 1 1]) T2' rfl fun k l hk => ?_
  rcases k with _ | _ | k
  · cases hk; exact ⟨none, 0, 0, rfl, Sl.none_⟩
  · cases hk; exact ⟨_, 1, 1, rfl, rfl, fun _ => ⟨_, 0, rfl, T1'.lt, fun j u hu => by rw [Nat.zero_add, T1'.cell]; simpa [cI] using hu⟩⟩
  · simp at hk
-- printed by tools/blame/f4.py
set_option maxRecDepth 10000 in
set_option maxHeartbeats 1600000 in
theorem three_any (w : World) : Calls Try.prog 17 #[] w fun e w' => ∃ A c, e = .returned (.agg #[.int .i64 4, .slice A 3 c]) ∧ LiS w' w'.heap.size A 3 [[2], [0, 1, 2], [1, 3]] ∧ Below w.heap.size w w' := by
  go_enter Try.func17, Try.ntmps17
  go_wp2_with (first | (go_at_call 19; refine (of_any _ _).mono ?_; rintro e w1 ⟨rfl, rfl⟩) | (go_at_call 33; refine (book_any _ _ _ _ _).mono ?_; rintro e w2 ⟨rfl, hb2⟩; have T0 : Blk w2 w.heap.size 24 #[.int .i64 0, .slice none 0 0] := (((((Blk.new' rfl).alloc _).alloc _).alloc _).alloc _).below hb2 (by first | (simp; done) | (simp; omega) | omega); have T1 : Blk w2 (w.heap.size + 1) 3 #[.int .i64 2] := ((((Blk.new' (by first | (simp; done) | (simp; omega) | omega)).alloc _).alloc _).alloc _).below hb2 (by first | (simp; done) | (simp; omega) | omega); have T2 : Blk w2 (w.heap.size + 1 + 1) 3 #[.int .i64 0, .int .i64 1, .int .i64 2] := (((Blk.new' (by first | (simp; done) | (simp; omega) | omega)).alloc _).alloc _).below hb2 (by first | (simp; done) | (simp; omega) | omega); have T3 : Blk w2 (w.heap.size + 1 + 1 + 1) 3 #[.int .i64 1, .int .i64 3] := ((Blk.new' (by first | (simp; done) | (simp; omega) | omega)).alloc _).below hb2 (by first | (simp; done) | (simp; omega) | omega); have T4 : Blk w2 (w.heap.size + 1 + 1 + 1 + 1) 25 #[.slice (some ⟨w.heap.size + 1, 0, none⟩) 1 1, .slice (some ⟨w.heap.size + 1 + 1, 0, none⟩) 3 3, .slice (some ⟨w.heap.size + 1 + 1 + 1, 0, none⟩) 2 2] := (Blk.new' (by first | (simp; done) | (simp; omega) | omega)).below hb2 (by first | (simp; done) | (simp; omega) | omega); have k0 := T0.cell 0; have k1 := T0.cell 1; have l0 := T0.lt; have f0 := T0.frozen 0; have f1 := T0.frozen 1; have hbel : Below w.heap.size w w2 := Below.trans (by repeat' (first | with_reducible assumption | with_reducible exact Below.refl _ _ | refine Below.alloc ?_ ?_ _ | refine Below.setCell ?_ ?_ _ | refine Below.drew ?_ | refine below_drewN ?_ _ | (simp; done) | (simp; omega) | omega)) (hb2.mono (by first | (simp; done) | (simp; omega) | omega))))
  have T1' := (T1.far (p := ⟨w.heap.size, 0, none⟩) (by simp <;> omega) (.int .i64 4)).far (p := ⟨w.heap.size, 1, none⟩) (by simp <;> omega) (.slice (some ⟨w.heap.size + 1 + 1 + 1 + 1, 0, none⟩) 3 3)
  have T2' := (T2.far (p := ⟨w.heap.size, 0, none⟩) (by simp <;> omega) (.int .i64 4)).far (p := ⟨w.heap.size, 1, none⟩) (by simp <;> omega) (.slice (some ⟨w.heap.size + 1 + 1 + 1 + 1, 0, none⟩) 3 3)
  have T3' := (T3.far (p := ⟨w.heap.size, 0, none⟩) (by simp <;> omega) (.int .i64 4)).far (p := ⟨w.heap.size, 1, none⟩) (by simp <;> omega) (.slice (some ⟨w.heap.size + 1 + 1 + 1 + 1, 0, none⟩) 3 3)
  have T4' := (T4.far (p := ⟨w.heap.size, 0, none⟩) (by simp <;> omega) (.int .i64 4)).far (p := ⟨w.heap.size, 1, none⟩) (by simp <;> omega) (.slice (some ⟨w.heap.size + 1 + 1 + 1 + 1, 0, none⟩) 3 3)
  refine bodyPost_ret (v := .agg #[.int .i64 4, .slice (some ⟨w.heap.size + 1 + 1 + 1 + 1, 0, none⟩) 3 3]) (by first | (simp [results, Try.results17, go_sem]; done) | (simp [results, Try.results17, go_sem, *]; done) | (simp [results, Try.results17, go_sem, World.cell?_setCell_same', *]; done) | (simp [results, Try.results17, go_sem]; first | exact ⟨rfl, rfl⟩ | rfl)) rfl ⟨_, _, rfl, ?_, (hbel.setCell (by simp) _).setCell (by simp) _⟩
  refine lis_lit (vs := [.slice (some ⟨w.heap.size + 1, 0, none⟩) 1 1, .slice (some ⟨w.heap.size + 1 + 1, 0, none⟩) 3 3, .slice (some ⟨w.heap.size + 1 + 1 + 1, 0, none⟩) 2 2]) T4' rfl fun k l hk => ?_
  rcases k with _ | _ | _ | k
  · cases hk; exact ⟨_, 1, 1, rfl, rfl, fun _ => ⟨_, 0, rfl, T1'.lt, fun j u hu => by rw [Nat.zero_add, T1'.cell]; simpa [cI] using hu⟩⟩
  · cases hk; exact ⟨_, 3, 3, rfl, rfl, fun _ => ⟨_, 0, rfl, T2'.lt, fun j u hu => by rw [Nat.zero_add, T2'.cell]; simpa [cI] using hu⟩⟩
  · cases hk; exact ⟨_, 2, 2, rfl, rfl, fun _ => ⟨_, 0, rfl, T3'.lt, fun j u hu => by rw [Nat.zero_add, T3'.cell]; simpa [cI] using hu⟩⟩
  · simp at hk
set_option maxRecDepth 10000 in
set_option maxHeartbeats 1600000 in
theorem round_any (w : World) : Calls Try.prog 16 #[] w fun e w' => ∃ A c, e = .returned (.agg #[.int .i64 5, .slice A 4 c]) ∧ LiS w' w'.heap.size A 4 [[0, 1], [1, 2], [2, 3], [0, 3]] ∧ Below w.heap.size w w' := by
  go_enter Try.func16, Try.ntmps16
  go_wp2_with (first | (go_at_call 19; refine (of_any _ _).mono ?_; rintro e w1 ⟨rfl, rfl⟩) | (go_at_call 33; refine (book_any _ _ _ _ _).mono ?_; rintro e w2 ⟨rfl, hb2⟩; have T0 : Blk w2 w.heap.size 24 #[.int .i64 0, .slice none 0 0] := ((((((Blk.new' rfl).alloc _).alloc _).alloc _).alloc _).alloc _).below hb2 (by first | (simp; done) | (simp; omega) | omega); have T1 : Blk w2 (w.heap.size + 1) 3 #[.int .i64 0, .int .i64 1] := (((((Blk.new' (by first | (simp; done) | (simp; omega) | omega)).alloc _).alloc _).alloc _).alloc _).below hb2 (by first | (simp; done) | (simp; omega) | omega); have T2 : Blk w2 (w.heap.size + 1 + 1) 3 #[.int .i64 1, .int .i64 2] := ((((Blk.new' (by first | (simp; done) | (simp; omega) | omega)).alloc _).alloc _).alloc _).below hb2 (by first | (simp; done) | (simp; omega) | omega); have T3 : Blk w2 (w.heap.size + 1 + 1 + 1) 3 #[.int .i64 2, .int .i64 3] := (((Blk.new' (by first | (simp; done) | (simp; omega) | omega)).alloc _).alloc _).below hb2 (by first | (simp; done) | (simp; omega) | omega); have T4 : Blk w2 (w.heap.size + 1 + 1 + 1 + 1) 3 #[.int .i64 0, .int .i64 3] := ((Blk.new' (by first | (simp; done) | (simp; omega) | omega)).alloc _).below hb2 (by first | (simp; done) | (simp; omega) | omega); have T5 : Blk w2 (w.heap.size + 1 + 1 + 1 + 1 + 1) 25 #[.slice (some ⟨w.heap.size + 1, 0, none⟩) 2 2, .slice (some ⟨w.heap.size + 1 + 1, 0, none⟩) 2 2, .slice (some ⟨w.heap.size + 1 + 1 + 1, 0, none⟩) 2 2, .slice (some ⟨w.heap.size + 1 + 1 + 1 + 1, 0, none⟩) 2 2] := (Blk.new' (by first | (simp; done) | (simp; omega) | omega)).below hb2 (by first | (simp; done) | (simp; omega) | omega); have k0 := T0.cell 0; have k1 := T0.cell 1; have l0 := T0.lt; have f0 := T0.frozen 0; have f1 := T0.frozen 1; have hbel : Below w.heap.size w w2 := Below.trans (by repeat' (first | with_reducible assumption | with_reducible exact Below.refl _ _ | refine Below.alloc ?_ ?_ _ | refine Below.setCell ?_ ?_ _ | refine Below.drew ?_ | refine below_drewN ?_ _ | (simp; done) | (simp; omega) | omega)) (hb2.mono (by first | (simp; done) | (simp; omega) | omega))))
  have T1' := (T1.far (p := ⟨w.heap.size, 0, none⟩) (by simp <;> omega) (.int .i64 5)).far (p := ⟨w.heap.size, 1, none⟩) (by simp <;> omega) (.slice (some ⟨w.heap.size + 1 + 1 + 1 + 1 + 1, 0, none⟩) 4 4)
  have T2' := (T2.far (p := ⟨w.heap.size, 0, none⟩) (by simp <;> omega) (.int .i64 5)).far (p := ⟨w.heap.size, 1, none⟩) (by simp <;> omega) (.slice (some ⟨w.heap.size + 1 + 1 + 1 + 1 + 1, 0, none⟩) 4 4)
  have T3' := (T3.far (p := ⟨w.heap.size, 0, none⟩) (by simp <;> omega) (.int .i64 5)).far (p := ⟨w.heap.size, 1, none⟩) (by simp <;> omega) (.slice (some ⟨w.heap.size + 1 + 1 + 1 + 1 + 1, 0, none⟩) 4 4)
  have T4' := (T4.far (p := ⟨w.heap.size, 0, none⟩) (by simp <;> omega) (.int .i64 5)).far (p := ⟨w.heap.size, 1, none⟩) (by simp <;> omega) (.slice (some ⟨w.heap.size + 1 + 1 + 1 + 1 + 1, 0, none⟩) 4 4)
  have T5' := (T5.far (p := ⟨w.heap.size, 0, none⟩) (by simp <;> omega) (.int .i64 5)).far (p := ⟨w.heap.size, 1, none⟩) (by simp <;> omega) (.slice (some ⟨w.heap.size + 1 + 1 + 1 + 1 + 1, 0, none⟩) 4 4)
  refine bodyPost_ret (v := .agg #[.int .i64 5, .slice (some ⟨w.heap.size + 1 + 1 + 1 + 1 + 1, 0, none⟩) 4 4]) (by first | (simp [results, Try.results16, go_sem]; done) | (simp [results, Try.results16, go_sem, *]; done) | (simp [results, Try.results16, go_sem, World.cell?_setCell_same', *]; done) | (simp [results, Try.results16, go_sem]; first | exact ⟨rfl, rfl⟩ | rfl)) rfl ⟨_, _, rfl, ?_, (hbel.setCell (by simp) _).setCell (by simp) _⟩
  refine lis_lit (vs := [.slice (some ⟨w.heap.size + 1, 0, none⟩) 2 2, .slice (some ⟨w.heap.size + 1 + 1, 0, none⟩) 2 2, .slice (some ⟨w.heap.size + 1 + 1 + 1, 0, none⟩) 2 2, .slice (some ⟨w.heap.size + 1 + 1 + 1 + 1, 0, none⟩) 2 2]) T5' rfl fun k l hk => ?_
  rcases k with _ | _ | _ | _ | k
  · cases hk; exact ⟨_, 2, 2, rfl, rfl, fun _ => ⟨_, 0, rfl, T1'.lt, fun j u hu => by rw [Nat.zero_add, T1'.cell]; simpa [cI] using hu⟩⟩
  · cases hk; exact ⟨_, 2, 2, rfl, rfl, fun _ => ⟨_, 0, rfl, T2'.lt, fun j u hu => by rw [Nat.zero_add, T2'.cell]; simpa [cI] using hu⟩⟩
  · cases hk; exact ⟨_, 2, 2, rfl, rfl, fun _ => ⟨_, 0, rfl, T3'.lt, fun j u hu => by rw [Nat.zero_add, T3'.cell]; simpa [cI] using hu⟩⟩
  · cases hk; exact ⟨_, 2, 2, rfl, rfl, fun _ => ⟨_, 0, rfl, T4'.lt, fun j u hu => by rw [Nat.zero_add, T4'.cell]; simpa [cI] using hu⟩⟩
  · simp at hk
end Go.Proofs.Ytnpilfpackdimaa
/- The law of drawn regions under a condition on worlds, with a post of its own: what the region leaves is said once, for all orders. -/
namespace Go.Proofs.Ytnpilfpackdimaa.Sx
open Go
section
variable {P : Program} {ops : Array Oper} {md : Region.Mode} {S : World → Prop}
theorem wpM_mono {Q Q' : Act → World → Prop} (h : ∀ a W, S W → Q a W → Q' a W) : ∀ (f : Nat) (listed : Array Bool) (a : Act) (w : World), wpM P md ops S Q f listed a w → wpM P md ops S Q' f listed a w
  | 0, _, _, _, hh => ⟨hh.1, fun W h1 h2 => h _ _ h2 (hh.2 W h1 h2)⟩
  | f + 1, _, _, _, hh => fun W h1 h2 => ⟨fun h0 => h _ _ h2 ((hh W h1 h2).1 h0), fun i hi => lOp_mono (fun _ _ hk => ⟨hk.1, wpM_mono h f _ _ _ hk.2⟩) ((hh W h1 h2).2 i hi)⟩
theorem wpE_mono {L L' : Act → Prop} (h : ∀ a, L a → L' a) : ∀ (l : List (Nat × Oper)) (a : Act), wpE P ops S L l a → wpE P ops S L' l a
  | [], _, hh => h _ hh
  | (_, _) :: rest, _, ⟨v, hy, hh⟩ => ⟨v, hy, wpE_mono h rest _ hh⟩
/-- The law with a post of its own. -/
theorem wp_region_elQ (S : World → Prop) (Q1 : Act → World → Prop) (hS : ∀ W W', S W → Ext W W' → S W') {id : Nat} {Q : Exit → Act → World → Prop} {a : Act} {w : World} {l : List Oper} (E : List Nat) (g : Nat) (hm : P.follows .mixedOrders = true)
    (hB : (Region.noSelect l.toArray && decide (E.length + g = l.length) && earlyB .any l.toArray E (Array.replicate l.length false)) = true) (h0 : S w.drew)
    (h : wpE P l.toArray S (fun a' => wpM P .any l.toArray S Q1 g (setAll (Array.replicate l.length false) E) a' w.drew) (pick l.toArray E) a)
    (hQ : ∀ a W, S W → Q1 a W → wpList P l.toArray Q [] a W) : (Code.region id l.toArray true).wp P Q a w :=
  wp_region_el S hS E g hm hB h0 (wpE_mono (fun _ hk => wpM_mono hQ _ _ _ _ hk) _ _ h)
/-- From here on a stronger condition holds. -/
theorem wpM_narrow {S' : World → Prop} (hcl : ∀ W W', S' W → Ext W W' → S' W') (hSS : ∀ W, S' W → S W) {Q : Act → World → Prop} : ∀ (f : Nat) (listed : Array Bool) (a : Act) (w : World), S' w → wpM P md ops S' Q f listed a w → wpM P md ops S Q f listed a w
  | 0, _, _, _, hw, hh => ⟨hh.1, fun W h1 _ => hh.2 W h1 (hcl _ _ hw h1)⟩
  | f + 1, _, _, _, hw, hh => fun W h1 _ =>
    have hW := hcl _ _ hw h1
    ⟨(hh W h1 hW).1, fun i hi => lOp_mono (fun _ _ hk => ⟨hSS _ hk.1, wpM_narrow hcl hSS f _ _ _ hk.1 hk.2⟩) ((hh W h1 hW).2 i hi)⟩
/-- Three operations may come up. -/
theorem wpM_three {Q : Act → World → Prop} {f : Nat} {listed : Array Bool} {a : Act} {w : World} (i j k : Nat) (o o' o'' : Oper) (ho : ops[i]? = some o) (ho' : ops[j]? = some o') (ho'' : ops[k]? = some o'') (hr : decide (Region.ready md ops listed = [i, j, k]) = true) (hw : Region.wanted o (yielded ops a.tmps) = true) (hw' : Region.wanted o' (yielded ops a.tmps) = true) (hw'' : Region.wanted o'' (yielded ops a.tmps) = true)
    (h : ∀ W, Ext w W → S W → LUpon P o a (fun a' W' => S W' ∧ wpM P md ops S Q f (listed.setIfInBounds i true) a' W') ((execOp a.eval o).run P W))
    (h' : ∀ W, Ext w W → S W → LUpon P o' a (fun a' W' => S W' ∧ wpM P md ops S Q f (listed.setIfInBounds j true) a' W') ((execOp a.eval o').run P W))
    (h'' : ∀ W, Ext w W → S W → LUpon P o'' a (fun a' W' => S W' ∧ wpM P md ops S Q f (listed.setIfInBounds k true) a' W') ((execOp a.eval o'').run P W)) : wpM P md ops S Q (f + 1) listed a w := by
  intro W h1 h2
  rw [of_decide_eq_true hr]
  refine ⟨fun h => (by cases h), fun q hq => ?_⟩
  rcases List.mem_cons.1 hq with rfl | hq
  · unfold lOp
    simp only [ho, hw, if_true]
    exact h W h1 h2
  · rcases List.mem_cons.1 hq with rfl | hq
    · unfold lOp
      simp only [ho', hw', if_true]
      exact h' W h1 h2
    · obtain rfl : q = k := by simpa using hq
      unfold lOp
      simp only [ho'', hw'', if_true]
      exact h'' W h1 h2
end
end Go.Proofs.Ytnpilfpackdimaa.Sx
/- Two operations come up in either order; behind them the proof goes on once. -/
namespace Go.Proofs.Ytnpilfpackdimaa.Sx
open Go.Proofs.Ytnpilfpackdimaa
variable {P : Program} {md : Region.Mode} {ops : Array Oper} {S : World → Prop}
theorem put_comm (a : Act) {d d' : Option Nat} (hd : d ≠ d') (v v' : Value) : (a.put d v).put d' v' = (a.put d' v').put d v := by
  cases d with
  | none => cases d' <;> rfl
  | some x =>
    cases d' with
    | none => rfl
    | some y =>
      have : x ≠ y := fun e => hd (by rw [e])
      simp only [Act.put]
      rw [Array.setIfInBounds_comm _ _ this]
theorem wpM_twoC (hS : ∀ W W', S W → Ext W W' → S W') {Q : Act → World → Prop} {f : Nat} {listed : Array Bool} {a : Act} {w : World} (i j : Nat) (hij : i ≠ j) (o o' : Oper) (ho : ops[i]? = some o) (ho' : ops[j]? = some o') (hr : decide (Region.ready md ops listed = [i, j]) = true)
    (hri : decide (Region.ready md ops (listed.setIfInBounds i true) = [j]) = true) (hrj : decide (Region.ready md ops (listed.setIfInBounds j true) = [i]) = true)
    (hw : Region.wanted o (yielded ops a.tmps) = true) (hw' : Region.wanted o' (yielded ops a.tmps) = true) (hwi : ∀ v, Region.wanted o' (yielded ops (a.put o.dst v).tmps) = true) (hwj : ∀ v, Region.wanted o (yielded ops (a.put o'.dst v).tmps) = true)
    (Φ Φ' : Value → World → Prop) (hΦ : ∀ v W W', Φ v W → Ext W W' → Φ v W') (hΦ' : ∀ v W W', Φ' v W → Ext W W' → Φ' v W')
    (hd : o.dst ≠ o'.dst)
    (h : ∀ W, Ext w W → S W → LUpon P o a (fun a' W' => ∃ v, a' = a.put o.dst v ∧ Ext W W' ∧ Φ v W') ((execOp a.eval o).run P W))
    (g : ∀ u W, Ext w W → S W → LUpon P o' (a.put o.dst u) (fun a' W' => ∃ v, a' = (a.put o.dst u).put o'.dst v ∧ Ext W W' ∧ Φ' v W') ((execOp (a.put o.dst u).eval o').run P W))
    (h' : ∀ W, Ext w W → S W → LUpon P o' a (fun a' W' => ∃ v, a' = a.put o'.dst v ∧ Ext W W' ∧ Φ' v W') ((execOp a.eval o').run P W))
    (g' : ∀ u W, Ext w W → S W → LUpon P o (a.put o'.dst u) (fun a' W' => ∃ v, a' = (a.put o'.dst u).put o.dst v ∧ Ext W W' ∧ Φ v W') ((execOp (a.put o'.dst u).eval o).run P W))
    (rest : ∀ v v' W, Ext w W → S W → Φ v W → Φ' v' W → wpM P md ops S Q f ((listed.setIfInBounds i true).setIfInBounds j true) ((a.put o.dst v).put o'.dst v') W) : wpM P md ops S Q (f + 1 + 1) listed a w := by
  refine wpM_two i j o o' ho ho' hr hw hw' ?_ ?_
  · intro W h1 h2
    refine LUpon_mono ?_ (h W h1 h2)
    rintro a' W1 ⟨v, rfl, hx, hp⟩
    have hs1 := hS _ _ h2 hx
    refine ⟨hs1, wpM_one j o' ho' hri (hwi v) ?_⟩
    intro W2 hx2 hs2
    refine LUpon_mono ?_ (g v W2 ((h1.trans' hx).trans' hx2) hs2)
    rintro a' W3 ⟨v', rfl, hx3, hp'⟩
    have hs3 := hS _ _ hs2 hx3
    exact ⟨hs3, rest v v' W3 (((h1.trans' hx).trans' hx2).trans' hx3) hs3 (hΦ _ _ _ (hΦ _ _ _ hp hx2) hx3) hp'⟩
  · intro W h1 h2
    refine LUpon_mono ?_ (h' W h1 h2)
    rintro a' W1 ⟨v', rfl, hx, hp⟩
    have hs1 := hS _ _ h2 hx
    refine ⟨hs1, wpM_one i o ho hrj (hwj v') ?_⟩
    intro W2 hx2 hs2
    refine LUpon_mono ?_ (g' v' W2 ((h1.trans' hx).trans' hx2) hs2)
    rintro a' W3 ⟨v, rfl, hx3, hp'⟩
    have hs3 := hS _ _ hs2 hx3
    refine ⟨hs3, ?_⟩
    rw [← put_comm a hd v v', Array.setIfInBounds_comm _ _ (Ne.symm hij)]
    exact rest v v' W3 (((h1.trans' hx).trans' hx2).trans' hx3) hs3 hp' (hΦ' _ _ _ (hΦ' _ _ _ hp hx2) hx3)
end Go.Proofs.Ytnpilfpackdimaa.Sx
/- A region whose order is free: each operation's contract is proved once, for whatever order comes. -/
namespace Go.Proofs.Ytnpilfpackdimaa.Sx
open Go Go.Proofs.Ytnpilfpackdimaa
variable {P : Program} {md : Region.Mode} {ops : Array Oper} {S : World → Prop}
/-- What an operation leaves. -/
def LV (P : Program) (K : Value → World → Prop) : Result Next → Prop
  | .ok (.value u) W' => K u W'
  | .ok .skip W' => K undef W'
  | .ok (.enter f args) W' => Calls P f args W' fun e W'' => ∃ v, e = .returned v ∧ K v W''
  | _ => False
theorem LV.lupon {o : Oper} {a : Act} {K : Value → World → Prop} {K' : Act → World → Prop} (hK : ∀ v W, K v W → K' (a.put o.dst v) W) {r : Result Next} (h : LV P K r) : LUpon P o a K' r := by
  cases r with
  | ok n w' =>
    cases n <;> simp only [LUpon, LV] at h ⊢
    case value u => exact hK _ _ h
    case skip => exact hK _ _ h
    case enter f args => exact h.mono fun e W ⟨u, he, hk⟩ => ⟨u, he, hK _ _ hk⟩
  | halt x w' => simp only [LV] at h
def dstAt (ops : Array Oper) (k : Nat) : Option Tmp := (ops[k]?).bind (·.dst)
def putF (ops : Array Oper) (e : Nat → Value) : List Nat → Act → Act
  | [], a => a
  | k :: l, a => putF ops e l (a.put (dstAt ops k) (e k))
theorem putF_erase {e : Nat → Value} {k : Nat} : ∀ {l : List Nat} {a : Act}, k ∈ l → l.Nodup → (∀ i ∈ l, ∀ d, dstAt ops i = some d → i ≠ k → dstAt ops k ≠ some d) → putF ops e l a = putF ops e (l.erase k) (a.put (dstAt ops k) (e k))
  | i :: l, a, hk, hn, hd => by
    by_cases h : i = k
    · subst h
      rw [List.erase_cons_head]; rfl
    · have hk' : k ∈ l := by
        rcases List.mem_cons.1 hk with h1 | h1
        · exact absurd h1.symm h
        · exact h1
      rw [List.erase_cons_tail (by simpa using h)]
      show putF ops e l _ = putF ops e (l.erase k) _
      rw [putF_erase hk' (List.nodup_cons.1 hn).2 (fun j hj => hd j (List.mem_cons_of_mem _ hj))]
      congr 1
      exact Act.put_comm a (e i) (e k) (fun d h1 => hd i (List.mem_cons_self) d h1 h)
theorem putF_congr {e e' : Nat → Value} : ∀ {l : List Nat} {a : Act}, (∀ k ∈ l, e k = e' k) → putF ops e l a = putF ops e' l a
  | [], a, _ => rfl
  | k :: l, a, h => by
    show putF ops e l _ = putF ops e' l _
    rw [h k (List.mem_cons_self), putF_congr fun j hj => h j (List.mem_cons_of_mem _ hj)]
theorem eval_putF {e : Nat → Value} (o : Oper) (hs : ∀ cs b, o.op ≠ .select cs b) : ∀ {l : List Nat} {a : Act}, (∀ k ∈ l, ∀ d, dstAt ops k = some d → d ∉ o.looksAt ops) → execOp (putF ops e l a).eval o = execOp a.eval o
  | [], a, _ => rfl
  | k :: l, a, h => by
    show execOp (putF ops e l _).eval o = _
    rw [eval_putF o hs fun j hj => h j (List.mem_cons_of_mem _ hj), execOp_put o hs a _ _ (h k (List.mem_cons_self))]
/-- What is not listed yet. -/
def leftF (ops : Array Oper) (listed : Array Bool) : List Nat := (List.range ops.size).filter fun i => !listed.getD i true
theorem mem_leftF {listed : Array Bool} {i : Nat} : i ∈ leftF ops listed ↔ i < ops.size ∧ listed.getD i true = false := by
  unfold leftF; simp
theorem leftF_nodup (listed : Array Bool) : (leftF ops listed).Nodup := List.Pairwise.sublist List.filter_sublist List.nodup_range
theorem leftF_set {listed : Array Bool} {k : Nat} (hsz : listed.size = ops.size) (hk : k ∈ leftF ops listed) : leftF ops (listed.setIfInBounds k true) = (leftF ops listed).erase k := by
  rw [(leftF_nodup listed).erase_eq_filter]
  unfold leftF
  rw [List.filter_filter]
  apply List.filter_congr
  intro i hi
  have hkl := (mem_leftF.1 hk).1
  have hil : i < ops.size := List.mem_range.1 hi
  by_cases h : i = k
  · subst h
    simp [Array.getD, hsz, hil]
  · simp [Array.getD, hsz, hil, h, Array.getElem_setIfInBounds, Ne.symm h]
/-- No operation looks at what comes behind it, or beside it; what it looks at is behind it. -/
def freeB (md : Region.Mode) (ops : Array Oper) (dep : Nat → List Nat) : Bool :=
  (List.range ops.size).all fun k => match ops[k]? with
    | none => false
    | some o => o.guard.isNone && (o.after.all fun e => !Region.binds md e || decide (e.on < k)) && ((dep k).all fun d => o.after.any fun e => Region.binds md e && e.on == d) &&
      (List.range ops.size).all fun i => (o.after.any (fun e => Region.binds md e && e.on == i) || (match dstAt ops i with | some d => !(o.looksAt ops).contains d | none => true)) && (i == k || match dstAt ops i with | some d => dstAt ops k != some d | none => true)
structure Free (md : Region.Mode) (ops : Array Oper) (dep : Nat → List Nat) (k : Nat) (o : Oper) : Prop where
  guard : o.guard = none
  after : ∀ e ∈ o.after, Region.binds md e = true → e.on < k
  dep : ∀ d ∈ dep k, ∃ e ∈ o.after, Region.binds md e = true ∧ e.on = d
  look : ∀ i, i < ops.size → (∃ e ∈ o.after, Region.binds md e = true ∧ e.on = i) ∨ ∀ d, dstAt ops i = some d → d ∉ o.looksAt ops
  dist : ∀ i, i < ops.size → i ≠ k → ∀ d, dstAt ops i = some d → dstAt ops k ≠ some d
theorem freeB_spec {dep : Nat → List Nat} (h : freeB md ops dep = true) {k : Nat} {o : Oper} (ho : ops[k]? = some o) : Free md ops dep k o := by
  have hk : k < ops.size := (Array.getElem?_eq_some_iff.1 ho).1
  have h1 := List.all_eq_true.1 h k (List.mem_range.2 hk)
  simp only [ho, Bool.and_eq_true] at h1
  obtain ⟨⟨⟨a1, a2⟩, a3⟩, a4⟩ := h1
  refine ⟨by simpa using a1, fun e he hb => ?_, fun d hd => ?_, fun i hi => ?_, fun i hi hne d hd => ?_⟩
  · have := Array.all_eq_true_iff_forall_mem.1 a2 e he
    simpa [hb] using this
  · have := List.all_eq_true.1 a3 d hd
    obtain ⟨e, he, hb⟩ := Array.any_eq_true'.1 this
    simp only [Bool.and_eq_true, beq_iff_eq] at hb
    exact ⟨e, he, hb.1, hb.2⟩
  · have := List.all_eq_true.1 a4 i (List.mem_range.2 hi)
    simp only [Bool.and_eq_true, Bool.or_eq_true] at this
    rcases this.1 with h2 | h2
    · obtain ⟨e, he, hb⟩ := Array.any_eq_true'.1 h2
      simp only [Bool.and_eq_true, beq_iff_eq] at hb
      exact .inl ⟨e, he, hb.1, hb.2⟩
    · refine .inr fun d hd => ?_
      simp only [hd] at h2
      simpa using h2
  · have := List.all_eq_true.1 a4 i (List.mem_range.2 hi)
    simp only [Bool.and_eq_true, Bool.or_eq_true, hd] at this
    rcases this.2 with h2 | h2
    · exact absurd (by simpa using h2) hne
    · simpa using h2
theorem wanted_none {o : Oper} (h : o.guard = none) (y : Nat → Option Bool) : Region.wanted o y = true := by
  unfold Region.wanted; rw [h]
theorem wpM_free (hS : ∀ W W', S W → Ext W W' → S W') (Φ : Nat → Value → World → Prop) (hΦ : ∀ k v W W', Φ k v W → Ext W W' → Φ k v W') (dep : Nat → List Nat) (hsel : Region.noSelect ops = true) (hB : freeB md ops dep = true) (Q : Act → World → Prop) (a0 : Act) (w0 : World)
    (hC : ∀ (k : Nat) (o : Oper), ops[k]? = some o → ∀ (e : Nat → Value) (W : World), Ext w0 W → S W → (∀ d ∈ dep k, Φ d (e d) W) → LV P (fun v W' => Ext W W' ∧ Φ k v W') ((execOp (putF ops e (List.range ops.size) a0).eval o).run P W))
    (hQ : ∀ (e : Nat → Value) (W : World), Ext w0 W → S W → (∀ k, k < ops.size → Φ k (e k) W) → Q (putF ops e (List.range ops.size) a0) W) :
    ∀ (f : Nat) (listed : Array Bool) (ρ : Nat → Value) (a : Act) (w : World), listed.size = ops.size → f = (leftF ops listed).length → Ext w0 w → S w → (∀ k, k < ops.size → k ∉ leftF ops listed → Φ k (ρ k) w) →
      (∀ e : Nat → Value, (∀ k, k < ops.size → k ∉ leftF ops listed → e k = ρ k) → putF ops e (leftF ops listed) a = putF ops e (List.range ops.size) a0) → wpM P md ops S Q f listed a w
  | 0, listed, ρ, a, w, hsz, hf, hx, hs, hp, hi => by
    have hl : leftF ops listed = [] := List.eq_nil_of_length_eq_zero hf.symm
    have hno : ∀ k, k ∉ leftF ops listed := fun k => by rw [hl]; simp
    refine ⟨?_, fun W h1 h2 => ?_⟩
    · refine List.eq_nil_iff_forall_not_mem.2 fun k hk => ?_
      obtain ⟨h1, o, ho, -⟩ := mem_ready.1 hk
      exact hno k (mem_leftF.2 ⟨(Array.getElem?_eq_some_iff.1 ho).1, h1⟩)
    · have := hi ρ (fun _ _ _ => rfl)
      rw [hl] at this
      rw [show a = _ from this]
      exact hQ ρ W (hx.trans' h1) h2 fun k hk => hΦ _ _ _ _ (hp k hk (hno k)) h1
  | f + 1, listed, ρ, a, w, hsz, hf, hx, hs, hp, hi => by
    intro W h1 h2
    refine ⟨fun hr => ?_, fun k hk => ?_⟩
    · exfalso
      have hne : ∃ k, k ∈ leftF ops listed := by
        cases hl : leftF ops listed with
        | nil => rw [hl] at hf; cases hf
        | cons k l => exact ⟨k, List.mem_cons_self⟩
      obtain ⟨k0, hk0⟩ := hne
      obtain ⟨k, hk, hmin⟩ : ∃ k, k ∈ leftF ops listed ∧ ∀ j, j < k → j ∉ leftF ops listed := by
        induction k0 using Nat.strongRecOn with
        | _ k0 ih =>
          by_cases h : ∃ j, j < k0 ∧ j ∈ leftF ops listed
          · obtain ⟨j, hj, hm⟩ := h
            exact ih j hj hm
          · exact ⟨k0, hk0, fun j hj hm => h ⟨j, hj, hm⟩⟩
      obtain ⟨hkl, hku⟩ := mem_leftF.1 hk
      obtain ⟨o, ho⟩ : ∃ o, ops[k]? = some o := ⟨_, Array.getElem?_eq_getElem hkl⟩
      have hfr := freeB_spec hB ho
      have : k ∈ Region.ready md ops listed := mem_ready.2 ⟨hku, o, ho, fun e he hb => by
        have hlt := hfr.after e he hb
        have hnm := hmin _ hlt
        rw [mem_leftF] at hnm
        have hes : e.on < ops.size := Nat.lt_trans hlt hkl
        have h3 : ¬ listed.getD e.on true = false := fun h => hnm ⟨hes, h⟩
        simp only [Array.getD, hsz, hes, dif_pos] at h3 ⊢
        simpa using h3⟩
      rw [hr] at this; cases this
    · obtain ⟨hku, o, ho, haf⟩ := mem_ready.1 hk
      have hkl : k < ops.size := (Array.getElem?_eq_some_iff.1 ho).1
      have hkm : k ∈ leftF ops listed := mem_leftF.2 ⟨hkl, hku⟩
      have hfr := freeB_spec hB ho
      have hlis : ∀ e ∈ o.after, Region.binds md e = true → e.on ∉ leftF ops listed := fun e he hb hm => by
        have h3 := haf e he hb
        have h4 := (mem_leftF.1 hm)
        simp only [Array.getD, hsz, h4.1, dif_pos] at h3
        have h5 := h4.2
        simp only [Array.getD, hsz, h4.1, dif_pos] at h5
        rw [h3] at h5; cases h5
      have hss : ∀ cs b, o.op ≠ .select cs b := fun cs b => Region.noSelect_spec hsel k o cs b ho
      have hev : execOp a.eval o = execOp (putF ops ρ (List.range ops.size) a0).eval o := by
        rw [← hi ρ (fun _ _ _ => rfl)]
        refine (eval_putF o hss fun i him d hd => ?_).symm
        rcases hfr.look i (mem_leftF.1 him).1 with ⟨e, he, hb, hon⟩ | h3
        · exact absurd him (hon ▸ hlis e he hb)
        · exact h3 d hd
      unfold lOp
      simp only [ho]
      rw [if_pos (wanted_none hfr.guard _)]
      rw [hev]
      refine LV.lupon (K := fun v W' => Ext W W' ∧ Φ k v W') ?_ (hC k o ho ρ W (hx.trans' h1) h2 fun d hd => ?_)
      · rintro v W' ⟨hxW, hpv⟩
        have hsW := hS _ _ h2 hxW
        have hdk : dstAt ops k = o.dst := by unfold dstAt; rw [ho]; rfl
        refine ⟨hsW, wpM_free hS Φ hΦ dep hsel hB Q a0 w0 hC hQ f _ (fun i => if i = k then v else ρ i) _ W' (by simpa using hsz) ?_ ((hx.trans' h1).trans' hxW) hsW ?_ ?_⟩
        · rw [leftF_set hsz hkm, List.length_erase_of_mem hkm, ← hf]; rfl
        · intro i hil him
          by_cases h3 : i = k
          · subst h3; simpa using hpv
          · simp only [if_neg h3]
            refine hΦ _ _ _ _ (hΦ _ _ _ _ (hp i hil fun hm => him ?_) h1) hxW
            rw [leftF_set hsz hkm]
            exact (List.mem_erase_of_ne h3).2 hm
        · intro e he
          have hek : e k = v := by
            have := he k hkl (by rw [leftF_set hsz hkm]; exact List.Nodup.not_mem_erase (leftF_nodup listed))
            simpa using this
          rw [leftF_set hsz hkm, ← hek, ← hdk, ← putF_erase hkm (leftF_nodup listed) (fun i him d hd hne => hfr.dist i (mem_leftF.1 him).1 hne d hd)]
          refine hi e fun i hil him => ?_
          have h3 : i ≠ k := fun h => him (h ▸ hkm)
          have := he i hil (by rw [leftF_set hsz hkm]; exact fun hm => him (List.mem_of_mem_erase hm))
          simpa [h3] using this
      · obtain ⟨e, he, hb, hon⟩ := hfr.dep d hd
        have hdl : e.on < ops.size := Nat.lt_trans (hfr.after e he hb) hkl
        exact hon ▸ hΦ _ _ _ _ (hp e.on hdl (hlis e he hb)) h1
theorem leftF_none (n : Nat) (hn : ops.size = n) : leftF ops (Array.replicate n false) = List.range ops.size := by
  unfold leftF
  refine List.filter_eq_self.2 fun i hi => ?_
  have := List.mem_range.1 hi
  simp [Array.getD, hn ▸ this]
/-- A region in whatever order: one contract for each operation. -/
theorem wp_region_free (S : World → Prop) (hS : ∀ W W', S W → Ext W W' → S W') (Φ : Nat → Value → World → Prop) (hΦ : ∀ k v W W', Φ k v W → Ext W W' → Φ k v W') (dep : Nat → List Nat) {id : Nat} {Q : Exit → Act → World → Prop} {a : Act} {w : World} {l : List Oper} (R : List Nat) (hR : R = List.range l.length) (X : (Nat → Value) → Act) (hX : ∀ e, putF l.toArray e R a = X e) (hm : P.follows .mixedOrders = true)
    (hB : (Region.noSelect l.toArray && freeB .any l.toArray dep) = true) (h0 : S w.drew)
    (hC : ∀ (k : Nat) (o : Oper), l[k]? = some o → ∀ (e : Nat → Value) (W : World), Ext w W → S W → (∀ d ∈ dep k, Φ d (e d) W) → LV P (fun v W' => Ext W W' ∧ Φ k v W') ((execOp (X e).eval o).run P W))
    (hQ : ∀ (e : Nat → Value) (W : World), Ext w W → S W → (∀ k, k < l.length → Φ k (e k) W) → wpList P l.toArray Q [] (X e) W) : (Code.region id l.toArray true).wp P Q a w := by
  subst hR
  obtain ⟨hs, hf⟩ := Bool.and_eq_true_iff.1 hB
  refine wp_region_el S hS [] l.length hm (by rw [hs]; simp [earlyB]) h0 ?_
  simp only [pick, wpE, setAll]
  have hdr : Ext w w.drew := (RowKit.Below.refl _ _).drew
  refine wpM_free hS Φ hΦ dep hs hf _ a w.drew (fun k o ho e W hx hW hd => ?_) (fun e W hx hW hp => ?_) l.length _ (fun _ => undef) a w.drew (by simp) ?_ (RowKit.Below.refl _ _) h0 ?_ ?_
  · have := hC k o (by simpa using ho) e W (hdr.trans' hx) hW hd
    rw [← hX e] at this
    simpa using this
  · have := hQ e W (hdr.trans' hx) hW (fun k hk => hp k (by simpa using hk))
    rw [← hX e] at this
    simpa using this
  · rw [leftF_none _ (by simp)]; simp
  · intro k hk hn
    rw [leftF_none _ (by simp)] at hn
    exact absurd (List.mem_range.2 hk) hn
  · intro e _
    rw [leftF_none _ (by simp)]
end Go.Proofs.Ytnpilfpackdimaa.Sx
/- A region whose order is free, with guards that are met: each operation's contract is proved once, for whatever order comes. -/
namespace Go.Proofs.Ytnpilfpackdimaa.Sx
open Go Go.Proofs.Ytnpilfpackdimaa
variable {P : Program} {md : Region.Mode} {ops : Array Oper} {S : World → Prop}
/-- No operation looks at what comes behind it, or beside it; what it looks at is behind it. -/
def freeGB (md : Region.Mode) (ops : Array Oper) (dep : Nat → List Nat) : Bool :=
  (List.range ops.size).all fun k => match ops[k]? with
    | none => false
    | some o =>  (o.after.all fun e => !Region.binds md e || decide (e.on < k)) && ((dep k).all fun d => o.after.any fun e => Region.binds md e && e.on == d) &&
      (List.range ops.size).all fun i => (o.after.any (fun e => Region.binds md e && e.on == i) || (match dstAt ops i with | some d => !(o.looksAt ops).contains d | none => true)) && (i == k || match dstAt ops i with | some d => dstAt ops k != some d | none => true)
structure FreeG (md : Region.Mode) (ops : Array Oper) (dep : Nat → List Nat) (k : Nat) (o : Oper) : Prop where
  after : ∀ e ∈ o.after, Region.binds md e = true → e.on < k
  dep : ∀ d ∈ dep k, ∃ e ∈ o.after, Region.binds md e = true ∧ e.on = d
  look : ∀ i, i < ops.size → (∃ e ∈ o.after, Region.binds md e = true ∧ e.on = i) ∨ ∀ d, dstAt ops i = some d → d ∉ o.looksAt ops
  dist : ∀ i, i < ops.size → i ≠ k → ∀ d, dstAt ops i = some d → dstAt ops k ≠ some d
theorem freeGB_spec {dep : Nat → List Nat} (h : freeGB md ops dep = true) {k : Nat} {o : Oper} (ho : ops[k]? = some o)   : FreeG md ops dep k o := by
  have hk : k < ops.size := (Array.getElem?_eq_some_iff.1 ho).1
  have h1 := List.all_eq_true.1 h k (List.mem_range.2 hk)
  simp only [ho, Bool.and_eq_true] at h1
  obtain ⟨⟨a2, a3⟩, a4⟩ := h1
  refine ⟨fun e he hb => ?_, fun d hd => ?_, fun i hi => ?_, fun i hi hne d hd => ?_⟩
  · have := Array.all_eq_true_iff_forall_mem.1 a2 e he
    simpa [hb] using this
  · have := List.all_eq_true.1 a3 d hd
    obtain ⟨e, he, hb⟩ := Array.any_eq_true'.1 this
    simp only [Bool.and_eq_true, beq_iff_eq] at hb
    exact ⟨e, he, hb.1, hb.2⟩
  · have := List.all_eq_true.1 a4 i (List.mem_range.2 hi)
    simp only [Bool.and_eq_true, Bool.or_eq_true] at this
    rcases this.1 with h2 | h2
    · obtain ⟨e, he, hb⟩ := Array.any_eq_true'.1 h2
      simp only [Bool.and_eq_true, beq_iff_eq] at hb
      exact .inl ⟨e, he, hb.1, hb.2⟩
    · refine .inr fun d hd => ?_
      simp only [hd] at h2
      simpa using h2
  · have := List.all_eq_true.1 a4 i (List.mem_range.2 hi)
    simp only [Bool.and_eq_true, Bool.or_eq_true, hd] at this
    rcases this.2 with h2 | h2
    · exact absurd (by simpa using h2) hne
    · simpa using h2
theorem wanted_putF {e : Nat → Value} (o : Oper) : ∀ {l : List Nat} {a : Act}, (∀ k ∈ l, ∀ d, dstAt ops k = some d → d ∉ o.looksAt ops) → Region.wanted o (yielded ops (putF ops e l a).tmps) = Region.wanted o (yielded ops a.tmps)
  | [], a, _ => rfl
  | k :: l, a, h => by
    show Region.wanted o (yielded ops (putF ops e l _).tmps) = _
    rw [wanted_putF o fun j hj => h j (List.mem_cons_of_mem _ hj), wanted_put o a _ _ (h k (List.mem_cons_self))]
theorem wpM_freeG (hS : ∀ W W', S W → Ext W W' → S W') (Φ : Nat → Value → World → Prop) (hΦ : ∀ k v W W', Φ k v W → Ext W W' → Φ k v W') (dep : Nat → List Nat) (hsel : Region.noSelect ops = true) (hB : freeGB md ops dep = true) (Q : Act → World → Prop) (a0 : Act) (w0 : World)
    (hC : ∀ (k : Nat) (o : Oper), ops[k]? = some o → ∀ (e : Nat → Value) (W : World), Ext w0 W → S W → (∀ d ∈ dep k, Φ d (e d) W) → Region.wanted o (yielded ops (putF ops e (List.range ops.size) a0).tmps) = true ∧ LV P (fun v W' => Ext W W' ∧ Φ k v W') ((execOp (putF ops e (List.range ops.size) a0).eval o).run P W))
    (hQ : ∀ (e : Nat → Value) (W : World), Ext w0 W → S W → (∀ k, k < ops.size → Φ k (e k) W) → Q (putF ops e (List.range ops.size) a0) W) :
    ∀ (f : Nat) (listed : Array Bool) (ρ : Nat → Value) (a : Act) (w : World), listed.size = ops.size → f = (leftF ops listed).length → Ext w0 w → S w → (∀ k, k < ops.size → k ∉ leftF ops listed → Φ k (ρ k) w) →
      (∀ e : Nat → Value, (∀ k, k < ops.size → k ∉ leftF ops listed → e k = ρ k) → putF ops e (leftF ops listed) a = putF ops e (List.range ops.size) a0) → wpM P md ops S Q f listed a w
  | 0, listed, ρ, a, w, hsz, hf, hx, hs, hp, hi => by
    have hl : leftF ops listed = [] := List.eq_nil_of_length_eq_zero hf.symm
    have hno : ∀ k, k ∉ leftF ops listed := fun k => by rw [hl]; simp
    refine ⟨?_, fun W h1 h2 => ?_⟩
    · refine List.eq_nil_iff_forall_not_mem.2 fun k hk => ?_
      obtain ⟨h1, o, ho, -⟩ := mem_ready.1 hk
      exact hno k (mem_leftF.2 ⟨(Array.getElem?_eq_some_iff.1 ho).1, h1⟩)
    · have := hi ρ (fun _ _ _ => rfl)
      rw [hl] at this
      rw [show a = _ from this]
      exact hQ ρ W (hx.trans' h1) h2 fun k hk => hΦ _ _ _ _ (hp k hk (hno k)) h1
  | f + 1, listed, ρ, a, w, hsz, hf, hx, hs, hp, hi => by
    intro W h1 h2
    refine ⟨fun hr => ?_, fun k hk => ?_⟩
    · exfalso
      have hne : ∃ k, k ∈ leftF ops listed := by
        cases hl : leftF ops listed with
        | nil => rw [hl] at hf; cases hf
        | cons k l => exact ⟨k, List.mem_cons_self⟩
      obtain ⟨k0, hk0⟩ := hne
      obtain ⟨k, hk, hmin⟩ : ∃ k, k ∈ leftF ops listed ∧ ∀ j, j < k → j ∉ leftF ops listed := by
        induction k0 using Nat.strongRecOn with
        | _ k0 ih =>
          by_cases h : ∃ j, j < k0 ∧ j ∈ leftF ops listed
          · obtain ⟨j, hj, hm⟩ := h
            exact ih j hj hm
          · exact ⟨k0, hk0, fun j hj hm => h ⟨j, hj, hm⟩⟩
      obtain ⟨hkl, hku⟩ := mem_leftF.1 hk
      obtain ⟨o, ho⟩ : ∃ o, ops[k]? = some o := ⟨_, Array.getElem?_eq_getElem hkl⟩
      have hfr := freeGB_spec hB ho
      have : k ∈ Region.ready md ops listed := mem_ready.2 ⟨hku, o, ho, fun e he hb => by
        have hlt := hfr.after e he hb
        have hnm := hmin _ hlt
        rw [mem_leftF] at hnm
        have hes : e.on < ops.size := Nat.lt_trans hlt hkl
        have h3 : ¬ listed.getD e.on true = false := fun h => hnm ⟨hes, h⟩
        simp only [Array.getD, hsz, hes, dif_pos] at h3 ⊢
        simpa using h3⟩
      rw [hr] at this; cases this
    · obtain ⟨hku, o, ho, haf⟩ := mem_ready.1 hk
      have hkl : k < ops.size := (Array.getElem?_eq_some_iff.1 ho).1
      have hkm : k ∈ leftF ops listed := mem_leftF.2 ⟨hkl, hku⟩
      have hfr := freeGB_spec hB ho
      have hlis : ∀ e ∈ o.after, Region.binds md e = true → e.on ∉ leftF ops listed := fun e he hb hm => by
        have h3 := haf e he hb
        have h4 := (mem_leftF.1 hm)
        simp only [Array.getD, hsz, h4.1, dif_pos] at h3
        have h5 := h4.2
        simp only [Array.getD, hsz, h4.1, dif_pos] at h5
        rw [h3] at h5; cases h5
      have hss : ∀ cs b, o.op ≠ .select cs b := fun cs b => Region.noSelect_spec hsel k o cs b ho
      have hev : execOp a.eval o = execOp (putF ops ρ (List.range ops.size) a0).eval o := by
        rw [← hi ρ (fun _ _ _ => rfl)]
        refine (eval_putF o hss fun i him d hd => ?_).symm
        rcases hfr.look i (mem_leftF.1 him).1 with ⟨e, he, hb, hon⟩ | h3
        · exact absurd him (hon ▸ hlis e he hb)
        · exact h3 d hd
      have hwn : Region.wanted o (yielded ops a.tmps) = Region.wanted o (yielded ops (putF ops ρ (List.range ops.size) a0).tmps) := by
        rw [← hi ρ (fun _ _ _ => rfl)]
        refine (wanted_putF o fun i him d hd => ?_).symm
        rcases hfr.look i (mem_leftF.1 him).1 with ⟨e, he, hb, hon⟩ | h3
        · exact absurd him (hon ▸ hlis e he hb)
        · exact h3 d hd
      have hCC := hC k o ho ρ W (hx.trans' h1) h2 fun d hd => by
        obtain ⟨e, he, hb, hon⟩ := hfr.dep d hd
        have hdl : e.on < ops.size := Nat.lt_trans (hfr.after e he hb) hkl
        exact hon ▸ hΦ _ _ _ _ (hp e.on hdl (hlis e he hb)) h1
      unfold lOp
      simp only [ho]
      rw [if_pos (hwn.trans hCC.1)]
      rw [hev]
      refine LV.lupon (K := fun v W' => Ext W W' ∧ Φ k v W') ?_ hCC.2
      · rintro v W' ⟨hxW, hpv⟩
        have hsW := hS _ _ h2 hxW
        have hdk : dstAt ops k = o.dst := by unfold dstAt; rw [ho]; rfl
        refine ⟨hsW, wpM_freeG hS Φ hΦ dep hsel hB Q a0 w0 hC hQ f _ (fun i => if i = k then v else ρ i) _ W' (by simpa using hsz) ?_ ((hx.trans' h1).trans' hxW) hsW ?_ ?_⟩
        · rw [leftF_set hsz hkm, List.length_erase_of_mem hkm, ← hf]; rfl
        · intro i hil him
          by_cases h3 : i = k
          · subst h3; simpa using hpv
          · simp only [if_neg h3]
            refine hΦ _ _ _ _ (hΦ _ _ _ _ (hp i hil fun hm => him ?_) h1) hxW
            rw [leftF_set hsz hkm]
            exact (List.mem_erase_of_ne h3).2 hm
        · intro e he
          have hek : e k = v := by
            have := he k hkl (by rw [leftF_set hsz hkm]; exact List.Nodup.not_mem_erase (leftF_nodup listed))
            simpa using this
          rw [leftF_set hsz hkm, ← hek, ← hdk, ← putF_erase hkm (leftF_nodup listed) (fun i him d hd hne => hfr.dist i (mem_leftF.1 him).1 hne d hd)]
          refine hi e fun i hil him => ?_
          have h3 : i ≠ k := fun h => him (h ▸ hkm)
          have := he i hil (by rw [leftF_set hsz hkm]; exact fun hm => him (List.mem_of_mem_erase hm))
          simpa [h3] using this
/-- A region in whatever order: one contract for each operation. -/
theorem wp_region_freeG (S : World → Prop) (hS : ∀ W W', S W → Ext W W' → S W') (Φ : Nat → Value → World → Prop) (hΦ : ∀ k v W W', Φ k v W → Ext W W' → Φ k v W') (dep : Nat → List Nat) {id : Nat} {Q : Exit → Act → World → Prop} {a : Act} {w : World} {l : List Oper} (R : List Nat) (hR : R = List.range l.length) (X : (Nat → Value) → Act) (hX : ∀ e, putF l.toArray e R a = X e) (hm : P.follows .mixedOrders = true)
    (hB : (Region.noSelect l.toArray && freeGB .any l.toArray dep) = true) (h0 : S w.drew)
    (hC : ∀ (k : Nat) (o : Oper), l[k]? = some o → ∀ (e : Nat → Value) (W : World), Ext w W → S W → (∀ d ∈ dep k, Φ d (e d) W) → Region.wanted o (yielded l.toArray (X e).tmps) = true ∧ LV P (fun v W' => Ext W W' ∧ Φ k v W') ((execOp (X e).eval o).run P W))
    (hQ : ∀ (e : Nat → Value) (W : World), Ext w W → S W → (∀ k, k < l.length → Φ k (e k) W) → wpList P l.toArray Q [] (X e) W) : (Code.region id l.toArray true).wp P Q a w := by
  subst hR
  obtain ⟨hs, hf⟩ := Bool.and_eq_true_iff.1 hB
  refine wp_region_el S hS [] l.length hm (by rw [hs]; simp [earlyB]) h0 ?_
  simp only [pick, wpE, setAll]
  have hdr : Ext w w.drew := (RowKit.Below.refl _ _).drew
  refine wpM_freeG hS Φ hΦ dep hs hf _ a w.drew (fun k o ho e W hx hW hd => ?_) (fun e W hx hW hp => ?_) l.length _ (fun _ => undef) a w.drew (by simp) ?_ (RowKit.Below.refl _ _) h0 ?_ ?_
  · have := hC k o (by simpa using ho) e W (hdr.trans' hx) hW hd
    rw [← hX e] at this
    simpa using this
  · have := hQ e W (hdr.trans' hx) hW (fun k hk => hp k (by simpa using hk))
    rw [← hX e] at this
    simpa using this
  · rw [leftF_none _ (by simp)]; simp
  · intro k hk hn
    rw [leftF_none _ (by simp)] at hn
    exact absurd (List.mem_range.2 hk) hn
  · intro e _
    rw [leftF_none _ (by simp)]
end Go.Proofs.Ytnpilfpackdimaa.Sx
/- What an operation of a free region leaves: kinds of values. -/
namespace Go.Proofs.Ytnpilfpackdimaa
open Go.RowKit
/-- Kinds of values. -/
inductive Sp where
  | any
  | val (x : Value)
  | is (xs : List Int)
  | li (L : List (List Int))
  | tis (xs : List Int) (x : Value)
  | bk (I : Int) (L : List (List Int))
def Sp.ok : Sp → Value → World → Prop
  | .any, _, _ => True
  | .val x, v, _ => v = x
  | .is xs, v, W => ∃ A n c, v = .slice A n c ∧ InS W W.heap.size A n xs
  | .li L, v, W => ∃ A n c, v = .slice A n c ∧ LiS W W.heap.size A n L
  | .tis xs x, v, W => ∃ A n c, v = .tuple #[.slice A n c, x] ∧ InS W W.heap.size A n xs
  | .bk I L, v, W => ∃ A n c, v = .agg #[.int .i64 I, .slice A n c] ∧ LiS W W.heap.size A n L
theorem Sp.keep : ∀ (s : Sp) (v : Value) (W W' : World), s.ok v W → Ext W W' → s.ok v W'
  | .any, _, _, _, _, _ => trivial
  | .val _, _, _, _, h, _ => h
  | .is _, _, _, _, ⟨A, n, c, h, h'⟩, he => ⟨A, n, c, h, h'.below he he.size⟩
  | .li _, _, _, _, ⟨A, n, c, h, h'⟩, he => ⟨A, n, c, h, h'.below he he.size⟩
  | .tis _ _, _, _, _, ⟨A, n, c, h, h'⟩, he => ⟨A, n, c, h, h'.below he he.size⟩
  | .bk _ _, _, _, _, ⟨A, n, c, h, h'⟩, he => ⟨A, n, c, h, h'.below he he.size⟩
def SpA (l : List Sp) (k : Nat) (v : Value) (W : World) : Prop := ((l[k]?).getD .any).ok v W
theorem SpA.keep (l : List Sp) (k : Nat) (v : Value) (W W' : World) (h : SpA l k v W) (he : Ext W W') : SpA l k v W' := Sp.keep _ v W W' h he
theorem lis_two {w : World} {g t : Nat} {A1 A2 : Option Addr} {m1 m2 c1 c2 : Nat} {l1 l2 : List Int} (hb : Blk w g t #[.slice A1 m1 c1, .slice A2 m2 c2]) (h1 : InS w w.heap.size A1 m1 l1) (h2 : InS w w.heap.size A2 m2 l2) : LiS w w.heap.size (some ⟨g, 0, none⟩) 2 [l1, l2] :=
  lis_lit (vs := [.slice A1 m1 c1, .slice A2 m2 c2]) hb rfl fun k l hl => by
    match k, hl with
    | 0, hl => cases hl; exact ⟨_, _, _, rfl, h1⟩
    | 1, hl => cases hl; exact ⟨_, _, _, rfl, h2⟩
    | k + 2, hl => simp at hl
theorem lis_one' {w : World} {g t : Nat} {A1 : Option Addr} {m1 c1 : Nat} {l1 : List Int} (hb : Blk w g t #[.slice A1 m1 c1]) (h1 : InS w w.heap.size A1 m1 l1) : LiS w w.heap.size (some ⟨g, 0, none⟩) 1 [l1] :=
  lis_lit (vs := [.slice A1 m1 c1]) hb rfl fun k l hl => by
    match k, hl with
    | 0, hl => cases hl; exact ⟨_, _, _, rfl, h1⟩
    | k + 1, hl => simp at hl
theorem hSb (B : World) : ∀ W W', Below B.heap.size B W → Ext W W' → Below B.heap.size B W' := fun _ _ h he => h.trans (he.mono h.size)
theorem of_new (w0 : World) (xs : List Int) : Calls Try.prog 19 #[.slice (some ⟨w0.heap.size, 0, none⟩) xs.length xs.length] (w0.alloc (.cells (xs.flatMap cI).toArray 3)) fun e w' => ∃ A n c, e = .returned (.slice A n c) ∧ InS w' w'.heap.size A n xs ∧ Below w0.heap.size w0 w' := by
  refine (of_any _ _).mono ?_
  rintro e w1 ⟨rfl, rfl⟩
  exact ⟨_, _, _, rfl, ins_blk (l := xs) (Blk.new _ _ _) (by simp), (Below.refl _ _).alloc (Nat.le_refl _) _⟩
def gdB (b : Bool) (v : Value) : Bool := (match v with | .bool x => some x | _ => (none : Option Bool)) == some b
theorem kEqs : eqI [1, 2] [1, 2] = true ∧ eqI [0, 2] [0, 2] = true ∧ eqLs [[1, 2], [2, 3]] [[1, 2], [2, 3]] = true ∧ eqI [1, 3] [1, 3] = true ∧ (decide ((4 : Int) = 4) && eqLs [[1, 3], [2]] [[1, 3], [2]]) = true ∧ (decide ((5 : Int) = 5) && eqLs [[0, 2], [1, 3]] [[0, 2], [1, 3]]) = true := by decide +kernel
end Go.Proofs.Ytnpilfpackdimaa
