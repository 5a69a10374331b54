/- Texts of the proof, laid together by program. -/
import Derived.Test.YtdgllpcfmkjfhaaGreatMs
import Derived.DeepKeys4
import Derived.Test.YtdgllpcfmkjfhaaGreatMg
set_option linter.unusedSimpArgs false
set_option linter.unusedVariables false
/- Walks: mould: List: what it fills and asks first. -/
namespace Go.Proofs.YtdgllpcfmkjfhaaGreat.Bl
open Go.RowKit Go.Shelf Go.WideMaps
attribute [local go_sem] Oper.semAt_some
theorem zeros_b {N : Nat} (h : N ≤ 14) : madeCells (Value.int .i64 0).cells (N * 1) = zA N none0 := by
  rcases (by omega : N ≤ 6 ∨ N = 7 ∨ N = 8 ∨ N = 9 ∨ N = 10 ∨ N = 11 ∨ N = 12 ∨ N = 13 ∨ N = 14) with h | rfl | rfl | rfl | rfl | rfl | rfl | rfl | rfl
  · exact zeros_z h
  all_goals kernel_rfl
theorem mk_b {N : Nat} (h : N ≤ 14) (X : World) : (Instr.makeSlice 34 (.int .i64 (N : Int)) (.int .i64 (N : Int))).run Tryz.prog X = .ok (.slice (some ⟨X.heap.size, 0, none⟩) N N) (X.alloc (.cells (zA N none0) 3)) := by
  obtain ⟨i, hi, hz0, hz1, hz2⟩ := info_parts' infoI
  have := run_makeSlice (P := Tryz.prog) (w := X) 34 3 i (.int .i64 0) underL hi hz0 .i64 .i64 (N : Int) (N : Int) (by omega) (Int.le_refl _) (by rw [hz1]; omega) (by rw [hz2]; omega) (by omega)
  rw [this, hz1, Int.toNat_natCast, zeros_b h]
theorem clW_eq {S M : Int} {ws : List (Int × Int)} (hb : MBook S M ws) {i k : Nat} (hi : i < ws.length) (hk : k < ws.length) : clW ws i k = (sF ws i == sF ws k || mF ws i == mF ws k) := by
  have hx : ws[i]? = some ws[i] := List.getElem?_eq_getElem hi
  have hy : ws[k]? = some ws[k] := List.getElem?_eq_getElem hk
  have h1 := hb.w _ (List.mem_of_getElem? hx)
  have h2 := hb.w _ (List.mem_of_getElem? hy)
  unfold clW sF mF
  rw [getD_of hx, getD_of hy]
  congr 1
  · rw [Bool.eq_iff_iff, beq_iff_eq, beq_iff_eq]; omega
  · rw [Bool.eq_iff_iff, beq_iff_eq, beq_iff_eq]; omega
theorem del_rest {S M : Int} {ws : List (Int × Int)} (hb : MBook S M ws) {j : Nat} (hj : j < ws.length) {L : List Nat} (hL : ∀ i ∈ L, i < ws.length) : (toI L).filter (fun x => !(decide (x.toNat ≤ j) || clW ws j x.toNat)) = toI (restW (sF ws) (mF ws) j L) := by
  unfold toI restW
  rw [List.filter_map]
  congr 1
  refine List.filter_congr fun i hi => ?_
  simp only [Function.comp, Int.toNat_natCast]
  rw [clW_eq hb hj (hL i hi)]
theorem mF_lt {S : Int} {N : Nat} {ws : List (Int × Int)} (hb : MBook S (N : Int) ws) {i : Nat} (hi : i < ws.length) : mF ws i < N := by
  have hx : ws[i]? = some ws[i] := List.getElem?_eq_getElem hi
  have h := hb.w _ (List.mem_of_getElem? hx)
  unfold mF
  rw [getD_of hx]
  omega
theorem has_toI {L : List Nat} {j : Nat} : has (toI L) (j : Int) = L.contains j := by
  unfold has toI
  rw [Bool.eq_iff_iff, List.any_eq_true, List.contains_iff_mem]
  constructor
  · rintro ⟨x, hx, e⟩
    obtain ⟨i, hi, rfl⟩ := List.mem_map.1 hx
    have : (i : Int) = j := by simpa using e
    have : i = j := by omega
    exact this ▸ hi
  · intro h
    exact ⟨(j : Int), List.mem_map.2 ⟨j, h, rfl⟩, by simp⟩
def SB (w0 : World) (pi i : Nat) (W : World) : Prop := Below w0.heap.size w0 W ∧ W.cell? ⟨pi, 0, none⟩ = some (.int .i64 (i : Int)) ∧ pi < W.heap.size
theorem SB.ext {w0 : World} {pi i : Nat} {X Y : World} (h : SB w0 pi i X) (he : Below X.heap.size X Y) : SB w0 pi i Y :=
  ⟨h.1.trans (he.mono h.1.size), (he.cell (p := ⟨pi, 0, none⟩) h.2.2).trans h.2.1, Nat.lt_of_lt_of_le h.2.2 he.size⟩
set_option maxRecDepth 100000 in
set_option maxHeartbeats 16000000 in
theorem mList_any (S N : Nat) (A : Option Addr) (n c : Nat) (ws : List (Int × Int)) (w : World) (hl : WtS w w.heap.size A n ws) (hb : MBook (S : Int) (N : Int) ws) :
    Calls Tryz.prog 7 #[.agg #[.int .i64 (S : Int), .int .i64 (N : Int), .slice A n c]] w fun e w' => ∃ A' n' c', e = .returned (.tuple #[.slice A' n' c', .int .i64 0]) ∧ InS w' w'.heap.size A' n' (toI (listW (sF ws) (mF ws) N S n)) ∧ Below w.heap.size w w' := by
  have hlen := hl.len
  have hn14 : n ≤ 14 := by have := hb.n; omega
  have hs := hb.s
  have hm := hb.m
  have HL := hid hl
  have HB := hid hb
  have hmk := mk_b hn14
  have Hlen := hid hlen
  clear hl hb hlen
  go_enter Tryz.func7, Tryz.ntmps7
  go_wp2_with (fail)
  refine (mopen_any (S : Int) (N : Int) A n c ws _ (HL.out.below (by repeat' (first | with_reducible assumption | with_reducible exact Below.refl _ _ | refine Below.alloc ?_ ?_ _ | refine Below.setCell ?_ ?_ _ | refine Below.drew ?_ | refine below_drewN ?_ _ | (simp; done) | (simp; omega) | omega)) (by first | (simp; done) | (simp; omega) | omega)) HB.out).mono ?_
  rintro e w1 ⟨g, gh, rfl, hgh, hgg, hd, -, hb1⟩
  have hbel : Below w.heap.size w w1 := Below.trans (by repeat' (first | with_reducible assumption | with_reducible exact Below.refl _ _ | refine Below.alloc ?_ ?_ _ | refine Below.setCell ?_ ?_ _ | refine Below.drew ?_ | refine below_drewN ?_ _ | (simp; done) | (simp; omega) | omega)) (hb1.mono (by first | (simp; done) | (simp; omega) | omega))
  have c2 : w1.cell? ⟨w.heap.size, 2, none⟩ = some (.slice A n c) := (hb1.cell (p := ⟨w.heap.size, 2, none⟩) (by first | (simp; done) | (simp; omega) | omega)).trans (by go_simp)
  have hq0 : w.heap.size < w1.heap.size := (by have := hb1.size; simp at this; omega)
  have HD := hid hd
  clear hb1 hd hgh
  go_wp2
  obtain ⟨pd, hpd⟩ : ∃ pd, w1.heap.size = pd := ⟨_, rfl⟩
  obtain ⟨W0, hW0⟩ : ∃ W0, (w1.alloc (.cells #[.pointer (some ⟨g, 0, none⟩)] 56)).alloc (.cells (zA n none0) 3) = W0 := ⟨_, rfl⟩
  have hb0 : Below w1.heap.size w1 W0 := by rw [← hW0]; exact ((Below.refl _ _).alloc (Nat.le_refl _) _).alloc (by simp) _
  have BP : Hid (Blk W0 pd 56 #[.pointer (some ⟨g, 0, none⟩)]) := hid (by rw [← hW0]; exact (Blk.new' hpd).alloc _)
  have BL : Hid (Blk W0 (pd + 1) 3 (zA n none0)) := hid (by rw [← hW0]; exact Blk.new' (by simp [hpd]))
  have HbW : Hid (Below w.heap.size w W0) := hid (hbel.trans (hb0.mono hbel.size))
  have HD0 := hid (HD.out.below hb0)
  have hpw : Hid (w.heap.size < pd ∧ g < pd) := hid ⟨by omega, by have := HD.out.1.lt; omega⟩
  have k2 : Hid (W0.cell? ⟨w.heap.size, 2, none⟩ = some (.slice A n c)) := hid ((hb0.cell (p := ⟨w.heap.size, 2, none⟩) hq0).trans c2)
  have hz0 : Hid (W0.heap.size = pd + 2) := hid (by rw [← hW0]; simp [hpd])
  rw [hW0, hpd]
  clear hW0 hb0 hbel c2 hq0 hgg HD hmk hpd
  go_loopw [26] (fun iv wr => ∃ (j : Nat) (cu : Array Value), j ≤ n ∧ iv = .int .i64 j ∧ Hid (Blk wr (pd + 1) 3 cu) ∧ cu.size = n ∧ Hid (∀ t, t < j → cu[t]? = some (Value.int .i64 (t : Int))) ∧ Hid (Below (pd + 1) W0 wr)) (fun iv _ => n - (intOf iv).toNat)
  case atStart => exact ⟨0, _, by omega, rfl, BL, by simp [zA], hid (fun t ht => by omega), hid (Below.refl _ _)⟩
  case round =>
    obtain ⟨j, cu, hj, rfl, hB, hcu, hat, hbr⟩ := hrel
    by_cases hlt : j < n
    · have hlti : (j : Int) < n := by omega
      have hcell : cu[j]? = some cu[j] := Array.getElem?_eq_getElem (by omega)
      have c0 := (hB.out.cell j).trans hcell
      have f0 := hB.out.frozen j
      have l0 := hB.out.lt
      have hB2 := hid (hB.out.set_ j (.int .i64 (j : Int)))
      have hat2 : Hid (∀ t, t < j + 1 → (cu.setIfInBounds j (Value.int .i64 (j : Int)))[t]? = some (Value.int .i64 (t : Int))) := hid (fun t ht => by
        rcases Nat.lt_or_ge t j with h | h
        · rw [Array.getElem?_setIfInBounds_ne (by omega)]; exact hat.out t h
        · obtain rfl : t = j := by omega
          rw [Array.getElem?_setIfInBounds_self_of_lt (by omega)])
      have hbr2 : Hid (Below (pd + 1) W0 (wr.setCell ⟨pd + 1, j, none⟩ (.int .i64 (j : Int)))) := hid (hbr.out.setCell (by simp) _)
      go_wp2
      exact ⟨⟨j + 1, _, by omega, by go_num, hB2, by rw [Array.size_setIfInBounds]; exact hcu, hat2, hbr2⟩, by simp [intOf]; omega⟩
    · obtain rfl : j = n := by omega
      have hpl := hpw.out
      have hszw := hbr.out.size
      have hIn : InS wr wr.heap.size (some ⟨pd + 1, 0, none⟩) j (toI (List.range j)) := ⟨by rw [flat_len (s := 1) (fun _ => rfl)]; simp [toI], fun _ => ⟨pd + 1, 0, rfl, hB.out.lt, fun t u hu => by
        rw [flatI_at] at hu
        unfold toI at hu
        rw [List.getElem?_map] at hu
        have htj : t < j := by
          rcases Nat.lt_or_ge t j with h | h
          · exact h
          · rw [List.getElem?_eq_none (by simpa using h)] at hu; cases hu
        rw [List.getElem?_range htj] at hu
        have hu := Option.some.inj hu
        rw [Nat.zero_add, hB.out.cell, hat.out t htj, ← hu]⟩⟩
      have HIn := hid hIn
      have q0 : wr.cell? ⟨pd, 0, none⟩ = some (.pointer (some ⟨g, 0, none⟩)) := (hbr.out.cell (p := ⟨pd, 0, none⟩) (by show pd < _; omega)).trans (BP.out.cell 0)
      have q2 : wr.cell? ⟨w.heap.size, 2, none⟩ = some (.slice A j c) := (hbr.out.cell (p := ⟨w.heap.size, 2, none⟩) (by show w.heap.size < _; omega)).trans k2.out
      have HbR : Hid (Below w.heap.size w wr) := hid (HbW.out.trans (hbr.out.mono (by omega)))
      have hDr : MDesk wr g (S : Int) (N : Int) A j c gh ws := ⟨HD0.out.1.below hbr.out (by omega), HL.out.below HbR.out HbR.out.size⟩
      have HDr := hid hDr
      clear hIn hDr
      have HMF : Hid (∀ i, i < j → mF ws i < N) := hid (fun i hi => mF_lt HB.out (by rw [Hlen.out]; exact hi))
      have HWS : Hid (∀ x ∈ ws, (0 ≤ x.1 ∧ x.1 ≤ 1000) ∧ 0 ≤ x.2) := hid (fun x hx => by have := HB.out.w x hx; omega)
      go_wp2_with (fail)
      refine (match_any g S N _ j j (List.range j) A j c gh ws wr HDr.out HIn.out (by omega) (by omega) (by omega) (by omega) (fun i hi => List.mem_range.1 hi) (fun i hi => HMF.out i (List.mem_range.1 hi)) HWS.out).mono ?_
      rintro e w5 ⟨gm, rfl, hgm, hBy, hb5⟩
      have hlen5 := fun ty => by_run hBy (show N ≤ 1000 by omega) ty
      obtain ⟨most, hmost⟩ : ∃ most, (hadL (matchP (sF ws) (mF ws) (List.range j) N (List.range S)) N).length = most := ⟨_, rfl⟩
      have Hmost : Hid (nu (sF ws) (mF ws) N S (List.range j) = most) := hid hmost
      rw [hmost] at hlen5
      have hq2' : w5.cell? ⟨w.heap.size, 2, none⟩ = some (.slice A j c) := (hb5.cell (p := ⟨w.heap.size, 2, none⟩) (by show w.heap.size < _; have := hbr.out.size; have := hz0.out; omega)).trans q2
      have hl5 : w.heap.size < w5.heap.size := by have := hb5.size; have := hbr.out.size; have := hz0.out; omega
      clear hmost hBy
      go_wp2
      have hM1 := hb5.size
      have hbR5 : Hid (Below wr.heap.size wr w5) := hid hb5
      have HIn5 : Hid (InS w5 w5.heap.size (some ⟨pd + 1, 0, none⟩) j (toI (List.range j))) := hid (HIn.out.below hb5 hb5.size)
      have HD5 := hid (HDr.out.below hb5)
      have hpd5 : Hid (pd < w5.heap.size) := hid (by have := hbr.out.size; have := hz0.out; omega)
      have P5 : Hid (w5.cell? ⟨pd, 0, none⟩ = some (.pointer (some ⟨g, 0, none⟩))) := hid ((hb5.cell (p := ⟨pd, 0, none⟩) (by show pd < _; have := hbr.out.size; have := hz0.out; omega)).trans q0)
      have HbW5 := hid (HbR.out.trans (hb5.mono HbR.out.size))
      clear hb5 hM1 hbR5 q0 q2 hlen5 hq2' hl5 hpl hszw HIn HDr hB hat hbr hcu hlt hgm BP BL HbW k2 hz0 HD0 hpw HbR
      go_loopw [6, 7, 41] (fun ov lv iv wr => ∃ (i : Nat) (o l : List Nat) (Ao : Option Addr) (no co ql nl cl : Nat), i ≤ j ∧ iv = .int .i64 i ∧ ov = .slice Ao no co ∧ lv = .slice (some ⟨ql, 0, none⟩) nl cl ∧ Hid ((List.range i).foldl (stepW (sF ws) (mF ws) N S most) ([], List.range j) = (o, l)) ∧ Hid (InS wr wr.heap.size Ao no (toI o)) ∧ Hid (InS wr wr.heap.size (some ⟨ql, 0, none⟩) nl (toI l)) ∧ Hid (no = 0 → Ao = none ∧ co = 0) ∧ no ≤ i ∧ no ≤ co ∧ nl ≤ 14 ∧ Hid (∀ x ∈ l, x < j) ∧ Hid (Below w5.heap.size w5 wr)) (fun _ _ iv _ => j - (intOf iv).toNat)
      case atStart => exact ⟨0, [], List.range j, none, 0, 0, pd + 1, j, j, by omega, rfl, rfl, rfl, hid rfl, hid Sl.none_, HIn5, hid (fun _ => ⟨rfl, rfl⟩), by omega, Nat.le_refl _, hn14, hid (fun x hx => List.mem_range.1 hx), hid (Below.refl _ _)⟩
      case round =>
        obtain ⟨i, o, l, Ao, no, co, ql, nl, cl, hi, rfl, rfl, rfl, hfold, hIo, hIl, hnone, hno, hnc, hnl, hlj, hbw⟩ := hrel
        by_cases hij : i < j
        · have hiti : (i : Int) < j := by omega
          obtain ⟨W2, hW2⟩ : ∃ W2, wr.alloc (.cells #[.int .i64 (i : Int)] 3) = W2 := ⟨_, rfl⟩
          have hb2 : Below wr.heap.size wr W2 := by rw [← hW2]; exact (Below.refl _ _).alloc (Nat.le_refl _) _
          have BI := hid (show Blk W2 wr.heap.size 3 #[.int .i64 (i : Int)] by rw [← hW2]; exact Blk.new' rfl)
          have hzW := hbw.out.size
          have hM9 := hb2.size
          have HIo2 := hid (hIo.out.below hb2 hb2.size)
          have HIl2 := hid (hIl.out.below hb2 hb2.size)
          have hb52 := hid (hbw.out.trans (hb2.mono hzW))
          have HD2 := hid (HD5.out.below hb52.out)
          have P2 := hid ((hb52.out.cell (p := ⟨pd, 0, none⟩) hpd5.out).trans P5.out)
          have L2 := hid (show pd < W2.heap.size by have := hpd5.out; omega)
          have LB := hid (show wr.heap.size < W2.heap.size from BI.out.lt)
          have HO := hid (show Below wr.heap.size wr W2 from hb2)
          have hol := hid (show o.length = no by have := hIo.out.len; simpa [toI] using this)
          obtain ⟨pi, hpi⟩ : ∃ pi, wr.heap.size = pi := ⟨_, rfl⟩
          rw [hpi] at BI LB
          clear hb2 hIo hIl hzW hM9
          go_wp2_with (fail)

          clear hW2
          refine (cloneI_any W2 ⟨ql, 0, none⟩ nl cl (toI l) HIl2.out (by omega)).mono ?_
          rintro e w3 ⟨q, cap, rfl, ho3, hb3⟩
          have HO3 := hid ho3
          have HB3 := hid hb3
          have hz3 := hb3.size
          clear ho3 hb3
          go_wp2_with (fail)
          have HP : ∀ x ∈ toI l, ∀ (W : World), Below W2.heap.size W2 W → Calls Tryz.prog 29 (#[.int .i64 x] ++ #[.pointer (some ⟨pi, 0, none⟩), .pointer (some ⟨pd, 0, none⟩)]) W fun e w' => e = .returned (.bool (decide (x.toNat ≤ i) || clW ws i x.toNat)) ∧ Below W.heap.size W w' := fun x hx W hW => by
            obtain ⟨k, hk, rfl⟩ := List.mem_map.1 hx
            have hkj := hlj.out k hk
            exact mlist1_any g _ _ A j c gh ws i k pi pd W (HD2.out.below hW) hij hkj (by omega) ((hW.cell (p := ⟨pi, 0, none⟩) LB.out).trans (BI.out.cell 0)) ((hW.cell (p := ⟨pd, 0, none⟩) L2.out).trans P2.out)
          refine (delI_any W2 w3 q nl cap (toI l) 29 #[.pointer (some ⟨pi, 0, none⟩), .pointer (some ⟨pd, 0, none⟩)] (fun _ _ => rfl) (fun x => decide (x.toNat ≤ i) || clW ws i x.toNat) HP HB3.out HO3.out (by omega)).mono ?_
          clear HP
          rintro e w4 ⟨n', rfl, hin4, hb4⟩
          rw [del_rest HB.out (by rw [Hlen.out]; exact hij) (fun x hx => by rw [Hlen.out]; exact hlj.out x hx)] at hin4
          have HI4 := hid hin4
          have HB4 := hid hb4
          have hz4 := hb4.size
          clear hin4 hb4 HO3 HB3 hz3
          have HIl4 := hid (HIl2.out.below HB4.out HB4.out.size)
          have HIo4 := hid (HIo2.out.below HB4.out HB4.out.size)
          have HD4 := hid (HD2.out.below HB4.out)
          have ci : w4.cell? ⟨pi, 0, none⟩ = some (.int .i64 (i : Int)) := (HB4.out.cell (p := ⟨pi, 0, none⟩) LB.out).trans (BI.out.cell 0)
          have cd : w4.cell? ⟨pd, 0, none⟩ = some (.pointer (some ⟨g, 0, none⟩)) := (HB4.out.cell (p := ⟨pd, 0, none⟩) L2.out).trans P2.out
          have l4i : pi < w4.heap.size := by have := LB.out; omega
          have l4d : pd < w4.heap.size := by have := L2.out; omega
          have hb54 := hid (hb52.out.trans (HB4.out.mono hb52.out.size))
          have hcon := contains_any (some ⟨ql, 0, none⟩) nl cl (toI l) (i : Int) w4 HIl4.out (by omega)
          rw [has_toI] at hcon
          clear hz4
          have hnn : n' ≤ nl := by
            have h1 := HI4.out.len
            have h2 := HIl4.out.len
            have h3 : (restW (sF ws) (mF ws) i l).length ≤ l.length := List.length_filter_le _ _
            simp only [toI, List.length_map] at h1 h2
            omega
          cases hc : l.contains i
          · rw [hc] at hcon
            have hst : Hid ((List.range (i + 1)).foldl (stepW (sF ws) (mF ws) N S most) ([], List.range j) = (o, l)) := hid (by
              rw [List.range_succ, List.foldl_append, hfold.out]
              simp only [List.foldl_cons, List.foldl_nil, stepW, hc, Bool.false_and]
              rfl)
            clear HI4 HB4 BI HD2 P2 L2 LB HO
            go_wp2_with (go_at_call 31; refine hcon.mono ?_; rintro e w5x ⟨rfl, rfl⟩)
            exact ⟨⟨i + 1, o, l, Ao, no, co, ql, nl, cl, by omega, by go_num, rfl, rfl, hst, HIo4, HIl4, hnone, by omega, hnc, hnl, hlj, hb54⟩, by simp [intOf]; omega⟩
          · rw [hc] at hcon
            have HRl : Hid (∀ x ∈ restW (sF ws) (mF ws) i l, x < j) := hid (fun x hx => hlj.out x (List.mem_filter.1 hx).1)
            have hmat := match_any g S N (some ⟨q, 0, none⟩) n' cap (restW (sF ws) (mF ws) i l) A j c gh ws w4 HD4.out HI4.out (by omega) (by omega) (by omega) (by omega) HRl.out (fun k hk => HMF.out k (HRl.out k hk)) HWS.out
            go_wp2_with (go_at_call 31; refine hcon.mono ?_; rintro e w5x ⟨rfl, rfl⟩)
            refine hmat.mono ?_
            rintro e w6 ⟨gm, rfl, hgm, hBy, hb6⟩
            have hlen6 := fun ty => by_run hBy (show N ≤ 1000 by omega) ty
            obtain ⟨mr, hmr⟩ : ∃ mr, (hadL (matchP (sF ws) (mF ws) (restW (sF ws) (mF ws) i l) N (List.range S)) N).length = mr := ⟨_, rfl⟩
            rw [hmr] at hlen6
            have Hmr : Hid (nu (sF ws) (mF ws) N S (restW (sF ws) (mF ws) i l) = mr) := hid hmr
            have HB6 := hid hb6
            have hz6 := hb6.size
            have ci6 : w6.cell? ⟨pi, 0, none⟩ = some (.int .i64 (i : Int)) := (hb6.cell (p := ⟨pi, 0, none⟩) l4i).trans ci
            have l6i : pi < w6.heap.size := by omega
            have hb56 := hid (hb54.out.trans (hb6.mono hb54.out.size))
            have HR6 := hid (HI4.out.below hb6 hb6.size)
            have HIo6 := hid (HIo4.out.below hb6 hb6.size)
            have HIl6 := hid (HIl4.out.below hb6 hb6.size)
            have hmr40 : mr ≤ 1000 := by
              rw [← hmr]
              unfold hadL
              exact Nat.le_trans (List.length_filterMap_le _ _) (by rw [List.length_range]; omega)
            clear hmr hBy hb6 hmat hcon ci cd l4i l4d HI4 HB4 BI HD2 P2 L2 LB HO
            by_cases heq : no + 1 + mr = most
            · have heqi : (no : Int) + 1 + mr = most := by omega
              have hst : Hid ((List.range (i + 1)).foldl (stepW (sF ws) (mF ws) N S most) ([], List.range j) = (o ++ [i], restW (sF ws) (mF ws) i l)) := hid (by
                rw [List.range_succ, List.foldl_append, hfold.out]
                have hd : (o.length + 1 + nu (sF ws) (mF ws) N S (restW (sF ws) (mF ws) i l) == most) = true := by rw [Hmr.out, hol.out, heq]; exact beq_self_eq_true _
                simp only [List.foldl_cons, List.foldl_nil, stepW, hc, hd, Bool.and_self, if_true])
              clear heq hc
              go_wp2_with (fail)
              obtain ⟨i0, hi0, hi1, hi2, hi3⟩ := info_parts' infoI
              have I0 := hid hi0; have I1 := hid hi1; have I2 := hid hi2; have I3 := hid hi3
              clear hi0 hi1 hi2 hi3
              have hSB := hid (show SB w6 pi i w6 from ⟨Below.refl _ _, ci6, l6i⟩)
              rcases Nat.eq_zero_or_pos no with h0 | h0
              · subst h0
                obtain ⟨rfl, rfl⟩ := hnone.out rfl
                refine Sx.wp_region_el (SB w6 pi i) (fun X Y h he => h.ext he) [0, 1, 2, 3, 4, 5, 6, 9] 4 (by kernel_rfl) (by kernel_rfl) (hSB.out.ext (Below.refl _ _).drew) ?_
                simp only [pick, List.getElem?_toArray, List.getElem?_cons_zero, List.getElem?_cons_succ]
                iterate 8 (refine Sx.wpE_val (v := ?_) (by rfl) (fun W hW => ?_) ?_; rotate_left; (· obtain ⟨-, h5W, l5W⟩ := hW; go_simp; with_reducible rfl); simp only [Act.put, List.setIfInBounds_toArray, List.set_cons_zero, List.set_cons_succ])
                simp only [Sx.wpE]
                (refine Sx.wpM_one 7 _ (by simp only [List.getElem?_toArray, List.getElem?_cons_zero, List.getElem?_cons_succ]; rfl) (by kernel_rfl) (by rfl) ?_)
                intro X hX hS
                (go_simp; simp only [LUpon, Act.put]; try simp only [List.setIfInBounds_toArray, List.set_cons_zero, List.set_cons_succ])
                have hA := hS.ext (Below.alloc (Below.refl X.heap.size X) (Nat.le_refl _) (.cells #[.int .i64 (i : Int)] 3))
                have hBX : Blk (X.alloc (.cells #[.int .i64 (i : Int)] 3)) X.heap.size 3 #[.int .i64 (i : Int)] := Blk.new' rfl
                obtain ⟨XB, hXB⟩ : ∃ XB, X.heap.size = XB := ⟨_, rfl⟩
                have HlXB := hid (show w6.heap.size ≤ XB by have := hS.1.size; omega)
                rw [hXB] at hBX ⊢
                refine ⟨hA, ?_⟩
                (refine Sx.wpM_one 8 _ (by simp only [List.getElem?_toArray, List.getElem?_cons_zero, List.getElem?_cons_succ]; rfl) (by kernel_rfl) (by rfl) ?_)
                intro X2 hX2 hS2
                have hB2 := hBX.below hX2 hBX.lt
                have hlX2 := hB2.lt
                have hIoX := HIo6.out.below hS2.1 hS2.1.size
                have hfu := full_of_ins hIoX (fun _ => rfl)
                refine lupon_append_cap _ _ _ 34 rfl w6.heap.size 3 i0 _ 1 8 underL I0.out I1.out I2.out I3.out rfl _ 0 ((toI o).flatMap cI) (by rfl) hIoX.1 hfu ⟨XB, 0, none⟩ 1 1 [.int .i64 (i : Int)] (by rfl) rfl (fun j u hj => World.news_of_block hB2 j u hj) (by decide) (by unfold maxLen; omega) (by omega) hS2.1.size ?_
                intro cap9 w9 ho9 hg9 hz9
                have hbg := below_grown0 (Below.refl X2.heap.size X2) hg9 (Nat.le_refl _)
                have hS9 := hS2.ext hbg
                refine ⟨hS9, ?_⟩
                have ho9h := hid ho9
                have hcap9 := World.ownsRow.form ho9 (by omega)
                have hz29 := hg9.size
                obtain ⟨XC, hXC⟩ : ∃ XC, X2.heap.size = XC := ⟨_, rfl⟩
                rw [hXC] at ho9h hcap9 ⊢
                obtain ⟨gq, cq, hv9, hgq, hlt9⟩ := hcap9
                cases hv9
                clear ho9
                simp only [Act.put, List.setIfInBounds_toArray, List.set_cons_zero, List.set_cons_succ]
                (refine Sx.wpM_one 10 _ (by simp only [List.getElem?_toArray, List.getElem?_cons_zero, List.getElem?_cons_succ]; rfl) (by kernel_rfl) (by rfl) ?_)
                intro X3 hX3 hS3
                (go_simp; simp only [LUpon, Act.put]; try simp only [List.setIfInBounds_toArray, List.set_cons_zero, List.set_cons_succ])
                refine ⟨hS3, ?_⟩
                (refine Sx.wpM_one 11 _ (by simp only [List.getElem?_toArray, List.getElem?_cons_zero, List.getElem?_cons_succ]; rfl) (by kernel_rfl) (by rfl) ?_)
                intro X4 hX4 hS4
                (go_simp; simp only [LUpon, Act.put]; try simp only [List.setIfInBounds_toArray, List.set_cons_zero, List.set_cons_succ])
                refine ⟨hS4, Sx.wpM_end (by kernel_rfl) ?_⟩
                intro W8 hW8 hS8
                have hb98 := hX3.trans ((hX4.mono hX3.size).trans (hW8.mono (by have := hX3.size; have := hX4.size; omega)))
                have hNI : Hid (InS W8 W8.heap.size (some ⟨XC, 0, none⟩) (0 + 1) (toI (o ++ [i]))) := hid (by
                  have h1 : InS w9 w9.heap.size (some ⟨XC, 0, none⟩) (0 + 1) (toI (o ++ [i])) := by
                    have h2 := Sl.of_own ho9h.out
                    unfold InS toI
                    rw [List.map_append, List.flatMap_append]
                    exact h2
                  exact h1.below hb98 hb98.size)
                have hb58 := hid (hb56.out.trans (hS8.1.mono hb56.out.size))
                have hR8 := hid (HR6.out.below hS8.1 hS8.1.size)
                have hRl := HRl
                have hcc : 0 + 1 ≤ cap9 := by
                  rcases ho9h.out.2 with ⟨e, -⟩ | ⟨_, _, _, e, _, _, h, _⟩
                  · cases e
                  · cases e; exact h
                clear hbg hS9 hS3 hS4 hS8 hX hX2 hX3 hX4 hW8 hb98 hS hS2 hA hB2 hBX hIoX hfu hg9 hgq
                go_wp2
                exact ⟨⟨i + 1, o ++ [i], restW (sF ws) (mF ws) i l, some ⟨XC, 0, none⟩, 0 + 1, cap9, q, n', cap, by omega, by go_num, rfl, rfl, hst, hNI, hR8, hid (fun h => by omega), by omega, by omega, by omega, hRl, hb58⟩, by simp [intOf]; omega⟩
              · obtain ⟨b0, off0, hA0, hb0, hc0⟩ := HIo6.out.2 h0
                subst hA0
                refine Sx.wp_region_el (SB w6 pi i) (fun X Y h he => h.ext he) [0, 1, 2, 3, 4, 5, 6, 9] 4 (by kernel_rfl) (by kernel_rfl) (hSB.out.ext (Below.refl _ _).drew) ?_
                simp only [pick, List.getElem?_toArray, List.getElem?_cons_zero, List.getElem?_cons_succ]
                iterate 8 (refine Sx.wpE_val (v := ?_) (by rfl) (fun W hW => ?_) ?_; rotate_left; (· obtain ⟨-, h5W, l5W⟩ := hW; go_simp; with_reducible rfl); simp only [Act.put, List.setIfInBounds_toArray, List.set_cons_zero, List.set_cons_succ])
                simp only [Sx.wpE]
                (refine Sx.wpM_one 7 _ (by simp only [List.getElem?_toArray, List.getElem?_cons_zero, List.getElem?_cons_succ]; rfl) (by kernel_rfl) (by rfl) ?_)
                intro X hX hS
                (go_simp; simp only [LUpon, Act.put]; try simp only [List.setIfInBounds_toArray, List.set_cons_zero, List.set_cons_succ])
                have hA := hS.ext (Below.alloc (Below.refl X.heap.size X) (Nat.le_refl _) (.cells #[.int .i64 (i : Int)] 3))
                have hBX : Blk (X.alloc (.cells #[.int .i64 (i : Int)] 3)) X.heap.size 3 #[.int .i64 (i : Int)] := Blk.new' rfl
                obtain ⟨XB, hXB⟩ : ∃ XB, X.heap.size = XB := ⟨_, rfl⟩
                have HlXB := hid (show w6.heap.size ≤ XB by have := hS.1.size; omega)
                rw [hXB] at hBX ⊢
                refine ⟨hA, ?_⟩
                (refine Sx.wpM_one 8 _ (by simp only [List.getElem?_toArray, List.getElem?_cons_zero, List.getElem?_cons_succ]; rfl) (by kernel_rfl) (by rfl) ?_)
                intro X2 hX2 hS2
                have hB2 := hBX.below hX2 hBX.lt
                have hlX2 := hB2.lt
                have hIoX := HIo6.out.below hS2.1 hS2.1.size
                have hfu := full_of_ins hIoX (fun h => by omega)
                refine lupon_append_cap _ _ _ 34 rfl w6.heap.size 3 i0 _ 1 8 underL I0.out I1.out I2.out I3.out rfl _ no ((toI o).flatMap cI) (by rfl) hIoX.1 hfu ⟨XB, 0, none⟩ 1 1 [.int .i64 (i : Int)] (by rfl) rfl (fun j u hj => World.news_of_block hB2 j u hj) (by decide) (by unfold maxLen; omega) (by omega) hS2.1.size ?_
                intro cap9 w9 ho9 hg9 hz9
                have hbg := below_grown0 (Below.refl X2.heap.size X2) hg9 (Nat.le_refl _)
                have hS9 := hS2.ext hbg
                refine ⟨hS9, ?_⟩
                have ho9h := hid ho9
                have hcap9 := World.ownsRow.form ho9 (by omega)
                have hz29 := hg9.size
                obtain ⟨XC, hXC⟩ : ∃ XC, X2.heap.size = XC := ⟨_, rfl⟩
                rw [hXC] at ho9h hcap9 ⊢
                obtain ⟨gq, cq, hv9, hgq, hlt9⟩ := hcap9
                cases hv9
                clear ho9
                simp only [Act.put, List.setIfInBounds_toArray, List.set_cons_zero, List.set_cons_succ]
                (refine Sx.wpM_one 10 _ (by simp only [List.getElem?_toArray, List.getElem?_cons_zero, List.getElem?_cons_succ]; rfl) (by kernel_rfl) (by rfl) ?_)
                intro X3 hX3 hS3
                (go_simp; simp only [LUpon, Act.put]; try simp only [List.setIfInBounds_toArray, List.set_cons_zero, List.set_cons_succ])
                refine ⟨hS3, ?_⟩
                (refine Sx.wpM_one 11 _ (by simp only [List.getElem?_toArray, List.getElem?_cons_zero, List.getElem?_cons_succ]; rfl) (by kernel_rfl) (by rfl) ?_)
                intro X4 hX4 hS4
                (go_simp; simp only [LUpon, Act.put]; try simp only [List.setIfInBounds_toArray, List.set_cons_zero, List.set_cons_succ])
                refine ⟨hS4, Sx.wpM_end (by kernel_rfl) ?_⟩
                intro W8 hW8 hS8
                have hb98 := hX3.trans ((hX4.mono hX3.size).trans (hW8.mono (by have := hX3.size; have := hX4.size; omega)))
                have hNI : Hid (InS W8 W8.heap.size (some ⟨XC, 0, none⟩) (no + 1) (toI (o ++ [i]))) := hid (by
                  have h1 : InS w9 w9.heap.size (some ⟨XC, 0, none⟩) (no + 1) (toI (o ++ [i])) := by
                    have h2 := Sl.of_own ho9h.out
                    unfold InS toI
                    rw [List.map_append, List.flatMap_append]
                    exact h2
                  exact h1.below hb98 hb98.size)
                have hb58 := hid (hb56.out.trans (hS8.1.mono hb56.out.size))
                have hR8 := hid (HR6.out.below hS8.1 hS8.1.size)
                have hRl := HRl
                have hcc : no + 1 ≤ cap9 := by
                  rcases ho9h.out.2 with ⟨e, -⟩ | ⟨_, _, _, e, _, _, h, _⟩
                  · cases e
                  · cases e; exact h
                clear hbg hS9 hS3 hS4 hS8 hX hX2 hX3 hX4 hW8 hb98 hS hS2 hA hB2 hBX hIoX hfu hg9 hgq
                go_wp2
                exact ⟨⟨i + 1, o ++ [i], restW (sF ws) (mF ws) i l, some ⟨XC, 0, none⟩, no + 1, cap9, q, n', cap, by omega, by go_num, rfl, rfl, hst, hNI, hR8, hid (fun h => by omega), by omega, by omega, by omega, hRl, hb58⟩, by simp [intOf]; omega⟩
            · have heqi : ¬ (no : Int) + 1 + mr = most := by omega
              have hst : Hid ((List.range (i + 1)).foldl (stepW (sF ws) (mF ws) N S most) ([], List.range j) = (o, l)) := hid (by
                rw [List.range_succ, List.foldl_append, hfold.out]
                have hd : (o.length + 1 + nu (sF ws) (mF ws) N S (restW (sF ws) (mF ws) i l) == most) = false := by rw [Hmr.out, hol.out]; exact beq_false_of_ne heq
                simp only [List.foldl_cons, List.foldl_nil, stepW, hc, hd, Bool.and_false]
                rfl)
              clear heq hc
              go_wp2_with (fail)
              exact ⟨⟨i + 1, o, l, Ao, no, co, ql, nl, cl, by omega, by go_num, rfl, rfl, hst, HIo6, HIl6, hnone, by omega, hnc, hnl, hlj, hb56⟩, by simp [intOf]; omega⟩
        · obtain rfl : i = j := by omega
          have hbW := hid (HbW5.out.trans (hbw.out.mono HbW5.out.size))
          have hres : Hid (listW (sF ws) (mF ws) N S i = o) := hid (by unfold listW; rw [Hmost.out, hfold.out])
          go_wp2
          refine bodyPost_ret (v := .tuple #[.slice Ao no co, .int .i64 0]) (by first | (simp [results, Tryz.results7, go_sem]; done) | (simp [results, Tryz.results7, go_sem, *]; done) | (simp [results, Tryz.results7, go_sem, World.cell?_setCell_same', *]; done) | (simp [results, Tryz.results7, go_sem]; first | exact ⟨rfl, rfl⟩ | rfl)) rfl ⟨Ao, no, co, rfl, by rw [hres.out]; exact hIo.out, hbW.out⟩
end Go.Proofs.YtdgllpcfmkjfhaaGreat.Bl
/- Keys of the map of shops and moulds that have a want on the day; what the map holds. -/
namespace Go.Proofs.YtdgllpcfmkjfhaaGreat.Bl
open Go.RowKit Go.WideMaps
open Go.Maps (Keyed)
attribute [local go_sem] Oper.semAt_some
theorem laidOutM : laidOutB Tryz.prog = true := by kernel_rfl
set_option maxRecDepth 100000 in
theorem rowSp : (116 : TypeId) < Tryz.prog.types.size := by
  have : decide ((116 : TypeId) < Tryz.prog.types.size) = true := by kernel_rfl
  exact of_decide_eq_true this
set_option maxRecDepth 100000 in
theorem wideSp : (match Tryz.prog.underlying 116 with | some (.array _ _) | some (.struct _) => true | _ => false) = true := by kernel_rfl
set_option maxRecDepth 100000 in
theorem lawSp : KeyLaw Tryz.prog 116 := deep_law_laid laidOutM (m := 2) (by omega) rowSp (by kernel_rfl) wideSp
theorem KSp : Keyed Tryz.prog 116 := Maps.Keyed.of_law lawSp
theorem underMS : Tryz.prog.underlying 102 = some (.map 116 3) := by kernel_rfl
def kSp (k n : Nat) : Lit := .string (keyBytes [.int .i64 (k : Int), .int .i64 (n : Int), .int .i64 ((0 : Nat) : Int)])
def vSp (k n : Nat) : Value := .agg #[.int .i64 (k : Int), .int .i64 (n : Int), .int .i64 ((0 : Nat) : Int)]
set_option maxRecDepth 100000 in
theorem key_kSp {k n : Nat} (hk : k < 1000) (hn : n < 1000) : keyOf Tryz.prog 116 (vSp k n) = some (kSp k n) := by
  unfold vSp kSp
  have hf : (match Tryz.prog.underlying 116 with | some (.struct fs) => fs.toList.map (fun f => (f.type, f.offset, f.name != "_")) | _ => []) = [(3, 0, true), (3, 1, true), (3, 2, true)] := by kernel_rfl
  have hkt : Tryz.prog.keyType 116 = true := by kernel_rfl
  have cS : Tryz.prog.cellsOf 116 = 3 := by kernel_rfl
  have cI : Tryz.prog.cellsOf 3 = 1 := by kernel_rfl
  obtain ⟨d, hd⟩ : ∃ d, Tryz.prog.types.size + 1 = d + 2 := ⟨Tryz.prog.types.size - 1, by have h := rowSp; have h2 : 116 < Tryz.prog.types.size := h; omega⟩
  have w1 : (Lit.int .i64 (k : Int)).wf = true := wfI (by omega)
  have w2 : (Lit.int .i64 (n : Int)).wf = true := wfI (by omega)
  have w3 : (Lit.int .i64 ((0 : Nat) : Int)).wf = true := wfI (by omega)
  generalize hz : (((0 : Nat) : Int)) = z at w3 ⊢
  have hcs : keyOf Tryz.prog 116 (.agg #[.int .i64 (k : Int), .int .i64 (n : Int), .int .i64 z]) = (match Tryz.prog.underlying 116 with | some (.array _ _) | some (.struct _) => (Tryz.prog.keyLits (d + 2) 116 [.int .i64 (k : Int), .int .i64 (n : Int), .int .i64 z]).map fun ls => .string (keyBytes ls) | _ => mapKey Tryz.prog 116 (.agg #[.int .i64 (k : Int), .int .i64 (n : Int), .int .i64 z])) := by
    unfold keyOf
    rw [hkt, hd]
    have hform : Value.formed Tryz.prog 116 (.agg #[.int .i64 (k : Int), .int .i64 (n : Int), .int .i64 z]) = true := by
      have hw := wideSp
      unfold Value.formed
      revert hw
      cases Tryz.prog.underlying 116 with
      | none => intro h; cases h
      | some T => cases T <;> intro h <;> first | (simp [cS]; done) | (cases h)
    rw [hform]
    rfl
  rw [hcs]
  have hkl : ∀ (fs : Array Field), Tryz.prog.underlying 116 = some (.struct fs) → fs.toList.map (fun f => (f.type, f.offset, f.name != "_")) = [(3, 0, true), (3, 1, true), (3, 2, true)] → Tryz.prog.keyLits (d + 2) 116 [.int .i64 (k : Int), .int .i64 (n : Int), .int .i64 z] = some [.int .i64 (k : Int), .int .i64 (n : Int), .int .i64 z] := by
    intro fs hu hfs
    obtain ⟨fl⟩ := fs
    rcases fl with _ | ⟨f1, _ | ⟨f2, _ | ⟨f3, _ | ⟨f4, r⟩⟩⟩⟩
    · simp at hfs
    · simp at hfs
    · simp at hfs
    · simp only [List.map_cons, List.map_nil, List.cons.injEq, Prod.mk.injEq, and_true] at hfs
      obtain ⟨⟨a1, a2, a3⟩, ⟨b1, b2, b3⟩, c1, c2, c3⟩ := hfs
      unfold Program.keyLits
      rw [hu]
      simp only [List.length_cons, List.length_nil, cS, List.all_toArray, List.all_cons, List.all_nil, a3, b3, c3, Bool.and_true, and_self, if_true, List.mapM_cons, List.mapM_nil, a1, a2, b1, b2, c1, c2, cI, List.drop_zero, List.drop_succ_cons, List.take_succ_cons, List.take_zero]
      unfold Program.keyLits
      simp only [underI', w1, w2, w3, and_self, if_true]
      rfl
    · simp at hfs
  revert hf hkl
  cases Tryz.prog.underlying 116 with
  | none => intro hf; cases hf
  | some T =>
    cases T with
    | struct fs => intro hf hkl; rw [hkl fs rfl hf]; rfl
    | _ => intro hf; cases hf
theorem kSp_inj {k n k' n' : Nat} (hk : k < 1000) (hn : n < 1000) (hk' : k' < 1000) (hn' : n' < 1000) (e : kSp k n = kSp k' n') : k = k' ∧ n = n' := by
  have x := key_kSp hk hn
  have y := key_kSp hk' hn'
  rw [e] at x
  have := KSp.inj x y
  unfold vSp at this
  injection this with this
  simp only [Array.mk.injEq, List.cons.injEq, Value.int.injEq, true_and, and_true] at this
  omega
structure HeldM (H : Nat → Nat → Bool) (D : DataW Unit) : Prop where
  has : ∀ k n, k < 2 → n < 1000 → Maps.has D (kSp k n) = H k n
  keys : ∃ es : List (Lit × DataW Unit), D = .map es ∧ ∀ p ∈ es, ∃ k n, k < 2 ∧ n < 1000 ∧ p.1 = kSp k n
def upH (H : Nat → Nat → Bool) (k n : Nat) : Nat → Nat → Bool := fun k' n' => (k == k' && n == n') || H k' n'
theorem HeldM.isMap {H : Nat → Nat → Bool} {D : DataW Unit} (h : HeldM H D) : Maps.IsMap D := by obtain ⟨es, e, -⟩ := h.keys; exact ⟨es, e⟩
theorem HeldM.nil : HeldM (fun _ _ => false) (.map []) := ⟨fun _ _ _ _ => by simp [Maps.has], [], rfl, fun p hp => by cases hp⟩
theorem HeldM.put {H : Nat → Nat → Bool} {D : DataW Unit} (h : HeldM H D) {k n : Nat} (hk : k < 2) (hn : n < 1000) (v : DataW Unit) : HeldM (upH H k n) (D.put (kSp k n) v) := by
  have hkk := KSp.key (key_kSp (show k < 1000 by omega) hn)
  refine ⟨fun k' n' h1 h2 => ?_, ?_⟩
  · by_cases e : k = k' ∧ n = n'
    · obtain ⟨rfl, rfl⟩ := e
      rw [Maps.has_put_same h.isMap hkk]
      simp [upH]
    · have hne : kSp k' n' ≠ kSp k n := fun e2 => e (by
        obtain ⟨a, b⟩ := kSp_inj (by omega) h2 (by omega) hn e2
        exact ⟨a.symm, b.symm⟩)
      rw [Maps.has_put_other hne, h.has k' n' h1 h2]
      unfold upH
      have : (k == k' && n == n') = false := by
        rw [Bool.eq_false_iff]
        intro h
        simp only [Bool.and_eq_true, beq_iff_eq] at h
        exact e h
      rw [this]; rfl
  · obtain ⟨es, rfl, h2⟩ := h.keys
    refine ⟨_, rfl, fun p hp => ?_⟩
    rcases Go.ChangeMaps.mem_insert_iff.1 hp with rfl | hp
    · exact ⟨k, n, hk, hn, rfl⟩
    · exact h2 p (List.mem_filter.1 hp).1
abbrev OMs (w : World) (mp n : Nat) (D : DataW Unit) : Prop := w.ownsMap Tryz.prog 116 (plainElem (H := Unit) Tryz.prog 3) mp n D
theorem om_sizeS {w : World} {mp n k : Nat} {D : DataW Unit} (h : OMs w mp n D) (hk : Maps.size D ≤ k) : OMs w mp k D := by
  obtain ⟨es, clock, h1, h2, h3, rfl⟩ := h
  refine ⟨es, clock, h1, h2, ?_, rfl⟩
  rw [Maps.size_eq, length_sorted] at hk
  simpa using hk
theorem HeldM.small {H : Nat → Nat → Bool} {D : DataW Unit} (h : HeldM H D) (ht : Maps.Tidy D) : Maps.size D ≤ 2000 := by
  obtain ⟨es, rfl, h2⟩ := h.keys
  obtain ⟨es', e, h3⟩ := ht
  cases e
  have hc : ∀ p : Lit × DataW Unit, ∃ q, p ∈ es → q < 2000 ∧ p.1 = kSp (q / 1000) (q % 1000) := fun p => by
    by_cases hp : p ∈ es
    · obtain ⟨k, n, h4, h5, h6⟩ := h2 p hp
      refine ⟨k * 1000 + n, fun _ => ⟨by omega, ?_⟩⟩
      rw [show (k * 1000 + n) / 1000 = k by omega, show (k * 1000 + n) % 1000 = n by omega]; exact h6
    · exact ⟨0, fun h => absurd h hp⟩
  have hn : (es.map fun p => Classical.choose (hc p)).Nodup := by
    rw [List.nodup_iff_pairwise_ne, List.pairwise_map]
    refine h3.imp_of_mem (fun {a b} ha hb hab e => hab ?_)
    have q1 := (Classical.choose_spec (hc a) ha).2
    have q2 := (Classical.choose_spec (hc b) hb).2
    rw [q1, q2, e]
  have hlt : ∀ x ∈ es.map (fun p => Classical.choose (hc p)), x < 2000 := fun x hx => by
    obtain ⟨p, hp, rfl⟩ := List.mem_map.1 hx
    exact (Classical.choose_spec (hc p) hp).1
  have hle : (es.map fun p => Classical.choose (hc p)).length ≤ 2000 := by
    have := pig (f := fun x : Nat => x) (C := List.range 2000) hn fun x hx => List.mem_range.2 (hlt x hx)
    simpa using this
  rw [Maps.size_eq]
  simpa using hle
def HelW (w : World) (mp : Nat) (H : Nat → Nat → Bool) : Prop := ∃ D, OMs w mp 2000 D ∧ HeldM H D
theorem HelW.isMap {w : World} {mp : Nat} {H : Nat → Nat → Bool} (h : HelW w mp H) : ∃ es c, w.heap[mp]? = some (.map es c) := by
  obtain ⟨D, ⟨es, c, h1, -⟩, -⟩ := h
  exact ⟨es, c, h1⟩
theorem HelW.kept {w w' : World} {mp : Nat} {H : Nat → Nat → Bool} (h : HelW w mp H) (hb : w'.heap[mp]? = w.heap[mp]?) : HelW w' mp H := by
  obtain ⟨D, ⟨es, c, h1, h2⟩, h3⟩ := h
  exact ⟨D, ⟨es, c, hb.trans h1, h2⟩, h3⟩
theorem HelW.lt {w : World} {mp : Nat} {H : Nat → Nat → Bool} (h : HelW w mp H) : mp < w.heap.size := by
  obtain ⟨es, c, h1⟩ := h.isMap
  exact (Array.getElem?_eq_some_iff.1 h1).1
theorem HelW.below {w w' : World} {mp : Nat} {H : Nat → Nat → Bool} (h : HelW w mp H) (hb : Below w.heap.size w w') : HelW w' mp H := h.kept (hb.block mp h.lt)
theorem HelW.new {w : World} {mp : Nat} (h : w.heap[mp]? = some (.map #[] 0)) : HelW w mp fun _ _ => false := by
  obtain ⟨es, c, h1, h2, h3, h4⟩ := World.ownsMap_made (H := Unit) w Tryz.prog 116 (plainElem (H := Unit) Tryz.prog 3)
  have e : (w.alloc (.map #[] 0)).heap[w.heap.size]? = some (.map #[] 0) := World.alloc_heap_new w _
  rw [e] at h1
  cases h1
  exact ⟨_, ⟨#[], 0, h, h2, by simp, h4⟩, HeldM.nil⟩
theorem HelW.put {w : World} {mp k n z : Nat} {H : Nat → Nat → Bool} {D : DataW Unit} {v : DataW Unit} (hk : k < 2) (hn : n < 1000) (hh : HeldM H D) (h : OMs w mp z (D.put (kSp k n) v)) : HelW w mp (upH H k n) := by
  have h2 := hh.put hk hn v
  exact ⟨_, om_sizeS h (h2.small (World.ownsMap.tidy h KSp)), h2⟩
theorem look_held {w : World} {mp k n : Nat} {H : Nat → Nat → Bool} (h : HelW w mp H) (hk : k < 2) (hn : n < 1000) :
    ∃ c : Int, ∀ W : World, Below w.heap.size w W → (Instr.lookup 102 (.map (some mp)) (vSp k n) true).run Tryz.prog W = .ok (.tuple #[.int .i64 c, .bool (H k n)]) W := by
  have hlt := h.lt
  obtain ⟨D, hown, hh⟩ := h
  have hall : ∀ W : World, Below w.heap.size w W → ∃ c : Int, D.atKey (kSp k n) (.lit (.int .i64 0)) = .lit (.int .i64 c) ∧ (Instr.lookup 102 (.map (some mp)) (vSp k n) true).run Tryz.prog W = .ok (.tuple #[.int .i64 c, .bool (H k n)]) W := fun W hW => by
    obtain ⟨es, cl, h1, h2⟩ := hown
    have hown' : OMs W mp 2000 D := ⟨es, cl, (hW.block mp hlt).trans h1, h2⟩
    obtain ⟨v, ps, hrun, hv⟩ := World.ownsMap.look_ok hown' KSp underMS (zeroI W) (zd := .lit (.int .i64 0)) (zp := []) (plainElem_int underI' (by decide)) (key_kSp (show k < 1000 by omega) hn)
    obtain ⟨c', rfl, hc, -⟩ := plainElem_int_inv underI' hv
    have hc' := congrArg Prod.fst hc
    rw [hh.has k n hk hn] at hrun
    exact ⟨c', hc', hrun⟩
  obtain ⟨c, hc, -⟩ := hall w (Below.refl _ _)
  refine ⟨c, fun W hW => ?_⟩
  obtain ⟨c', hc', h⟩ := hall W hW
  rw [hc] at hc'
  cases hc'
  exact h
end Go.Proofs.YtdgllpcfmkjfhaaGreat.Bl
/- Walks: mould: the spots of a want; a want is hung. -/
namespace Go.Proofs.YtdgllpcfmkjfhaaGreat.Bl
open Go.RowKit Go.Shelf Go.WideMaps
attribute [local go_sem] Oper.semAt_some
def vSp2 (s m : Nat) : Value := .agg #[.int .i64 0, .int .i64 (s : Int), .int .i64 0, .int .i64 1, .int .i64 (m : Int), .int .i64 0]
set_option maxRecDepth 100000 in
set_option maxHeartbeats 4000000 in
theorem spots_any (g : Nat) (S M : Int) (A : Option Addr) (n c gm : Nat) (ws : List (Int × Int)) (i : Nat) (w : World) (hd : MDesk w g S M A n c gm ws) (hi : i < n) (hn : n ≤ 1000000) (hws : ∀ x ∈ ws, 0 ≤ x.1 ∧ 0 ≤ x.2) :
    Calls Tryz.prog 84 #[.pointer (some ⟨g, 0, none⟩), .int .i64 (i : Int), .int .i64 0] w fun e w' => e = .returned (vSp2 (sF ws i) (mF ws i)) ∧ Below w.heap.size w w' := by
  obtain ⟨b, off, p, q, hA, hb, hm, c0, c1⟩ := hd.2.at_ hi
  subst hA
  obtain ⟨hp0, hq0⟩ := hws _ (List.mem_of_getElem? hm)
  obtain ⟨s, rfl⟩ : ∃ s : Nat, p = s := ⟨p.toNat, by have : 0 ≤ p := hp0; omega⟩
  obtain ⟨m, rfl⟩ : ∃ m : Nat, q = m := ⟨q.toNat, by have : 0 ≤ q := hq0; omega⟩
  have hs : Hid (sF ws i = s) := hid (by unfold sF; rw [getD_of hm]; simp)
  have hmo : Hid (mF ws i = m) := hid (by unfold mF; rw [getD_of hm]; simp)
  have c2 : w.cell? ⟨g, 2, none⟩ = some (.slice (some ⟨b, off, none⟩) n c) := hd.1.cell 2
  have lg := hd.1.lt
  have hii : (i : Int) < n := by omega
  rw [hs.out, hmo.out]
  clear hd hm hp0 hq0 hws
  obtain ⟨W0, hW0⟩ : ∃ W0, w.alloc (.cells #[.int .i64 0, .int .i64 0, .int .i64 0, .int .i64 0, .int .i64 0, .int .i64 0] 117) = W0 := ⟨_, rfl⟩
  have hb0 : Below w.heap.size w W0 := by rw [← hW0]; exact (Below.refl _ _).alloc (Nat.le_refl _) _
  have BQ := hid (show Blk W0 w.heap.size 117 #[.int .i64 0, .int .i64 0, .int .i64 0, .int .i64 0, .int .i64 0, .int .i64 0] by rw [← hW0]; exact Blk.new' rfl)
  have d2 : W0.cell? ⟨g, 2, none⟩ = some (.slice (some ⟨b, off, none⟩) n c) := (hb0.cell (p := ⟨g, 2, none⟩) lg).trans c2
  have d0 := (hb0.cell (p := ⟨b, off + i * 2, none⟩) hb).trans c0
  have d1 := (hb0.cell (p := ⟨b, off + i * 2 + 1, none⟩) hb).trans c1
  have lg0 : g < W0.heap.size := Nat.lt_of_lt_of_le lg hb0.size
  have lb0 : b < W0.heap.size := Nat.lt_of_lt_of_le hb hb0.size
  have Hb0 := hid hb0
  clear hb0 c2 c0 c1
  go_enter Tryz.func84, Tryz.ntmps84
  go_wp2
  clear hW0 lg hb
  refine wp_region_hd 23 (fun W => Below W0.heap.size W0 W) (by kernel_rfl) (by kernel_rfl) ((Below.refl _ _).drew) ?_
  iterate 23 (refine wpHd_val (v := ?_) (by rfl) (fun W hW => ?_) ?_; rotate_left; (· obtain ⟨hcW, hfW⟩ := bcell hW; go_simp; with_reducible rfl); simp only [Act.put, List.setIfInBounds_toArray, List.set_cons_zero, List.set_cons_succ])
  refine wpHd_nil ?_
  intro W9 hW9
  have B9 := BQ.out.below hW9 BQ.out.lt
  have q0 := B9.cell 0
  have q1 := B9.cell 1
  have q2 := B9.cell 2
  have q3 := B9.cell 3
  have q4 := B9.cell 4
  have q5 := B9.cell 5
  have lq := B9.lt
  have f0 := B9.frozen 0
  have f1 := B9.frozen 1
  have f2 := B9.frozen 2
  have f3 := B9.frozen 3
  have f4 := B9.frozen 4
  have f5 := B9.frozen 5
  have hbW := hid (Hb0.out.trans (hW9.mono Hb0.out.size))
  clear hW9 d2 d0 d1 lg0 lb0
  go_wp2
  have B10 := (((((B9.set_ 0 (.int .i64 0)).set_ 1 (.int .i64 (s : Int))).set_ 2 (.int .i64 0)).set_ 3 (.int .i64 1)).set_ 4 (.int .i64 (m : Int))).set_ 5 (.int .i64 0)
  have hb10 := ((((((hbW.out.setCell (p := ⟨w.heap.size, 0, none⟩) (by simp) (.int .i64 0)).setCell (p := ⟨w.heap.size, 1, none⟩) (by simp) (.int .i64 (s : Int))).setCell (p := ⟨w.heap.size, 2, none⟩) (by simp) (.int .i64 0)).setCell (p := ⟨w.heap.size, 3, none⟩) (by simp) (.int .i64 1)).setCell (p := ⟨w.heap.size, 4, none⟩) (by simp) (.int .i64 (m : Int))).setCell (p := ⟨w.heap.size, 5, none⟩) (by simp) (.int .i64 0))
  generalize (((((W9.setCell ⟨w.heap.size, 0, none⟩ (.int .i64 0)).setCell ⟨w.heap.size, 1, none⟩ (.int .i64 (s : Int))).setCell ⟨w.heap.size, 2, none⟩ (.int .i64 0)).setCell ⟨w.heap.size, 3, none⟩ (.int .i64 1)).setCell ⟨w.heap.size, 4, none⟩ (.int .i64 (m : Int))).setCell ⟨w.heap.size, 5, none⟩ (.int .i64 0) = W10 at B10 hb10 ⊢
  have r0 : W10.cell? ⟨w.heap.size, 0, none⟩ = some (.int .i64 0) := B10.cell 0
  have r1 : W10.cell? ⟨w.heap.size, 1, none⟩ = some (.int .i64 (s : Int)) := B10.cell 1
  have r2 : W10.cell? ⟨w.heap.size, 2, none⟩ = some (.int .i64 0) := B10.cell 2
  have r3 : W10.cell? ⟨w.heap.size, 3, none⟩ = some (.int .i64 1) := B10.cell 3
  have r4 : W10.cell? ⟨w.heap.size, 4, none⟩ = some (.int .i64 (m : Int)) := B10.cell 4
  have r5 : W10.cell? ⟨w.heap.size, 5, none⟩ = some (.int .i64 0) := B10.cell 5
  clear q0 q1 q2 q3 q4 q5 B10 B9
  refine bodyPost_ret (v := vSp2 s m) ?_ rfl ⟨rfl, hb10⟩
  simp [results, Tryz.results84, go_sem, vSp2, r0, r1, r2, r3, r4, r5]
end Go.Proofs.YtdgllpcfmkjfhaaGreat.Bl
/- Walks: mould: a want is hung. -/
namespace Go.Proofs.YtdgllpcfmkjfhaaGreat.Bl
open Go.RowKit Go.Shelf Go.WideMaps
attribute [local go_sem] Oper.semAt_some
theorem index_sp0 (s m : Nat) (W : World) : (Instr.index 117 (.agg #[.int .i64 0, .int .i64 (s : Int), .int .i64 0, .int .i64 1, .int .i64 (m : Int), .int .i64 0]) (.int .i64 0)).run Tryz.prog W = .ok (.agg #[.int .i64 0, .int .i64 (s : Int), .int .i64 0]) W := by
  simp [Instr.index, go_sem]
theorem index_sp1 (s m : Nat) (W : World) : (Instr.index 117 (.agg #[.int .i64 0, .int .i64 (s : Int), .int .i64 0, .int .i64 1, .int .i64 (m : Int), .int .i64 0]) (.int .i64 1)).run Tryz.prog W = .ok (.agg #[.int .i64 1, .int .i64 (m : Int), .int .i64 0]) W := by
  simp [Instr.index, go_sem]
def okH (H : Nat → Nat → Bool) (s m : Nat) : Bool := !H 0 s && !H 1 m
theorem gr_mdesk {w w' : World} {g : Nat} {S M : Int} {A : Option Addr} {n c gm : Nat} {ws : List (Int × Int)} (h : MDesk w g S M A n c gm ws) (hg : Gr [gm] w w') (hm : ∃ es c, w.heap[gm]? = some (.map es c)) : MDesk w' g S M A n c gm ws := by
  have hg2 : Gr [gm, w.heap.size] w w' := hg.weak (fun x hx => by simp at hx; simp [hx])
  refine ⟨blk_gr h.1 hg2 hm (by have := h.1.lt; omega), ?_⟩
  exact Sl.more (sl_gr h.2 hg2 hm (Nat.le_refl _) (Nat.le_refl _)) hg.size
set_option maxRecDepth 100000 in
set_option maxHeartbeats 16000000 in
theorem hang_any (g : Nat) (S M : Int) (A : Option Addr) (n c gm : Nat) (ws : List (Int × Int)) (i : Nat) (H : Nat → Nat → Bool) (w : World) (hd : MDesk w g S M A n c gm ws) (hi : i < n) (hn : n ≤ 1000000) (hws : ∀ x ∈ ws, 0 ≤ x.1 ∧ 0 ≤ x.2) (hs : sF ws i < 1000) (hm : mF ws i < 1000) (hH : HelW w gm H) :
    Calls Tryz.prog 42 #[.pointer (some ⟨g, 0, none⟩), .int .i64 (i : Int), .int .i64 0] w fun e w' => e = .returned (.bool (okH H (sF ws i) (mF ws i))) ∧ Gr [gm] w w' ∧ HelW w' gm (if okH H (sF ws i) (mF ws i) then upH (upH H 0 (sF ws i)) 1 (mF ws i) else H) := by
  have HD := hid hd
  have HH := hid hH
  have HSp := hid (fun (W : World) (h : MDesk W g S M A n c gm ws) => spots_any g S M A n c gm ws i W h hi hn hws)
  obtain ⟨s, hsE⟩ : ∃ s, sF ws i = s := ⟨_, rfl⟩
  obtain ⟨m, hmE⟩ : ∃ m, mF ws i = m := ⟨_, rfl⟩
  rw [hsE, hmE] at HSp ⊢
  rw [hsE] at hs
  rw [hmE] at hm
  unfold vSp2 at HSp
  obtain ⟨HF, hHF⟩ : ∃ HF, (if okH H s m then upH (upH H 0 s) 1 m else H) = HF := ⟨_, rfl⟩
  obtain ⟨r, hr⟩ : ∃ r, okH H s m = r := ⟨_, rfl⟩
  rw [hHF, hr]
  rw [hr] at hHF
  have Hr := hid hr
  have HHF := hid hHF
  clear hr hHF
  clear hd hH hsE hmE hws
  go_enter Tryz.func42, Tryz.ntmps42
  go_wp2_with (fail)
  refine (HSp.out _ HD.out).mono ?_
  rintro e w1 ⟨rfl, hb1⟩
  have HD1 := hid (HD.out.below hb1)
  have HH1 := hid (HH.out.below hb1)
  have Hb1 := hid hb1
  clear hb1
  go_wp2
  go_loopw [17] (fun iv wr => ∃ k : Nat, k ≤ 2 ∧ iv = .int .i64 k ∧ Hid (0 < k → H 0 s = false) ∧ Hid (1 < k → H 1 m = false) ∧ Hid (Below w1.heap.size w1 wr)) (fun iv _ => 2 - (intOf iv).toNat)
  case atStart => exact ⟨0, by omega, rfl, hid (fun h => by omega), hid (fun h => by omega), hid (Below.refl _ _)⟩
  case round =>
    obtain ⟨k, hk, rfl, h0, h1, hbr⟩ := hrel
    have hi0 := index_sp0 s m
    have hi1 := index_sp1 s m
    rcases (by omega : k = 0 ∨ k = 1 ∨ k = 2) with rfl | rfl | rfl
    all_goals try simp only [Int.natCast_zero, Int.natCast_one, Int.ofNat_zero]
    · go_wp2
      obtain ⟨W2, hW2⟩ : ∃ W2, wr.alloc (.cells #[.int .i64 0, .int .i64 (s : Int), .int .i64 0] 116) = W2 := ⟨_, rfl⟩
      have hb2 : Below wr.heap.size wr W2 := by rw [← hW2]; exact (Below.refl _ _).alloc (Nat.le_refl _) _
      have BS : Blk W2 wr.heap.size 116 #[.int .i64 0, .int .i64 (s : Int), .int .i64 0] := by rw [← hW2]; exact Blk.new' rfl
      have hbR := hid (hbr.out.trans (hb2.mono hbr.out.size))
      have hDr := HD1.out.below hbR.out
      have cd3 : W2.cell? ⟨g, 3, none⟩ = some (.map (some gm)) := hDr.1.cell 3
      have lg := hDr.1.lt
      have s0 := BS.cell 0
      have s1 := BS.cell 1
      have s2 := BS.cell 2
      have ls := BS.lt
      obtain ⟨cv, hlk⟩ := look_held (HH1.out.below hbR.out) (show 0 < 2 by omega) hs
      have Hlk := hid hlk
      clear hb2 BS hDr hlk
      rw [hW2]
      clear hW2
      refine wp_region_hd_all (fun W => Below W2.heap.size W2 W) (by kernel_rfl) (by kernel_rfl) ((Below.refl _ _).drew) ?_
      iterate 5 (refine wpHd_val (v := ?_) (by rfl) (fun W hW => ?_) ?_; rotate_left; (· obtain ⟨hcW, hfW⟩ := bcell hW; go_simp; with_reducible rfl); simp only [Act.put, List.setIfInBounds_toArray, List.set_cons_zero, List.set_cons_succ])
      refine wpHd_val (v := .tuple #[.int .i64 cv, .bool (H 0 s)]) (by rfl) (fun W hW => ?_) ?_
      · have hl : (Instr.lookup 102 (.map (some gm)) (.agg #[.int .i64 0, .int .i64 (s : Int), .int .i64 0]) true).run Tryz.prog W = .ok (.tuple #[.int .i64 cv, .bool (H 0 s)]) W := Hlk.out W hW
        go_simp
        try (rw [hl]; rfl)
      simp only [Act.put, List.setIfInBounds_toArray, List.set_cons_zero, List.set_cons_succ]
      iterate 5 (refine wpHd_val (v := ?_) (by rfl) (fun W hW => ?_) ?_; rotate_left; (· obtain ⟨hcW, hfW⟩ := bcell hW; go_simp; with_reducible rfl); simp only [Act.put, List.setIfInBounds_toArray, List.set_cons_zero, List.set_cons_succ])
      refine wpHd_nil ?_
      intro W9 hW9
      have hb9 := hid (hbR.out.trans (hW9.mono hbR.out.size))
      clear hW9 cd3 lg s0 s1 s2 ls
      cases hv : H 0 s
      · have hn9 : Hid (H 0 s = false) := hid hv
        clear hv
        go_wp2
        exact ⟨⟨0 + 1, by omega, by go_num, hid (fun _ => hn9.out), hid (fun h => by omega), hb9⟩, by simp [intOf]⟩
      · have hno : Hid (okH H s m = false) := hid (by unfold okH; rw [hv]; simp)
        clear hv
        go_wp2
        refine bodyPost_ret (v := .bool false) (by first | (simp [results, Tryz.results42, go_sem]; done) | (simp [results, Tryz.results42, go_sem, *]; done) | (simp [results, Tryz.results42, go_sem, World.cell?_setCell_same', *]; done) | (simp [results, Tryz.results42, go_sem]; first | exact ⟨rfl, rfl⟩ | rfl)) rfl ⟨by rw [← Hr.out, hno.out], Gr.below (Hb1.out.trans (hb9.out.mono Hb1.out.size)), by rw [← HHF.out, ← Hr.out, hno.out]; exact (HH1.out.below hb9.out)⟩
    · go_wp2
      obtain ⟨W2, hW2⟩ : ∃ W2, wr.alloc (.cells #[.int .i64 1, .int .i64 (m : Int), .int .i64 0] 116) = W2 := ⟨_, rfl⟩
      have hb2 : Below wr.heap.size wr W2 := by rw [← hW2]; exact (Below.refl _ _).alloc (Nat.le_refl _) _
      have BS : Blk W2 wr.heap.size 116 #[.int .i64 1, .int .i64 (m : Int), .int .i64 0] := by rw [← hW2]; exact Blk.new' rfl
      have hbR := hid (hbr.out.trans (hb2.mono hbr.out.size))
      have hDr := HD1.out.below hbR.out
      have cd3 : W2.cell? ⟨g, 3, none⟩ = some (.map (some gm)) := hDr.1.cell 3
      have lg := hDr.1.lt
      have s0 := BS.cell 0
      have s1 := BS.cell 1
      have s2 := BS.cell 2
      have ls := BS.lt
      obtain ⟨cv, hlk⟩ := look_held (HH1.out.below hbR.out) (show 1 < 2 by omega) hm
      have Hlk := hid hlk
      clear hb2 BS hDr hlk
      rw [hW2]
      clear hW2
      refine wp_region_hd_all (fun W => Below W2.heap.size W2 W) (by kernel_rfl) (by kernel_rfl) ((Below.refl _ _).drew) ?_
      iterate 5 (refine wpHd_val (v := ?_) (by rfl) (fun W hW => ?_) ?_; rotate_left; (· obtain ⟨hcW, hfW⟩ := bcell hW; go_simp; with_reducible rfl); simp only [Act.put, List.setIfInBounds_toArray, List.set_cons_zero, List.set_cons_succ])
      refine wpHd_val (v := .tuple #[.int .i64 cv, .bool (H 1 m)]) (by rfl) (fun W hW => ?_) ?_
      · have hl : (Instr.lookup 102 (.map (some gm)) (.agg #[.int .i64 1, .int .i64 (m : Int), .int .i64 0]) true).run Tryz.prog W = .ok (.tuple #[.int .i64 cv, .bool (H 1 m)]) W := Hlk.out W hW
        go_simp
        try (rw [hl]; rfl)
      simp only [Act.put, List.setIfInBounds_toArray, List.set_cons_zero, List.set_cons_succ]
      iterate 5 (refine wpHd_val (v := ?_) (by rfl) (fun W hW => ?_) ?_; rotate_left; (· obtain ⟨hcW, hfW⟩ := bcell hW; go_simp; with_reducible rfl); simp only [Act.put, List.setIfInBounds_toArray, List.set_cons_zero, List.set_cons_succ])
      refine wpHd_nil ?_
      intro W9 hW9
      have hb9 := hid (hbR.out.trans (hW9.mono hbR.out.size))
      clear hW9 cd3 lg s0 s1 s2 ls
      cases hv : H 1 m
      · have hn9 : Hid (H 1 m = false) := hid hv
        clear hv
        go_wp2
        exact ⟨⟨1 + 1, by omega, by go_num, hid (fun _ => h0.out (by omega)), hid (fun _ => hn9.out), hb9⟩, by simp [intOf]⟩
      · have hno : Hid (okH H s m = false) := hid (by unfold okH; rw [hv]; simp)
        clear hv
        go_wp2
        refine bodyPost_ret (v := .bool false) (by first | (simp [results, Tryz.results42, go_sem]; done) | (simp [results, Tryz.results42, go_sem, *]; done) | (simp [results, Tryz.results42, go_sem, World.cell?_setCell_same', *]; done) | (simp [results, Tryz.results42, go_sem]; first | exact ⟨rfl, rfl⟩ | rfl)) rfl ⟨by rw [← Hr.out, hno.out], Gr.below (Hb1.out.trans (hb9.out.mono Hb1.out.size)), by rw [← HHF.out, ← Hr.out, hno.out]; exact (HH1.out.below hb9.out)⟩
    · have hyes : Hid (okH H s m = true) := hid (by unfold okH; rw [h0.out (by omega), h1.out (by omega)]; rfl)
      have HDr := hid (HD1.out.below hbr.out)
      have HHr := hid (HH1.out.below hbr.out)
      have Hbr := hid (Hb1.out.trans (hbr.out.mono Hb1.out.size))
      clear h0 h1 hbr
      go_wp2_with (fail)
      refine (HSp.out _ HDr.out).mono ?_
      rintro e w2 ⟨rfl, hb2⟩
      have HD2 := hid (HDr.out.below hb2)
      have HH2 := hid (HHr.out.below hb2)
      have Hb2 := hid (Hbr.out.trans (hb2.mono Hbr.out.size))
      clear hb2
      go_wp2
      go_loopw [35] (fun iv wr2 => ∃ k : Nat, k ≤ 2 ∧ iv = .int .i64 k ∧ Hid (HelW wr2 gm (match k with | 0 => H | 1 => upH H 0 s | _ => upH (upH H 0 s) 1 m)) ∧ Hid (Gr [gm] w2 wr2)) (fun iv _ => 2 - (intOf iv).toNat)
      case atStart => exact ⟨0, by omega, rfl, HH2, hid (Gr.refl _ _)⟩
      case round =>
        obtain ⟨k, hk, rfl, hH, hgr⟩ := hrel
        have hii : i < 1000000 := by omega
        rcases (by omega : k = 0 ∨ k = 1 ∨ k = 2) with rfl | rfl | rfl
        all_goals try simp only [Int.natCast_zero, Int.natCast_one, Int.ofNat_zero]
        · replace hH : Hid (HelW wr gm H) := hH
          go_wp2
          obtain ⟨W2, hW2⟩ : ∃ W2, wr.alloc (.cells #[.int .i64 0, .int .i64 (s : Int), .int .i64 0] 116) = W2 := ⟨_, rfl⟩
          have hb3 : Below wr.heap.size wr W2 := by rw [← hW2]; exact (Below.refl _ _).alloc (Nat.le_refl _) _
          have BS : Blk W2 wr.heap.size 116 #[.int .i64 0, .int .i64 (s : Int), .int .i64 0] := by rw [← hW2]; exact Blk.new' rfl
          rw [hW2]
          clear hW2
          have hgR := hid (hgr.out.trans (Gr.below hb3))
          have HDr2 := hid (gr_mdesk HD2.out hgR.out HH2.out.isMap)
          have HHr2 := hid (hH.out.below hb3)
          have cd3 : W2.cell? ⟨g, 3, none⟩ = some (.map (some gm)) := HDr2.out.1.cell 3
          have lg := HDr2.out.1.lt
          have s0 := BS.cell 0
          have s1 := BS.cell 1
          have s2 := BS.cell 2
          have ls := BS.lt
          clear hb3 BS hgr hH
          refine wp_region_hd 6 (fun W => Below W2.heap.size W2 W) (by kernel_rfl) (by kernel_rfl) ((Below.refl _ _).drew) ?_
          iterate 6 (refine wpHd_val (v := ?_) (by rfl) (fun W hW => ?_) ?_; rotate_left; (· obtain ⟨hcW, hfW⟩ := bcell hW; go_simp; with_reducible rfl); simp only [Act.put, List.setIfInBounds_toArray, List.set_cons_zero, List.set_cons_succ])
          refine wpHd_nil ?_
          intro W9 hW9
          obtain ⟨D, hown, hh⟩ := HHr2.out.below hW9
          have Hown := hid hown
          have Hh := hid hh
          have hg9 := hid (hgR.out.trans (Gr.below hW9))
          clear hW9 cd3 lg s0 s1 s2 ls hown hh
          have hkk : keyOf Tryz.prog 116 (.agg #[.int .i64 0, .int .i64 (s : Int), .int .i64 0]) = some (kSp 0 s) := key_kSp (k := 0) (n := s) (by omega) hs
          refine wpList_mapUpdate_own _ rfl _ _ _ 102 rfl 116 3 KSp underMS _ gm 2000 D rfl Hown.out (by unfold maxLen; omega) _ _ (kSp 0 s) rfl rfl hkk _ [] (plainElem_int underI' (wfI (by omega))) ?_
          intro W3 hmap3 hgr3
          go_wp2
          exact ⟨⟨0 + 1, by omega, by go_num, hid (HelW.put (by omega) hs Hh.out hmap3), hid (hg9.out.trans (Gr.grown hgr3 (by simp)))⟩, by simp [intOf]⟩
        · replace hH : Hid (HelW wr gm (upH H 0 s)) := hH
          go_wp2
          obtain ⟨W2, hW2⟩ : ∃ W2, wr.alloc (.cells #[.int .i64 1, .int .i64 (m : Int), .int .i64 0] 116) = W2 := ⟨_, rfl⟩
          have hb3 : Below wr.heap.size wr W2 := by rw [← hW2]; exact (Below.refl _ _).alloc (Nat.le_refl _) _
          have BS : Blk W2 wr.heap.size 116 #[.int .i64 1, .int .i64 (m : Int), .int .i64 0] := by rw [← hW2]; exact Blk.new' rfl
          rw [hW2]
          clear hW2
          have hgR := hid (hgr.out.trans (Gr.below hb3))
          have HDr2 := hid (gr_mdesk HD2.out hgR.out HH2.out.isMap)
          have HHr2 := hid (hH.out.below hb3)
          have cd3 : W2.cell? ⟨g, 3, none⟩ = some (.map (some gm)) := HDr2.out.1.cell 3
          have lg := HDr2.out.1.lt
          have s0 := BS.cell 0
          have s1 := BS.cell 1
          have s2 := BS.cell 2
          have ls := BS.lt
          clear hb3 BS hgr hH
          refine wp_region_hd 6 (fun W => Below W2.heap.size W2 W) (by kernel_rfl) (by kernel_rfl) ((Below.refl _ _).drew) ?_
          iterate 6 (refine wpHd_val (v := ?_) (by rfl) (fun W hW => ?_) ?_; rotate_left; (· obtain ⟨hcW, hfW⟩ := bcell hW; go_simp; with_reducible rfl); simp only [Act.put, List.setIfInBounds_toArray, List.set_cons_zero, List.set_cons_succ])
          refine wpHd_nil ?_
          intro W9 hW9
          obtain ⟨D, hown, hh⟩ := HHr2.out.below hW9
          have Hown := hid hown
          have Hh := hid hh
          have hg9 := hid (hgR.out.trans (Gr.below hW9))
          clear hW9 cd3 lg s0 s1 s2 ls hown hh
          have hkk : keyOf Tryz.prog 116 (.agg #[.int .i64 1, .int .i64 (m : Int), .int .i64 0]) = some (kSp 1 m) := key_kSp (k := 1) (n := m) (by omega) hm
          refine wpList_mapUpdate_own _ rfl _ _ _ 102 rfl 116 3 KSp underMS _ gm 2000 D rfl Hown.out (by unfold maxLen; omega) _ _ (kSp 1 m) rfl rfl hkk _ [] (plainElem_int underI' (wfI (by omega))) ?_
          intro W3 hmap3 hgr3
          go_wp2
          exact ⟨⟨1 + 1, by omega, by go_num, hid (HelW.put (by omega) hm Hh.out hmap3), hid (hg9.out.trans (Gr.grown hgr3 (by simp)))⟩, by simp [intOf]⟩
        · replace hH : Hid (HelW wr gm (upH (upH H 0 s) 1 m)) := hH
          have hr : Hid (r = true) := hid (Hr.out.symm.trans hyes.out)
          go_wp2
          refine bodyPost_ret (v := .bool true) (by first | (simp [results, Tryz.results42, go_sem]; done) | (simp [results, Tryz.results42, go_sem, *]; done) | (simp [results, Tryz.results42, go_sem, World.cell?_setCell_same', *]; done) | (simp [results, Tryz.results42, go_sem]; first | exact ⟨rfl, rfl⟩ | rfl)) rfl ⟨by rw [hr.out], (Gr.below Hb2.out).trans hgr.out, by rw [← HHF.out, hr.out]; exact hH.out⟩
end Go.Proofs.YtdgllpcfmkjfhaaGreat.Bl
/- Walks: mould: CheckList, of a right book and a rising list. -/
namespace Go.Proofs.YtdgllpcfmkjfhaaGreat.Bl
open Go.RowKit Go.Shelf Go.WideMaps
attribute [local go_sem] Oper.semAt_some
def hungL (ws : List (Int × Int)) : List Nat → (Nat → Nat → Bool) → Bool
  | [], _ => true
  | i :: l, H => okH H (sF ws i) (mF ws i) && hungL ws l (upH (upH H 0 (sF ws i)) 1 (mF ws i))
theorem hung_step {ws : List (Int × Int)} {L : List Nat} {k i : Nat} {H : Nat → Nat → Bool} {r : Bool} (h : hungL ws (L.drop k) H = r) (hi : L[k]? = some i) :
    (okH H (sF ws i) (mF ws i) = false → r = false) ∧ (okH H (sF ws i) (mF ws i) = true → hungL ws (L.drop (k + 1)) (upH (upH H 0 (sF ws i)) 1 (mF ws i)) = r) := by
  obtain ⟨hk, rfl⟩ := List.getElem?_eq_some_iff.1 hi
  rw [List.drop_eq_getElem_cons hk] at h
  unfold hungL at h
  constructor
  · intro h0; rw [h0] at h; simpa using h.symm
  · intro h1; rw [h1] at h; simpa using h
set_option maxRecDepth 100000 in
set_option maxHeartbeats 16000000 in
theorem mCheckList_any (S M : Int) (A B : Option Addr) (n c m d : Nat) (ws : List (Int × Int)) (L : List Nat) (w : World) (hl : WtS w w.heap.size A n ws) (hb : MBook S M ws) (hL : InS w w.heap.size B m (toI L)) (hr : isL (n : Int) 0 (toI L) = true) (hm6 : m ≤ 1000) :
    Calls Tryz.prog 15 #[.agg #[.int .i64 S, .int .i64 M, .slice A n c], .slice B m d] w fun e w' => e = .returned (.int .i64 (if hungL ws L (fun _ _ => false) then 0 else 18)) ∧ Below w.heap.size w w' := by
  have hlen := hl.len
  have hn14 : n ≤ 14 := by have := hb.n; omega
  have HL := hid hl
  have HB := hid hb
  have Hlen := hid hlen
  have HLL := hid hL
  have HR := hid hr
  have hml := hid (show L.length = m by have := hL.len; simpa [toI] using this)
  have HWS : Hid (∀ x ∈ ws, 0 ≤ x.1 ∧ 0 ≤ x.2) := hid (fun x hx => by have := hb.w x hx; omega)
  have HSM : Hid (∀ i, i < n → sF ws i < 1000 ∧ mF ws i < 1000) := hid (fun i hi => by
    have hx : ws[i]? = some ws[i] := List.getElem?_eq_getElem (by omega)
    have h := hb.w _ (List.mem_of_getElem? hx)
    have h1 := hb.s
    have h2 := hb.m
    unfold sF mF
    rw [getD_of hx]
    omega)
  have HLn : Hid (∀ i ∈ L, i < n) := hid (fun i hi => by
    have := (isL_bd hr (i : Int) (List.mem_map.2 ⟨i, hi, rfl⟩)).2
    omega)
  obtain ⟨r, hr'⟩ : ∃ r, hungL ws L (fun _ _ => false) = r := ⟨_, rfl⟩
  have Hr0 := hid hr'
  rw [hr']
  obtain ⟨ev, hev⟩ : ∃ ev : Int, (if r = true then 0 else 18) = ev := ⟨_, rfl⟩
  have Hev := hid hev
  rw [hev]
  clear hl hb hlen hL hr hr' hev
  go_enter Tryz.func15, Tryz.ntmps15
  go_wp2_with (fail)
  refine (mopen_any S M A n c ws _ (HL.out.below (by repeat' (first | with_reducible assumption | with_reducible exact Below.refl _ _ | refine Below.alloc ?_ ?_ _ | refine Below.setCell ?_ ?_ _ | refine Below.drew ?_ | refine below_drewN ?_ _ | (simp; done) | (simp; omega) | omega)) (by first | (simp; done) | (simp; omega) | omega)) HB.out).mono ?_
  rintro e w1 ⟨g, gh, rfl, hgh, hgg, hd, hmap, hb1⟩
  have hbel : Below w.heap.size w w1 := Below.trans (by repeat' (first | with_reducible assumption | with_reducible exact Below.refl _ _ | refine Below.alloc ?_ ?_ _ | refine Below.setCell ?_ ?_ _ | refine Below.drew ?_ | refine below_drewN ?_ _ | (simp; done) | (simp; omega) | omega)) (hb1.mono (by first | (simp; done) | (simp; omega) | omega))
  have c2 : w1.cell? ⟨w.heap.size, 2, none⟩ = some (.slice A n c) := (hb1.cell (p := ⟨w.heap.size, 2, none⟩) (by first | (simp; done) | (simp; omega) | omega)).trans (by go_simp)
  have hq0 : w.heap.size < w1.heap.size := (by have := hb1.size; simp at this; omega)
  have HD := hid hd
  have HH := hid (HelW.new hmap)
  have hgw : w.heap.size ≤ gh := by simp at hgh; omega
  clear hb1 hd hmap hgh
  go_wp2_with (fail)
  refine (mrising_any B m d (toI L) (n : Int) w1 (HLL.out.below hbel hbel.size) (by omega) (by omega) (by omega)).mono ?_
  rw [HR.out]
  rintro e w2 ⟨rfl, hb2⟩
  have HD2 := hid (HD.out.below hb2)
  have HH2 := hid (HH.out.below hb2)
  have Hb2 := hid (hbel.trans (hb2.mono hbel.size))
  have HL2 := hid (HLL.out.below Hb2.out Hb2.out.size)
  have hsz2 := hb2.size
  clear hb2 c2 HD HH
  go_wp2
  clear hbel hq0
  go_loopw [27] (fun iv wr => ∃ (k : Nat) (H : Nat → Nat → Bool), k ≤ m ∧ iv = .int .i64 k ∧ Hid (hungL ws (L.drop k) H = r) ∧ Hid (HelW wr gh H) ∧ Hid (Gr [gh] w2 wr)) (fun iv _ => m - (intOf iv).toNat)
  case atStart => exact ⟨0, _, by omega, rfl, hid (by rw [List.drop_zero]; exact Hr0.out), HH2, hid (Gr.refl _ _)⟩
  case round =>
    obtain ⟨k, H, hk, rfl, hh, hH, hgr⟩ := hrel
    have HDr := hid (gr_mdesk HD2.out hgr.out HH2.out.isMap)
    have HLr : Hid (InS wr wr.heap.size B m (toI L)) := hid (Sl.more (sl_gr (gz := w2.heap.size) HL2.out (hgr.out.weak (fun x hx => by simp at hx; simp [hx])) HH2.out.isMap (Nat.le_refl _) (Nat.le_refl _)) hgr.out.size)
    by_cases hlt : k < m
    · have hlti : (k : Int) < m := by omega
      obtain ⟨b, off, x, rfl, hb, hmm, c0⟩ := HLr.out.at_ hlt
      obtain ⟨i, hi, rfl⟩ : ∃ i, L[k]? = some i ∧ x = (i : Int) := by
        unfold toI at hmm
        rw [List.getElem?_map] at hmm
        cases hx : L[k]? with
        | none => rw [hx] at hmm; cases hmm
        | some i => rw [hx] at hmm; exact ⟨i, rfl, (Option.some.inj hmm).symm⟩
      have hin := HLn.out i (List.mem_of_getElem? hi)
      obtain ⟨s1, s2⟩ := hung_step hh.out hi
      have S1 := hid s1
      have S2 := hid s2
      have hHang := hang_any g S M A n c gh ws i H wr HDr.out hin (by omega) HWS.out (HSM.out i hin).1 (HSM.out i hin).2 hH.out
      have Hsz := hid hgr.out.size
      clear hmm hi s1 s2
      cases ho : okH H (sF ws i) (mF ws i)
      · rw [ho] at hHang
        have hrf : Hid (r = false) := hid (S1.out ho)
        clear ho
        go_wp2_with (go_at_call 42; refine hHang.mono ?_; rintro e w9 ⟨rfl, hg9, -⟩)
        refine bodyPost_ret (v := .int .i64 18) (by first | (simp [results, Tryz.results15, go_sem]; done) | (simp [results, Tryz.results15, go_sem, *]; done) | (simp [results, Tryz.results15, go_sem, World.cell?_setCell_same', *]; done) | (simp [results, Tryz.results15, go_sem]; first | exact ⟨rfl, rfl⟩ | rfl)) rfl ⟨by rw [← Hev.out, hrf.out]; rfl, ?_⟩
        have hgg2 := hgr.out.trans hg9
        have hb22 := Hb2.out
        exact hb22.trans ⟨hgg2.1, hgg2.2.1, hgg2.2.2.1, hgg2.size, fun q hq => hgg2.2.2.2.2 q (by have := hb22.size; omega) (by simp; omega)⟩
      · rw [ho] at hHang
        have hst := hid (S2.out ho)
        simp only [if_true] at hHang
        clear ho
        go_wp2_with (go_at_call 42; refine hHang.mono ?_; rintro e w9 ⟨rfl, hg9, hH9⟩)
        exact ⟨⟨k + 1, _, by omega, by go_num, hst, hid hH9, hid (hgr.out.trans hg9)⟩, by simp [intOf]; omega⟩
    · obtain rfl : k = m := by omega
      have hrt : Hid (r = true) := hid (by
        have := hh.out
        rw [List.drop_of_length_le (by rw [hml.out]; exact Nat.le_refl _)] at this
        exact this.symm)
      go_wp2
      refine bodyPost_ret (v := .int .i64 0) (by first | (simp [results, Tryz.results15, go_sem]; done) | (simp [results, Tryz.results15, go_sem, *]; done) | (simp [results, Tryz.results15, go_sem, World.cell?_setCell_same', *]; done) | (simp [results, Tryz.results15, go_sem]; first | exact ⟨rfl, rfl⟩ | rfl)) rfl ⟨by rw [← Hev.out, hrt.out]; rfl, ?_⟩
      have hgg2 := hgr.out
      have hb22 := Hb2.out
      exact hb22.trans ⟨hgg2.1, hgg2.2.1, hgg2.2.2.1, hgg2.size, fun q hq => hgg2.2.2.2.2 q (by have := hb22.size; omega) (by simp; omega)⟩
end Go.Proofs.YtdgllpcfmkjfhaaGreat.Bl
/- Walks: mould: a cover is right. -/
namespace Go.Proofs.YtdgllpcfmkjfhaaGreat.Bl
open Go.RowKit Go.Shelf
attribute [local go_sem] Oper.semAt_some
set_option maxRecDepth 100000 in
set_option maxHeartbeats 1600000 in
theorem mcovclo_any (p q : Int) (A1 A2 : Option Addr) (n1 c1 n2 c2 : Nat) (l1 l2 : List Int) (b4 b5 : Nat) (w : World) (d1 : w.cell? ⟨b4, 0, none⟩ = some (.slice A1 n1 c1)) (d2 : w.cell? ⟨b5, 0, none⟩ = some (.slice A2 n2 c2)) (lb4 : b4 < w.heap.size) (lb5 : b5 < w.heap.size) (h1 : InS w w.heap.size A1 n1 l1) (h2 : InS w w.heap.size A2 n2 l2) (hn1 : n1 ≤ 1000000) (hn2 : n2 ≤ 1000000) (hc : has l1 p = true ∨ has l2 q = true) :
    Calls Tryz.prog 39 #[.agg #[.int .i64 p, .int .i64 q], .pointer (some ⟨b4, 0, none⟩), .pointer (some ⟨b5, 0, none⟩)] w fun e w' => e = .returned (.bool false) ∧ Below w.heap.size w w' := by
  have H1 := hid h1
  have H2 := hid h2
  have HC := hid hc
  obtain ⟨v1, hv1⟩ : ∃ v, has l1 p = v := ⟨_, rfl⟩
  obtain ⟨v2, hv2⟩ : ∃ v, has l2 q = v := ⟨_, rfl⟩
  have Hv1 := hid hv1
  have Hv2 := hid hv2
  rw [hv1, hv2] at hc
  clear h1 h2 hv1 hv2
  have HC2 := hid hc
  clear hc HC
  obtain ⟨W1, hW1⟩ : ∃ W1, w.alloc (.cells #[.int .i64 p, .int .i64 q] 33) = W1 := ⟨_, rfl⟩
  have hb1 : Below w.heap.size w W1 := by rw [← hW1]; exact (Below.refl _ _).alloc (Nat.le_refl _) _
  have K1 := hid (contains_any A1 n1 c1 l1 p W1 (H1.out.below hb1 hb1.size) hn1)
  have K2 := hid (contains_any A2 n2 c2 l2 q W1 (H2.out.below hb1 hb1.size) hn2)
  rw [Hv1.out] at K1
  rw [Hv2.out] at K2
  have e1 : W1.cell? ⟨b4, 0, none⟩ = some (.slice A1 n1 c1) := (hb1.cell (p := ⟨b4, 0, none⟩) lb4).trans d1
  have e2 : W1.cell? ⟨b5, 0, none⟩ = some (.slice A2 n2 c2) := (hb1.cell (p := ⟨b5, 0, none⟩) lb5).trans d2
  have BE : Blk W1 w.heap.size 33 #[.int .i64 p, .int .i64 q] := by rw [← hW1]; exact Blk.new' rfl
  have f0 : W1.cell? ⟨w.heap.size, 0, none⟩ = some (.int .i64 p) := BE.cell 0
  have f1 : W1.cell? ⟨w.heap.size, 1, none⟩ = some (.int .i64 q) := BE.cell 1
  have lE := BE.lt
  have m4 := Nat.lt_of_lt_of_le lb4 hb1.size
  have m5 := Nat.lt_of_lt_of_le lb5 hb1.size
  clear BE d1 d2 lb4 lb5
  cases v1
  · cases v2
    · exact absurd HC2.out (by simp)
    · go_enter Tryz.func39, Tryz.ntmps39
      go_wp2_with (first | (go_at_call 31; refine K1.out.mono ?_; rintro e w1 ⟨rfl, rfl⟩) | (go_at_call 31; refine K2.out.mono ?_; rintro e w1 ⟨rfl, rfl⟩))
      refine bodyPost_ret (v := .bool false) (by first | (simp [results, Tryz.results39, go_sem]; done) | (simp [results, Tryz.results39, go_sem, *]; done) | (simp [results, Tryz.results39, go_sem, World.cell?_setCell_same', *]; done) | (simp [results, Tryz.results39, go_sem]; first | exact ⟨rfl, rfl⟩ | rfl)) rfl ⟨rfl, hb1⟩
  · go_enter Tryz.func39, Tryz.ntmps39
    go_wp2_with (go_at_call 31; refine K1.out.mono ?_; rintro e w1 ⟨rfl, rfl⟩)
    refine bodyPost_ret (v := .bool false) (by first | (simp [results, Tryz.results39, go_sem]; done) | (simp [results, Tryz.results39, go_sem, *]; done) | (simp [results, Tryz.results39, go_sem, World.cell?_setCell_same', *]; done) | (simp [results, Tryz.results39, go_sem]; first | exact ⟨rfl, rfl⟩ | rfl)) rfl ⟨rfl, hb1⟩
set_option maxRecDepth 100000 in
set_option maxHeartbeats 4000000 in
theorem mCheckCover_any (S M : Int) (A : Option Addr) (n c : Nat) (ws : List (Int × Int)) (A1 A2 : Option Addr) (n1 c1 n2 c2 : Nat) (l1 l2 : List Int) (w : World) (hl : WtS w w.heap.size A n ws) (hb : MBook S M ws) (h1 : InS w w.heap.size A1 n1 l1) (h2 : InS w w.heap.size A2 n2 l2) (hn1 : n1 ≤ 1000) (hn2 : n2 ≤ 1000)
    (hr1 : isL S 0 l1 = true) (hr2 : isL M 0 l2 = true) (hc : ∀ x ∈ ws, has l1 x.1 = true ∨ has l2 x.2 = true) :
    Calls Tryz.prog 13 #[.agg #[.int .i64 S, .int .i64 M, .slice A n c], .slice A1 n1 c1, .slice A2 n2 c2] w fun e w' => e = .returned (.tuple #[.int .i64 ((n1 : Int) + n2), .int .i64 0]) ∧ Below w.heap.size w w' := by
  have eg : ∀ args w, (callFunc 39 args).run Tryz.prog w = .ok (.enter 39 args) w := enters_of Tryz.func39 (by kernel_rfl) rfl
  have HE := hid eg
  have HL := hid hl
  have HB := hid hb
  have H1 := hid h1
  have H2 := hid h2
  have HR1 := hid hr1
  have HR2 := hid hr2
  have HC := hid hc
  have hs := hb.s
  have hm := hb.m
  have hn : n ≤ 14 := by have := hb.n; have := hl.len; omega
  have z : IntKind.i64.wrap ((n1 : Int) + n2) = (n1 : Int) + n2 := IntWalk.i64_in _ (by omega)
  clear eg hl hb h1 h2 hr1 hr2 hc
  go_enter Tryz.func13, Tryz.ntmps13
  go_wp2_with (fail)
  refine (mCheckBook_any S M A n c ws _ (HL.out.below (by repeat' (first | with_reducible assumption | with_reducible exact Below.refl _ _ | refine Below.alloc ?_ ?_ _ | refine Below.setCell ?_ ?_ _ | refine Below.drew ?_ | refine below_drewN ?_ _ | (simp; done) | (simp; omega) | omega)) (by first | (simp; done) | (simp; omega) | omega)) HB.out).mono ?_
  rintro e w1 ⟨rfl, hb1⟩
  have hbel : Below w.heap.size w w1 := Below.trans (by repeat' (first | with_reducible assumption | with_reducible exact Below.refl _ _ | refine Below.alloc ?_ ?_ _ | refine Below.setCell ?_ ?_ _ | refine Below.drew ?_ | refine below_drewN ?_ _ | (simp; done) | (simp; omega) | omega)) (hb1.mono (by first | (simp; done) | (simp; omega) | omega))
  have c0 : w1.cell? ⟨w.heap.size, 0, none⟩ = some (.int .i64 S) := (hb1.cell (p := ⟨w.heap.size, 0, none⟩) (by first | (simp; done) | (simp; omega) | omega)).trans (by go_simp)
  have c1' : w1.cell? ⟨w.heap.size, 1, none⟩ = some (.int .i64 M) := (hb1.cell (p := ⟨w.heap.size, 1, none⟩) (by first | (simp; done) | (simp; omega) | omega)).trans (by go_simp)
  have c2' : w1.cell? ⟨w.heap.size, 2, none⟩ = some (.slice A n c) := (hb1.cell (p := ⟨w.heap.size, 2, none⟩) (by first | (simp; done) | (simp; omega) | omega)).trans (by go_simp)
  have k4 : w1.cell? ⟨w.heap.size + 1, 0, none⟩ = some (.slice A1 n1 c1) := (hb1.cell (p := ⟨w.heap.size + 1, 0, none⟩) (by first | (simp; done) | (simp; omega) | omega)).trans (by go_simp)
  have k5 : w1.cell? ⟨w.heap.size + 1 + 1, 0, none⟩ = some (.slice A2 n2 c2) := (hb1.cell (p := ⟨w.heap.size + 1 + 1, 0, none⟩) (by first | (simp; done) | (simp; omega) | omega)).trans (by go_simp)
  have hq0 : w.heap.size + 2 < w1.heap.size := (by have := hb1.size; simp at this; omega)
  clear hb1
  go_wp2_with (fail)
  refine (mrising_any A1 n1 c1 l1 S w1 (H1.out.below hbel hbel.size) (by omega) (by omega) (by omega)).mono ?_
  rw [HR1.out]
  rintro e w2 ⟨rfl, hb2⟩
  have hbel2 := hbel.trans (hb2.mono hbel.size)
  have d0 : w2.cell? ⟨w.heap.size, 1, none⟩ = some (.int .i64 M) := (hb2.cell (p := ⟨w.heap.size, 1, none⟩) (by show w.heap.size < _; omega)).trans c1'
  have d2 : w2.cell? ⟨w.heap.size, 2, none⟩ = some (.slice A n c) := (hb2.cell (p := ⟨w.heap.size, 2, none⟩) (by show w.heap.size < _; omega)).trans c2'
  have e4 : w2.cell? ⟨w.heap.size + 1, 0, none⟩ = some (.slice A1 n1 c1) := (hb2.cell (p := ⟨w.heap.size + 1, 0, none⟩) (by show w.heap.size + 1 < _; omega)).trans k4
  have e5 : w2.cell? ⟨w.heap.size + 1 + 1, 0, none⟩ = some (.slice A2 n2 c2) := (hb2.cell (p := ⟨w.heap.size + 1 + 1, 0, none⟩) (by show w.heap.size + 1 + 1 < _; omega)).trans k5
  have hq2 : w.heap.size + 2 < w2.heap.size := by have := hb2.size; omega
  clear c0 c1' c2' k4 k5 hb2 hbel hq0
  go_wp2_with (fail)
  refine (mrising_any A2 n2 c2 l2 M w2 (H2.out.below hbel2 hbel2.size) (by omega) (by omega) (by omega)).mono ?_
  rw [HR2.out]
  rintro e w3 ⟨rfl, hb3⟩
  have hbel3 := hbel2.trans (hb3.mono hbel2.size)
  have f2 : w3.cell? ⟨w.heap.size, 2, none⟩ = some (.slice A n c) := (hb3.cell (p := ⟨w.heap.size, 2, none⟩) (by show w.heap.size < _; omega)).trans d2
  have f4 : w3.cell? ⟨w.heap.size + 1, 0, none⟩ = some (.slice A1 n1 c1) := (hb3.cell (p := ⟨w.heap.size + 1, 0, none⟩) (by show w.heap.size + 1 < _; omega)).trans e4
  have f5 : w3.cell? ⟨w.heap.size + 1 + 1, 0, none⟩ = some (.slice A2 n2 c2) := (hb3.cell (p := ⟨w.heap.size + 1 + 1, 0, none⟩) (by show w.heap.size + 1 + 1 < _; omega)).trans e5
  have hq3 : w.heap.size + 2 < w3.heap.size := by have := hb3.size; omega
  have hcv := conFW_any 39 #[.pointer (some ⟨w.heap.size + 1, 0, none⟩), .pointer (some ⟨w.heap.size + 1 + 1, 0, none⟩)] HE.out (fun _ => false) A n c ws w3 (HL.out.below hbel3 hbel3.size) (by omega) (fun x hx W hW => mcovclo_any x.1 x.2 A1 A2 n1 c1 n2 c2 l1 l2 (w.heap.size + 1) (w.heap.size + 1 + 1) W ((hW.cell (p := ⟨w.heap.size + 1, 0, none⟩) (by show w.heap.size + 1 < _; omega)).trans f4) ((hW.cell (p := ⟨w.heap.size + 1 + 1, 0, none⟩) (by show w.heap.size + 1 + 1 < _; omega)).trans f5) (by have := hW.size; omega) (by have := hW.size; omega) (H1.out.below (hbel3.trans (hW.mono hbel3.size)) (by have := hW.size; have := hbel3.size; omega)) (H2.out.below (hbel3.trans (hW.mono hbel3.size)) (by have := hW.size; have := hbel3.size; omega)) (by omega) (by omega) (HC.out x hx))
  rw [show ws.any (fun _ => false) = false by simp] at hcv
  clear d0 d2 e4 e5 hb3 hbel2 hq2
  go_wp2_with (fail)
  refine hcv.mono ?_
  rintro e w4 ⟨rfl, hb4⟩
  have g4 : w4.cell? ⟨w.heap.size + 1, 0, none⟩ = some (.slice A1 n1 c1) := (hb4.cell (p := ⟨w.heap.size + 1, 0, none⟩) (by show w.heap.size + 1 < _; omega)).trans f4
  have g5 : w4.cell? ⟨w.heap.size + 1 + 1, 0, none⟩ = some (.slice A2 n2 c2) := (hb4.cell (p := ⟨w.heap.size + 1 + 1, 0, none⟩) (by show w.heap.size + 1 + 1 < _; omega)).trans f5
  have hbel4 := hbel3.trans (hb4.mono hbel3.size)
  have hq4 : w.heap.size + 2 < w4.heap.size := by have := hb4.size; omega
  clear f2 f4 f5 hb4 hcv hbel3 hq3
  go_wp2
  refine bodyPost_ret (v := .tuple #[.int .i64 ((n1 : Int) + n2), .int .i64 0]) (by first | (simp [results, Tryz.results13, go_sem]; done) | (simp [results, Tryz.results13, go_sem, *]; done) | (simp [results, Tryz.results13, go_sem, World.cell?_setCell_same', *]; done) | (simp [results, Tryz.results13, go_sem]; first | exact ⟨rfl, rfl⟩ | rfl)) rfl ⟨rfl, hbel4⟩
end Go.Proofs.YtdgllpcfmkjfhaaGreat.Bl
/- Walks: the reference's look at a book of moulds. -/
namespace Go.Proofs.YtdgllpcfmkjfhaaGreat.Bl
open Go.RowKit Go.Shelf
attribute [local go_sem] Oper.semAt_some
def okW (S M : Int) (x : Int × Int) : Bool := decide ((0 ≤ x.1 ∧ x.1 < S) ∧ 0 ≤ x.2 ∧ x.2 < M)
def mchk (S M : Int) (ws : List (Int × Int)) : Int := if S < 1 ∨ 6 < S ∨ M < 1 ∨ 6 < M ∨ 14 < ws.length then 6 else if ws.all (okW S M) = false then 3 else 0
theorem mchk_ok {S M : Int} {ws : List (Int × Int)} (h : mchk S M ws = 0) : MBook S M ws := by
  unfold mchk at h
  split at h
  · cases h
  · split at h
    · cases h
    · rename_i h1 h2
      refine ⟨by omega, by omega, by omega, fun x hx => ?_⟩
      have : ws.all (okW S M) = true := by simpa using h2
      have := List.all_eq_true.1 this x hx
      simpa [okW] using this
set_option maxRecDepth 100000 in
set_option maxHeartbeats 4000000 in
theorem r2CheckBook_any (S M : Int) (A : Option Addr) (n c : Nat) (ws : List (Int × Int)) (w : World) (hl : WtS w w.heap.size A n ws) (hn : n ≤ 1000000) :
    Calls Tryz.prog 5 #[.agg #[.int .i64 S, .int .i64 M, .slice A n c]] w fun e w' => e = .returned (.int .i64 (mchk S M ws)) ∧ Below w.heap.size w w' := by
  have hlen := hl.len
  have HL := hid hl
  clear hl
  by_cases hbad : S < 1 ∨ 6 < S ∨ M < 1 ∨ 6 < M ∨ 14 < n
  · have hf : Hid (mchk S M ws = 6) := hid (if_pos (by omega))
    clear hlen
    by_cases h1 : S < 1
    · go_enter Tryz.func5, Tryz.ntmps5
      go_wp2
      refine bodyPost_ret (v := .int .i64 6) (by first | (simp [results, Tryz.results5, go_sem]; done) | (simp [results, Tryz.results5, go_sem, *]; done) | (simp [results, Tryz.results5, go_sem, World.cell?_setCell_same', *]; done) | (simp [results, Tryz.results5, go_sem]; first | exact ⟨rfl, rfl⟩ | rfl)) rfl ⟨by rw [hf.out], (by repeat' (first | with_reducible assumption | with_reducible exact Below.refl _ _ | refine Below.alloc ?_ ?_ _ | refine Below.setCell ?_ ?_ _ | refine Below.drew ?_ | refine below_drewN ?_ _ | (simp; done) | (simp; omega) | omega))⟩
    by_cases h2 : 6 < S
    · go_enter Tryz.func5, Tryz.ntmps5
      go_wp2
      refine bodyPost_ret (v := .int .i64 6) (by first | (simp [results, Tryz.results5, go_sem]; done) | (simp [results, Tryz.results5, go_sem, *]; done) | (simp [results, Tryz.results5, go_sem, World.cell?_setCell_same', *]; done) | (simp [results, Tryz.results5, go_sem]; first | exact ⟨rfl, rfl⟩ | rfl)) rfl ⟨by rw [hf.out], (by repeat' (first | with_reducible assumption | with_reducible exact Below.refl _ _ | refine Below.alloc ?_ ?_ _ | refine Below.setCell ?_ ?_ _ | refine Below.drew ?_ | refine below_drewN ?_ _ | (simp; done) | (simp; omega) | omega))⟩
    by_cases h3 : M < 1
    · go_enter Tryz.func5, Tryz.ntmps5
      go_wp2
      refine bodyPost_ret (v := .int .i64 6) (by first | (simp [results, Tryz.results5, go_sem]; done) | (simp [results, Tryz.results5, go_sem, *]; done) | (simp [results, Tryz.results5, go_sem, World.cell?_setCell_same', *]; done) | (simp [results, Tryz.results5, go_sem]; first | exact ⟨rfl, rfl⟩ | rfl)) rfl ⟨by rw [hf.out], (by repeat' (first | with_reducible assumption | with_reducible exact Below.refl _ _ | refine Below.alloc ?_ ?_ _ | refine Below.setCell ?_ ?_ _ | refine Below.drew ?_ | refine below_drewN ?_ _ | (simp; done) | (simp; omega) | omega))⟩
    by_cases h4 : 6 < M
    · go_enter Tryz.func5, Tryz.ntmps5
      go_wp2
      refine bodyPost_ret (v := .int .i64 6) (by first | (simp [results, Tryz.results5, go_sem]; done) | (simp [results, Tryz.results5, go_sem, *]; done) | (simp [results, Tryz.results5, go_sem, World.cell?_setCell_same', *]; done) | (simp [results, Tryz.results5, go_sem]; first | exact ⟨rfl, rfl⟩ | rfl)) rfl ⟨by rw [hf.out], (by repeat' (first | with_reducible assumption | with_reducible exact Below.refl _ _ | refine Below.alloc ?_ ?_ _ | refine Below.setCell ?_ ?_ _ | refine Below.drew ?_ | refine below_drewN ?_ _ | (simp; done) | (simp; omega) | omega))⟩
    · have h5 : (14 : Int) < n := by omega
      go_enter Tryz.func5, Tryz.ntmps5
      go_wp2
      refine bodyPost_ret (v := .int .i64 6) (by first | (simp [results, Tryz.results5, go_sem]; done) | (simp [results, Tryz.results5, go_sem, *]; done) | (simp [results, Tryz.results5, go_sem, World.cell?_setCell_same', *]; done) | (simp [results, Tryz.results5, go_sem]; first | exact ⟨rfl, rfl⟩ | rfl)) rfl ⟨by rw [hf.out], (by repeat' (first | with_reducible assumption | with_reducible exact Below.refl _ _ | refine Below.alloc ?_ ?_ _ | refine Below.setCell ?_ ?_ _ | refine Below.drew ?_ | refine below_drewN ?_ _ | (simp; done) | (simp; omega) | omega))⟩
  · have hS : 1 ≤ S ∧ S ≤ 6 := by omega
    have hM : 1 ≤ M ∧ M ≤ 6 := by omega
    have hn14 : (n : Int) ≤ 14 := by omega
    have hv : Hid (mchk S M ws = if ws.all (okW S M) = false then 3 else 0) := hid (if_neg (by omega))
    have Hlen := hid hlen
    clear hbad hlen
    go_enter Tryz.func5, Tryz.ntmps5
    go_wp2
    go_loopw [3] (fun iv wr => ∃ j : Nat, j ≤ n ∧ iv = .int .i64 j ∧ Hid ((ws.take j).all (okW S M) = true) ∧ Hid (Blk wr w.heap.size 24 #[.int .i64 S, .int .i64 M, .slice A n c]) ∧ Below w.heap.size w wr) (fun iv _ => n - (intOf iv).toNat)
    case atStart => exact ⟨0, by omega, rfl, hid (by simp), hid (Blk.new' rfl), (by repeat' (first | with_reducible assumption | with_reducible exact Below.refl _ _ | refine Below.alloc ?_ ?_ _ | refine Below.setCell ?_ ?_ _ | refine Below.drew ?_ | refine below_drewN ?_ _ | (simp; done) | (simp; omega) | omega))⟩
    case round =>
      obtain ⟨j, hj, rfl, hall, hB, hbw⟩ := hrel
      have hszw := hbw.size
      have c0 : wr.cell? ⟨w.heap.size, 0, none⟩ = some (.int .i64 S) := hB.out.cell 0
      have c1 : wr.cell? ⟨w.heap.size, 1, none⟩ = some (.int .i64 M) := hB.out.cell 1
      have c2 : wr.cell? ⟨w.heap.size, 2, none⟩ = some (.slice A n c) := hB.out.cell 2
      have l0 := hB.out.lt
      by_cases hlt : j < n
      · obtain ⟨b, off, p, q, rfl, hb, hm, d0, d1⟩ := (HL.out.below hbw hszw).at_ hlt
        have hlti : (j : Int) < n := by omega
        have Hm := hid hm
        clear hm
        by_cases hok : (0 ≤ p ∧ p < S) ∧ 0 ≤ q ∧ q < M
        · have g1 : ¬ p < 0 := by omega
          have g2 : ¬ S ≤ p := by omega
          have g3 : ¬ q < 0 := by omega
          have g4 : ¬ M ≤ q := by omega
          have hst := hid (all_take_succ hall.out Hm.out (show okW S M (p, q) = true by unfold okW; simpa using hok))
          have hB2 := hid (hB.out.alloc (.cells #[.int .i64 p, .int .i64 q] 33))
          have hb2 : Hid (Below w.heap.size w (wr.alloc (.cells #[.int .i64 p, .int .i64 q] 33))) := hid (hbw.alloc hszw _)
          clear hok
          go_wp2
          exact ⟨⟨j + 1, by omega, by go_num, hst, hB2, hb2.out⟩, by simp [intOf]; omega⟩
        · have hf : Hid (mchk S M ws = 3) := hid (by rw [hv.out, if_pos (all_false Hm.out (show okW S M (p, q) = false by unfold okW; simpa using hok))])
          have hb2 : Hid (Below w.heap.size w (wr.alloc (.cells #[.int .i64 p, .int .i64 q] 33))) := hid (hbw.alloc hszw _)
          by_cases g1 : p < 0
          · clear hok
            go_wp2
            refine bodyPost_ret (v := .int .i64 3) (by first | (simp [results, Tryz.results5, go_sem]; done) | (simp [results, Tryz.results5, go_sem, *]; done) | (simp [results, Tryz.results5, go_sem, World.cell?_setCell_same', *]; done) | (simp [results, Tryz.results5, go_sem]; first | exact ⟨rfl, rfl⟩ | rfl)) rfl ⟨by rw [hf.out], hb2.out⟩
          by_cases g2 : S ≤ p
          · clear hok
            go_wp2
            refine bodyPost_ret (v := .int .i64 3) (by first | (simp [results, Tryz.results5, go_sem]; done) | (simp [results, Tryz.results5, go_sem, *]; done) | (simp [results, Tryz.results5, go_sem, World.cell?_setCell_same', *]; done) | (simp [results, Tryz.results5, go_sem]; first | exact ⟨rfl, rfl⟩ | rfl)) rfl ⟨by rw [hf.out], hb2.out⟩
          by_cases g3 : q < 0
          · clear hok
            go_wp2
            refine bodyPost_ret (v := .int .i64 3) (by first | (simp [results, Tryz.results5, go_sem]; done) | (simp [results, Tryz.results5, go_sem, *]; done) | (simp [results, Tryz.results5, go_sem, World.cell?_setCell_same', *]; done) | (simp [results, Tryz.results5, go_sem]; first | exact ⟨rfl, rfl⟩ | rfl)) rfl ⟨by rw [hf.out], hb2.out⟩
          · have g4 : M ≤ q := by omega
            clear hok
            go_wp2
            refine bodyPost_ret (v := .int .i64 3) (by first | (simp [results, Tryz.results5, go_sem]; done) | (simp [results, Tryz.results5, go_sem, *]; done) | (simp [results, Tryz.results5, go_sem, World.cell?_setCell_same', *]; done) | (simp [results, Tryz.results5, go_sem]; first | exact ⟨rfl, rfl⟩ | rfl)) rfl ⟨by rw [hf.out], hb2.out⟩
      · obtain rfl : j = n := by omega
        have hf : Hid (mchk S M ws = 0) := hid (by
          have := hall.out
          rw [List.take_of_length_le (by rw [Hlen.out]; exact Nat.le_refl _)] at this
          rw [hv.out, if_neg (by rw [this]; simp)])
        go_wp2
        refine bodyPost_ret (v := .int .i64 0) (by first | (simp [results, Tryz.results5, go_sem]; done) | (simp [results, Tryz.results5, go_sem, *]; done) | (simp [results, Tryz.results5, go_sem, World.cell?_setCell_same', *]; done) | (simp [results, Tryz.results5, go_sem]; first | exact ⟨rfl, rfl⟩ | rfl)) rfl ⟨by rw [hf.out], hbw⟩
end Go.Proofs.YtdgllpcfmkjfhaaGreat.Bl
/- Walks: open; the first hire that is missed. -/
namespace Go.Proofs.YtdgllpcfmkjfhaaGreat.Bl
open Go.RowKit Go.Shelf
attribute [local go_sem] Oper.semAt_some
set_option maxRecDepth 100000 in
set_option maxHeartbeats 1600000 in
theorem open_bad (A B : Option Addr) (n c m d : Nat) (ls ss : List (List Int)) (I : Int) (w : World) (hl : LiS w w.heap.size A n ls) (hs : LiS w w.heap.size B m ss) (hn : n ≤ 1000000) (hw : ∀ l ∈ ls, l.length ≤ 1000000) (hm : m ≤ 1000000) (hws : ∀ l ∈ ss, l.length ≤ 1000000) (he : openE I ls ss ≠ 0) :
    Calls Tryz.prog 32 #[.agg #[.int .i64 I, .slice A n c], .slice B m d] w fun e w' => e = .returned (.tuple #[.pointer none, .int .i64 (openE I ls ss)]) ∧ Below w.heap.size w w' := by
  have eg : ∀ args w, (callFunc 76 args).run Tryz.prog w = .ok (.enter 76 args) w := enters_of Tryz.func76 (by kernel_rfl) rfl
  have HL := hid hl
  have HS := hid hs
  have HW := hid hw
  have HWs := hid hws
  have HE := hid eg
  clear hl hs hw hws eg
  by_cases hc : chkBook I ls = 0
  · obtain ⟨h1, h8, -, -⟩ := book_good hc
    have hf : Hid (openE I ls ss = 3) := hid (by
      unfold openE at he ⊢
      rw [if_neg (by simpa using hc)] at he ⊢
      split at he
      · rw [if_pos ‹_›]
      · exact absurd rfl he)
    have hN : Hid (ss.any (fun x => !isL I 0 x) = true) := hid (by
      rw [any_not_all]
      cases h : ss.all (isL I 0)
      · rfl
      · unfold openE at he
        rw [if_neg (by simpa using hc), h] at he
        exact absurd rfl he)
    have Hc := hid hc
    clear hc he
    go_enter Tryz.func32, Tryz.ntmps32
    go_wp2_with (fail)
    refine (checkBook_any A n c ls I _ (HL.out.below (by repeat' (first | with_reducible assumption | with_reducible exact Below.refl _ _ | refine Below.alloc ?_ ?_ _ | refine Below.setCell ?_ ?_ _ | refine Below.drew ?_ | refine below_drewN ?_ _ | (simp; done) | (simp; omega) | omega)) (by first | (simp; done) | (simp; omega) | omega)) hn HW.out).mono ?_
    rw [Hc.out]
    rintro e w1 ⟨rfl, hb1⟩
    have hbel : Below w.heap.size w w1 := Below.trans (by repeat' (first | with_reducible assumption | with_reducible exact Below.refl _ _ | refine Below.alloc ?_ ?_ _ | refine Below.setCell ?_ ?_ _ | refine Below.drew ?_ | refine below_drewN ?_ _ | (simp; done) | (simp; omega) | omega)) (hb1.mono (by first | (simp; done) | (simp; omega) | omega))
    have c0 : w1.cell? ⟨w.heap.size, 0, none⟩ = some (.int .i64 I) := (hb1.cell (p := ⟨w.heap.size, 0, none⟩) (by first | (simp; done) | (simp; omega) | omega)).trans (by go_simp)
    have hq0 : w.heap.size < w1.heap.size := (by have := hb1.size; simp at this; omega)
    have hcc := conFL_any 76 #[.pointer (some ⟨w.heap.size, 0, none⟩)] HE.out (fun x => !isL I 0 x) B m d ss w1 (HS.out.below hbel hbel.size) hm (fun x hx A' m c' W hW hin => opclo_any A' m c' x I w.heap.size W hin (by rw [← hin.len]; exact HWs.out x hx) h1 h8 ((hW.cell (p := ⟨w.heap.size, 0, none⟩) hq0).trans c0))
    rw [hN.out] at hcc
    clear hb1 c0
    go_wp2_with (go_at_call 75; refine hcc.mono ?_; rintro e w2 ⟨rfl, hb2⟩)
    refine bodyPost_ret (v := .tuple #[.pointer none, .int .i64 3]) (by first | (simp [results, Tryz.results32, go_sem]; done) | (simp [results, Tryz.results32, go_sem, *]; done) | (simp [results, Tryz.results32, go_sem, World.cell?_setCell_same', *]; done) | (simp [results, Tryz.results32, go_sem]; first | exact ⟨rfl, rfl⟩ | rfl)) rfl ⟨by rw [hf.out], hbel.trans (hb2.mono hbel.size)⟩
  · have hf : Hid (openE I ls ss = chkBook I ls) := hid (if_pos hc)
    obtain ⟨ev, hev⟩ : ∃ ev, chkBook I ls = ev := ⟨_, rfl⟩
    rw [hev] at hf hc
    have Hev := hid hev
    have hbi : (ev != 0) = true := by simpa using hc
    clear hev he
    go_enter Tryz.func32, Tryz.ntmps32
    go_wp2_with (fail)
    refine (checkBook_any A n c ls I _ (HL.out.below (by repeat' (first | with_reducible assumption | with_reducible exact Below.refl _ _ | refine Below.alloc ?_ ?_ _ | refine Below.setCell ?_ ?_ _ | refine Below.drew ?_ | refine below_drewN ?_ _ | (simp; done) | (simp; omega) | omega)) (by first | (simp; done) | (simp; omega) | omega)) hn HW.out).mono ?_
    rw [Hev.out]
    rintro e w1 ⟨rfl, hb1⟩
    have hbel : Below w.heap.size w w1 := Below.trans (by repeat' (first | with_reducible assumption | with_reducible exact Below.refl _ _ | refine Below.alloc ?_ ?_ _ | refine Below.setCell ?_ ?_ _ | refine Below.drew ?_ | refine below_drewN ?_ _ | (simp; done) | (simp; omega) | omega)) (hb1.mono (by first | (simp; done) | (simp; omega) | omega))
    go_wp2
    refine bodyPost_ret (v := .tuple #[.pointer none, .int .i64 ev]) (by first | (simp [results, Tryz.results32, go_sem]; done) | (simp [results, Tryz.results32, go_sem, *]; done) | (simp [results, Tryz.results32, go_sem, World.cell?_setCell_same', *]; done) | (simp [results, Tryz.results32, go_sem]; first | exact ⟨rfl, rfl⟩ | rfl)) rfl ⟨by rw [hf.out], hbel⟩
set_option maxRecDepth 100000 in
set_option maxHeartbeats 1600000 in
theorem open_ok (A B : Option Addr) (n c m d : Nat) (ls ss : List (List Int)) (I : Int) (w : World) (hl : LiS w w.heap.size A n ls) (hs : LiS w w.heap.size B m ss) (hn : n ≤ 1000000) (hw : ∀ l ∈ ls, l.length ≤ 1000000) (hm : m ≤ 1000000) (hws : ∀ l ∈ ss, l.length ≤ 1000000) (he : openE I ls ss = 0) :
    Calls Tryz.prog 32 #[.agg #[.int .i64 I, .slice A n c], .slice B m d] w fun e w' => ∃ g, e = .returned (.tuple #[.pointer (some ⟨g, 0, none⟩), .int .i64 0]) ∧ w.heap.size ≤ g ∧ Desk w' g I A n c ls ∧ Below w.heap.size w w' := by
  have eg : ∀ args w, (callFunc 76 args).run Tryz.prog w = .ok (.enter 76 args) w := enters_of Tryz.func76 (by kernel_rfl) rfl
  obtain ⟨hc, hall⟩ := openE_good he
  obtain ⟨h1, h8, -, -⟩ := book_good hc
  have hN : Hid (ss.any (fun x => !isL I 0 x) = false) := hid (by
    rw [any_not_all, List.all_eq_true.2 hall]; rfl)
  have HL := hid hl
  have HS := hid hs
  have HW := hid hw
  have HWs := hid hws
  have HE := hid eg
  have Hc := hid hc
  clear hl hs hw hws eg hc he hall
  go_enter Tryz.func32, Tryz.ntmps32
  go_wp2_with (fail)
  refine (checkBook_any A n c ls I _ (HL.out.below (by repeat' (first | with_reducible assumption | with_reducible exact Below.refl _ _ | refine Below.alloc ?_ ?_ _ | refine Below.setCell ?_ ?_ _ | refine Below.drew ?_ | refine below_drewN ?_ _ | (simp; done) | (simp; omega) | omega)) (by first | (simp; done) | (simp; omega) | omega)) hn HW.out).mono ?_
  rw [Hc.out]
  rintro e w1 ⟨rfl, hb1⟩
  have hbel : Below w.heap.size w w1 := Below.trans (by repeat' (first | with_reducible assumption | with_reducible exact Below.refl _ _ | refine Below.alloc ?_ ?_ _ | refine Below.setCell ?_ ?_ _ | refine Below.drew ?_ | refine below_drewN ?_ _ | (simp; done) | (simp; omega) | omega)) (hb1.mono (by first | (simp; done) | (simp; omega) | omega))
  have c0 : w1.cell? ⟨w.heap.size, 0, none⟩ = some (.int .i64 I) := (hb1.cell (p := ⟨w.heap.size, 0, none⟩) (by first | (simp; done) | (simp; omega) | omega)).trans (by go_simp)
  have c1 : w1.cell? ⟨w.heap.size, 1, none⟩ = some (.slice A n c) := (hb1.cell (p := ⟨w.heap.size, 1, none⟩) (by first | (simp; done) | (simp; omega) | omega)).trans (by go_simp)
  have hq0 : w.heap.size < w1.heap.size := (by have := hb1.size; simp at this; omega)
  have hcc := conFL_any 76 #[.pointer (some ⟨w.heap.size, 0, none⟩)] HE.out (fun x => !isL I 0 x) B m d ss w1 (HS.out.below hbel hbel.size) hm (fun x hx A' m c' W hW hin => opclo_any A' m c' x I w.heap.size W hin (by rw [← hin.len]; exact HWs.out x hx) h1 h8 ((hW.cell (p := ⟨w.heap.size, 0, none⟩) hq0).trans c0))
  rw [hN.out] at hcc
  clear hb1
  go_wp2_with (go_at_call 75; refine hcc.mono ?_; rintro e w2 ⟨rfl, hb2⟩; have d0 := (hb2.cell (p := ⟨w.heap.size, 0, none⟩) hq0).trans c0; have d1 := (hb2.cell (p := ⟨w.heap.size, 1, none⟩) hq0).trans c1; have hq2 : w.heap.size < w2.heap.size := Nat.lt_of_lt_of_le hq0 hb2.size; clear c0 c1)
  have hbe2 := hbel.trans (hb2.mono hbel.size)
  have hbe3 : Below w.heap.size w (w2.alloc (.cells #[.int .i64 I, .slice A n c] 111)) := hbe2.alloc hbe2.size _
  refine bodyPost_ret (v := .tuple #[.pointer (some ⟨w2.heap.size, 0, none⟩), .int .i64 0]) (by first | (simp [results, Tryz.results32, go_sem]; done) | (simp [results, Tryz.results32, go_sem, *]; done) | (simp [results, Tryz.results32, go_sem, World.cell?_setCell_same', *]; done) | (simp [results, Tryz.results32, go_sem]; first | exact ⟨rfl, rfl⟩ | rfl)) rfl ⟨w2.heap.size, rfl, hbe2.size, ⟨Blk.new' rfl, HL.out.below hbe3 hbe3.size⟩, hbe3⟩
def missI (ls : List (List Int)) (b : Nat) : Int := idxA (fun l => !l.any (inB b)) ls
set_option maxRecDepth 100000 in
set_option maxHeartbeats 1600000 in
theorem missed_any (g : Nat) (I : Int) (A : Option Addr) (n c : Nat) (ls : List (List Int)) (b : Nat) (w : World) (hd : Desk w g I A n c ls) (hn : n ≤ 1000000) (hbd : ∀ l ∈ ls, isL 8 0 l = true) :
    Calls Tryz.prog 35 #[.pointer (some ⟨g, 0, none⟩), .agg (mkB b)] w fun e w' => e = .returned (.int .i64 (missI ls b)) ∧ Below w.heap.size w w' := by
  have eg : ∀ args w, (callFunc 80 args).run Tryz.prog w = .ok (.enter 80 args) w := enters_of Tryz.func80 (by kernel_rfl) rfl
  obtain ⟨W2, hW2⟩ : ∃ W2, w.alloc (.cells (mkB b) 74) = W2 := ⟨_, rfl⟩
  have b2 : Blk W2 w.heap.size 74 (mkB b) := by rw [← hW2]; exact Blk.new' rfl
  have hb2 : Below w.heap.size w W2 := by rw [← hW2]; exact (Below.refl _ _).alloc (Nat.le_refl _) _
  have hd2 := hd.below hb2
  have c0 : W2.cell? ⟨g, 0, none⟩ = some (.int .i64 I) := hd2.1.cell 0
  have c1 : W2.cell? ⟨g, 1, none⟩ = some (.slice A n c) := hd2.1.cell 1
  have lg := hd2.1.lt
  have l2 := b2.lt
  have HL := hid hd2.2
  have hlen := hid hd2.2.1
  have HB := hid hbd
  have HE := hid eg
  have HB2 := hid b2
  obtain ⟨iv, hiv⟩ : ∃ iv, missI ls b = iv := ⟨_, rfl⟩
  have Hiv := hid hiv
  rw [hiv]
  clear hiv hbd eg hd hd2
  unfold mkB at hW2 ⊢
  go_enter Tryz.func35, Tryz.ntmps35
  go_wp2
  clear hW2 c0 c1
  go_loopw [13] (fun i wr => ∃ k : Nat, k ≤ n ∧ i = .int .i64 k ∧ Hid ((ls.take k).any (fun l => !l.any (inB b)) = false) ∧ wr = W2) (fun i _ => n - (intOf i).toNat)
  case atStart => exact ⟨0, by omega, rfl, hid (by simp), rfl⟩
  case round =>
    obtain ⟨k, hk, rfl, hno, rfl⟩ := hrel
    by_cases hlt : k < n
    · obtain ⟨bb, off, x, A', m, c', rfl, hb, hm, c0, hin⟩ := HL.out.at_ hlt
      have Hm := hid hm
      have hlti : (k : Int) < n := by omega
      have hxv := HB.out x (List.mem_of_getElem? hm)
      have hm8 : m ≤ 1000000 := by have := isL_len8 hxv (by omega); have := hin.len; omega
      have hc := conFI_any 80 #[.pointer (some ⟨w.heap.size, 0, none⟩)] HE.out (inB b) A' m c' x wr hin hm8 (fun y hy => missed1_any y b _ _ HB2.out (isL_bd hxv y hy).1 (isL_bd hxv y hy).2)
      clear hm hin hxv
      cases hx : x.any (inB b)
      · have Hf := hid (idxA_hit hno.out Hm.out (by rw [hx]; rfl))
        rw [hx] at hc
        clear hx
        go_wp2_with (go_at_call 79; refine hc.mono ?_; rintro e w1 ⟨rfl, rfl⟩)
        refine bodyPost_ret (v := .int .i64 k) (by first | (simp [results, Tryz.results35, go_sem]; done) | (simp [results, Tryz.results35, go_sem, *]; done) | (simp [results, Tryz.results35, go_sem, World.cell?_setCell_same', *]; done) | (simp [results, Tryz.results35, go_sem]; first | exact ⟨rfl, rfl⟩ | rfl)) rfl ⟨by rw [← Hiv.out]; unfold missI; rw [Hf.out], hb2⟩
      · have Hs := hid (any_off hno.out Hm.out (by rw [hx]; rfl))
        rw [hx] at hc
        clear hx
        go_wp2_with (go_at_call 79; refine hc.mono ?_; rintro e w1 ⟨rfl, rfl⟩)
        exact ⟨⟨k + 1, by omega, by go_num, Hs, trivial⟩, by simp [intOf]; omega⟩
    · obtain rfl : k = n := by omega
      have Hf : Hid (missI ls b = -1) := hid (idxA_none (by have := hno.out; rwa [List.take_of_length_le (by rw [hlen.out]; exact Nat.le_refl _)] at this))
      go_wp2
      refine bodyPost_ret (v := .int .i64 (-1)) (by first | (simp [results, Tryz.results35, go_sem]; done) | (simp [results, Tryz.results35, go_sem, *]; done) | (simp [results, Tryz.results35, go_sem, World.cell?_setCell_same', *]; done) | (simp [results, Tryz.results35, go_sem]; first | exact ⟨rfl, rfl⟩ | rfl)) rfl ⟨by rw [← Hiv.out, Hf.out], hb2⟩
end Go.Proofs.YtdgllpcfmkjfhaaGreat.Bl
/- Walks: CheckBlame; the first that is good; an inn that can be left out; CheckTight. -/
namespace Go.Proofs.YtdgllpcfmkjfhaaGreat.Bl
open Go.RowKit Go.Shelf
attribute [local go_sem] Oper.semAt_some
@[local go_sem] theorem run_store_func (P : Program) (a : Addr) (f : Fn) (b fr : Array Value) (m : Mode) (w : World) : (store a (.func f b fr) m).run P w = stored P w a (.func f b fr) m := run_store P w a _ m rfl
theorem lis_nil (w : World) (B : Nat) : LiS w B none 0 [] := ⟨rfl, [], Sl.none_, fun k l h => by simp at h⟩
theorem isL8 {I : Int} {l : List Int} (h : isL I 0 l = true) (h8 : I ≤ 8) : isL 8 0 l = true := isL_weak h8 h
theorem book8 {I : Int} {ls : List (List Int)} (h : chkBook I ls = 0) : ∀ l ∈ ls, isL 8 0 l = true := fun l hl => isL8 ((book_good h).2.2.2 l hl) (book_good h).2.1
end Go.Proofs.YtdgllpcfmkjfhaaGreat.Bl
/- Walks (reference): the numbers that bits say, listed. -/
namespace Go.Proofs.YtdgllpcfmkjfhaaGreat.Bl
open Go.RowKit Go.Shelf
attribute [local go_sem] Oper.semAt_some
theorem bits_and_i64_nat (a b : Nat) (ha : a < 2 ^ 62) (hb : b < 2 ^ 62) : bits .and .i64 (a : Int) (b : Int) = ((a &&& b : Nat) : Int) := by
  have hx : a &&& b ≤ a := Nat.and_le_left
  have e62 : (2 : Nat) ^ 62 = 4611686018427387904 := by decide
  rw [e62] at ha hb
  have h1 : (BitVec.ofInt 64 (a : Int)).toNat = a := by
    rw [BitVec.ofInt_natCast, BitVec.toNat_ofNat]; exact Nat.mod_eq_of_lt (by omega)
  have h2 : (BitVec.ofInt 64 (b : Int)).toNat = b := by
    rw [BitVec.ofInt_natCast, BitVec.toNat_ofNat]; exact Nat.mod_eq_of_lt (by omega)
  show IntKind.i64.wrap ((BitVec.ofInt 64 (a : Int) &&& BitVec.ofInt 64 (b : Int)).toNat : Int) = _
  rw [BitVec.toNat_and, h1, h2, IntKind.wrap_i64]
  omega
theorem low_bit' (b k : Nat) (hb : b < 2 ^ 62) : bits .and .i64 ((b : Int) / 2 ^ k) 1 = if b.testBit k then 1 else 0 := by
  have hq : (b : Int) / 2 ^ k = ((b / 2 ^ k : Nat) : Int) := by push_cast; rfl
  have hle : b / 2 ^ k ≤ b := Nat.div_le_self _ _
  rw [hq, Nat.testBit_eq_decide_div_mod_eq]
  have h := bits_and_i64_nat (b / 2 ^ k) 1 (by omega) (by decide)
  rw [show ((1 : Nat) : Int) = 1 from rfl] at h
  rw [h, Nat.and_one_is_mod]
  obtain ⟨q, hqe⟩ : ∃ q, b / 2 ^ k = q := ⟨_, rfl⟩
  rw [hqe]
  by_cases h1 : q % 2 = 1 <;> simp [h1] <;> omega
set_option maxRecDepth 10000 in
set_option maxHeartbeats 1600000 in
theorem rlisted_any (b n : Nat) (w : World) (hn : n ≤ 16) (hb : b < 2 ^ 62) :
    Calls Tryz.prog 14 #[.int .i64 (b : Int), .int .i64 (n : Int)] w fun e w' => ∃ v, e = .returned v ∧ w'.ownsRow w.heap.size 3 1 v (listed b n).length ((listed b n).flatMap cI) ∧ Below w.heap.size w w' := by
  obtain ⟨i0, hi0, hi1, hi2, hi3⟩ := info_parts' infoI
  have I0 := hid hi0; have I1 := hid hi1; have I2 := hid hi2; have I3 := hid hi3
  have HB := hid hb
  clear hi0 hi1 hi2 hi3 hb
  go_enter Tryz.func14, Tryz.ntmps14
  go_wp2
  go_loopw [5, 6] (fun v i wr => ∃ k : Nat, k ≤ n ∧ i = .int .i64 k ∧ Below w.heap.size w wr ∧ Hid (wr.ownsRow w.heap.size 3 1 v (listed b k).length ((listed b k).flatMap cI))) (fun _ i _ => n - (intOf i).toNat)
  case atStart => exact ⟨0, by omega, rfl, Below.refl _ _, hid (World.ownsRow_nil _ _ _ _)⟩
  case round =>
    obtain ⟨k, hk2, rfl, hbw, hown⟩ := hrel
    have hszw := hbw.size
    by_cases hlt : k < n
    · have hlti : (k : Int) < n := by omega
      have hll := listed_len b k
      have hs := listed_succ b k
      have hand := low_bit' b k HB.out
      cases ht : b.testBit k
      · rw [ht] at hs hand
        simp only [Bool.false_eq_true, if_false, List.append_nil] at hs hand
        have Hs := hid hs
        clear hs ht
        go_wp2
        exact ⟨⟨k + 1, by omega, by go_num, hbw, hid (by rw [Hs.out]; exact hown.out)⟩, by simp [intOf]; omega⟩
      · rw [ht] at hs hand
        simp only [if_true] at hs hand
        have Hs := hid hs
        have Hl : Hid ((listed b (k + 1)).length = (listed b k).length + 1) := hid (by rw [hs]; simp)
        have Hf : Hid ((listed b (k + 1)).flatMap cI = (listed b k).flatMap cI ++ [.int .i64 k]) := hid (by rw [hs, List.flatMap_append]; rfl)
        clear hs ht
        go_wp2_with (at_builtin; refine wpList_append_own _ rfl _ _ 34 rfl w.heap.size 3 i0 _ 1 8 underL I0.out I1.out I2.out I3.out rfl (by decide) _ (listed b k).length _ rfl (hown.out.alloc (.cells #[.int .i64 k] 3)) ⟨wr.heap.size, 0, none⟩ 1 1 [.int .i64 k] rfl rfl (fun j u hj => World.news_of_block (Blk.new' (by simp)) j u hj) (one1 _) (by unfold maxLen; omega) (by omega) (by simp; omega) ?_; intro v' w3 ho3 hg3 hv3)
        have hb3 : Below w.heap.size w w3 := (hbw.alloc hszw _).grown hg3 (by simp; omega) (fun r hr => (World.ownsRow.lt hown.out r hr).1)
        exact ⟨⟨k + 1, by omega, by go_num, hb3, hid (by rw [Hl.out, Hf.out]; exact ho3)⟩, by simp [intOf]; omega⟩
    · obtain rfl : n = k := by omega
      go_wp2
      refine bodyPost_ret (v := u5) (by first | (simp [results, Tryz.results14, go_sem]; done) | (simp [results, Tryz.results14, go_sem, *]; done) | (simp [results, Tryz.results14, go_sem, World.cell?_setCell_same', *]; done) | (simp [results, Tryz.results14, go_sem]; first | exact ⟨rfl, rfl⟩ | rfl)) rfl ⟨u5, rfl, hown.out, hbw⟩
end Go.Proofs.YtdgllpcfmkjfhaaGreat.Bl
