/- Texts of the proof, laid together by program. -/
import Derived.Test.YtpgdfipikfbjeaaMj
import Derived.Laws.Bits64b
import Derived.Test.YtpgdfipikfbjeaaMh
set_option linter.unusedSimpArgs false
set_option linter.unusedVariables false
/- Walks: Covered, CheckPlain. -/
namespace Go.Proofs.Ytpgdfipikfbjeaa
open Go.RowKit Go.Shelf
attribute [local go_sem] Oper.semAt_some
theorem cov1_t {bad r : List Int} {x : Int} (h : has r x = false ∨ meet r bad = true) : cov1 bad x r = true := by
  unfold cov1
  rcases h with h | h <;> rw [h] <;> simp
theorem cov1_f {bad r : List Int} {x : Int} (h1 : has r x = true) (h2 : meet r bad = false) : cov1 bad x r = false := by
  unfold cov1
  rw [h1, h2]; rfl
theorem covers_in {pl : List (List Int)} {bad : List Int} {x : Int} (h : has bad x = true) : covers pl bad x = false := by
  unfold covers; rw [h]; rfl
theorem covers_no {pl : List (List Int)} {bad r : List Int} {x : Int} {k : Nat} (hr : pl[k]? = some r) (h : cov1 bad x r = false) : covers pl bad x = false := by
  unfold covers; rw [all_false hr h]; simp
theorem covers_yes {pl : List (List Int)} {bad : List Int} {x : Int} (h1 : has bad x = false) (h : pl.all (cov1 bad x) = true) : covers pl bad x = true := by
  unfold covers; rw [h1, h]; rfl
set_option maxRecDepth 10000 in
set_option maxHeartbeats 4000000 in
theorem covered_any (A : Option Addr) (n c : Nat) (pl : List (List Int)) (P M : Int) (w : World) (hp : LiS w w.heap.size A n pl) (hn : n ≤ 12) (hw : ∀ l ∈ pl, l.length ≤ 12) :
    Calls Try.prog 26 #[.agg #[.int .i64 P, .int .i64 M], .slice A n c] w fun e w' => ∃ A' m' c', e = .returned (.tuple #[.slice A' m' c', .int .i64 (covR P M pl).2.1, .int .i64 (covR P M pl).2.2]) ∧ InS w' w'.heap.size A' m' (covR P M pl).1 ∧ Below w.heap.size w w' := by
  obtain ⟨W0, hWb⟩ : ∃ W0, w.alloc (.cells #[.int .i64 P, .int .i64 M] 23) = W0 := ⟨_, rfl⟩
  have bB : Blk W0 w.heap.size 23 #[.int .i64 P, .int .i64 M] := by rw [← hWb]; exact Blk.new' rfl
  have hbel : Below w.heap.size w W0 := by rw [← hWb]; exact (Below.refl _ _).alloc (Nat.le_refl _) _
  have hsz := hbel.size
  have lB := bB.lt
  have p0 := bB.cell 0
  have p1 := bB.cell 1
  have HP := hid (hp.below hbel hsz)
  clear hp
  by_cases hbd : checkPlan P M pl ≠ 0
  · have hR := hid (show covR P M pl = ([], 0, checkPlan P M pl) from if_pos hbd)
    have hbi : (checkPlan P M pl == 0) = false := by simpa using hbd
    have hbi2 : ¬ checkPlan P M pl = 0 := hbd
    have Hb := hid hbd
    clear hbd
    go_enter Try.func26, Try.ntmps26
    go_wp2_with (fail)
    refine (open_bad A n c pl P M _ (HP.out.below (by repeat' (first | with_reducible assumption | with_reducible exact Below.refl _ _ | refine Below.alloc ?_ ?_ _ | refine Below.setCell ?_ ?_ _ | refine Below.drew ?_ | refine below_drewN ?_ _ | (simp; done) | (simp; omega) | omega)) (by first | (simp; done) | (simp; omega) | omega)) hn hw Hb.out).mono ?_
    rintro e W1 ⟨rfl, hb⟩
    have hst : Below W0.heap.size W0 W1 := Below.trans (by repeat' (first | with_reducible assumption | with_reducible exact Below.refl _ _ | refine Below.alloc ?_ ?_ _ | refine Below.setCell ?_ ?_ _ | refine Below.drew ?_ | refine below_drewN ?_ _ | (simp; done) | (simp; omega) | omega)) (hb.mono (by first | (simp; done) | (simp; omega) | omega))
    replace hbel := hbel.trans (hst.mono hsz)
    replace hsz := hbel.size
    replace bB := bB.below hst bB.lt
    clear p0 p1 lB
    have p0 := bB.cell 0
    have p1 := bB.cell 1
    have lB := bB.lt
    try clear hWb
    replace HP := hid (HP.out.below hst hst.size)
    clear hb hst
    obtain ⟨W0, rfl⟩ : ∃ W0 : World, W0 = W1 := ⟨_, rfl⟩
    go_wp2
    refine bodyPost_ret (v := .tuple #[.slice none 0 0, .int .i64 0, .int .i64 (checkPlan P M pl)]) (by first | (simp [results, Try.results26, go_sem]; done) | (simp [results, Try.results26, go_sem, *]; done) | (simp [results, Try.results26, go_sem, World.cell?_setCell_same', *]; done) | (simp [results, Try.results26, go_sem]; first | exact ⟨rfl, rfl⟩ | rfl)) rfl ⟨none, 0, 0, by rw [hR.out]; rfl, by rw [hR.out]; exact Sl.none_, hbel⟩
  · have hb0 : checkPlan P M pl = 0 := by simpa using hbd
    obtain ⟨g1, g2, g3⟩ := plan_good hb0
    obtain ⟨g4, g5, g6, g7⟩ := book_good g1
    have Hb := hid hb0
    have hR : Hid (covR P M pl = match covF pl P.toNat (casesL P.toNat M.toNat) with | some (c, i) => (c, i, 0) | none => ([], 0, 5)) := hid (if_neg (by omega))
    obtain ⟨Pn, rfl⟩ : ∃ Pn : Nat, P = Pn := ⟨P.toNat, by omega⟩
    obtain ⟨Mn, rfl⟩ : ∃ Mn : Nat, M = Mn := ⟨M.toNat, by omega⟩
    rw [Int.toNat_natCast, Int.toNat_natCast] at hR
    have hcl := cases_len (P := Pn) (M := Mn) (by omega)
    have hcb := cases_bd (P := Pn) (M := Mn) (by omega) (by omega)
    have hcs := cases_short Pn Mn
    have hP8 : Pn ≤ 8 := by omega
    clear hbd hb0 g1 g3
    go_enter Try.func26, Try.ntmps26
    go_wp2_with (fail)
    refine (open_ok A n c pl Pn Mn _ (HP.out.below (by repeat' (first | with_reducible assumption | with_reducible exact Below.refl _ _ | refine Below.alloc ?_ ?_ _ | refine Below.setCell ?_ ?_ _ | refine Below.drew ?_ | refine below_drewN ?_ _ | (simp; done) | (simp; omega) | omega)) (by first | (simp; done) | (simp; omega) | omega)) hw Hb.out).mono ?_
    rintro e W1 ⟨g, mp, rfl, hB, hM0, hmm, hb⟩
    have hzz := hbel.size
    have hst : Below W0.heap.size W0 W1 := Below.trans (by repeat' (first | with_reducible assumption | with_reducible exact Below.refl _ _ | refine Below.alloc ?_ ?_ _ | refine Below.setCell ?_ ?_ _ | refine Below.drew ?_ | refine below_drewN ?_ _ | (simp; done) | (simp; omega) | omega)) (hb.mono (by first | (simp; done) | (simp; omega) | omega))
    replace hbel := hbel.trans (hst.mono hsz)
    replace hsz := hbel.size
    replace bB := bB.below hst bB.lt
    clear p0 p1 lB
    have p0 := bB.cell 0
    have p1 := bB.cell 1
    have lB := bB.lt
    try clear hWb
    replace HP := hid (HP.out.below hst hst.size)
    clear hmm
    have HBn := hid hB
    clear hB
    have HM0 := hid hM0
    clear hM0
    clear hb hst
    obtain ⟨W0, rfl⟩ : ∃ W0 : World, W0 = W1 := ⟨_, rfl⟩
    clear HM0
    obtain ⟨CL, hCL⟩ : ∃ CL, casesL Pn Mn = CL := ⟨_, rfl⟩
    rw [hCL] at HBn hcl hR hcb hcs
    have HCB := hid (show ∀ x ∈ CL, ∀ v ∈ x, 0 ≤ v ∧ v < 8 from fun x hx v hv => by have := hcb x hx v hv; omega)
    have HCS := hid hcs
    clear hCL hcb hcs
    have hB0 := HBn.out
    obtain ⟨A1, c1, A2, c2, hG, hC, hR8, hcap⟩ := hB0
    have HC := hid hC
    have HG := hid hG
    have HR := hid hR8
    have HbB := hid bB
    have q2 := hG.cell 2
    have lg := hG.lt
    clear hG hC hR8 HBn p0 p1 lB bB HP hcap
    obtain ⟨Wb, hWb2⟩ : ∃ Wb, Wb = W0 := ⟨_, rfl⟩
    subst hWb2
    go_wp2_with (fail)
    clear q2
    go_loopw [29] (fun i wr => ∃ k : Nat, k ≤ CL.length ∧ i = .int .i64 k ∧ Hid (covF pl Pn (CL.take k) = none) ∧ Below Wb.heap.size Wb wr) (fun i _ => CL.length - (intOf i).toNat)
    case atStart => exact ⟨0, by omega, rfl, hid rfl, Below.refl _ _⟩
    case round =>
      obtain ⟨k, hk, rfl, hno, hbw⟩ := hrel
      have hzw := hbw.size
      by_cases hlt : k < CL.length
      · obtain ⟨b0, off, x, A', m', c', rfl, hb0, hx, c0, hin, hin2⟩ := (HC.out.below hbw hzw).at_ hlt
        have HIn := hid hin
        have Hx := hid hx
        have hlti : (k : Int) < CL.length := by omega
        have hm' : m' ≤ 1000000 := by have := hin.len; have := HCS.out x (List.mem_of_getElem? hx); omega
        have Hxb := hid (HCB.out x (List.mem_of_getElem? hx))
        have bBr := HbB.out.below hbw HbB.out.lt
        have p0 := bBr.cell 0
        have lB := bBr.lt
        obtain ⟨Wk, hWk⟩ : ∃ Wk, Wk = wr := ⟨_, rfl⟩
        subst hWk
        clear hin hx hin2 bBr
        go_wp2_with (fail)
        go_step3
        go_wp2_with (fail)
        go_step3
        go_wp2_with (fail)
        clear c0 p0 lB
        go_loopw [35] (fun i wr => ∃ p : Nat, p ≤ Pn ∧ i = .int .i64 p ∧ Hid (covI pl x p = none) ∧ Below Wk.heap.size Wk wr) (fun i _ => Pn - (intOf i).toNat)
        case atStart => exact ⟨0, by omega, rfl, hid rfl, Below.refl _ _⟩
        case round =>
          obtain ⟨p, hp, rfl, hnp, hbp⟩ := hrel
          have hzp := hbp.size
          by_cases hltp : p < Pn
          · have hltpi : (p : Int) < Pn := by omega
            have hio := hid (HIn.out.below hbp hzp)
            cases hhp : has x (p : Int)
            · have Hhp := hid hhp
              clear hhp
              obtain ⟨Wp, hWp⟩ : ∃ Wp, Wp = wr := ⟨_, rfl⟩
              subst hWp
              have hbbp : Below Wb.heap.size Wb Wp := hbw.trans (hbp.mono hzw)
              have q3b := (HG.out.below hbbp lg).cell 3
              have lgp : g < Wp.heap.size := Nat.lt_of_lt_of_le lg hbbp.size
              go_wp2_with (first | (go_at_call 73; refine (contains_any A' m' c' x (p : Int) _ hio.out hm').mono ?_; rw [Hhp.out]; rintro e w5 ⟨rfl, rfl⟩) | (go_at_call 74; refine (marked_any A' m' c' x _ hio.out hm' Hxb.out).mono ?_; simp only [mkA]; rintro e W5 ⟨rfl, hb5⟩; obtain ⟨T12, hT12⟩ : ∃ T12, W5.heap.size = T12 := ⟨_, rfl⟩; obtain ⟨Wc, hWc⟩ : ∃ Wc, W5.alloc (.cells #[mk1 x 0, mk1 x 1, mk1 x 2, mk1 x 3, mk1 x 4, mk1 x 5, mk1 x 6, mk1 x 7] 82) = Wc := ⟨_, rfl⟩; have hbc : Below W5.heap.size W5 Wc := (by rw [← hWc]; exact (Below.refl _ _).alloc (Nat.le_refl _) _); have B12 : Blk Wc T12 82 (mkA x) := (by rw [← hWc]; exact Blk.new' hT12); have hbpc : Below Wp.heap.size Wp Wc := hb5.trans (hbc.mono hb5.size); have q3 := (HG.out.below (hbbp.trans (hbpc.mono hbbp.size)) lg).cell 3; have lgc : g < Wc.heap.size := Nat.lt_of_lt_of_le lgp hbpc.size))
              clear q3 q3b hWc
              have H12 := hid B12
              have hzc := hbpc.size
              have hbkc : Below Wk.heap.size Wk Wc := hbp.trans (hbpc.mono hzp)
              have hbbc : Below Wb.heap.size Wb Wc := hbbp.trans (hbpc.mono hbbp.size)
              have hzkc := hbkc.size
              have hzbc := hbbc.size
              clear B12 hb5 hbc
              go_loopw [48] (fun i wr => ∃ q : Nat, q ≤ pl.length ∧ i = .int .i64 q ∧ Hid ((pl.take q).all (cov1 x (p : Int)) = true) ∧ Below Wc.heap.size Wc wr) (fun i _ => pl.length - (intOf i).toNat)
              case atStart => exact ⟨0, by omega, rfl, hid rfl, Below.refl _ _⟩
              case round =>
                obtain ⟨q, hq, rfl, hall, hbq⟩ := hrel
                have hzq := hbq.size
                by_cases hltq : q < pl.length
                · obtain ⟨r, hr⟩ : ∃ r, pl[q]? = some r := ⟨_, List.getElem?_eq_getElem hltq⟩
                  have hltqi : (q : Int) < pl.length := by omega
                  obtain ⟨b1, o1, hA2, hb1, hcs1⟩ := rods_at HR.out hr
                  subst hA2
                  have hbbq : Below Wb.heap.size Wb wr := hbbc.trans (hbq.mono hzbc)
                  have hb1w : b1 < wr.heap.size := by have := hbbq.size; omega
                  have hcw : ∀ i, i < 8 → wr.cell? ⟨b1, o1 + q * 8 + i, none⟩ = some (mk1 r i) := fun i hi => (hbbq.cell (p := ⟨b1, o1 + q * 8 + i, none⟩) hb1).trans (hcs1 i hi)
                  have e0 := hcw 0 (by omega)
                  have e1 := hcw 1 (by omega)
                  have e2 := hcw 2 (by omega)
                  have e3 := hcw 3 (by omega)
                  have e4 := hcw 4 (by omega)
                  have e5 := hcw 5 (by omega)
                  have e6 := hcw 6 (by omega)
                  have e7 := hcw 7 (by omega)
                  rw [Nat.add_zero] at e0
                  clear hcw hcs1
                  obtain ⟨T14, hT14⟩ : ∃ T14, wr.heap.size = T14 := ⟨_, rfl⟩
                  obtain ⟨Wd, hWd⟩ : ∃ Wd, wr.alloc (.cells #[mk1 r 0, mk1 r 1, mk1 r 2, mk1 r 3, mk1 r 4, mk1 r 5, mk1 r 6, mk1 r 7] 82) = Wd := ⟨_, rfl⟩
                  have hbd : Below wr.heap.size wr Wd := by rw [← hWd]; exact (Below.refl _ _).alloc (Nat.le_refl _) _
                  have B14 : Blk Wd T14 82 (mkA r) := by rw [← hWd]; exact Blk.new' hT14
                  have hbcd : Below Wc.heap.size Wc Wd := hbq.trans (hbd.mono hzq)
                  have B12d : Blk Wd T12 82 (mkA x) := H12.out.below hbcd H12.out.lt
                  have l14 := B14.lt
                  have l12 := B12d.lt
                  have hp14 : Wd.cell? ⟨T14, p, none⟩ = some (mk1 r p) := (B14.cell p).trans (mkA_at (by omega))
                  have Hr := hid hr
                  have hbkd : Below Wk.heap.size Wk Wd := hbkc.trans (hbcd.mono hzkc)
                  have hzd := hbkd.size
                  have hzcd := hbcd.size
                  cases hrp : has r (p : Int)
                  · have hc := hid (all_take_succ hall.out Hr.out (cov1_t (bad := x) (x := (p : Int)) (.inl hrp)))
                    rw [show mk1 r p = .int .i64 0 by unfold mk1; rw [hrp]; rfl] at hp14
                    clear hrp hr
                    go_wp2
                    (first | exact ⟨⟨q + 1, by omega, by go_num, hc, hbcd⟩, (by first | (simp [intOf]; omega) | (simp [intOf]; done))⟩ | (refine ⟨?_, ?_⟩; (focus ((repeat apply Exists.intro); refine ⟨?_, rfl⟩; exact ⟨q + 1, by omega, by go_num, hc, hbcd⟩)); (first | (simp [intOf]; omega) | (simp [intOf]; done))))
                  · rw [show mk1 r p = .int .i64 1 by unfold mk1; rw [hrp]; rfl] at hp14
                    have f0 := B12d.cell 0
                    have f1 := B12d.cell 1
                    have f2 := B12d.cell 2
                    have f3 := B12d.cell 3
                    have f4 := B12d.cell 4
                    have f5 := B12d.cell 5
                    have f6 := B12d.cell 6
                    have f7 := B12d.cell 7
                    have h0 := B14.cell 0
                    have h1 := B14.cell 1
                    have h2 := B14.cell 2
                    have h3 := B14.cell 3
                    have h4 := B14.cell 4
                    have h5 := B14.cell 5
                    have h6 := B14.cell 6
                    have h7 := B14.cell 7
                    simp only [mkA, List.getElem?_toArray, List.getElem?_cons_zero, List.getElem?_cons_succ] at f0 f1 f2 f3 f4 f5 f6 f7 h0 h1 h2 h3 h4 h5 h6 h7
                    have hmm : (List.range 8).any (meetAt r x) = meet r x := meet_marks' Hxb.out
                    cases hmt : meet r x
                    · have hcv := hid (covI_next hnp.out (covers_no Hr.out (cov1_f hrp hmt)))
                      have Hmt := hid (hmm.trans hmt)
                      clear hmm hmt hrp hr
                      go_wp2_with (go_at_call 75; refine (meets_any r x _).mono ?_; rw [Hmt.out]; rintro e W9 ⟨rfl, hb9⟩)
                      have hbk9 : Below Wk.heap.size Wk W9 := hbkd.trans (hb9.mono hzd)
                      (first | exact ⟨⟨p + 1, by omega, by go_num, hcv, hbk9⟩, (by first | (simp [intOf]; omega) | (simp [intOf]; done))⟩ | (refine ⟨?_, ?_⟩; (focus ((repeat apply Exists.intro); refine ⟨?_, rfl⟩; exact ⟨p + 1, by omega, by go_num, hcv, hbk9⟩)); (first | (simp [intOf]; omega) | (simp [intOf]; done))))
                    · have hc := hid (all_take_succ hall.out Hr.out (cov1_t (bad := x) (x := (p : Int)) (.inr hmt)))
                      have Hmt := hid (hmm.trans hmt)
                      clear hmm hmt hrp hr
                      go_wp2_with (go_at_call 75; refine (meets_any r x _).mono ?_; rw [Hmt.out]; rintro e W9 ⟨rfl, hb9⟩)
                      have hbc9 : Below Wc.heap.size Wc W9 := hbcd.trans (hb9.mono hzcd)
                      (first | exact ⟨⟨q + 1, by omega, by go_num, hc, hbc9⟩, (by first | (simp [intOf]; omega) | (simp [intOf]; done))⟩ | (refine ⟨?_, ?_⟩; (focus ((repeat apply Exists.intro); refine ⟨?_, rfl⟩; exact ⟨q + 1, by omega, by go_num, hc, hbc9⟩)); (first | (simp [intOf]; omega) | (simp [intOf]; done))))
                · have hqe : pl.length = q := by omega
                  have hltqi : ¬ (q : Int) < pl.length := by omega
                  have hall2 : pl.all (cov1 x (p : Int)) = true := by have := hall.out; rwa [← hqe, List.take_length] at this
                  have hhit := covF_hit hno.out Hx.out (covI_hit hnp.out (covers_yes Hhp.out hall2) hltp)
                  have hR2 : Hid (covR Pn Mn pl = (x, p, 0)) := hid (by rw [hR.out, hhit])
                  have hbf : Below w.heap.size w wr := hbel.trans ((hbbc.trans (hbq.mono hzbc)).mono hsz)
                  have hio2 := hid (HIn.out.below (hbkc.trans (hbq.mono hzkc)) (hbkc.trans (hbq.mono hzkc)).size)
                  have Hqe := hid hqe
                  clear hall2 hhit hqe
                  go_wp2
                  refine bodyPost_ret (v := .tuple #[.slice A' m' c', .int .i64 (p : Int), .int .i64 0]) (by first | (simp [results, Try.results26, go_sem]; done) | (simp [results, Try.results26, go_sem, *]; done) | (simp [results, Try.results26, go_sem, World.cell?_setCell_same', *]; done) | (simp [results, Try.results26, go_sem]; first | exact ⟨rfl, rfl⟩ | rfl)) rfl ⟨A', m', c', by rw [hR2.out], by rw [hR2.out]; exact hio2.out, hbf⟩
            · have hcv := hid (covI_next hnp.out (covers_in (pl := pl) hhp))
              have Hhp := hid hhp
              clear hhp
              go_wp2_with (go_at_call 73; refine (contains_any A' m' c' x (p : Int) _ hio.out hm').mono ?_; rw [Hhp.out]; rintro e w5 ⟨rfl, rfl⟩)
              (first | exact ⟨⟨p + 1, by omega, by go_num, hcv, hbp⟩, (by first | (simp [intOf]; omega) | (simp [intOf]; done))⟩ | (refine ⟨?_, ?_⟩; (focus ((repeat apply Exists.intro); refine ⟨?_, rfl⟩; exact ⟨p + 1, by omega, by go_num, hcv, hbp⟩)); (first | (simp [intOf]; omega) | (simp [intOf]; done))))
          · obtain rfl : Pn = p := by omega
            have hltpi : ¬ (Pn : Int) < Pn := by omega
            have hnx := hid (covF_next hno.out Hx.out hnp.out)
            have hbb : Below Wb.heap.size Wb wr := hbw.trans (hbp.mono hzw)
            go_wp2
            (first | exact ⟨⟨k + 1, by omega, by go_num, hnx, hbb⟩, (by first | (simp [intOf]; omega) | (simp [intOf]; done))⟩ | (refine ⟨?_, ?_⟩; (focus ((repeat apply Exists.intro); refine ⟨?_, rfl⟩; exact ⟨k + 1, by omega, by go_num, hnx, hbb⟩)); (first | (simp [intOf]; omega) | (simp [intOf]; done))))
      · have hke : CL.length = k := by omega
        have hlti : ¬ (k : Int) < CL.length := by omega
        have hno2 := hno.out
        rw [← hke, List.take_length] at hno2
        have hR2 : Hid (covR Pn Mn pl = ([], 0, 5)) := hid (by rw [hR.out, hno2])
        have hbf : Below w.heap.size w wr := hbel.trans (hbw.mono hsz)
        clear hke hno2
        go_wp2
        refine bodyPost_ret (v := .tuple #[.slice none 0 0, .int .i64 0, .int .i64 5]) (by first | (simp [results, Try.results26, go_sem]; done) | (simp [results, Try.results26, go_sem, *]; done) | (simp [results, Try.results26, go_sem, World.cell?_setCell_same', *]; done) | (simp [results, Try.results26, go_sem]; first | exact ⟨rfl, rfl⟩ | rfl)) rfl ⟨none, 0, ⟨0, by rw [hR2.out]; rfl⟩, by rw [hR2.out]; exact Sl.none_, hbf⟩
    
set_option maxRecDepth 10000 in
set_option maxHeartbeats 4000000 in
theorem checkPlain_any (A : Option Addr) (n c : Nat) (pl : List (List Int)) (P M : Int) (w : World) (hp : LiS w w.heap.size A n pl) (hn : n ≤ 12) (hw : ∀ l ∈ pl, l.length ≤ 12) :
    Calls Try.prog 30 #[.agg #[.int .i64 P, .int .i64 M], .slice A n c] w fun e w' => e = .returned (.int .i64 (plainE P M pl)) ∧ Below w.heap.size w w' := by
  obtain ⟨W0, hWb⟩ : ∃ W0, w.alloc (.cells #[.int .i64 P, .int .i64 M] 23) = W0 := ⟨_, rfl⟩
  have bB : Blk W0 w.heap.size 23 #[.int .i64 P, .int .i64 M] := by rw [← hWb]; exact Blk.new' rfl
  have hbel : Below w.heap.size w W0 := by rw [← hWb]; exact (Below.refl _ _).alloc (Nat.le_refl _) _
  have hsz := hbel.size
  have lB := bB.lt
  have p0 := bB.cell 0
  have p1 := bB.cell 1
  have HP := hid (hp.below hbel hsz)
  clear hp
  obtain ⟨av, hav⟩ : ∃ av, (covR P M pl).2.2 = av := ⟨_, rfl⟩
  have hE : Hid (plainE P M pl = if av = 0 then 16 else if av = 5 then 0 else av) := hid (by rw [← hav]; rfl)
  have Hav := hid hav
  clear hav
  by_cases h0 : av = 0
  · have hE2 := hid (hE.out.trans (if_pos h0))
    subst h0
    go_enter Try.func30, Try.ntmps30
    go_wp2_with (fail)
    refine (covered_any A n c pl P M _ (HP.out.below (by repeat' (first | with_reducible assumption | with_reducible exact Below.refl _ _ | refine Below.alloc ?_ ?_ _ | refine Below.setCell ?_ ?_ _ | refine Below.drew ?_ | refine below_drewN ?_ _ | (simp; done) | (simp; omega) | omega)) (by first | (simp; done) | (simp; omega) | omega)) hn hw).mono ?_
    rw [Hav.out]
    rintro e W1 ⟨A1, m1, c1, rfl, -, hb⟩
    have hst : Below W0.heap.size W0 W1 := Below.trans (by repeat' (first | with_reducible assumption | with_reducible exact Below.refl _ _ | refine Below.alloc ?_ ?_ _ | refine Below.setCell ?_ ?_ _ | refine Below.drew ?_ | refine below_drewN ?_ _ | (simp; done) | (simp; omega) | omega)) (hb.mono (by first | (simp; done) | (simp; omega) | omega))
    replace hbel := hbel.trans (hst.mono hsz)
    replace hsz := hbel.size
    replace bB := bB.below hst bB.lt
    clear p0 p1 lB
    have p0 := bB.cell 0
    have p1 := bB.cell 1
    have lB := bB.lt
    try clear hWb
    replace HP := hid (HP.out.below hst hst.size)
    clear hb hst
    obtain ⟨W0, rfl⟩ : ∃ W0 : World, W0 = W1 := ⟨_, rfl⟩
    go_wp2
    refine bodyPost_ret (v := .int .i64 16) (by first | (simp [results, Try.results30, go_sem]; done) | (simp [results, Try.results30, go_sem, *]; done) | (simp [results, Try.results30, go_sem, World.cell?_setCell_same', *]; done) | (simp [results, Try.results30, go_sem]; first | exact ⟨rfl, rfl⟩ | rfl)) rfl ⟨by rw [hE2.out], hbel⟩
  · by_cases h5 : av = 5
    · have hE2 := hid (hE.out.trans ((if_neg h0).trans (if_pos h5)))
      subst h5
      go_enter Try.func30, Try.ntmps30
      go_wp2_with (fail)
      refine (covered_any A n c pl P M _ (HP.out.below (by repeat' (first | with_reducible assumption | with_reducible exact Below.refl _ _ | refine Below.alloc ?_ ?_ _ | refine Below.setCell ?_ ?_ _ | refine Below.drew ?_ | refine below_drewN ?_ _ | (simp; done) | (simp; omega) | omega)) (by first | (simp; done) | (simp; omega) | omega)) hn hw).mono ?_
      rw [Hav.out]
      rintro e W1 ⟨A1, m1, c1, rfl, -, hb⟩
      have hst : Below W0.heap.size W0 W1 := Below.trans (by repeat' (first | with_reducible assumption | with_reducible exact Below.refl _ _ | refine Below.alloc ?_ ?_ _ | refine Below.setCell ?_ ?_ _ | refine Below.drew ?_ | refine below_drewN ?_ _ | (simp; done) | (simp; omega) | omega)) (hb.mono (by first | (simp; done) | (simp; omega) | omega))
      replace hbel := hbel.trans (hst.mono hsz)
      replace hsz := hbel.size
      replace bB := bB.below hst bB.lt
      clear p0 p1 lB
      have p0 := bB.cell 0
      have p1 := bB.cell 1
      have lB := bB.lt
      try clear hWb
      replace HP := hid (HP.out.below hst hst.size)
      clear hb hst
      obtain ⟨W0, rfl⟩ : ∃ W0 : World, W0 = W1 := ⟨_, rfl⟩
      go_wp2
      refine bodyPost_ret (v := .int .i64 0) (by first | (simp [results, Try.results30, go_sem]; done) | (simp [results, Try.results30, go_sem, *]; done) | (simp [results, Try.results30, go_sem, World.cell?_setCell_same', *]; done) | (simp [results, Try.results30, go_sem]; first | exact ⟨rfl, rfl⟩ | rfl)) rfl ⟨by rw [hE2.out], hbel⟩
    · have hE2 := hid (hE.out.trans ((if_neg h0).trans (if_neg h5)))
      have t0 : (av == 0) = false := by simpa using h0
      have t5 : (av == 5) = false := by simpa using h5
      go_enter Try.func30, Try.ntmps30
      go_wp2_with (fail)
      refine (covered_any A n c pl P M _ (HP.out.below (by repeat' (first | with_reducible assumption | with_reducible exact Below.refl _ _ | refine Below.alloc ?_ ?_ _ | refine Below.setCell ?_ ?_ _ | refine Below.drew ?_ | refine below_drewN ?_ _ | (simp; done) | (simp; omega) | omega)) (by first | (simp; done) | (simp; omega) | omega)) hn hw).mono ?_
      rw [Hav.out]
      rintro e W1 ⟨A1, m1, c1, rfl, -, hb⟩
      have hst : Below W0.heap.size W0 W1 := Below.trans (by repeat' (first | with_reducible assumption | with_reducible exact Below.refl _ _ | refine Below.alloc ?_ ?_ _ | refine Below.setCell ?_ ?_ _ | refine Below.drew ?_ | refine below_drewN ?_ _ | (simp; done) | (simp; omega) | omega)) (hb.mono (by first | (simp; done) | (simp; omega) | omega))
      replace hbel := hbel.trans (hst.mono hsz)
      replace hsz := hbel.size
      replace bB := bB.below hst bB.lt
      clear p0 p1 lB
      have p0 := bB.cell 0
      have p1 := bB.cell 1
      have lB := bB.lt
      try clear hWb
      replace HP := hid (HP.out.below hst hst.size)
      clear hb hst
      obtain ⟨W0, rfl⟩ : ∃ W0 : World, W0 = W1 := ⟨_, rfl⟩
      go_wp2
      refine bodyPost_ret (v := .int .i64 av) (by first | (simp [results, Try.results30, go_sem]; done) | (simp [results, Try.results30, go_sem, *]; done) | (simp [results, Try.results30, go_sem, World.cell?_setCell_same', *]; done) | (simp [results, Try.results30, go_sem]; first | exact ⟨rfl, rfl⟩ | rfl)) rfl ⟨by rw [hE2.out], hbel⟩
end Go.Proofs.Ytpgdfipikfbjeaa
/- Walks: Suspects. -/
namespace Go.Proofs.Ytpgdfipikfbjeaa
open Go.RowKit Go.Shelf
attribute [local go_sem] Oper.semAt_some
/-- How many of the first k rods are good and have the plate. -/
def gcN (pl : List (List Int)) (r : List Int) (k : Nat) (x : Int) : Nat := (((pl.zip r).take k).filter (good1 x)).length
theorem gcN_next {pl : List (List Int)} {r rk : List Int} {v : Int} {k : Nat} (h1 : pl[k]? = some rk) (h2 : r[k]? = some v) (x : Int) : gcN pl r (k + 1) x = gcN pl r k x + if good1 x (rk, v) then 1 else 0 := by
  unfold gcN
  have hz : (pl.zip r)[k]? = some (rk, v) := List.getElem?_zip_eq_some.2 ⟨h1, h2⟩
  rw [filt_next hz, List.length_append]
  split <;> rfl
theorem gcN_le (pl : List (List Int)) (r : List Int) (k : Nat) (x : Int) : gcN pl r k x ≤ k := by
  unfold gcN
  refine Nat.le_trans (List.length_filter_le _ _) ?_
  rw [List.length_take]; omega
theorem gcN_goodP {pl : List (List Int)} {r : List Int} {k : Nat} (h1 : pl.length = k) (h2 : r.length = k) (x : Int) : goodP pl r x = decide (gcN pl r k x ≠ 0) := by
  unfold goodP gcN
  rw [List.take_of_length_le (by rw [List.length_zip]; omega)]
  cases h : (pl.zip r).any (good1 x)
  · rw [List.any_eq_false] at h
    rw [List.filter_eq_nil_iff.2 (fun p hp => by simpa using h p hp)]; rfl
  · obtain ⟨p, hp, hg⟩ := List.any_eq_true.1 h
    have : 0 < ((pl.zip r).filter (good1 x)).length := List.length_pos_of_mem (List.mem_filter.2 ⟨hp, hg⟩)
    rw [decide_eq_true (by omega)]
/-- Eight numbers in cells. -/
def gA (f : Nat → Nat) : Array Value := #[.int .i64 (f 0 : Nat), .int .i64 (f 1 : Nat), .int .i64 (f 2 : Nat), .int .i64 (f 3 : Nat), .int .i64 (f 4 : Nat), .int .i64 (f 5 : Nat), .int .i64 (f 6 : Nat), .int .i64 (f 7 : Nat)]
theorem gA_at (f : Nat → Nat) {p : Nat} (hp : p < 8) : (gA f)[p]? = some (.int .i64 (f p : Nat)) := by
  have hc : p = 0 ∨ p = 1 ∨ p = 2 ∨ p = 3 ∨ p = 4 ∨ p = 5 ∨ p = 6 ∨ p = 7 := by omega
  rcases hc with rfl | rfl | rfl | rfl | rfl | rfl | rfl | rfl <;> rfl
theorem gA_set (f : Nat → Nat) {p : Nat} (hp : p < 8) (v : Nat) : (gA f).setIfInBounds p (.int .i64 (v : Int)) = gA (fun x => if x = p then v else f x) := by
  have hc : p = 0 ∨ p = 1 ∨ p = 2 ∨ p = 3 ∨ p = 4 ∨ p = 5 ∨ p = 6 ∨ p = 7 := by omega
  rcases hc with rfl | rfl | rfl | rfl | rfl | rfl | rfl | rfl <;> rfl
theorem gA_congr {f h : Nat → Nat} (e : ∀ x, x < 8 → f x = h x) : gA f = gA h := by
  unfold gA
  rw [e 0 (by omega), e 1 (by omega), e 2 (by omega), e 3 (by omega), e 4 (by omega), e 5 (by omega), e 6 (by omega), e 7 (by omega)]
/-- While rod k is under way, at plate p. -/
def gpN (pl : List (List Int)) (r : List Int) (k p x : Nat) : Nat := if x < p then gcN pl r (k + 1) x else gcN pl r k x
theorem gpN_zero (pl : List (List Int)) (r : List Int) (k : Nat) : gA (gpN pl r k 0) = gA (fun x => gcN pl r k x) := gA_congr (fun x _ => by simp [gpN])
theorem gpN_full (pl : List (List Int)) (r : List Int) (k : Nat) : gA (gpN pl r k 8) = gA (fun x => gcN pl r (k + 1) x) := gA_congr (fun x hx => by simp [gpN, hx])
theorem gpN_step (pl : List (List Int)) (r : List Int) (k p : Nat) (hp : p < 8) : (gA (gpN pl r k p)).setIfInBounds p (.int .i64 (gcN pl r (k + 1) p : Nat)) = gA (gpN pl r k (p + 1)) := by
  rw [gA_set _ hp]
  refine gA_congr fun x _ => ?_
  unfold gpN
  by_cases e : x = p
  · subst e; simp
  · rw [if_neg e]
    by_cases h : x < p
    · rw [if_pos h, if_pos (by omega)]
    · rw [if_neg h, if_neg (by omega)]
theorem gpN_at (pl : List (List Int)) (r : List Int) (k p : Nat) : gpN pl r k p p = gcN pl r k p := by simp [gpN]
set_option maxRecDepth 10000 in
set_option maxHeartbeats 4000000 in
theorem suspects_any (A B : Option Addr) (n c m d : Nat) (pl : List (List Int)) (r : List Int) (P M : Int) (w : World) (hp : LiS w w.heap.size A n pl) (hb : InS w w.heap.size B m r) (hn : n ≤ 12) (hw : ∀ l ∈ pl, l.length ≤ 12) :
    Calls Try.prog 28 #[.agg #[.int .i64 P, .int .i64 M], .slice A n c, .slice B m d] w fun e w' => ∃ A' n' c', e = .returned (.tuple #[.slice A' n' c', .int .i64 (errR P M pl r)]) ∧ InS w' w'.heap.size A' n' (susV P M pl r) ∧ Below w.heap.size w w' := by
  have hlr := hb.len
  obtain ⟨W0, hWb⟩ : ∃ W0, w.alloc (.cells #[.int .i64 P, .int .i64 M] 23) = W0 := ⟨_, rfl⟩
  have bB : Blk W0 w.heap.size 23 #[.int .i64 P, .int .i64 M] := by rw [← hWb]; exact Blk.new' rfl
  have hbel : Below w.heap.size w W0 := by rw [← hWb]; exact (Below.refl _ _).alloc (Nat.le_refl _) _
  have hsz := hbel.size
  have lB := bB.lt
  have p0 := bB.cell 0
  have p1 := bB.cell 1
  have HP := hid (hp.below hbel hsz)
  clear hp
  have HB := hid (hb.below hbel hsz)
  clear hb
  by_cases hbd : errR P M pl r ≠ 0
  · have hV := hid (show susV P M pl r = [] from if_neg hbd)
    have hbi : (errR P M pl r == 0) = false := by simpa using hbd
    have hbi2 : ¬ errR P M pl r = 0 := hbd
    have Hb := hid hbd
    clear hbd
    go_enter Try.func28, Try.ntmps28
    go_wp2_with (fail)
    refine (seen_bad A B n c m d pl r P M _ (HP.out.below (by repeat' (first | with_reducible assumption | with_reducible exact Below.refl _ _ | refine Below.alloc ?_ ?_ _ | refine Below.setCell ?_ ?_ _ | refine Below.drew ?_ | refine below_drewN ?_ _ | (simp; done) | (simp; omega) | omega)) (by first | (simp; done) | (simp; omega) | omega)) (HB.out.below (by repeat' (first | with_reducible assumption | with_reducible exact Below.refl _ _ | refine Below.alloc ?_ ?_ _ | refine Below.setCell ?_ ?_ _ | refine Below.drew ?_ | refine below_drewN ?_ _ | (simp; done) | (simp; omega) | omega)) (by first | (simp; done) | (simp; omega) | omega)) hn hw Hb.out).mono ?_
    rintro e W1 ⟨rfl, hb⟩
    have hst : Below W0.heap.size W0 W1 := Below.trans (by repeat' (first | with_reducible assumption | with_reducible exact Below.refl _ _ | refine Below.alloc ?_ ?_ _ | refine Below.setCell ?_ ?_ _ | refine Below.drew ?_ | refine below_drewN ?_ _ | (simp; done) | (simp; omega) | omega)) (hb.mono (by first | (simp; done) | (simp; omega) | omega))
    replace hbel := hbel.trans (hst.mono hsz)
    replace hsz := hbel.size
    replace bB := bB.below hst bB.lt
    clear p0 p1 lB
    have p0 := bB.cell 0
    have p1 := bB.cell 1
    have lB := bB.lt
    try clear hWb
    replace HP := hid (HP.out.below hst hst.size)
    replace HB := hid (HB.out.below hst hst.size)
    clear hb hst
    obtain ⟨W0, rfl⟩ : ∃ W0 : World, W0 = W1 := ⟨_, rfl⟩
    go_wp2
    refine bodyPost_ret (v := .tuple #[.slice none 0 0, .int .i64 (errR P M pl r)]) (by first | (simp [results, Try.results28, go_sem]; done) | (simp [results, Try.results28, go_sem, *]; done) | (simp [results, Try.results28, go_sem, World.cell?_setCell_same', *]; done) | (simp [results, Try.results28, go_sem]; first | exact ⟨rfl, rfl⟩ | rfl)) rfl ⟨none, 0, 0, rfl, by rw [hV.out]; exact Sl.none_, hbel⟩
  · have hb0 : errR P M pl r = 0 := by simpa using hbd
    obtain ⟨k1, k2, k3⟩ := errR_zero hb0
    obtain ⟨g1, g2, g3⟩ := plan_good k1
    obtain ⟨g4, g5, g6, g7⟩ := book_good g1
    have hV := hid (show susV P M pl r = susL pl r P.toNat from if_pos hb0)
    obtain ⟨Pn, rfl⟩ : ∃ Pn : Nat, P = Pn := ⟨P.toNat, by omega⟩
    obtain ⟨Mn, rfl⟩ : ∃ Mn : Nat, M = Mn := ⟨M.toNat, by omega⟩
    rw [Int.toNat_natCast] at hV
    have Hb := hid hb0
    rw [hb0]
    have hP8 : Pn ≤ 8 := by omega
    have hrm : r.length = m := hlr
    have hr01 : ∀ v ∈ r, v = 0 ∨ v = 1 := fun v hv => by
      have := inR_t.1 (List.all_eq_true.1 k3 v hv); omega
    have Hr01 := hid hr01
    have hpm : pl.length = m := by omega
    have Hpm := hid hpm
    have Hrm := hid hrm
    obtain ⟨i0, hi0, hi1, hi2, hi3⟩ := info_parts' info3
    have I0 := hid hi0; have I1 := hid hi1; have I2 := hid hi2; have I3 := hid hi3
    clear hi0 hi1 hi2 hi3 hbd hb0 g1 g3 k1 k2 k3 hr01 hrm hlr
    go_enter Try.func28, Try.ntmps28
    go_wp2_with (fail)
    refine (seen_ok A B n c m d pl r Pn Mn _ (HP.out.below (by repeat' (first | with_reducible assumption | with_reducible exact Below.refl _ _ | refine Below.alloc ?_ ?_ _ | refine Below.setCell ?_ ?_ _ | refine Below.drew ?_ | refine below_drewN ?_ _ | (simp; done) | (simp; omega) | omega)) (by first | (simp; done) | (simp; omega) | omega)) (HB.out.below (by repeat' (first | with_reducible assumption | with_reducible exact Below.refl _ _ | refine Below.alloc ?_ ?_ _ | refine Below.setCell ?_ ?_ _ | refine Below.drew ?_ | refine below_drewN ?_ _ | (simp; done) | (simp; omega) | omega)) (by first | (simp; done) | (simp; omega) | omega)) hn hw Hb.out).mono ?_
    rintro e W1 ⟨g, mp, rfl, hB, hM0, hmm, hb⟩
    have hzz := hbel.size
    have hst : Below W0.heap.size W0 W1 := Below.trans (by repeat' (first | with_reducible assumption | with_reducible exact Below.refl _ _ | refine Below.alloc ?_ ?_ _ | refine Below.setCell ?_ ?_ _ | refine Below.drew ?_ | refine below_drewN ?_ _ | (simp; done) | (simp; omega) | omega)) (hb.mono (by first | (simp; done) | (simp; omega) | omega))
    replace hbel := hbel.trans (hst.mono hsz)
    replace hsz := hbel.size
    replace bB := bB.below hst bB.lt
    clear p0 p1 lB
    have p0 := bB.cell 0
    have p1 := bB.cell 1
    have lB := bB.lt
    try clear hWb
    replace HP := hid (HP.out.below hst hst.size)
    replace HB := hid (HB.out.below hst hst.size)
    clear hmm hM0
    have HBn := hid hB
    clear hB
    clear hb hst
    obtain ⟨W0, rfl⟩ : ∃ W0 : World, W0 = W1 := ⟨_, rfl⟩
    have hB0 := HBn.out
    obtain ⟨A1, c1, A2, c2, hG, hC, hR8, hcap⟩ := hB0
    obtain ⟨T10, hT10⟩ : ∃ T10, W0.heap.size = T10 := ⟨_, rfl⟩
    obtain ⟨W2, hW2⟩ : ∃ W2, W0.alloc (.cells #[.int .i64 0, .int .i64 0, .int .i64 0, .int .i64 0, .int .i64 0, .int .i64 0, .int .i64 0, .int .i64 0] 82) = W2 := ⟨_, rfl⟩
    have hb2 : Below W0.heap.size W0 W2 := by rw [← hW2]; exact (Below.refl _ _).alloc (Nat.le_refl _) _
    have B10 : Blk W2 T10 82 (gA fun x => gcN pl r 0 x) := by rw [← hW2]; exact Blk.new' hT10
    have HG := hid hG
    have HR := hid hR8
    have HbB := hid bB
    have HBI := HB
    have q3 := (hG.below hb2 hG.lt).cell 3
    have lg := hG.lt
    have lg2 := Nat.lt_of_lt_of_le lg hb2.size
    have hbel2 : Below w.heap.size w W2 := hbel.trans (hb2.mono hsz)
    have hsz2 := hbel2.size
    have hT102 : T10 < W2.heap.size := B10.lt
    have hw10 : w.heap.size ≤ T10 := by omega
    have HB10 := hid B10
    clear hG hC hR8 HBn p0 p1 lB bB HP HB hcap B10
    go_wp2_with (fail)
    clear q3 hW2
    obtain ⟨Wb, hWb9⟩ : ∃ Wb, Wb = W0 := ⟨_, rfl⟩
    subst hWb9
    go_loopw [32] (fun i wr => ∃ k : Nat, k ≤ m ∧ i = .int .i64 k ∧ Hid (Blk wr T10 82 (gA fun x => gcN pl r k x)) ∧ W2.grownBy wr (some T10)) (fun i _ => m - (intOf i).toNat)
    case atStart => exact ⟨0, by omega, rfl, HB10, grownM_below (Below.refl _ _)⟩
    case round =>
      obtain ⟨k, hk, rfl, H10, hgw⟩ := hrel
      have hzw := hgw.size
      have hbw : Below Wb.heap.size Wb wr := hb2.trans (below_grownM (hT10 ▸ hgw) (by omega))
      have hzb := hbw.size
      by_cases hlt : k < m
      · obtain ⟨q, hq⟩ : ∃ q, pl[k]? = some q := ⟨_, List.getElem?_eq_getElem (by have := Hpm.out; omega)⟩
        have hlti : (k : Int) < m := by omega
        have hlti2 : (k : Int) < pl.length := by have := Hpm.out; omega
        obtain ⟨b1, o1, hA2, hb1, hcs1⟩ := rods_at HR.out hq
        subst hA2
        have hb1w : b1 < wr.heap.size := by omega
        have hcw : ∀ i, i < 8 → wr.cell? ⟨b1, o1 + k * 8 + i, none⟩ = some (mk1 q i) := fun i hi => (hbw.cell (p := ⟨b1, o1 + k * 8 + i, none⟩) hb1).trans (hcs1 i hi)
        have e0 := hcw 0 (by omega)
        have e1 := hcw 1 (by omega)
        have e2 := hcw 2 (by omega)
        have e3 := hcw 3 (by omega)
        have e4 := hcw 4 (by omega)
        have e5 := hcw 5 (by omega)
        have e6 := hcw 6 (by omega)
        have e7 := hcw 7 (by omega)
        rw [Nat.add_zero] at e0
        clear hcw hcs1
        obtain ⟨T12, hT12⟩ : ∃ T12, wr.heap.size = T12 := ⟨_, rfl⟩
        obtain ⟨Wd, hWd⟩ : ∃ Wd, wr.alloc (.cells #[mk1 q 0, mk1 q 1, mk1 q 2, mk1 q 3, mk1 q 4, mk1 q 5, mk1 q 6, mk1 q 7] 82) = Wd := ⟨_, rfl⟩
        have hbd : Below wr.heap.size wr Wd := by rw [← hWd]; exact (Below.refl _ _).alloc (Nat.le_refl _) _
        have B12 : Blk Wd T12 82 (mkA q) := by rw [← hWd]; exact Blk.new' hT12
        have l12 := B12.lt
        have f0 := B12.cell 0
        have f1 := B12.cell 1
        have f2 := B12.cell 2
        have f3 := B12.cell 3
        have f4 := B12.cell 4
        have f5 := B12.cell 5
        have f6 := B12.cell 6
        have f7 := B12.cell 7
        simp only [mkA, List.getElem?_toArray, List.getElem?_cons_zero, List.getElem?_cons_succ] at f0 f1 f2 f3 f4 f5 f6 f7
        have H10d : Hid (Blk Wd T10 82 (gA (gpN pl r k 0))) := hid (by rw [gpN_zero]; exact H10.out.below hbd H10.out.lt)
        have hgd := grownM_then hgw hbd
        obtain ⟨v, hv⟩ : ∃ v, r[k]? = some v := ⟨_, List.getElem?_eq_getElem (by have := Hrm.out; omega)⟩
        have hv01 := Hr01.out v (List.mem_of_getElem? hv)
        have Hq := hid hq
        have Hv := hid hv
        clear hq hv B12 hbw hzb
        go_wp2_with (fail)
        clear f0 f1 f2 f3 f4 f5 f6 f7 e0 e1 e2 e3 e4 e5 e6 e7 hWd l12 hb1w
        go_loopw [38] (fun i wr => ∃ p : Nat, p ≤ 8 ∧ i = .int .i64 p ∧ Hid (Blk wr T10 82 (gA (gpN pl r k p))) ∧ W2.grownBy wr (some T10)) (fun i _ => 8 - (intOf i).toNat)
        case atStart => exact ⟨0, by omega, rfl, H10d, hgd⟩
        case round =>
          obtain ⟨p, hp, rfl, H10p, hgp⟩ := hrel
          have hzp := hgp.size
          by_cases hltp : p < 8
          · have hltpi : (p : Int) < 8 := by omega
            have hix := index_mk q hltp wr
            have hbp : Below Wb.heap.size Wb wr := hb2.trans (below_grownM (hT10 ▸ hgp) (by omega))
            obtain ⟨b2, o2, v', hB2, hb2', hv2, cv⟩ := (HBI.out.below hbp hbp.size).at_ hlt
            rw [Hv.out] at hv2
            cases hv2
            subst hB2
            have hn1 := gcN_next Hq.out Hv.out (p : Int)
            have hn2 := gcN_le pl r k (p : Int)
            have hat := gpN_at pl r k p
            have hst := gpN_step pl r k p hltp
            obtain ⟨G0, hG0⟩ : ∃ G0, gcN pl r k (p : Int) = G0 := ⟨_, rfl⟩
            obtain ⟨G1, hG1⟩ : ∃ G1, gcN pl r (k + 1) (p : Int) = G1 := ⟨_, rfl⟩
            rw [hG0] at hn1 hn2 hat
            rw [hG1] at hn1 hst
            have hcp : wr.cell? ⟨T10, p, none⟩ = some (.int .i64 (G0 : Nat)) := by rw [H10p.out.cell, gA_at _ hltp, hat]
            have hfp := H10p.out.frozen p
            have l10 := H10p.out.lt
            have Hst := hid hst
            clear hG0 hG1 hat hst
            have zG : IntKind.i64.wrap (G0 : Int) = G0 := IntWalk.i64_in _ (by omega)
            have zG1 : IntKind.i64.wrap ((G0 : Int) + 1) = (G0 : Int) + 1 := IntWalk.i64_in _ (by omega)
            cases hhq : has q (p : Int)
            · rw [hhq] at hix
              have e1 : G0 = G1 := by rw [hn1]; unfold good1; rw [hhq]; simp
              clear hn1
              subst e1
              rcases hv01 with rfl | rfl
              all_goals
                go_wp2
                refine wp_region_hd 12 (fun W' => Below wr.heap.size wr W') (by kernel_rfl) (by kernel_rfl) ((Below.refl _ _).drew) ?_
                simp only [List.take_succ_cons, List.take_zero, List.drop_succ_cons, List.drop_zero]
                iterate 12 (refine wpHd_val (v := ?_) (by rfl) (fun W hW => ?_) ?_; rotate_left; (· obtain ⟨hcW, hfW⟩ := bcell hW; go_simp; with_reducible rfl); simp only [Act.put, List.setIfInBounds_toArray, List.set_cons_zero, List.set_cons_succ])
                refine wpHd_nil ?_
                intro W7 hW7
                have H7 : Blk W7 T10 82 (gA (gpN pl r k p)) := H10p.out.below hW7 l10
                have d7 : W7.cell? ⟨T10, p, none⟩ = some (.int .i64 (G0 : Nat)) := (hW7.cell (p := ⟨T10, p, none⟩) l10).trans hcp
                have d8 := H7.frozen p
                have d9 := H7.lt
                have hg7 := grownM_setCell (o := p) (grownM_then hgp hW7) (.inr rfl : W2.heap.size ≤ T10 ∨ T10 = T10) (.int .i64 (G0 : Int))
                have H8 := H7.set_ p (.int .i64 (G0 : Int))
                have hst9 : (gA (gpN pl r k p)).setIfInBounds p (.int .i64 (G0 : Int)) = gA (gpN pl r k (p + 1)) := Hst.out
                rw [hst9] at H8
                clear hst9
                have H9 := hid H8
                clear H8 H7 hix
                go_wp2
                (first | exact ⟨⟨p + 1, by omega, by go_num, H9, hg7⟩, (by first | (simp [intOf]; omega) | (simp [intOf]; done))⟩ | (refine ⟨?_, ?_⟩; (focus ((repeat apply Exists.intro); refine ⟨?_, rfl⟩; exact ⟨p + 1, by omega, by go_num, H9, hg7⟩)); (first | (simp [intOf]; omega) | (simp [intOf]; done))))
            · rw [hhq] at hix
              rcases hv01 with rfl | rfl
              · have e1 : G1 = G0 + 1 := by rw [hn1]; unfold good1; rw [hhq]; simp
                clear hn1
                subst e1
                go_wp2
                refine wp_region_hd 12 (fun W' => Below wr.heap.size wr W') (by kernel_rfl) (by kernel_rfl) ((Below.refl _ _).drew) ?_
                simp only [List.take_succ_cons, List.take_zero, List.drop_succ_cons, List.drop_zero]
                iterate 12 (refine wpHd_val (v := ?_) (by rfl) (fun W hW => ?_) ?_; rotate_left; (· obtain ⟨hcW, hfW⟩ := bcell hW; go_simp; with_reducible rfl); simp only [Act.put, List.setIfInBounds_toArray, List.set_cons_zero, List.set_cons_succ])
                refine wpHd_nil ?_
                intro W7 hW7
                have H7 : Blk W7 T10 82 (gA (gpN pl r k p)) := H10p.out.below hW7 l10
                have d7 : W7.cell? ⟨T10, p, none⟩ = some (.int .i64 (G0 : Nat)) := (hW7.cell (p := ⟨T10, p, none⟩) l10).trans hcp
                have d8 := H7.frozen p
                have d9 := H7.lt
                have hg7 := grownM_setCell (o := p) (grownM_then hgp hW7) (.inr rfl : W2.heap.size ≤ T10 ∨ T10 = T10) (.int .i64 ((G0 : Int) + 1))
                have H8 := H7.set_ p (.int .i64 ((G0 : Int) + 1))
                have hst9 : (gA (gpN pl r k p)).setIfInBounds p (.int .i64 ((G0 : Int) + 1)) = gA (gpN pl r k (p + 1)) := Hst.out
                rw [hst9] at H8
                clear hst9
                have H9 := hid H8
                clear H8 H7 hix
                go_wp2
                (first | exact ⟨⟨p + 1, by omega, by go_num, H9, hg7⟩, (by first | (simp [intOf]; omega) | (simp [intOf]; done))⟩ | (refine ⟨?_, ?_⟩; (focus ((repeat apply Exists.intro); refine ⟨?_, rfl⟩; exact ⟨p + 1, by omega, by go_num, H9, hg7⟩)); (first | (simp [intOf]; omega) | (simp [intOf]; done))))
              · have e1 : G0 = G1 := by rw [hn1]; unfold good1; simp
                clear hn1
                subst e1
                go_wp2
                refine wp_region_hd 12 (fun W' => Below wr.heap.size wr W') (by kernel_rfl) (by kernel_rfl) ((Below.refl _ _).drew) ?_
                simp only [List.take_succ_cons, List.take_zero, List.drop_succ_cons, List.drop_zero]
                iterate 12 (refine wpHd_val (v := ?_) (by rfl) (fun W hW => ?_) ?_; rotate_left; (· obtain ⟨hcW, hfW⟩ := bcell hW; go_simp; with_reducible rfl); simp only [Act.put, List.setIfInBounds_toArray, List.set_cons_zero, List.set_cons_succ])
                refine wpHd_nil ?_
                intro W7 hW7
                have H7 : Blk W7 T10 82 (gA (gpN pl r k p)) := H10p.out.below hW7 l10
                have d7 : W7.cell? ⟨T10, p, none⟩ = some (.int .i64 (G0 : Nat)) := (hW7.cell (p := ⟨T10, p, none⟩) l10).trans hcp
                have d8 := H7.frozen p
                have d9 := H7.lt
                have hg7 := grownM_setCell (o := p) (grownM_then hgp hW7) (.inr rfl : W2.heap.size ≤ T10 ∨ T10 = T10) (.int .i64 (G0 : Int))
                have H8 := H7.set_ p (.int .i64 (G0 : Int))
                have hst9 : (gA (gpN pl r k p)).setIfInBounds p (.int .i64 (G0 : Int)) = gA (gpN pl r k (p + 1)) := Hst.out
                rw [hst9] at H8
                clear hst9
                have H9 := hid H8
                clear H8 H7 hix
                go_wp2
                (first | exact ⟨⟨p + 1, by omega, by go_num, H9, hg7⟩, (by first | (simp [intOf]; omega) | (simp [intOf]; done))⟩ | (refine ⟨?_, ?_⟩; (focus ((repeat apply Exists.intro); refine ⟨?_, rfl⟩; exact ⟨p + 1, by omega, by go_num, H9, hg7⟩)); (first | (simp [intOf]; omega) | (simp [intOf]; done))))
          · obtain rfl : p = 8 := by omega
            have hgf := H10p.out
            rw [gpN_full] at hgf
            have H11 := hid hgf
            clear hgf
            go_wp2
            (first | exact ⟨⟨k + 1, by omega, by go_num, H11, hgp⟩, (by first | (simp [intOf]; omega) | (simp [intOf]; done))⟩ | (refine ⟨?_, ?_⟩; (focus ((repeat apply Exists.intro); refine ⟨?_, rfl⟩; exact ⟨k + 1, by omega, by go_num, H11, hgp⟩)); (first | (simp [intOf]; omega) | (simp [intOf]; done))))
      · have hke : m = k := by omega
        have hlti : ¬ (k : Int) < m := by omega
        have hlti2 : ¬ (k : Int) < pl.length := by have := Hpm.out; omega
        rw [← hke] at H10
        have bBr := HbB.out.below hbw HbB.out.lt
        have p0 := bBr.cell 0
        have lB := bBr.lt
        obtain ⟨Wk, hWk⟩ : ∃ Wk, Wk = wr := ⟨_, rfl⟩
        subst hWk
        have l10 := H10.out.lt
        have hbk : Below w.heap.size w Wk := hbel.trans (hbw.mono hsz)
        have hszk := hbk.size
        clear bBr hke
        go_wp2_with (fail)
        clear p0 lB
        go_loopw [15, 58] (fun v i wr => ∃ (p ln cp : Nat) (A' : Option Addr), p ≤ Pn ∧ v = .slice A' ln cp ∧ i = .int .i64 p ∧ ln ≤ cp ∧ ln ≤ 8 ∧ Hid (InS wr wr.heap.size A' ln (susL pl r p)) ∧ (ln = 0 → A' = none ∧ cp = 0) ∧ Below Wk.heap.size Wk wr) (fun _ i _ => Pn - (intOf i).toNat)
        case atStart => exact ⟨0, 0, 0, none, by omega, rfl, rfl, by omega, by omega, hid Sl.none_, fun _ => ⟨rfl, rfl⟩, Below.refl _ _⟩
        case round =>
          obtain ⟨p, ln, cp, A', hp, rfl, rfl, hlc, hl8, hin, hnone, hbp⟩ := hrel
          have hzp := hbp.size
          by_cases hltp : p < Pn
          · have hltpi : (p : Int) < Pn := by omega
            have h10p := H10.out.below hbp l10
            have hcp : wr.cell? ⟨T10, p, none⟩ = some (.int .i64 (gcN pl r m (p : Int) : Nat)) := by rw [h10p.cell, gA_at _ (by omega)]
            have l10p := h10p.lt
            have hgP := gcN_goodP (pl := pl) (r := r) (k := m) (by have := Hpm.out; omega) Hrm.out (p : Int)
            have hsuc := sus_succ pl r p
            obtain ⟨G0, hG0⟩ : ∃ G0, gcN pl r m (p : Int) = G0 := ⟨_, rfl⟩
            rw [hG0] at hcp hgP
            rw [hgP] at hsuc
            clear hG0 hgP h10p
            by_cases hz : G0 = 0
            · subst hz
              have hs2 : Hid (susL pl r (p + 1) = susL pl r p ++ [(p : Int)]) := hid (by rw [hsuc]; simp)
              clear hsuc
              by_cases hl0 : ln = 0
              · obtain ⟨rfl, rfl⟩ := hnone hl0
                subst hl0
                have hpre : Hid (susL pl r p = []) := hid (List.eq_nil_of_length_eq_zero hin.out.len)
                go_wp2_with (at_builtin; refine wpList_append_cap rfl _ _ 25 rfl Wk.heap.size 3 i0 _ 1 8 under25 I0.out I1.out I2.out I3.out rfl _ 0 [] rfl rfl (Or.inl ⟨rfl, rfl⟩) ⟨wr.heap.size, 0, none⟩ 1 1 [.int .i64 (p : Int)] rfl rfl (fun j u hj => World.news_of_block (Blk.new' rfl) j u hj) (by decide) (by unfold maxLen; omega) (by omega) (by simp; omega) ?_; intro cap w3 ho3 hg3 hz3)
                have hb3 : Below Wk.heap.size Wk w3 := (hbp.alloc hzp _).grown hg3 (by simp; omega) (fun _ h => by cases h)
                have hc3 := own_cap ho3
                have hi3 : InS w3 w3.heap.size (some ⟨wr.heap.size + 1, 0, none⟩) 1 (susL pl r (p + 1)) := by rw [hs2.out, hpre.out]; have := Sl.of_own ho3; unfold InS; simpa [cI] using this
                have HI3 := hid hi3
                clear hi3 ho3
                (first | exact ⟨⟨p + 1, 1, cap, some ⟨wr.heap.size + 1, 0, none⟩, by omega, (by simp), by go_num, by omega, by omega, HI3, (fun h => by omega), hb3⟩, (by first | (simp [intOf]; omega) | (simp [intOf]; done))⟩ | (refine ⟨?_, ?_⟩; (focus ((repeat apply Exists.intro); refine ⟨?_, rfl⟩; exact ⟨p + 1, 1, cap, some ⟨wr.heap.size + 1, 0, none⟩, by omega, (by simp), by go_num, by omega, by omega, HI3, (fun h => by omega), hb3⟩)); (first | (simp [intOf]; omega) | (simp [intOf]; done))))
              · obtain ⟨b2, o2, rfl, hb2'⟩ := ins_some hin.out (by omega)
                have hIN := hin.out
                have hll := hin.out.len
                have hsl := sus_len pl r (p + 1)
                rw [hs2.out, List.length_append, hll] at hsl
                have hln8 : ln + 1 ≤ 8 := by simp at hsl; omega
                have hfull : Full (wr.alloc (.cells #[.int .i64 (p : Int)] 3)) (.slice (some ⟨b2, o2, none⟩) ln ln) ln ((susL pl r p).flatMap cI) := Or.inr ⟨_, rfl, fun j u hj => by
                  obtain ⟨b', o', e, hb', hc'⟩ := hin.out.2 (by omega)
                  cases e
                  rw [add_at]
                  exact (World.cell?_alloc_lt _ _ _ hb').trans (hc' j u hj)⟩
                have HF := hid hfull
                have hfl : ((susL pl r p).flatMap cI).length = ln * 1 := by rw [flatI_len', hll, Nat.mul_one]
                have Hfl := hid hfl
                clear hIN hll hsl hfull hfl
                go_wp2_with (at_builtin; refine wpList_append_cap rfl _ _ 25 rfl Wk.heap.size 3 i0 _ 1 8 under25 I0.out I1.out I2.out I3.out rfl _ ln ((susL pl r p).flatMap cI) rfl Hfl.out HF.out ⟨wr.heap.size, 0, none⟩ 1 1 [.int .i64 (p : Int)] rfl rfl (fun j u hj => World.news_of_block (Blk.new' rfl) j u hj) (by decide) (by unfold maxLen; omega) (by omega) (by simp; omega) ?_; intro cap w3 ho3 hg3 hz3)
                have hb3 : Below Wk.heap.size Wk w3 := (hbp.alloc hzp _).grown hg3 (by simp; omega) (fun _ h => by cases h)
                have hc3 := own_cap ho3
                have hi3 : InS w3 w3.heap.size (some ⟨wr.heap.size + 1, 0, none⟩) (ln + 1) (susL pl r (p + 1)) := by rw [hs2.out]; have := Sl.of_own ho3; unfold InS; rw [List.flatMap_append]; simpa [cI] using this
                have HI3 := hid hi3
                clear hi3 ho3
                (first | exact ⟨⟨p + 1, ln + 1, cap, some ⟨wr.heap.size + 1, 0, none⟩, by omega, (by simp), by go_num, by omega, by omega, HI3, (fun h => by omega), hb3⟩, (by first | (simp [intOf]; omega) | (simp [intOf]; done))⟩ | (refine ⟨?_, ?_⟩; (focus ((repeat apply Exists.intro); refine ⟨?_, rfl⟩; exact ⟨p + 1, ln + 1, cap, some ⟨wr.heap.size + 1, 0, none⟩, by omega, (by simp), by go_num, by omega, by omega, HI3, (fun h => by omega), hb3⟩)); (first | (simp [intOf]; omega) | (simp [intOf]; done))))
            · have hs2 : Hid (susL pl r (p + 1) = susL pl r p) := hid (by rw [hsuc]; simp [hz])
              have t0 : ((G0 : Int) == 0) = false := by simpa using hz
              have hzi : ¬ (G0 : Int) = 0 := by omega
              have hin2 : Hid (InS wr wr.heap.size A' ln (susL pl r (p + 1))) := hid (by rw [hs2.out]; exact hin.out)
              have hno2 := hid hnone
              clear hsuc hnone
              go_wp2
              (first | exact ⟨⟨p + 1, ln, cp, A', by omega, rfl, by go_num, hlc, hl8, hin2, hno2.out, hbp⟩, (by first | (simp [intOf]; omega) | (simp [intOf]; done))⟩ | (refine ⟨?_, ?_⟩; (focus ((repeat apply Exists.intro); refine ⟨?_, rfl⟩; exact ⟨p + 1, ln, cp, A', by omega, rfl, by go_num, hlc, hl8, hin2, hno2.out, hbp⟩)); (first | (simp [intOf]; omega) | (simp [intOf]; done))))
          · have hpe : Pn = p := by omega
            have hltpi : ¬ (p : Int) < Pn := by omega
            have hio : Hid (InS wr wr.heap.size A' ln (susL pl r Pn)) := hid (by rw [hpe]; exact hin.out)
            have hbf : Below w.heap.size w wr := hbk.trans (hbp.mono hszk)
            clear hpe hnone
            go_wp2
            refine bodyPost_ret (v := .tuple #[.slice A' ln cp, .int .i64 0]) (by first | (simp [results, Try.results28, go_sem]; done) | (simp [results, Try.results28, go_sem, *]; done) | (simp [results, Try.results28, go_sem, World.cell?_setCell_same', *]; done) | (simp [results, Try.results28, go_sem]; first | exact ⟨rfl, rfl⟩ | rfl)) rfl ⟨A', ln, ⟨cp, rfl⟩, by rw [hV.out]; exact hio.out, hbf⟩
    
end Go.Proofs.Ytpgdfipikfbjeaa
/- Walks: left. -/
namespace Go.Proofs.Ytpgdfipikfbjeaa
open Go.RowKit Go.Shelf
attribute [local go_sem] Oper.semAt_some
theorem Sl.other {w : World} {B s n : Nat} {A : Option Addr} {xs : List Value} (h : Sl w B s A n xs) {a : Addr} {v0 : Value} (hc : w.cell? a = some v0) (hv : v0 ∉ xs) (u : Value) : Sl (w.setCell a u) B s A n xs :=
  ⟨h.1, fun hn => by
    obtain ⟨b, off, e, hb, hcl⟩ := h.2 hn
    refine ⟨b, off, e, hb, fun j x hx => ?_⟩
    have hx2 := hcl j x hx
    exact (World.cell?_setCell_other w a _ u (fun e2 => by
      rw [← e2, hc] at hx2
      cases hx2
      exact hv (List.mem_of_getElem? hx))).trans hx2⟩
theorem u64_cI (z : Int) (l : List Int) : Value.int .u64 z ∉ l.flatMap cI := fun h => by
  obtain ⟨x, -, hx⟩ := List.mem_flatMap.1 h
  simp [cI] at hx
theorem u64_rod (z : Int) (pl : List (List Int)) : Value.int .u64 z ∉ pl.flatMap rodC := fun h => by
  obtain ⟨x, -, hx⟩ := List.mem_flatMap.1 h
  simp [rodC, mkA, mk1] at hx
theorem LiT.other {w : World} {B n : Nat} {A : Option Addr} {ls : List (List Int)} (h : LiT w B A n ls) {a : Addr} {z z' : Int} (hc : w.cell? a = some (.int .u64 z)) : LiT (w.setCell a (.int .u64 z')) B A n ls := by
  obtain ⟨⟨h1, vs, h2, h3⟩, h4⟩ := h
  have hvs : Value.int .u64 z ∉ vs := fun hm => by
    obtain ⟨j, hj⟩ := List.getElem?_of_mem hm
    have hjl := (List.getElem?_eq_some_iff.1 hj).1
    have := h2.1
    obtain ⟨A', m, c', e, -⟩ := h3 j (ls[j]'(by omega)) (List.getElem?_eq_getElem _)
    rw [hj] at e; cases e
  refine ⟨⟨h1, vs, h2.other hc hvs _, fun k l hl => ?_⟩, fun k hk b off A' m c' hA hcl b' off' hA' => ?_⟩
  · obtain ⟨A', m, c', e, h5⟩ := h3 k l hl
    exact ⟨A', m, c', e, Sl.other h5 hc (u64_cI _ _) _⟩
  · by_cases e : (⟨b, off + k, none⟩ : Addr) = a
    · rw [e] at hcl
      obtain ⟨b1, o1, eA, hb1, hc1⟩ := h2.2 (by omega)
      rw [hA] at eA; cases eA
      obtain ⟨A2, m2, c2, e2, -⟩ := h3 k (ls[k]'(by omega)) (List.getElem?_eq_getElem _)
      have := hc1 k _ e2
      rw [e, hc] at this
      cases this
    · rw [World.cell?_setCell_other w a _ _ (fun e2 => e e2.symm)] at hcl
      exact h4 k hk b off A' m c' hA hcl b' off' hA'
theorem Bench.other {W : World} {g P M mp : Nat} {CL pl : List (List Int)} (h : Bench W g P M CL pl mp) {t : Nat} {z : Int} (hc : W.cell? ⟨t, 0, none⟩ = some (.int .u64 z)) (z' : Int) : Bench (W.setCell ⟨t, 0, none⟩ (.int .u64 z')) g P M CL pl mp := by
  obtain ⟨A1, c1, A2, c2, h1, h2, h3, h4⟩ := h
  refine ⟨A1, c1, A2, c2, h1.far (fun e => ?_) _, ?_, ?_, h4⟩
  · have h5 : g = t := e
    subst h5
    have := h1.cell 0
    rw [hc] at this
    cases this
  · rw [World.size_setCell]; exact h2.other hc
  · rw [World.size_setCell]; exact h3.other hc (u64_rod _ _) _
/-- The cases whose results are some, by bits. -/
def lefN (CL pl : List (List Int)) (r : List Int) : Nat → Nat
  | 0 => 0
  | k + 1 => if eqI (resL pl (CL.getD k [])) r then lefN CL pl r k ||| 2 ^ k else lefN CL pl r k
theorem lefN_lt (CL pl : List (List Int)) (r : List Int) : ∀ k, lefN CL pl r k < 2 ^ k
  | 0 => by simp [lefN]
  | k + 1 => by
    have h := lefN_lt CL pl r k
    unfold lefN
    split
    · exact Nat.or_lt_two_pow (by rw [Nat.pow_succ]; omega) (Nat.pow_lt_pow_right (by omega) (by omega))
    · rw [Nat.pow_succ]; omega
theorem lefN_bit (CL pl : List (List Int)) (r : List Int) (i : Nat) : ∀ k, (lefN CL pl r k).testBit i = (decide (i < k) && eqI (resL pl (CL.getD i [])) r)
  | 0 => by simp [lefN]
  | k + 1 => by
    unfold lefN
    by_cases e : k = i
    · subst e
      split <;> rename_i h
      · rw [Nat.testBit_or, lefN_bit CL pl r k k, Nat.testBit_two_pow, h, decide_eq_true (show k < k + 1 by omega)]; simp
      · rw [lefN_bit CL pl r k k, Bool.eq_false_iff.2 h]; simp
    · have e1 : decide (i < k + 1) = decide (i < k) := by by_cases h2 : i < k <;> simp [h2] <;> omega
      rw [e1]
      split
      · rw [Nat.testBit_or, lefN_bit CL pl r i k, Nat.testBit_two_pow]; simp [e]
      · exact lefN_bit CL pl r i k
theorem lefN_zero {CL pl : List (List Int)} {r : List Int} : lefN CL pl r CL.length = 0 ↔ (CL.filter fun c => eqI (resL pl c) r).length = 0 := by
  rw [List.length_eq_zero_iff, List.filter_eq_nil_iff]
  constructor
  · intro h c hc
    obtain ⟨i, hi⟩ := List.getElem?_of_mem hc
    have hl := (List.getElem?_eq_some_iff.1 hi).1
    have := congrArg (·.testBit i) h
    simp only [lefN_bit, Nat.zero_testBit, hl, decide_true, Bool.true_and] at this
    rw [List.getD_eq_getElem?_getD, hi] at this
    simpa using this
  · intro h
    refine Nat.eq_of_testBit_eq fun i => ?_
    rw [lefN_bit, Nat.zero_testBit]
    by_cases hl : i < CL.length
    · rw [Bool.eq_false_iff.2 (h _ (getD_mem hl))]; simp
    · simp [hl]
theorem pow_wrap_u (k : Nat) (hk : k < 62) : IntKind.u64.wrap ((2 : Int) ^ k) = ((2 ^ k : Nat) : Int) := by
  have : (2 : Nat) ^ k < 2 ^ 62 := Nat.pow_lt_pow_right (by omega) hk
  have e62 : (2 : Nat) ^ 62 = 4611686018427387904 := by decide
  rw [IntKind.wrap_u64, show ((2 : Int) ^ k) = ((2 ^ k : Nat) : Int) by simp]
  obtain ⟨q, hq⟩ : ∃ q : Nat, 2 ^ k = q := ⟨_, rfl⟩
  rw [hq] at this ⊢
  omega
set_option maxRecDepth 10000 in
set_option maxHeartbeats 4000000 in
theorem left_bad (A B : Option Addr) (n c m d : Nat) (pl : List (List Int)) (r : List Int) (P M : Int) (w : World) (hp : LiS w w.heap.size A n pl) (hb : InS w w.heap.size B m r) (hn : n ≤ 12) (hw : ∀ l ∈ pl, l.length ≤ 12) (hbad : leftE P M pl r ≠ 0) :
    Calls Try.prog 77 #[.agg #[.int .i64 P, .int .i64 M], .slice A n c, .slice B m d] w fun e w' => e = .returned (.tuple #[.pointer none, .agg #[.int .u64 0], .int .i64 (leftE P M pl r)]) ∧ Below w.heap.size w w' := by
  have hlr := hb.len
  obtain ⟨W0, hWb⟩ : ∃ W0, (w.alloc (.cells #[.int .i64 P, .int .i64 M] 23)).alloc (.cells #[.int .u64 0] 88) = W0 := ⟨_, rfl⟩
  have bB : Blk W0 w.heap.size 23 #[.int .i64 P, .int .i64 M] := by rw [← hWb]; exact (Blk.new' rfl).alloc _
  have b7 : Blk W0 (w.heap.size + 1) 88 #[.int .u64 0] := by rw [← hWb]; exact Blk.new' (by simp)
  have hbel : Below w.heap.size w W0 := by rw [← hWb]; exact (by repeat' (first | with_reducible assumption | with_reducible exact Below.refl _ _ | refine Below.alloc ?_ ?_ _ | refine Below.setCell ?_ ?_ _ | refine Below.drew ?_ | refine below_drewN ?_ _ | (simp; done) | (simp; omega) | omega))
  have hsz := hbel.size
  have lB := bB.lt
  have p0 := bB.cell 0
  have p1 := bB.cell 1
  have p7 := b7.cell 0
  have f7 := b7.frozen 0
  have l7 := b7.lt
  have HP := hid (hp.below hbel hsz)
  clear hp
  have HB := hid (hb.below hbel hsz)
  clear hb
  by_cases hbd : errR P M pl r ≠ 0
  · have hE := hid (show leftE P M pl r = errR P M pl r from if_pos hbd)
    have hbi : (errR P M pl r == 0) = false := by simpa using hbd
    have hbi2 : ¬ errR P M pl r = 0 := hbd
    have Hb := hid hbd
    clear hbd hbad
    go_enter Try.func77, Try.ntmps77
    go_wp2_with (fail)
    refine (seen_bad A B n c m d pl r P M _ (HP.out.below (by repeat' (first | with_reducible assumption | with_reducible exact Below.refl _ _ | refine Below.alloc ?_ ?_ _ | refine Below.setCell ?_ ?_ _ | refine Below.drew ?_ | refine below_drewN ?_ _ | (simp; done) | (simp; omega) | omega)) (by first | (simp; done) | (simp; omega) | omega)) (HB.out.below (by repeat' (first | with_reducible assumption | with_reducible exact Below.refl _ _ | refine Below.alloc ?_ ?_ _ | refine Below.setCell ?_ ?_ _ | refine Below.drew ?_ | refine below_drewN ?_ _ | (simp; done) | (simp; omega) | omega)) (by first | (simp; done) | (simp; omega) | omega)) hn hw Hb.out).mono ?_
    rintro e W1 ⟨rfl, hb⟩
    have hst : Below W0.heap.size W0 W1 := Below.trans (by repeat' (first | with_reducible assumption | with_reducible exact Below.refl _ _ | refine Below.alloc ?_ ?_ _ | refine Below.setCell ?_ ?_ _ | refine Below.drew ?_ | refine below_drewN ?_ _ | (simp; done) | (simp; omega) | omega)) (hb.mono (by first | (simp; done) | (simp; omega) | omega))
    replace hbel := hbel.trans (hst.mono hsz)
    replace hsz := hbel.size
    replace bB := bB.below hst bB.lt
    clear p0 p1 lB
    have p0 := bB.cell 0
    have p1 := bB.cell 1
    have lB := bB.lt
    try clear hWb
    replace HP := hid (HP.out.below hst hst.size)
    replace HB := hid (HB.out.below hst hst.size)
    replace b7 := b7.below hst b7.lt
    clear p7 f7 l7
    have p7 := b7.cell 0
    have f7 := b7.frozen 0
    have l7 := b7.lt
    clear hb hst
    obtain ⟨W0, rfl⟩ : ∃ W0 : World, W0 = W1 := ⟨_, rfl⟩
    go_wp2
    refine bodyPost_ret (v := .tuple #[.pointer none, .agg #[.int .u64 0], .int .i64 (errR P M pl r)]) (by first | (simp [results, Try.results77, go_sem]; done) | (simp [results, Try.results77, go_sem, *]; done) | (simp [results, Try.results77, go_sem, World.cell?_setCell_same', *]; done) | (simp [results, Try.results77, go_sem]; first | exact ⟨rfl, rfl⟩ | rfl)) rfl ⟨by rw [hE.out], (by repeat' (first | with_reducible assumption | with_reducible exact Below.refl _ _ | refine Below.alloc ?_ ?_ _ | refine Below.setCell ?_ ?_ _ | refine Below.drew ?_ | refine below_drewN ?_ _ | (simp; done) | (simp; omega) | omega))⟩
  · have hb0 : errR P M pl r = 0 := by simpa using hbd
    obtain ⟨k1, k2, k3⟩ := errR_zero hb0
    obtain ⟨g1, g2, g3⟩ := plan_good k1
    obtain ⟨g4, g5, g6, g7⟩ := book_good g1
    have hE0 : leftE P M pl r = if 5 < P then 6 else if (toldL P.toNat M.toNat pl r).length = 0 then 23 else 0 := if_neg (by omega)
    obtain ⟨Pn, rfl⟩ : ∃ Pn : Nat, P = Pn := ⟨P.toNat, by omega⟩
    obtain ⟨Mn, rfl⟩ : ∃ Mn : Nat, M = Mn := ⟨M.toNat, by omega⟩
    rw [Int.toNat_natCast, Int.toNat_natCast] at hE0
    have Hb := hid hb0
    clear hbd hb0 g1 g3 k1 k2 k3
    by_cases h5 : (5 : Int) < Pn
    · have hE := hid (hE0.trans (if_pos h5))
      clear hE0 hbad
      go_enter Try.func77, Try.ntmps77
      go_wp2_with (fail)
      refine (seen_ok A B n c m d pl r Pn Mn _ (HP.out.below (by repeat' (first | with_reducible assumption | with_reducible exact Below.refl _ _ | refine Below.alloc ?_ ?_ _ | refine Below.setCell ?_ ?_ _ | refine Below.drew ?_ | refine below_drewN ?_ _ | (simp; done) | (simp; omega) | omega)) (by first | (simp; done) | (simp; omega) | omega)) (HB.out.below (by repeat' (first | with_reducible assumption | with_reducible exact Below.refl _ _ | refine Below.alloc ?_ ?_ _ | refine Below.setCell ?_ ?_ _ | refine Below.drew ?_ | refine below_drewN ?_ _ | (simp; done) | (simp; omega) | omega)) (by first | (simp; done) | (simp; omega) | omega)) hn hw Hb.out).mono ?_
      rintro e W1 ⟨g, mp, rfl, hB, hM0, hmm, hb⟩
      have hzz := hbel.size
      have hst : Below W0.heap.size W0 W1 := Below.trans (by repeat' (first | with_reducible assumption | with_reducible exact Below.refl _ _ | refine Below.alloc ?_ ?_ _ | refine Below.setCell ?_ ?_ _ | refine Below.drew ?_ | refine below_drewN ?_ _ | (simp; done) | (simp; omega) | omega)) (hb.mono (by first | (simp; done) | (simp; omega) | omega))
      replace hbel := hbel.trans (hst.mono hsz)
      replace hsz := hbel.size
      replace bB := bB.below hst bB.lt
      clear p0 p1 lB
      have p0 := bB.cell 0
      have p1 := bB.cell 1
      have lB := bB.lt
      try clear hWb
      replace HP := hid (HP.out.below hst hst.size)
      replace HB := hid (HB.out.below hst hst.size)
      have hmw : w.heap.size ≤ mp := by omega
      clear hmm
      replace b7 := b7.below hst b7.lt
      clear p7 f7 l7
      have p7 := b7.cell 0
      have f7 := b7.frozen 0
      have l7 := b7.lt
      have HBn := hid hB
      clear hB
      have HM0 := hid hM0
      clear hM0
      clear hb hst
      obtain ⟨W0, rfl⟩ : ∃ W0 : World, W0 = W1 := ⟨_, rfl⟩
      clear HBn HM0
      go_wp2
      refine bodyPost_ret (v := .tuple #[.pointer none, .agg #[.int .u64 0], .int .i64 6]) (by first | (simp [results, Try.results77, go_sem]; done) | (simp [results, Try.results77, go_sem, *]; done) | (simp [results, Try.results77, go_sem, World.cell?_setCell_same', *]; done) | (simp [results, Try.results77, go_sem]; first | exact ⟨rfl, rfl⟩ | rfl)) rfl ⟨by rw [hE.out], (by repeat' (first | with_reducible assumption | with_reducible exact Below.refl _ _ | refine Below.alloc ?_ ?_ _ | refine Below.setCell ?_ ?_ _ | refine Below.drew ?_ | refine below_drewN ?_ _ | (simp; done) | (simp; omega) | omega))⟩
    · have hz : (toldL Pn Mn pl r).length = 0 := by
        rcases Nat.eq_zero_or_pos (toldL Pn Mn pl r).length with h | h
        · exact h
        · exact absurd (by rw [hE0, if_neg h5, if_neg (by omega)]) hbad
      have hE := hid (hE0.trans ((if_neg h5).trans (if_pos hz)))
      have hz2 : lefN (casesL Pn Mn) pl r (casesL Pn Mn).length = 0 := lefN_zero.2 hz
      have hcl := cases_len5 (P := Pn) (M := Mn) (by omega)
      have hcb := cases_bd (P := Pn) (M := Mn) (by omega) (by omega)
      have hcs := cases_short Pn Mn
      have Hz := hid hz2
      clear hE0 hbad hz hz2
      go_enter Try.func77, Try.ntmps77
      go_wp2_with (fail)
      refine (seen_ok A B n c m d pl r Pn Mn _ (HP.out.below (by repeat' (first | with_reducible assumption | with_reducible exact Below.refl _ _ | refine Below.alloc ?_ ?_ _ | refine Below.setCell ?_ ?_ _ | refine Below.drew ?_ | refine below_drewN ?_ _ | (simp; done) | (simp; omega) | omega)) (by first | (simp; done) | (simp; omega) | omega)) (HB.out.below (by repeat' (first | with_reducible assumption | with_reducible exact Below.refl _ _ | refine Below.alloc ?_ ?_ _ | refine Below.setCell ?_ ?_ _ | refine Below.drew ?_ | refine below_drewN ?_ _ | (simp; done) | (simp; omega) | omega)) (by first | (simp; done) | (simp; omega) | omega)) hn hw Hb.out).mono ?_
      rintro e W1 ⟨g, mp, rfl, hB, hM0, hmm, hb⟩
      have hzz := hbel.size
      have hst : Below W0.heap.size W0 W1 := Below.trans (by repeat' (first | with_reducible assumption | with_reducible exact Below.refl _ _ | refine Below.alloc ?_ ?_ _ | refine Below.setCell ?_ ?_ _ | refine Below.drew ?_ | refine below_drewN ?_ _ | (simp; done) | (simp; omega) | omega)) (hb.mono (by first | (simp; done) | (simp; omega) | omega))
      replace hbel := hbel.trans (hst.mono hsz)
      replace hsz := hbel.size
      replace bB := bB.below hst bB.lt
      clear p0 p1 lB
      have p0 := bB.cell 0
      have p1 := bB.cell 1
      have lB := bB.lt
      try clear hWb
      replace HP := hid (HP.out.below hst hst.size)
      replace HB := hid (HB.out.below hst hst.size)
      have hmw : w.heap.size ≤ mp := by omega
      clear hmm
      replace b7 := b7.below hst b7.lt
      clear p7 f7 l7
      have p7 := b7.cell 0
      have f7 := b7.frozen 0
      have l7 := b7.lt
      have HBn := hid hB
      clear hB
      have HM0 := hid hM0
      clear hM0
      clear hb hst
      obtain ⟨W0, rfl⟩ : ∃ W0 : World, W0 = W1 := ⟨_, rfl⟩
      have hB0 := HBn.out
      obtain ⟨A1, c1, A2, c2, hG, hC, hR8, hcap⟩ := hB0
      have q2 := hG.cell 2
      have lg := hG.lt
      have HC := hid hC
      have HG := hid hG
      have HBI := HB
      obtain ⟨T11, hT11⟩ : ∃ T11, W0.heap.size = T11 := ⟨_, rfl⟩
      obtain ⟨W2, hW2⟩ : ∃ W2, W0.alloc (.cells #[.int .u64 0] 88) = W2 := ⟨_, rfl⟩
      have hb2 : Below W0.heap.size W0 W2 := by rw [← hW2]; exact (Below.refl _ _).alloc (Nat.le_refl _) _
      have B11 : Blk W2 T11 88 #[.int .u64 (lefN (casesL Pn Mn) pl r 0 : Nat)] := by rw [← hW2]; exact Blk.new' hT11
      have HB11 := hid B11
      have H7 := hid b7
      have q2' := (HG.out.below hb2 lg).cell 2
      have lg2 := Nat.lt_of_lt_of_le lg hb2.size
      have hT2 : T11 < W2.heap.size := B11.lt
      obtain ⟨CL, hCL⟩ : ∃ CL, casesL Pn Mn = CL := ⟨_, rfl⟩
      rw [hCL] at hcl hcb hcs Hz HBn HC HG HB11 q2 q2'
      have HCB := hid (show ∀ x ∈ CL, ∀ v ∈ x, 0 ≤ v ∧ v < 8 from fun x hx v hv => by have := hcb x hx v hv; omega)
      have HCS := hid hcs
      have HCL := hid hCL
      obtain ⟨Wb, hWb9⟩ : ∃ Wb, Wb = W0 := ⟨_, rfl⟩
      subst hWb9
      clear hG hC hR8 hcap B11 b7 p7 f7 l7 p1 hcb hcs hCL HP HB
      go_wp2_with (fail)
      clear hW2 q2' q2 bB p0 lB
      go_loopw [36] (fun i wr => ∃ k : Nat, k ≤ CL.length ∧ i = .int .i64 k ∧ Hid (Blk wr T11 88 #[.int .u64 (lefN CL pl r k : Nat)]) ∧ W2.grownBy wr (some T11)) (fun i _ => CL.length - (intOf i).toNat)
      case atStart => exact ⟨0, by omega, rfl, HB11, grownM_below (Below.refl _ _)⟩
      case round =>
        obtain ⟨k, hk, rfl, H11, hgw⟩ := hrel
        have hzw := hgw.size
        have hbw : Below Wb.heap.size Wb wr := hb2.trans (below_grownM (hT11 ▸ hgw) (by omega))
        have hzb := hbw.size
        have l11 := H11.out.lt
        by_cases hlt : k < CL.length
        · obtain ⟨b0, off, x, A', m', c', rfl, hb0, hx, c0, hin, hin2⟩ := (HC.out.below hbw hzb).at_ hlt
          have hlti : (k : Int) < CL.length := by omega
          have hm' : m' ≤ 1000000 := by have := hin.len; have := HCS.out x (List.mem_of_getElem? hx); omega
          have HIn := hid hin
          have hxb := HCB.out x (List.mem_of_getElem? hx)
          have Hxb := hid hxb
          have hgx : CL.getD k [] = x := by rw [List.getD_eq_getElem?_getD, hx]; rfl
          have hstep : lefN CL pl r (k + 1) = if eqI (resL pl x) r then lefN CL pl r k ||| 2 ^ k else lefN CL pl r k := by rw [← hgx]; rfl
          have hlt1 := lefN_lt CL pl r k
          have hlt2 : 2 ^ k ≤ 2 ^ 16 := Nat.pow_le_pow_right (by omega) (by omega)
          have e16 : (2 : Nat) ^ 16 = 65536 := by decide
          clear hin hin2 hx hgx hxb
          obtain ⟨L0, hL0⟩ : ∃ L0, lefN CL pl r k = L0 := ⟨_, rfl⟩
          obtain ⟨q, hq⟩ : ∃ q : Nat, 2 ^ k = q := ⟨_, rfl⟩
          have hpw := pow_wrap_u k (by omega)
          have hor := bits_or_u64_nat L0 q (by omega) (by omega)
          rw [hL0] at hstep H11 hlt1
          rw [hq] at hstep hlt1 hlt2 hpw
          have Hst := hid hstep
          clear hL0 hq hstep
          have hgw0 : W2.grownBy wr (some T11) := hgw
          cases he : eqI (resL pl x) r
          · have Hst2 : Hid (lefN CL pl r (k + 1) = L0) := hid (Hst.out.trans (if_neg (by rw [he]; decide)))
            have He := hid he
            clear he
            go_wp2_with (first | (go_at_call 65; refine (results_any g Pn Mn CL pl mp A' m' c' x _ (HBn.out.below hbw) HIn.out hm' Hxb.out g2).mono ?_; rintro e W3 ⟨v3, rfl, ho3, hb3⟩; obtain ⟨A7, c7, rfl, hs7, -⟩ := own_src ho3; have HS7 := hid hs7; clear ho3 hs7) | (go_at_call 68; refine (equal_any _ A7 B pl.length c7 m d (resL pl x) r HS7.out (HBI.out.below (hbw.trans (hb3.mono hzb)) (hbw.trans (hb3.mono hzb)).size) (by omega)).mono ?_; rw [He.out]; rintro e W4 ⟨rfl, hb4⟩))
            have hg4 := grownM_then (grownM_then hgw0 hb3) hb4
            have H14 : Hid (Blk W4 T11 88 #[.int .u64 (lefN CL pl r (k + 1) : Nat)]) := hid (by rw [Hst2.out]; exact (H11.out.below hb3 l11).below hb4 (Nat.lt_of_lt_of_le l11 hb3.size))
            (first | exact ⟨⟨k + 1, by omega, by go_num, H14, hg4⟩, (by first | (simp [intOf]; omega) | (simp [intOf]; done))⟩ | (refine ⟨?_, ?_⟩; (focus ((repeat apply Exists.intro); refine ⟨?_, rfl⟩; exact ⟨k + 1, by omega, by go_num, H14, hg4⟩)); (first | (simp [intOf]; omega) | (simp [intOf]; done))))
          · have Hst2 : Hid (lefN CL pl r (k + 1) = L0 ||| q) := hid (Hst.out.trans (if_pos he))
            have He := hid he
            clear he
            go_wp2_with (first | (go_at_call 65; refine (results_any g Pn Mn CL pl mp A' m' c' x _ (HBn.out.below hbw) HIn.out hm' Hxb.out g2).mono ?_; rintro e W3 ⟨v3, rfl, ho3, hb3⟩; obtain ⟨A7, c7, rfl, hs7, -⟩ := own_src ho3; have HS7 := hid hs7; clear ho3 hs7) | (go_at_call 68; refine (equal_any _ A7 B pl.length c7 m d (resL pl x) r HS7.out (HBI.out.below (hbw.trans (hb3.mono hzb)) (hbw.trans (hb3.mono hzb)).size) (by omega)).mono ?_; rw [He.out]; rintro e W4 ⟨rfl, hb4⟩))
            have hg4 := grownM_then (grownM_then hgw0 hb3) hb4
            have B14 := (H11.out.below hb3 l11).below hb4 (Nat.lt_of_lt_of_le l11 hb3.size)
            have d4 := B14.cell 0
            have f4 := B14.frozen 0
            have l4 := B14.lt
            refine wp_region_hd 6 (fun W' => Below W4.heap.size W4 W') (by kernel_rfl) (by kernel_rfl) ((Below.refl _ _).drew) ?_
            simp only [List.take_succ_cons, List.take_zero, List.drop_succ_cons, List.drop_zero]
            iterate 6 (refine wpHd_val (v := ?_) (by rfl) (fun W hW => ?_) ?_; rotate_left; (· obtain ⟨hcW, hfW⟩ := bcell hW; go_simp; with_reducible rfl); simp only [Act.put, List.setIfInBounds_toArray, List.set_cons_zero, List.set_cons_succ])
            refine wpHd_nil ?_
            intro W7 hW7
            have B17 := B14.below hW7 l4
            have d7 := B17.cell 0
            have f7 := B17.frozen 0
            have l7 := B17.lt
            have hg7 := grownM_setCell (o := 0) (grownM_then hg4 hW7) (.inr rfl : W2.heap.size ≤ T11 ∨ T11 = T11) (.int .u64 ((L0 ||| q : Nat) : Int))
            have B18 := B17.set_ 0 (.int .u64 ((L0 ||| q : Nat) : Int))
            have H18 : Hid (Blk (W7.setCell ⟨T11, 0, none⟩ (.int .u64 ((L0 ||| q : Nat) : Int))) T11 88 #[.int .u64 (lefN CL pl r (k + 1) : Nat)]) := hid (by rw [Hst2.out]; exact B18)
            clear B18 B14 B17 d4 f4
            go_wp2
            (first | exact ⟨⟨k + 1, by omega, by go_num, H18, hg7⟩, (by first | (simp [intOf]; omega) | (simp [intOf]; done))⟩ | (refine ⟨?_, ?_⟩; (focus ((repeat apply Exists.intro); refine ⟨?_, rfl⟩; exact ⟨k + 1, by omega, by go_num, H18, hg7⟩)); (first | (simp [intOf]; omega) | (simp [intOf]; done))))
        · have hke : CL.length = k := by omega
          have hlti : ¬ (k : Int) < CL.length := by omega
          have B7w := H7.out.below hbw H7.out.lt
          have p7 := B7w.cell 0
          have f7 := B7w.frozen 0
          have l7 := B7w.lt
          have hbf : Below w.heap.size w wr := hbel.trans (hbw.mono hsz)
          have hzf := hbf.size
          rw [← hke] at H11
          have d1 := H11.out.cell 0
          clear hke
      
          rw [Hz.out] at d1
          go_wp2
          refine bodyPost_ret (v := .tuple #[.pointer none, .agg #[.int .u64 0], .int .i64 23]) (by first | (simp [results, Try.results77, go_sem]; done) | (simp [results, Try.results77, go_sem, *]; done) | (simp [results, Try.results77, go_sem, World.cell?_setCell_same', *]; done) | (simp [results, Try.results77, go_sem]; first | exact ⟨rfl, rfl⟩ | rfl)) rfl ⟨by rw [hE.out], (by repeat' (first | with_reducible assumption | with_reducible exact Below.refl _ _ | refine Below.alloc ?_ ?_ _ | refine Below.setCell ?_ ?_ _ | refine Below.drew ?_ | refine below_drewN ?_ _ | (simp; done) | (simp; omega) | omega))⟩
set_option maxRecDepth 10000 in
set_option maxHeartbeats 4000000 in
theorem left_ok (A B : Option Addr) (n c m d : Nat) (pl : List (List Int)) (r : List Int) (P M : Nat) (w : World) (hp : LiS w w.heap.size A n pl) (hb : InS w w.heap.size B m r) (hn : n ≤ 12) (hw : ∀ l ∈ pl, l.length ≤ 12) (hok : leftE P M pl r = 0) :
    Calls Try.prog 77 #[.agg #[.int .i64 (P : Int), .int .i64 (M : Int)], .slice A n c, .slice B m d] w fun e w' => ∃ g mp, e = .returned (.tuple #[.pointer (some ⟨g, 0, none⟩), .agg #[.int .u64 (lefN (casesL P M) pl r (casesL P M).length : Nat)], .int .i64 0]) ∧ Bench w' g P M (casesL P M) pl mp ∧ w'.heap[mp]? = some (.map #[] 0) ∧ w.heap.size ≤ mp ∧ Below w.heap.size w w' := by
  have hlr := hb.len
  obtain ⟨W0, hWb⟩ : ∃ W0, (w.alloc (.cells #[.int .i64 (P : Int), .int .i64 (M : Int)] 23)).alloc (.cells #[.int .u64 0] 88) = W0 := ⟨_, rfl⟩
  have bB : Blk W0 w.heap.size 23 #[.int .i64 (P : Int), .int .i64 (M : Int)] := by rw [← hWb]; exact (Blk.new' rfl).alloc _
  have b7 : Blk W0 (w.heap.size + 1) 88 #[.int .u64 0] := by rw [← hWb]; exact Blk.new' (by simp)
  have hbel : Below w.heap.size w W0 := by rw [← hWb]; exact (by repeat' (first | with_reducible assumption | with_reducible exact Below.refl _ _ | refine Below.alloc ?_ ?_ _ | refine Below.setCell ?_ ?_ _ | refine Below.drew ?_ | refine below_drewN ?_ _ | (simp; done) | (simp; omega) | omega))
  have hsz := hbel.size
  have lB := bB.lt
  have p0 := bB.cell 0
  have p1 := bB.cell 1
  have p7 := b7.cell 0
  have f7 := b7.frozen 0
  have l7 := b7.lt
  have HP := hid (hp.below hbel hsz)
  clear hp
  have HB := hid (hb.below hbel hsz)
  clear hb
  obtain ⟨Pn, rfl⟩ : ∃ Pn : Nat, Pn = P := ⟨_, rfl⟩
  obtain ⟨Mn, rfl⟩ : ∃ Mn : Nat, Mn = M := ⟨_, rfl⟩
  obtain ⟨hb0, h5, hnz⟩ := leftE_zero hok
  obtain ⟨k1, k2, k3⟩ := errR_zero hb0
  obtain ⟨g1, g2, g3⟩ := plan_good k1
  obtain ⟨g4, g5, g6, g7⟩ := book_good g1
  rw [Int.toNat_natCast, Int.toNat_natCast] at hnz
  have hz2 : lefN (casesL Pn Mn) pl r (casesL Pn Mn).length ≠ 0 := fun h => hnz (lefN_zero.1 h)
  have h5i : ¬ (5 : Int) < Pn := by omega
  have hcl := cases_len5 (P := Pn) (M := Mn) (by omega)
  have hcb := cases_bd (P := Pn) (M := Mn) (by omega) (by omega)
  have hcs := cases_short Pn Mn
  have Hb := hid hb0
  have Hz := hid hz2
  clear hok hnz hz2 hb0 k1 k2 k3 g1 g3
  go_enter Try.func77, Try.ntmps77
  go_wp2_with (fail)
  refine (seen_ok A B n c m d pl r Pn Mn _ (HP.out.below (by repeat' (first | with_reducible assumption | with_reducible exact Below.refl _ _ | refine Below.alloc ?_ ?_ _ | refine Below.setCell ?_ ?_ _ | refine Below.drew ?_ | refine below_drewN ?_ _ | (simp; done) | (simp; omega) | omega)) (by first | (simp; done) | (simp; omega) | omega)) (HB.out.below (by repeat' (first | with_reducible assumption | with_reducible exact Below.refl _ _ | refine Below.alloc ?_ ?_ _ | refine Below.setCell ?_ ?_ _ | refine Below.drew ?_ | refine below_drewN ?_ _ | (simp; done) | (simp; omega) | omega)) (by first | (simp; done) | (simp; omega) | omega)) hn hw Hb.out).mono ?_
  rintro e W1 ⟨g, mp, rfl, hB, hM0, hmm, hb⟩
  have hzz := hbel.size
  have hst : Below W0.heap.size W0 W1 := Below.trans (by repeat' (first | with_reducible assumption | with_reducible exact Below.refl _ _ | refine Below.alloc ?_ ?_ _ | refine Below.setCell ?_ ?_ _ | refine Below.drew ?_ | refine below_drewN ?_ _ | (simp; done) | (simp; omega) | omega)) (hb.mono (by first | (simp; done) | (simp; omega) | omega))
  replace hbel := hbel.trans (hst.mono hsz)
  replace hsz := hbel.size
  replace bB := bB.below hst bB.lt
  clear p0 p1 lB
  have p0 := bB.cell 0
  have p1 := bB.cell 1
  have lB := bB.lt
  try clear hWb
  replace HP := hid (HP.out.below hst hst.size)
  replace HB := hid (HB.out.below hst hst.size)
  have hmw : w.heap.size ≤ mp := by omega
  clear hmm
  replace b7 := b7.below hst b7.lt
  clear p7 f7 l7
  have p7 := b7.cell 0
  have f7 := b7.frozen 0
  have l7 := b7.lt
  have HBn := hid hB
  clear hB
  have HM0 := hid hM0
  clear hM0
  clear hb hst
  obtain ⟨W0, rfl⟩ : ∃ W0 : World, W0 = W1 := ⟨_, rfl⟩
  have hB0 := HBn.out
  obtain ⟨A1, c1, A2, c2, hG, hC, hR8, hcap⟩ := hB0
  have q2 := hG.cell 2
  have lg := hG.lt
  have HC := hid hC
  have HG := hid hG
  have HBI := HB
  obtain ⟨T11, hT11⟩ : ∃ T11, W0.heap.size = T11 := ⟨_, rfl⟩
  obtain ⟨W2, hW2⟩ : ∃ W2, W0.alloc (.cells #[.int .u64 0] 88) = W2 := ⟨_, rfl⟩
  have hb2 : Below W0.heap.size W0 W2 := by rw [← hW2]; exact (Below.refl _ _).alloc (Nat.le_refl _) _
  have B11 : Blk W2 T11 88 #[.int .u64 (lefN (casesL Pn Mn) pl r 0 : Nat)] := by rw [← hW2]; exact Blk.new' hT11
  have HB11 := hid B11
  have H7 := hid b7
  have q2' := (HG.out.below hb2 lg).cell 2
  have lg2 := Nat.lt_of_lt_of_le lg hb2.size
  have hT2 : T11 < W2.heap.size := B11.lt
  obtain ⟨CL, hCL⟩ : ∃ CL, casesL Pn Mn = CL := ⟨_, rfl⟩
  rw [hCL] at hcl hcb hcs Hz HBn HC HG HB11 q2 q2'
  have HCB := hid (show ∀ x ∈ CL, ∀ v ∈ x, 0 ≤ v ∧ v < 8 from fun x hx v hv => by have := hcb x hx v hv; omega)
  have HCS := hid hcs
  have HCL := hid hCL
  obtain ⟨Wb, hWb9⟩ : ∃ Wb, Wb = W0 := ⟨_, rfl⟩
  subst hWb9
  clear hG hC hR8 hcap B11 b7 p7 f7 l7 p1 hcb hcs hCL HP HB
  go_wp2_with (fail)
  clear hW2 q2' q2 bB p0 lB
  go_loopw [36] (fun i wr => ∃ k : Nat, k ≤ CL.length ∧ i = .int .i64 k ∧ Hid (Blk wr T11 88 #[.int .u64 (lefN CL pl r k : Nat)]) ∧ W2.grownBy wr (some T11)) (fun i _ => CL.length - (intOf i).toNat)
  case atStart => exact ⟨0, by omega, rfl, HB11, grownM_below (Below.refl _ _)⟩
  case round =>
    obtain ⟨k, hk, rfl, H11, hgw⟩ := hrel
    have hzw := hgw.size
    have hbw : Below Wb.heap.size Wb wr := hb2.trans (below_grownM (hT11 ▸ hgw) (by omega))
    have hzb := hbw.size
    have l11 := H11.out.lt
    by_cases hlt : k < CL.length
    · obtain ⟨b0, off, x, A', m', c', rfl, hb0, hx, c0, hin, hin2⟩ := (HC.out.below hbw hzb).at_ hlt
      have hlti : (k : Int) < CL.length := by omega
      have hm' : m' ≤ 1000000 := by have := hin.len; have := HCS.out x (List.mem_of_getElem? hx); omega
      have HIn := hid hin
      have hxb := HCB.out x (List.mem_of_getElem? hx)
      have Hxb := hid hxb
      have hgx : CL.getD k [] = x := by rw [List.getD_eq_getElem?_getD, hx]; rfl
      have hstep : lefN CL pl r (k + 1) = if eqI (resL pl x) r then lefN CL pl r k ||| 2 ^ k else lefN CL pl r k := by rw [← hgx]; rfl
      have hlt1 := lefN_lt CL pl r k
      have hlt2 : 2 ^ k ≤ 2 ^ 16 := Nat.pow_le_pow_right (by omega) (by omega)
      have e16 : (2 : Nat) ^ 16 = 65536 := by decide
      clear hin hin2 hx hgx hxb
      obtain ⟨L0, hL0⟩ : ∃ L0, lefN CL pl r k = L0 := ⟨_, rfl⟩
      obtain ⟨q, hq⟩ : ∃ q : Nat, 2 ^ k = q := ⟨_, rfl⟩
      have hpw := pow_wrap_u k (by omega)
      have hor := bits_or_u64_nat L0 q (by omega) (by omega)
      rw [hL0] at hstep H11 hlt1
      rw [hq] at hstep hlt1 hlt2 hpw
      have Hst := hid hstep
      clear hL0 hq hstep
      have hgw0 : W2.grownBy wr (some T11) := hgw
      cases he : eqI (resL pl x) r
      · have Hst2 : Hid (lefN CL pl r (k + 1) = L0) := hid (Hst.out.trans (if_neg (by rw [he]; decide)))
        have He := hid he
        clear he
        go_wp2_with (first | (go_at_call 65; refine (results_any g Pn Mn CL pl mp A' m' c' x _ (HBn.out.below hbw) HIn.out hm' Hxb.out g2).mono ?_; rintro e W3 ⟨v3, rfl, ho3, hb3⟩; obtain ⟨A7, c7, rfl, hs7, -⟩ := own_src ho3; have HS7 := hid hs7; clear ho3 hs7) | (go_at_call 68; refine (equal_any _ A7 B pl.length c7 m d (resL pl x) r HS7.out (HBI.out.below (hbw.trans (hb3.mono hzb)) (hbw.trans (hb3.mono hzb)).size) (by omega)).mono ?_; rw [He.out]; rintro e W4 ⟨rfl, hb4⟩))
        have hg4 := grownM_then (grownM_then hgw0 hb3) hb4
        have H14 : Hid (Blk W4 T11 88 #[.int .u64 (lefN CL pl r (k + 1) : Nat)]) := hid (by rw [Hst2.out]; exact (H11.out.below hb3 l11).below hb4 (Nat.lt_of_lt_of_le l11 hb3.size))
        (first | exact ⟨⟨k + 1, by omega, by go_num, H14, hg4⟩, (by first | (simp [intOf]; omega) | (simp [intOf]; done))⟩ | (refine ⟨?_, ?_⟩; (focus ((repeat apply Exists.intro); refine ⟨?_, rfl⟩; exact ⟨k + 1, by omega, by go_num, H14, hg4⟩)); (first | (simp [intOf]; omega) | (simp [intOf]; done))))
      · have Hst2 : Hid (lefN CL pl r (k + 1) = L0 ||| q) := hid (Hst.out.trans (if_pos he))
        have He := hid he
        clear he
        go_wp2_with (first | (go_at_call 65; refine (results_any g Pn Mn CL pl mp A' m' c' x _ (HBn.out.below hbw) HIn.out hm' Hxb.out g2).mono ?_; rintro e W3 ⟨v3, rfl, ho3, hb3⟩; obtain ⟨A7, c7, rfl, hs7, -⟩ := own_src ho3; have HS7 := hid hs7; clear ho3 hs7) | (go_at_call 68; refine (equal_any _ A7 B pl.length c7 m d (resL pl x) r HS7.out (HBI.out.below (hbw.trans (hb3.mono hzb)) (hbw.trans (hb3.mono hzb)).size) (by omega)).mono ?_; rw [He.out]; rintro e W4 ⟨rfl, hb4⟩))
        have hg4 := grownM_then (grownM_then hgw0 hb3) hb4
        have B14 := (H11.out.below hb3 l11).below hb4 (Nat.lt_of_lt_of_le l11 hb3.size)
        have d4 := B14.cell 0
        have f4 := B14.frozen 0
        have l4 := B14.lt
        refine wp_region_hd 6 (fun W' => Below W4.heap.size W4 W') (by kernel_rfl) (by kernel_rfl) ((Below.refl _ _).drew) ?_
        simp only [List.take_succ_cons, List.take_zero, List.drop_succ_cons, List.drop_zero]
        iterate 6 (refine wpHd_val (v := ?_) (by rfl) (fun W hW => ?_) ?_; rotate_left; (· obtain ⟨hcW, hfW⟩ := bcell hW; go_simp; with_reducible rfl); simp only [Act.put, List.setIfInBounds_toArray, List.set_cons_zero, List.set_cons_succ])
        refine wpHd_nil ?_
        intro W7 hW7
        have B17 := B14.below hW7 l4
        have d7 := B17.cell 0
        have f7 := B17.frozen 0
        have l7 := B17.lt
        have hg7 := grownM_setCell (o := 0) (grownM_then hg4 hW7) (.inr rfl : W2.heap.size ≤ T11 ∨ T11 = T11) (.int .u64 ((L0 ||| q : Nat) : Int))
        have B18 := B17.set_ 0 (.int .u64 ((L0 ||| q : Nat) : Int))
        have H18 : Hid (Blk (W7.setCell ⟨T11, 0, none⟩ (.int .u64 ((L0 ||| q : Nat) : Int))) T11 88 #[.int .u64 (lefN CL pl r (k + 1) : Nat)]) := hid (by rw [Hst2.out]; exact B18)
        clear B18 B14 B17 d4 f4
        go_wp2
        (first | exact ⟨⟨k + 1, by omega, by go_num, H18, hg7⟩, (by first | (simp [intOf]; omega) | (simp [intOf]; done))⟩ | (refine ⟨?_, ?_⟩; (focus ((repeat apply Exists.intro); refine ⟨?_, rfl⟩; exact ⟨k + 1, by omega, by go_num, H18, hg7⟩)); (first | (simp [intOf]; omega) | (simp [intOf]; done))))
    · have hke : CL.length = k := by omega
      have hlti : ¬ (k : Int) < CL.length := by omega
      have B7w := H7.out.below hbw H7.out.lt
      have p7 := B7w.cell 0
      have f7 := B7w.frozen 0
      have l7 := B7w.lt
      have hbf : Below w.heap.size w wr := hbel.trans (hbw.mono hsz)
      have hzf := hbf.size
      rw [← hke] at H11
      have d1 := H11.out.cell 0
      clear hke
  
      obtain ⟨LV, hLV⟩ : ∃ LV, lefN CL pl r CL.length = LV := ⟨_, rfl⟩
      rw [hLV] at d1 Hz H11
      have hz0 := Hz.out
      have t0 : ((LV : Int) == 0) = false := by simpa using hz0
      have t1 : ¬ (LV : Int) = 0 := by omega
      have HM9 : Hid (wr.heap[mp]? = some (.map #[] 0)) := hid ((hbw.block mp (Array.getElem?_eq_some_iff.1 HM0.out).1).trans HM0.out)
      have HB9 := hid (HBn.out.below hbw)
      clear H11 hz0
      go_wp2
      refine wp_region_hd 3 (fun W' => Below wr.heap.size wr W') (by kernel_rfl) (by kernel_rfl) ((Below.refl _ _).drew) ?_
      simp only [List.take_succ_cons, List.take_zero, List.drop_succ_cons, List.drop_zero]
      iterate 3 (refine wpHd_val (v := ?_) (by rfl) (fun W hW => ?_) ?_; rotate_left; (· obtain ⟨hcW, hfW⟩ := bcell hW; go_simp; with_reducible rfl); simp only [Act.put, List.setIfInBounds_toArray, List.set_cons_zero, List.set_cons_succ])
      refine wpHd_nil ?_
      intro W7 hW7
      have B17 := B7w.below hW7 l7
      have p8 := B17.cell 0
      have f8 := B17.frozen 0
      have l8 := B17.lt
      have HB10 := hid (HB9.out.below hW7)
      have HM10 := hid ((hW7.block mp (Array.getElem?_eq_some_iff.1 HM9.out).1).trans HM9.out)
      have hb10 := hbf.trans (hW7.mono hzf)
      have hz10 := hb10.size
      have hW0b : Wb.heap.size ≤ W7.heap.size := by have := hW7.size; omega
      clear B17 p7 f7 l7 d1
      go_wp2
      have hS7 : Bench (W7.setCell ⟨w.heap.size + 1, 0, none⟩ (.int .u64 (LV : Int))) g Pn Mn CL pl mp := HB10.out.other p8 _
      refine bodyPost_ret (v := .tuple #[.pointer (some ⟨g, 0, none⟩), .agg #[.int .u64 (LV : Nat)], .int .i64 0]) (by first | (simp [results, Try.results77, go_sem]; done) | (simp [results, Try.results77, go_sem, *]; done) | (simp [results, Try.results77, go_sem, World.cell?_setCell_same', *]; done) | (simp [results, Try.results77, go_sem]; first | exact ⟨rfl, rfl⟩ | rfl)) rfl ⟨g, mp, by rw [HCL.out, hLV], by rw [HCL.out]; exact hS7, ?_, hmw, hb10.setCell (by simp) _⟩
      exact (Below.heap_setCell _ _ _ _ (fun e => by have := HM10.out; rw [show mp = w.heap.size + 1 from e] at this; simp [World.cell?, this] at p8)).trans HM10.out
end Go.Proofs.Ytpgdfipikfbjeaa
/- Plain law of the rods that split some cases. -/
namespace Go.Proofs.Ytpgdfipikfbjeaa
/-- Of the cases by bits those that a rod has no plate of. -/
def gooN (l : List (List Int)) (left : Nat) (rod : List Int) : Nat → Nat
  | 0 => 0
  | k + 1 => if left.testBit k && !meet (l.getD k []) rod then gooN l left rod k ||| 2 ^ k else gooN l left rod k
theorem gooN_lt (l : List (List Int)) (left : Nat) (rod : List Int) : ∀ k, gooN l left rod k < 2 ^ k
  | 0 => by simp [gooN]
  | k + 1 => by
    have h := gooN_lt l left rod k
    unfold gooN
    split
    · exact Nat.or_lt_two_pow (by rw [Nat.pow_succ]; omega) (Nat.pow_lt_pow_right (by omega) (by omega))
    · rw [Nat.pow_succ]; omega
theorem gooN_bit (l : List (List Int)) (left : Nat) (rod : List Int) (i : Nat) : ∀ k, (gooN l left rod k).testBit i = (decide (i < k) && left.testBit i && !meet (l.getD i []) rod)
  | 0 => by simp [gooN]
  | k + 1 => by
    unfold gooN
    by_cases e : k = i
    · subst e
      split <;> rename_i h
      · rw [Bool.and_eq_true] at h
        rw [Nat.testBit_or, gooN_bit l left rod k k, Nat.testBit_two_pow, h.1, h.2, decide_eq_true (show k < k + 1 by omega)]; simp
      · have h' := Bool.eq_false_iff.2 h
        rw [gooN_bit l left rod k k, Bool.and_assoc, Bool.and_assoc, h']; simp
    · have e1 : decide (i < k + 1) = decide (i < k) := by by_cases h2 : i < k <;> simp [h2] <;> omega
      rw [e1]
      split
      · rw [Nat.testBit_or, gooN_bit l left rod i k, Nat.testBit_two_pow]; simp [e]
      · exact gooN_bit l left rod i k
theorem gooN_sub {l : List (List Int)} {left : Nat} {rod : List Int} (h : left < 2 ^ l.length) : gooN l left rod l.length = left - withN l left rod l.length := by
  refine Nat.eq_of_testBit_eq fun i => ?_
  rw [gooN_bit, sub_bit (withN_and _ _ _ _), withN_bit]
  by_cases hi : i < l.length
  · rw [decide_eq_true hi]; cases left.testBit i <;> simp
  · have : left.testBit i = false := Nat.testBit_lt_two_pow (Nat.lt_of_lt_of_le h (Nat.pow_le_pow_right (by omega) (by omega)))
    rw [this]; simp
/-- A rod has both results in the cases. -/
def keepS (l : List (List Int)) (left : Nat) (rod : List Int) : Bool := decide (0 < withN l left rod l.length) && decide (0 < gooN l left rod l.length)
/-- All rods of at most so many plates, but for none. -/
def rodsTo (P k : Nat) : List (List Int) := (List.range k).flatMap fun m => comb (m + 1) 0 P
theorem rodsTo_succ (P k : Nat) : rodsTo P (k + 1) = rodsTo P k ++ comb (k + 1) 0 P := by unfold rodsTo; rw [List.range_succ, List.flatMap_append]; simp
def splTo (l : List (List Int)) (s P k : Nat) : List (List Int) := (rodsTo P k).filter (keepS l s)
theorem splTo_succ (l : List (List Int)) (s P k : Nat) : splTo l s P (k + 1) = splTo l s P k ++ (comb (k + 1) 0 P).filter (keepS l s) := by unfold splTo; rw [rodsTo_succ, List.filter_append]
def splR (l : List (List Int)) (s P : Nat) : List (List Int) := splTo l s P P
theorem rodsTo_len {P k : Nat} (hP : P ≤ 8) (hk : k ≤ 8) : (rodsTo P k).length ≤ 255 := by
  have : ∀ P : Fin 9, ∀ k : Fin 9, (rodsTo P.val k.val).length ≤ 255 := by decide +kernel
  exact this ⟨P, by omega⟩ ⟨k, by omega⟩
theorem splTo_len {l : List (List Int)} {s P k : Nat} (hP : P ≤ 8) (hk : k ≤ 8) : (splTo l s P k).length ≤ 255 := Nat.le_trans (List.length_filter_le _ _) (rodsTo_len hP hk)
theorem low_bit_u (b k : Nat) (hb : b < 1000000) : Go.bits .and .u64 ((b : Int) / 2 ^ k) 1 = if b.testBit k then 1 else 0 := by
  have h1 : ((b : Int) / 2 ^ k) = ((b / 2 ^ k : Nat) : Int) := by simp
  rw [h1, show (1 : Int) = ((1 : Nat) : Int) from rfl]
  have h2 : b / 2 ^ k ≤ b := Nat.div_le_self _ _
  have h3 := Go.bits_and_u64_nat (b / 2 ^ k) 1 (by omega) (by omega)
  rw [h3, Nat.and_one_is_mod, Nat.testBit_eq_decide_div_mod_eq]
  have : b / 2 ^ k % 2 < 2 := Nat.mod_lt _ (by omega)
  by_cases h : b / 2 ^ k % 2 = 1
  · simp [h]
  · have h0 : b / 2 ^ k % 2 = 0 := by omega
    simp [h0]
end Go.Proofs.Ytpgdfipikfbjeaa
