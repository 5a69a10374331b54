/- Texts of the proof, laid together by program. -/
import Derived.Test.YtpgdfipikfbjeaaMp
set_option linter.unusedSimpArgs false
set_option linter.unusedVariables false
namespace Go.Proofs.Ytpgdfipikfbjeaa
open Go.RowKit Go.Shelf
attribute [local go_sem] Oper.semAt_some
set_option maxRecDepth 100000 in
set_option maxHeartbeats 40000000 in
theorem rodEither_a (w : World) (p m0 : Nat) (A : Option Addr) (n c : Nat) (pl : List (List Int)) (x b : Int) (hx : 0 ≤ x ∧ x ≤ 255) (hb : 0 ≤ b ∧ b ≤ 255) (hp : LiS w w.heap.size A n pl) (hf : fineB p m0 pl = true) (htl : Tells p m0 pl) :
    Calls Try.prog 6 #[.agg #[.int .i64 (p : Int), .int .i64 (m0 : Int)], .slice A n c, .int .u8 x, .int .u8 b] w fun e w' => e = .returned (.bool true) ∧ Below w.heap.size w w' := by
  have la := hid hp.1
  obtain ⟨W0, hWb⟩ : ∃ W0, w.alloc (.cells #[.int .i64 (p : Int), .int .i64 (m0 : Int)] 23) = W0 := ⟨_, rfl⟩
  have bB : Blk W0 w.heap.size 23 #[.int .i64 (p : Int), .int .i64 (m0 : Int)] := by rw [← hWb]; exact Blk.new' rfl
  have hbel : Below w.heap.size w W0 := by rw [← hWb]; exact (Below.refl _ _).alloc (Nat.le_refl _) _
  have hsz := hbel.size
  have lB := bB.lt
  have p0 := bB.cell 0
  have p1 := bB.cell 1
  have HP := hid (hp.below hbel hsz)
  clear hp
  obtain ⟨bn, rfl⟩ : ∃ k : Nat, b = k := ⟨b.toNat, by omega⟩
  have hbn : bn < 256 := by omega
  obtain ⟨xn, rfl⟩ : ∃ k : Nat, x = k := ⟨x.toNat, by omega⟩
  obtain ⟨i0, hi0, hi1, hi2, hi3⟩ := info_parts' info3
  have I0 := hid hi0; have I1 := hid hi1; have I2 := hid hi2; have I3 := hid hi3
  clear hi0 hi1 hi2 hi3 hb
  · have Hf := hid hf
    obtain ⟨k1, k2, hc0⟩ := fine_good hf
    obtain ⟨p', m0', e1, e2, hp1, hp8, hm2, hpl8, hisl⟩ := plan_nat hc0
    obtain rfl : p = p' := by omega
    obtain rfl : m0 = m0' := by omega
    clear e1 e2
    have hn : n ≤ 8 := by rw [← la.out]; exact hpl8
    have Hc := hid hc0
    have K2 := hid k2
    have Hisl := hid hisl
    clear hf k1 k2 hc0 hisl
    obtain ⟨cc, hcc⟩ : ∃ cc, atC p m0 xn = cc := ⟨_, rfl⟩
    have hcm : cc ∈ casesL p m0 := by rw [← hcc]; exact at_mem p m0 xn
    have Hcc := hid hcc
    have hcl := (cases_isL hp8 hm2 cc hcm).2
    obtain ⟨rl, hrl⟩ : ∃ rl, resL pl cc = rl := ⟨_, rfl⟩
    have Hre := hid (resE_case hp8 hm2 Hc.out hcm)
    have Hrv := hid ((resV_case hp8 hm2 Hc.out hcm).trans hrl)
    have hrn : rl.length = n := by rw [← hrl, resL_len]; exact la.out
    have Hse : Hid (errR p m0 pl rl = 0) := hid (by rw [← hrl]; exact errR_case Hc.out cc)
    have Hte : Hid (toldE p m0 pl rl = 0) := hid (by rw [← hrl]; exact toldE_case Hc.out hcm)
    obtain ⟨tv, htv⟩ : ∃ tv, toldL p m0 pl rl = tv := ⟨_, rfl⟩
    have Htv : Hid (toldV p m0 pl rl = tv) := hid (by rw [toldV_zero Hte.out, htv])
    have Htl : Hid (tv.length ≤ 37) := hid (by rw [← htv]; exact toldL_len hp8 pl rl)
    have Hts : Hid (∀ d ∈ tv, d.length ≤ 2) := hid (fun d hd => by rw [← htv] at hd; have := (cases_isL hp8 hm2 d (told_mem.1 hd).1).2; omega)
    have Hin : Hid ((tv.any fun d => eqI d cc) = true) := hid (List.any_eq_true.2 ⟨cc, by rw [← htv]; exact told_mem.2 ⟨hcm, hrl⟩, eqI_t.2 rfl⟩)
    have H01 : Hid (∀ y ∈ rl, y = 0 ∨ y = 1) := hid (by rw [← hrl]; exact resL_01 pl cc)
    obtain ⟨ot, hot⟩ : ∃ ot, bitL bn n = ot := ⟨_, rfl⟩
    have hotl : ot.length = n := by rw [← hot]; exact bitL_len bn n
    have heo : errR p m0 pl ot = 0 := by rw [← hot]; exact errR_of Hc.out (by rw [bitL_len]; exact la.out.symm) (bitL_01 bn n)
    obtain ⟨t2, ht2⟩ : ∃ t2, toldL p m0 pl ot = t2 := ⟨_, rfl⟩
    have H2s : Hid (∀ d ∈ t2, d.length ≤ 2) := hid (fun d hd => by rw [← ht2] at hd; have := (cases_isL hp8 hm2 d (told_mem.1 hd).1).2; omega)
    have H2l : Hid (t2.length ≤ 37) := hid (by rw [← ht2]; exact toldL_len hp8 pl ot)
    have H2q : Hid (∀ d ∈ t2, d = cc → eqI ot rl = true) := hid (fun d hd e => by rw [← ht2] at hd; obtain ⟨_, h2⟩ := told_mem.1 hd; rw [e, hrl] at h2; exact eqI_t.2 h2.symm)
    have h2e := toldE_of (P := p) (M := m0) heo
    rw [ht2] at h2e
    have h2n : t2 = [] → eqI ot rl = false := fun h => by
      cases he : eqI ot rl
      · rfl
      · have h3 : cc ∈ toldL p m0 pl ot := told_mem.2 ⟨hcm, by rw [hrl]; exact (eqI_t.1 he).symm⟩
        rw [ht2, h] at h3; cases h3
    have hone : Tells p m0 pl → tv.length = 1 := fun h => by rw [← htv, ← hrl, told_one hp8 hm2 h hcm]; rfl
    have Hot := hid hot
    have H2v0 : Hid (toldE p m0 pl ot = 0 → toldV p m0 pl ot = t2) := hid (fun h => by rw [toldV_zero h, ht2])
    have Hrn := hid hrn
    clear hotl hrn
    obtain ⟨hq, hal, htt⟩ | ⟨hq, -⟩ := ali_cases hp8 hm2 Hc.out
    rotate_left
    · exact absurd htl hq
    · clear htl
      have Htt := hid htt
      have Hal := hid hal
      have Hone := hid (hone hq)
      clear hone
      clear hcc hcm hrl htv hq htt hal hot ht2 heo
      go_enter Try.func6, Try.ntmps6
      go_wp2_with (fail)
      refine (fineW_any A n c pl _ _ _ (HP.out.below (by repeat' (first | with_reducible assumption | with_reducible exact Below.refl _ _ | refine Below.alloc ?_ ?_ _ | refine Below.setCell ?_ ?_ _ | refine Below.drew ?_ | refine below_drewN ?_ _ | (simp; done) | (simp; omega) | omega)) (by first | (simp; done) | (simp; omega) | omega))).mono ?_
      rw [Hf.out]
      rintro e W1 ⟨rfl, hb⟩
      have hst : Below W0.heap.size W0 W1 := Below.trans (by repeat' (first | with_reducible assumption | with_reducible exact Below.refl _ _ | refine Below.alloc ?_ ?_ _ | refine Below.setCell ?_ ?_ _ | refine Below.drew ?_ | refine below_drewN ?_ _ | (simp; done) | (simp; omega) | omega)) (hb.mono (by first | (simp; done) | (simp; omega) | omega))
      replace hbel := hbel.trans (hst.mono hsz)
      replace hsz := hbel.size
      replace bB := bB.below hst bB.lt
      clear p0 p1 lB
      have p0 := bB.cell 0
      have p1 := bB.cell 1
      have lB := bB.lt
      try clear hWb
      replace HP := hid (HP.out.below hst hst.size)
      clear hb hst
      obtain ⟨W0, rfl⟩ : ∃ W0 : World, W0 = W1 := ⟨_, rfl⟩
      go_wp2_with (fail)
      refine (at_any p m0 xn _ hp8 hm2 (by omega)).mono ?_
      rw [Hcc.out]
      rintro e W1 ⟨Ac, mc, cq, rfl, h1, -, hb⟩
      have hst : Below W0.heap.size W0 W1 := Below.trans (by repeat' (first | with_reducible assumption | with_reducible exact Below.refl _ _ | refine Below.alloc ?_ ?_ _ | refine Below.setCell ?_ ?_ _ | refine Below.drew ?_ | refine below_drewN ?_ _ | (simp; done) | (simp; omega) | omega)) (hb.mono (by first | (simp; done) | (simp; omega) | omega))
      replace hbel := hbel.trans (hst.mono hsz)
      replace hsz := hbel.size
      replace bB := bB.below hst bB.lt
      clear p0 p1 lB
      have p0 := bB.cell 0
      have p1 := bB.cell 1
      have lB := bB.lt
      try clear hWb
      replace HP := hid (HP.out.below hst hst.size)
      have HC := hid h1
      clear h1
      clear hb hst
      obtain ⟨W0, rfl⟩ : ∃ W0 : World, W0 = W1 := ⟨_, rfl⟩
      go_wp2_with (fail)
      refine (checkTells_any A n c pl _ _ _ (HP.out.below (by repeat' (first | with_reducible assumption | with_reducible exact Below.refl _ _ | refine Below.alloc ?_ ?_ _ | refine Below.setCell ?_ ?_ _ | refine Below.drew ?_ | refine below_drewN ?_ _ | (simp; done) | (simp; omega) | omega)) (by first | (simp; done) | (simp; omega) | omega)) (by omega) K2.out).mono ?_
      rw [Htt.out]
      rintro e W1 ⟨rfl, hb⟩
      have hst : Below W0.heap.size W0 W1 := Below.trans (by repeat' (first | with_reducible assumption | with_reducible exact Below.refl _ _ | refine Below.alloc ?_ ?_ _ | refine Below.setCell ?_ ?_ _ | refine Below.drew ?_ | refine below_drewN ?_ _ | (simp; done) | (simp; omega) | omega)) (hb.mono (by first | (simp; done) | (simp; omega) | omega))
      replace hbel := hbel.trans (hst.mono hsz)
      replace hsz := hbel.size
      replace bB := bB.below hst bB.lt
      clear p0 p1 lB
      have p0 := bB.cell 0
      have p1 := bB.cell 1
      have lB := bB.lt
      try clear hWb
      replace HP := hid (HP.out.below hst hst.size)
      replace HC := hid (HC.out.below hst hst.size)
      clear hb hst
      obtain ⟨W0, rfl⟩ : ∃ W0 : World, W0 = W1 := ⟨_, rfl⟩
      go_wp2_with (fail)
      refine (alike_any A n c pl _ _ _ (HP.out.below (by repeat' (first | with_reducible assumption | with_reducible exact Below.refl _ _ | refine Below.alloc ?_ ?_ _ | refine Below.setCell ?_ ?_ _ | refine Below.drew ?_ | refine below_drewN ?_ _ | (simp; done) | (simp; omega) | omega)) (by first | (simp; done) | (simp; omega) | omega)) (by omega) K2.out).mono ?_
      rw [Hal.out]
      rintro e W1 ⟨A1, m1, c1, A2, m2, c2, rfl, h1, h2, hb⟩
      have hst : Below W0.heap.size W0 W1 := Below.trans (by repeat' (first | with_reducible assumption | with_reducible exact Below.refl _ _ | refine Below.alloc ?_ ?_ _ | refine Below.setCell ?_ ?_ _ | refine Below.drew ?_ | refine below_drewN ?_ _ | (simp; done) | (simp; omega) | omega)) (hb.mono (by first | (simp; done) | (simp; omega) | omega))
      replace hbel := hbel.trans (hst.mono hsz)
      replace hsz := hbel.size
      replace bB := bB.below hst bB.lt
      clear p0 p1 lB
      have p0 := bB.cell 0
      have p1 := bB.cell 1
      have lB := bB.lt
      try clear hWb
      replace HP := hid (HP.out.below hst hst.size)
      replace HC := hid (HC.out.below hst hst.size)
      have H1 := hid (show InS W1 W1.heap.size A1 m1 [] from h1)
      have H2 := hid (show InS W1 W1.heap.size A2 m2 [] from h2)
      clear hb hst
      obtain ⟨W0, rfl⟩ : ∃ W0 : World, W0 = W1 := ⟨_, rfl⟩
      clear h1 h2
      go_wp2_with (fail)
      refine (resultsF_any A Ac n c mc cq pl cc _ _ _ (HP.out.below (by repeat' (first | with_reducible assumption | with_reducible exact Below.refl _ _ | refine Below.alloc ?_ ?_ _ | refine Below.setCell ?_ ?_ _ | refine Below.drew ?_ | refine below_drewN ?_ _ | (simp; done) | (simp; omega) | omega)) (by first | (simp; done) | (simp; omega) | omega)) (HC.out.below (by repeat' (first | with_reducible assumption | with_reducible exact Below.refl _ _ | refine Below.alloc ?_ ?_ _ | refine Below.setCell ?_ ?_ _ | refine Below.drew ?_ | refine below_drewN ?_ _ | (simp; done) | (simp; omega) | omega)) (by first | (simp; done) | (simp; omega) | omega)) (by omega) K2.out (by have := HC.out.len; omega)).mono ?_
      rw [Hrv.out, Hre.out]
      rintro e W1 ⟨Ar, mr, cr, rfl, h1, hb⟩
      have hst : Below W0.heap.size W0 W1 := Below.trans (by repeat' (first | with_reducible assumption | with_reducible exact Below.refl _ _ | refine Below.alloc ?_ ?_ _ | refine Below.setCell ?_ ?_ _ | refine Below.drew ?_ | refine below_drewN ?_ _ | (simp; done) | (simp; omega) | omega)) (hb.mono (by first | (simp; done) | (simp; omega) | omega))
      replace hbel := hbel.trans (hst.mono hsz)
      replace hsz := hbel.size
      replace bB := bB.below hst bB.lt
      clear p0 p1 lB
      have p0 := bB.cell 0
      have p1 := bB.cell 1
      have lB := bB.lt
      try clear hWb
      replace HP := hid (HP.out.below hst hst.size)
      replace HC := hid (HC.out.below hst hst.size)
      replace H1 := hid (H1.out.below hst hst.size)
      replace H2 := hid (H2.out.below hst hst.size)
      have HR := hid h1
      clear h1
      clear hb hst
      obtain ⟨W0, rfl⟩ : ∃ W0 : World, W0 = W1 := ⟨_, rfl⟩
      obtain rfl : mr = n := by have := HR.out.len; have := Hrn.out; omega
      have hmc : mc ≤ 2 := by have := HC.out.len; omega
      go_wp2_with (fail)
      go_loopw [16] (fun i wr => ∃ k : Nat, k ≤ mr ∧ i = .int .i64 k ∧ W0 = wr) (fun i _ => mr - (intOf i).toNat)
      case atStart => exact ⟨0, by omega, rfl, rfl⟩
      case round =>
        obtain ⟨k, hk, rfl, rfl⟩ := hrel
        by_cases hlt : k < mr
        · obtain ⟨b, off, y, rfl, hbq, hm, c0⟩ := HR.out.at_ hlt
          have hlti : (k : Int) < mr := by omega
          have hy := H01.out y (List.mem_of_getElem? hm)
          clear hm
          rcases hy with rfl | rfl
          all_goals
            go_wp2
            exact ⟨⟨k + 1, by omega, by go_num, trivial⟩, by simp [intOf]; omega⟩
        · obtain rfl : k = mr := by omega
          go_wp2_with (fail)
          refine (toldF_any A Ar k c k cr pl rl _ _ _ (HP.out.below (by repeat' (first | with_reducible assumption | with_reducible exact Below.refl _ _ | refine Below.alloc ?_ ?_ _ | refine Below.setCell ?_ ?_ _ | refine Below.drew ?_ | refine below_drewN ?_ _ | (simp; done) | (simp; omega) | omega)) (by first | (simp; done) | (simp; omega) | omega)) (HR.out.below (by repeat' (first | with_reducible assumption | with_reducible exact Below.refl _ _ | refine Below.alloc ?_ ?_ _ | refine Below.setCell ?_ ?_ _ | refine Below.drew ?_ | refine below_drewN ?_ _ | (simp; done) | (simp; omega) | omega)) (by first | (simp; done) | (simp; omega) | omega)) (by omega) K2.out).mono ?_
          rw [Htv.out, Hte.out]
          rintro e W1 ⟨At, mt, ct, rfl, h1, hb⟩
          have hst : Below W0.heap.size W0 W1 := Below.trans (by repeat' (first | with_reducible assumption | with_reducible exact Below.refl _ _ | refine Below.alloc ?_ ?_ _ | refine Below.setCell ?_ ?_ _ | refine Below.drew ?_ | refine below_drewN ?_ _ | (simp; done) | (simp; omega) | omega)) (hb.mono (by first | (simp; done) | (simp; omega) | omega))
          replace hbel := hbel.trans (hst.mono hsz)
          replace hsz := hbel.size
          replace bB := bB.below hst bB.lt
          clear p0 p1 lB
          have p0 := bB.cell 0
          have p1 := bB.cell 1
          have lB := bB.lt
          try clear hWb
          replace HP := hid (HP.out.below hst hst.size)
          replace HC := hid (HC.out.below hst hst.size)
          replace H1 := hid (H1.out.below hst hst.size)
          replace H2 := hid (H2.out.below hst hst.size)
          replace HR := hid (HR.out.below hst hst.size)
          have HT := hid h1.1
          clear hb hst
          obtain ⟨W0, rfl⟩ : ∃ W0 : World, W0 = W1 := ⟨_, rfl⟩
          clear h1
          have hmt : mt ≤ 37 := by have := HT.out.1; have := Htl.out; omega
          have Hm1 : Hid ((mt : Int) = 1) := hid (by have := HT.out.1; have := Hone.out; omega)
          go_wp2_with (fail)
          go_loopw [19, 20] (fun v i wr => ∃ (j : Nat) (bv : Bool), j ≤ mt ∧ i = .int .i64 j ∧ v = .bool bv ∧ Hid (((tv.take j).any fun d => eqI d cc) = bv) ∧ Below W0.heap.size W0 wr) (fun _ i _ => mt - (intOf i).toNat)
          case atStart => exact ⟨0, false, by omega, rfl, rfl, hid rfl, Below.refl _ _⟩
          case round =>
            obtain ⟨j, bv, hj, rfl, rfl, hbv, hbw⟩ := hrel
            have hszw := hbw.size
            by_cases hlt : j < mt
            · obtain ⟨bt, ot7, d, A7, m7, c7, rfl, hbt, hd, ct7, hin7⟩ := HT.out.at_ hlt
              have hlti : (j : Int) < mt := by omega
              have ct7w := (hbw.cell (p := ⟨bt, ot7 + j, none⟩) hbt).trans ct7
              have hbtw : bt < wr.heap.size := Nat.lt_of_lt_of_le hbt hszw
              have HIN := hid (hin7.below hbw hszw)
              have hm72 : m7 ≤ 2 := by have := hin7.len; have := Hts.out d (List.mem_of_getElem? hd); omega
              have hst : Hid (((tv.take (j + 1)).any fun d => eqI d cc) = (bv || eqI d cc)) := hid (by rw [List.take_add_one, hd, List.any_append, hbv.out]; simp)
              clear hd hin7 hbv
              cases bv
              · obtain ⟨dv, hdv⟩ : ∃ dv, eqI d cc = dv := ⟨_, rfl⟩
                have Hdv := hid hdv
                rw [hdv] at hst
                clear hdv
                go_wp2_with (go_at_call 24; refine (ints_any _ _ Ac m7 c7 mc cq d cc HIN.out (HC.out.below hbw hszw) (by omega)).mono ?_; rw [Hdv.out]; rintro e W2 ⟨rfl, hb2⟩)
                exact ⟨⟨j + 1, dv, by omega, by go_num, by simp, hst, hbw.trans (hb2.mono hszw)⟩, by simp [intOf]; omega⟩
              · go_wp2
                exact ⟨⟨j + 1, true, by omega, by go_num, by simp, hst, hbw⟩, by simp [intOf]; omega⟩
            · obtain rfl : j = mt := by omega
              have hbt2 := hbv.out
              rw [List.take_of_length_le (by have := HT.out.1; omega), Hin.out] at hbt2
              subst hbt2
              clear hbv hszw
              replace hbel := hbel.trans (hbw.mono hsz)
              replace hsz := hbel.size
              replace bB := bB.below hbw bB.lt
              clear p0 p1 lB
              have p0 := bB.cell 0
              have p1 := bB.cell 1
              have lB := bB.lt
              replace HP := hid (HP.out.below hbw hbw.size)
              replace HC := hid (HC.out.below hbw hbw.size)
              replace H1 := hid (H1.out.below hbw hbw.size)
              replace H2 := hid (H2.out.below hbw hbw.size)
              replace HR := hid (HR.out.below hbw hbw.size)
              replace HT := hid (HT.out.below hbw hbw.size)
              clear hbw
              try clear hWb
              obtain ⟨W0, rfl⟩ : ∃ W0 : World, W0 = wr := ⟨_, rfl⟩
              clear H1
              clear H2
              clear HT
              have hm1 := Hm1.out
              go_wp2_with (fail)
              clear hm1
              go_loopw [25, 26] (fun v i wr => ∃ j : Nat, j ≤ k ∧ i = .int .i64 j ∧ Below W0.heap.size W0 wr ∧ Hid (wr.ownsRow W0.heap.size 3 1 v j ((bitL bn j).flatMap cI))) (fun _ i _ => k - (intOf i).toNat)
              case atStart => exact ⟨0, by omega, rfl, Below.refl _ _, hid (World.ownsRow_nil _ _ _ _)⟩
              case round =>
                obtain ⟨j, hj, rfl, hbw, hown⟩ := hrel
                have hszw := hbw.size
                by_cases hlt : j < k
                · have hlti : (j : Int) < k := by omega
                  have hs := bitL_succ bn j
                  have hand := low_bit_8 bn j hbn
                  cases ht : bn.testBit j
                  all_goals
                    rw [ht] at hs hand
                    simp only [Bool.false_eq_true, if_false, if_true] at hs hand
                    have Hs := hid hs
                    clear hs ht
                  · have Hf2 : Hid ((bitL bn (j + 1)).flatMap cI = (bitL bn j).flatMap cI ++ [.int .i64 0]) := hid (by rw [Hs.out, List.flatMap_append]; rfl)
                    go_wp2_with (at_builtin; refine wpList_append_own _ rfl _ _ 25 rfl W0.heap.size 3 i0 _ 1 8 under25 I0.out I1.out I2.out I3.out rfl (by decide) _ j _ rfl (hown.out.alloc (.cells #[.int .i64 0] 3)) ⟨wr.heap.size, 0, none⟩ 1 1 [.int .i64 0] rfl rfl (fun j u hj => World.news_of_block (Blk.new' (by simp)) j u hj) (one1 _) (by unfold maxLen; omega) (by omega) (by simp; omega) ?_; intro v' w3 ho3 hg3 hv3)
                    have hb3 : Below W0.heap.size W0 w3 := (hbw.alloc hszw _).grown hg3 (by simp; omega) (fun r hr => (World.ownsRow.lt hown.out r hr).1)
                    exact ⟨⟨j + 1, by omega, by go_num, hb3, hid (by rw [Hf2.out]; exact ho3)⟩, by simp [intOf]; omega⟩
                  · have Hf2 : Hid ((bitL bn (j + 1)).flatMap cI = (bitL bn j).flatMap cI ++ [.int .i64 1]) := hid (by rw [Hs.out, List.flatMap_append]; rfl)
                    go_wp2_with (at_builtin; refine wpList_append_own _ rfl _ _ 25 rfl W0.heap.size 3 i0 _ 1 8 under25 I0.out I1.out I2.out I3.out rfl (by decide) _ j _ rfl (hown.out.alloc (.cells #[.int .i64 1] 3)) ⟨wr.heap.size, 0, none⟩ 1 1 [.int .i64 1] rfl rfl (fun j u hj => World.news_of_block (Blk.new' (by simp)) j u hj) (one1 _) (by unfold maxLen; omega) (by omega) (by simp; omega) ?_; intro v' w3 ho3 hg3 hv3)
                    have hb3 : Below W0.heap.size W0 w3 := (hbw.alloc hszw _).grown hg3 (by simp; omega) (fun r hr => (World.ownsRow.lt hown.out r hr).1)
                    exact ⟨⟨j + 1, by omega, by go_num, hb3, hid (by rw [Hf2.out]; exact ho3)⟩, by simp [intOf]; omega⟩
                · obtain rfl : j = k := by omega
                  have ho9 := hown.out
                  rw [Hot.out] at ho9
                  obtain ⟨Ao, co, hvo, hso⟩ := sl_of_owns ho9
                  subst hvo
                  have HO := hid (show InS wr wr.heap.size Ao j ot from hso)
                  clear ho9 hso hown hszw
                  replace hbel := hbel.trans (hbw.mono hsz)
                  replace hsz := hbel.size
                  replace bB := bB.below hbw bB.lt
                  clear p0 p1 lB
                  have p0 := bB.cell 0
                  have p1 := bB.cell 1
                  have lB := bB.lt
                  replace HP := hid (HP.out.below hbw hbw.size)
                  replace HC := hid (HC.out.below hbw hbw.size)
                  replace HR := hid (HR.out.below hbw hbw.size)
                  clear hbw
                  try clear hWb
                  obtain ⟨W0, rfl⟩ : ∃ W0 : World, W0 = wr := ⟨_, rfl⟩
                  by_cases h20 : t2 = []
                  · have Hn := hid (h2n h20)
                    rw [if_pos h20] at h2e
                    have H2e := hid h2e
                    have H2v : Hid (toldV p m0 pl ot = []) := hid (toldV_off (by rw [h2e]; decide))
                    clear h2e h2n h20
                    go_wp2_with (fail)
                    refine (toldF_any A Ao j c j co pl ot _ _ _ (HP.out.below (by repeat' (first | with_reducible assumption | with_reducible exact Below.refl _ _ | refine Below.alloc ?_ ?_ _ | refine Below.setCell ?_ ?_ _ | refine Below.drew ?_ | refine below_drewN ?_ _ | (simp; done) | (simp; omega) | omega)) (by first | (simp; done) | (simp; omega) | omega)) (HO.out.below (by repeat' (first | with_reducible assumption | with_reducible exact Below.refl _ _ | refine Below.alloc ?_ ?_ _ | refine Below.setCell ?_ ?_ _ | refine Below.drew ?_ | refine below_drewN ?_ _ | (simp; done) | (simp; omega) | omega)) (by first | (simp; done) | (simp; omega) | omega)) (by omega) K2.out).mono ?_
                    rw [H2v.out, H2e.out]
                    rintro e W1 ⟨A5, m5, c5, rfl, h1, hb⟩
                    have hst : Below W0.heap.size W0 W1 := Below.trans (by repeat' (first | with_reducible assumption | with_reducible exact Below.refl _ _ | refine Below.alloc ?_ ?_ _ | refine Below.setCell ?_ ?_ _ | refine Below.drew ?_ | refine below_drewN ?_ _ | (simp; done) | (simp; omega) | omega)) (hb.mono (by first | (simp; done) | (simp; omega) | omega))
                    replace hbel := hbel.trans (hst.mono hsz)
                    replace hsz := hbel.size
                    replace bB := bB.below hst bB.lt
                    clear p0 p1 lB
                    have p0 := bB.cell 0
                    have p1 := bB.cell 1
                    have lB := bB.lt
                    try clear hWb
                    replace HP := hid (HP.out.below hst hst.size)
                    replace HC := hid (HC.out.below hst hst.size)
                    replace HR := hid (HR.out.below hst hst.size)
                    replace HO := hid (HO.out.below hst hst.size)
                    have H5 := hid h1.1
                    clear hb hst
                    obtain ⟨W0, rfl⟩ : ∃ W0 : World, W0 = W1 := ⟨_, rfl⟩
                    clear h1
                    obtain rfl : m5 = 0 := by have := H5.out.1; simpa using this.symm
                    go_wp2_with (fail)
                    go_loopw [27] (fun i wr => i = .int .i64 0 ∧ W0 = wr) (fun i _ => 0)
                    case atStart => exact ⟨rfl, rfl⟩
                    case round =>
                      obtain ⟨rfl, rfl⟩ := hrel
                      go_wp2_with (fail)
                      refine (ints_any _ Ao Ar j co j cr ot rl (HO.out.below (by repeat' (first | with_reducible assumption | with_reducible exact Below.refl _ _ | refine Below.alloc ?_ ?_ _ | refine Below.setCell ?_ ?_ _ | refine Below.drew ?_ | refine below_drewN ?_ _ | (simp; done) | (simp; omega) | omega)) (by first | (simp; done) | (simp; omega) | omega)) (HR.out.below (by repeat' (first | with_reducible assumption | with_reducible exact Below.refl _ _ | refine Below.alloc ?_ ?_ _ | refine Below.setCell ?_ ?_ _ | refine Below.drew ?_ | refine below_drewN ?_ _ | (simp; done) | (simp; omega) | omega)) (by first | (simp; done) | (simp; omega) | omega)) (by omega)).mono ?_
                      rw [Hn.out]
                      rintro e W1 ⟨rfl, hb⟩
                      have hst : Below W0.heap.size W0 W1 := Below.trans (by repeat' (first | with_reducible assumption | with_reducible exact Below.refl _ _ | refine Below.alloc ?_ ?_ _ | refine Below.setCell ?_ ?_ _ | refine Below.drew ?_ | refine below_drewN ?_ _ | (simp; done) | (simp; omega) | omega)) (hb.mono (by first | (simp; done) | (simp; omega) | omega))
                      replace hbel := hbel.trans (hst.mono hsz)
                      replace hsz := hbel.size
                      replace bB := bB.below hst bB.lt
                      clear p0 p1 lB
                      have p0 := bB.cell 0
                      have p1 := bB.cell 1
                      have lB := bB.lt
                      try clear hWb
                      replace HP := hid (HP.out.below hst hst.size)
                      replace HC := hid (HC.out.below hst hst.size)
                      replace HR := hid (HR.out.below hst hst.size)
                      replace HO := hid (HO.out.below hst hst.size)
                      replace H5 := hid (H5.out.below hst hst.size)
                      clear hb hst
                      obtain ⟨W0, rfl⟩ : ∃ W0 : World, W0 = W1 := ⟨_, rfl⟩
                      go_wp2_with (fail)
                      refine (works_any _).mono ?_
                      rintro e W1 ⟨rfl, hb⟩
                      have hst : Below W0.heap.size W0 W1 := Below.trans (by repeat' (first | with_reducible assumption | with_reducible exact Below.refl _ _ | refine Below.alloc ?_ ?_ _ | refine Below.setCell ?_ ?_ _ | refine Below.drew ?_ | refine below_drewN ?_ _ | (simp; done) | (simp; omega) | omega)) (hb.mono (by first | (simp; done) | (simp; omega) | omega))
                      replace hbel := hbel.trans (hst.mono hsz)
                      replace hsz := hbel.size
                      replace bB := bB.below hst bB.lt
                      clear p0 p1 lB
                      have p0 := bB.cell 0
                      have p1 := bB.cell 1
                      have lB := bB.lt
                      try clear hWb
                      replace HP := hid (HP.out.below hst hst.size)
                      replace HC := hid (HC.out.below hst hst.size)
                      replace HR := hid (HR.out.below hst hst.size)
                      replace HO := hid (HO.out.below hst hst.size)
                      replace H5 := hid (H5.out.below hst hst.size)
                      clear hb hst
                      obtain ⟨W0, rfl⟩ : ∃ W0 : World, W0 = W1 := ⟨_, rfl⟩
                      go_wp2
                      go_ret
                      exact ⟨rfl, hbel⟩
                  · rw [if_neg h20] at h2e
                    have H2e := hid h2e
                    have H2v : Hid (toldV p m0 pl ot = t2) := hid (H2v0.out h2e)
                    have h2p : 0 < t2.length := List.length_pos_iff.2 h20
                    clear h2e h2n h20
                    go_wp2_with (fail)
                    refine (toldF_any A Ao j c j co pl ot _ _ _ (HP.out.below (by repeat' (first | with_reducible assumption | with_reducible exact Below.refl _ _ | refine Below.alloc ?_ ?_ _ | refine Below.setCell ?_ ?_ _ | refine Below.drew ?_ | refine below_drewN ?_ _ | (simp; done) | (simp; omega) | omega)) (by first | (simp; done) | (simp; omega) | omega)) (HO.out.below (by repeat' (first | with_reducible assumption | with_reducible exact Below.refl _ _ | refine Below.alloc ?_ ?_ _ | refine Below.setCell ?_ ?_ _ | refine Below.drew ?_ | refine below_drewN ?_ _ | (simp; done) | (simp; omega) | omega)) (by first | (simp; done) | (simp; omega) | omega)) (by omega) K2.out).mono ?_
                    rw [H2v.out, H2e.out]
                    rintro e W1 ⟨A5, m5, c5, rfl, h1, hb⟩
                    have hst : Below W0.heap.size W0 W1 := Below.trans (by repeat' (first | with_reducible assumption | with_reducible exact Below.refl _ _ | refine Below.alloc ?_ ?_ _ | refine Below.setCell ?_ ?_ _ | refine Below.drew ?_ | refine below_drewN ?_ _ | (simp; done) | (simp; omega) | omega)) (hb.mono (by first | (simp; done) | (simp; omega) | omega))
                    replace hbel := hbel.trans (hst.mono hsz)
                    replace hsz := hbel.size
                    replace bB := bB.below hst bB.lt
                    clear p0 p1 lB
                    have p0 := bB.cell 0
                    have p1 := bB.cell 1
                    have lB := bB.lt
                    try clear hWb
                    replace HP := hid (HP.out.below hst hst.size)
                    replace HC := hid (HC.out.below hst hst.size)
                    replace HR := hid (HR.out.below hst hst.size)
                    replace HO := hid (HO.out.below hst hst.size)
                    have H5 := hid h1.1
                    clear hb hst
                    obtain ⟨W0, rfl⟩ : ∃ W0 : World, W0 = W1 := ⟨_, rfl⟩
                    clear h1
                    have hm5 : m5 ≤ 37 ∧ 0 < m5 := by have := H5.out.1; have := H2l.out; omega
                    have hm5i : (0 : Int) < m5 := by omega
                    go_wp2_with (fail)
                    go_loopw [27] (fun i wr => ∃ q : Nat, q ≤ m5 ∧ i = .int .i64 q ∧ Below W0.heap.size W0 wr) (fun i _ => m5 - (intOf i).toNat)
                    case atStart => exact ⟨0, by omega, rfl, Below.refl _ _⟩
                    case round =>
                      obtain ⟨q, hq, rfl, hbw⟩ := hrel
                      have hszw := hbw.size
                      by_cases hlt : q < m5
                      · obtain ⟨bt, ot7, d, A7, m7, c7, rfl, hbt, hd, ct7, hin7⟩ := H5.out.at_ hlt
                        have hlti : (q : Int) < m5 := by omega
                        have ct7w := (hbw.cell (p := ⟨bt, ot7 + q, none⟩) hbt).trans ct7
                        have hbtw : bt < wr.heap.size := Nat.lt_of_lt_of_le hbt hszw
                        have HIN := hid (hin7.below hbw hszw)
                        have hm72 : m7 ≤ 2 := by have := hin7.len; have := H2s.out d (List.mem_of_getElem? hd); omega
                        have Hq := hid (H2q.out d (List.mem_of_getElem? hd))
                        clear hd hin7
                        cases hdv : eqI d cc
                        · have Hdv := hid hdv
                          clear hdv
                          go_wp2_with (go_at_call 24; refine (ints_any _ _ Ac m7 c7 mc cq d cc HIN.out (HC.out.below hbw hszw) (by omega)).mono ?_; rw [Hdv.out]; rintro e W2 ⟨rfl, hb2⟩)
                          exact ⟨⟨q + 1, by omega, by go_num, hbw.trans (hb2.mono hszw)⟩, by simp [intOf]; omega⟩
                        · have Hdv := hid hdv
                          have Hro := hid (Hq.out (eqI_t.1 hdv))
                          clear hdv
                          go_wp2_with (fail)
                          refine (ints_any _ _ Ac m7 c7 mc cq d cc HIN.out (HC.out.below hbw hszw) (by omega)).mono ?_
                          rw [Hdv.out]
                          rintro e W2 ⟨rfl, hb2⟩
                          have hbw2 := hbw.trans (hb2.mono hszw)
                          have hszw2 := hbw2.size
                          go_wp2_with (go_at_call 24; refine (ints_any _ Ao Ar j co j cr ot rl (HO.out.below hbw2 hszw2) (HR.out.below hbw2 hszw2) (by omega)).mono ?_; rw [Hro.out]; rintro e W3 ⟨rfl, hb3⟩)
                          exact ⟨⟨q + 1, by omega, by go_num, hbw2.trans (hb3.mono hszw2)⟩, by simp [intOf]; omega⟩
                      · obtain rfl : q = m5 := by omega
                        clear hszw
                        replace hbel := hbel.trans (hbw.mono hsz)
                        replace hsz := hbel.size
                        replace bB := bB.below hbw bB.lt
                        clear p0 p1 lB
                        have p0 := bB.cell 0
                        have p1 := bB.cell 1
                        have lB := bB.lt
                        replace HP := hid (HP.out.below hbw hbw.size)
                        replace HC := hid (HC.out.below hbw hbw.size)
                        replace HR := hid (HR.out.below hbw hbw.size)
                        replace HO := hid (HO.out.below hbw hbw.size)
                        replace H5 := hid (H5.out.below hbw hbw.size)
                        clear hbw
                        try clear hWb
                        obtain ⟨W0, rfl⟩ : ∃ W0 : World, W0 = wr := ⟨_, rfl⟩
                        go_wp2_with (fail)
                        refine (works_any _).mono ?_
                        rintro e W1 ⟨rfl, hb⟩
                        have hst : Below W0.heap.size W0 W1 := Below.trans (by repeat' (first | with_reducible assumption | with_reducible exact Below.refl _ _ | refine Below.alloc ?_ ?_ _ | refine Below.setCell ?_ ?_ _ | refine Below.drew ?_ | refine below_drewN ?_ _ | (simp; done) | (simp; omega) | omega)) (hb.mono (by first | (simp; done) | (simp; omega) | omega))
                        replace hbel := hbel.trans (hst.mono hsz)
                        replace hsz := hbel.size
                        replace bB := bB.below hst bB.lt
                        clear p0 p1 lB
                        have p0 := bB.cell 0
                        have p1 := bB.cell 1
                        have lB := bB.lt
                        try clear hWb
                        replace HP := hid (HP.out.below hst hst.size)
                        replace HC := hid (HC.out.below hst hst.size)
                        replace HR := hid (HR.out.below hst hst.size)
                        replace HO := hid (HO.out.below hst hst.size)
                        replace H5 := hid (H5.out.below hst hst.size)
                        clear hb hst
                        obtain ⟨W0, rfl⟩ : ∃ W0 : World, W0 = W1 := ⟨_, rfl⟩
                        go_wp2
                        go_ret
                        exact ⟨rfl, hbel⟩
end Go.Proofs.Ytpgdfipikfbjeaa
