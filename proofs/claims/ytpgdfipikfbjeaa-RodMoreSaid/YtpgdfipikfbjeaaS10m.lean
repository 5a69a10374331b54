/- The statement RodMore holds: whatever the arguments, the law returns true and leaves its arguments as they were. -/
import Derived.Test.YtpgdfipikfbjeaaMr
set_option linter.unusedSimpArgs false
set_option linter.unusedVariables false
namespace Go.Proofs.Ytpgdfipikfbjeaa
open Go.RowKit Go.Shelf
attribute [local go_sem] Oper.semAt_some
set_option maxRecDepth 100000 in
set_option maxHeartbeats 40000000 in
theorem rodMore_walk (w : World) (P M : Int) (A : Option Addr) (n c : Nat) (pl : List (List Int)) (mo x : Int) (hmo : 0 ≤ mo ∧ mo ≤ 255) (hx : 0 ≤ x ∧ x ≤ 255) (hA : A = none → n = 0 ∧ c = 0) (hp : LiS w w.heap.size A n pl) :
    Calls Try.prog 10 #[.agg #[.int .i64 P, .int .i64 M], .slice A n c, .int .u8 mo, .int .u8 x] w fun e w' => e = .returned (.bool true) ∧ Below w.heap.size w w' := by
  have la := hid hp.1
  obtain ⟨W0, hWb⟩ : ∃ W0, w.alloc (.cells #[.int .i64 P, .int .i64 M] 23) = W0 := ⟨_, rfl⟩
  have bB : Blk W0 w.heap.size 23 #[.int .i64 P, .int .i64 M] := by rw [← hWb]; exact Blk.new' rfl
  have hbel : Below w.heap.size w W0 := by rw [← hWb]; exact (Below.refl _ _).alloc (Nat.le_refl _) _
  have hsz := hbel.size
  have lB := bB.lt
  have p0 := bB.cell 0
  have p1 := bB.cell 1
  have HP := hid (hp.below hbel hsz)
  clear hp
  obtain ⟨xn, rfl⟩ : ∃ k : Nat, x = k := ⟨x.toNat, by omega⟩
  obtain ⟨mn, rfl⟩ : ∃ k : Nat, mo = k := ⟨mo.toNat, by omega⟩
  obtain ⟨i0, hi0, hi1, hi2, hi3⟩ := info_parts' info25
  have I0 := hid hi0; have I1 := hid hi1; have I2 := hid hi2; have I3 := hid hi3
  have HA := hid hA
  clear hi0 hi1 hi2 hi3 hA
  cases hf : fineB P M pl
  · have Hf := hid hf
    clear hf
    go_enter Try.func10, Try.ntmps10
    go_wp2_with (fail)
    refine (fineW_any A n c pl P M _ (HP.out.below (by repeat' (first | with_reducible assumption | with_reducible exact Below.refl _ _ | refine Below.alloc ?_ ?_ _ | refine Below.setCell ?_ ?_ _ | refine Below.drew ?_ | refine below_drewN ?_ _ | (simp; done) | (simp; omega) | omega)) (by first | (simp; done) | (simp; omega) | omega))).mono ?_
    rw [Hf.out]
    rintro e W1 ⟨rfl, hb⟩
    have hst : Below W0.heap.size W0 W1 := Below.trans (by repeat' (first | with_reducible assumption | with_reducible exact Below.refl _ _ | refine Below.alloc ?_ ?_ _ | refine Below.setCell ?_ ?_ _ | refine Below.drew ?_ | refine below_drewN ?_ _ | (simp; done) | (simp; omega) | omega)) (hb.mono (by first | (simp; done) | (simp; omega) | omega))
    replace hbel := hbel.trans (hst.mono hsz)
    replace hsz := hbel.size
    replace bB := bB.below hst bB.lt
    clear p0 p1 lB
    have p0 := bB.cell 0
    have p1 := bB.cell 1
    have lB := bB.lt
    try clear hWb
    replace HP := hid (HP.out.below hst hst.size)
    clear hb hst
    obtain ⟨W0, rfl⟩ : ∃ W0 : World, W0 = W1 := ⟨_, rfl⟩
    go_wp2_with (fail)
    refine (works_any _).mono ?_
    rintro e W1 ⟨rfl, hb⟩
    have hst : Below W0.heap.size W0 W1 := Below.trans (by repeat' (first | with_reducible assumption | with_reducible exact Below.refl _ _ | refine Below.alloc ?_ ?_ _ | refine Below.setCell ?_ ?_ _ | refine Below.drew ?_ | refine below_drewN ?_ _ | (simp; done) | (simp; omega) | omega)) (hb.mono (by first | (simp; done) | (simp; omega) | omega))
    replace hbel := hbel.trans (hst.mono hsz)
    replace hsz := hbel.size
    replace bB := bB.below hst bB.lt
    clear p0 p1 lB
    have p0 := bB.cell 0
    have p1 := bB.cell 1
    have lB := bB.lt
    try clear hWb
    replace HP := hid (HP.out.below hst hst.size)
    clear hb hst
    obtain ⟨W0, rfl⟩ : ∃ W0 : World, W0 = W1 := ⟨_, rfl⟩
    go_wp2
    go_ret
    exact ⟨rfl, hbel⟩
  · have Hf := hid hf
    obtain ⟨k1, k2, hc0⟩ := fine_good hf
    obtain ⟨p, m0, rfl, rfl, hp1, hp8, hm2, hpl8, hisl⟩ := plan_nat hc0
    have hn : n ≤ 8 := by rw [← la.out]; exact hpl8
    have Hc := hid hc0
    have K2 := hid k2
    have Hisl := hid hisl
    clear hf k1 k2 hc0 hisl
    by_cases h8 : 8 ≤ n
    · have h8i : (8 : Int) ≤ n := by omega
      go_enter Try.func10, Try.ntmps10
      go_wp2_with (fail)
      refine (fineW_any A n c pl _ _ _ (HP.out.below (by repeat' (first | with_reducible assumption | with_reducible exact Below.refl _ _ | refine Below.alloc ?_ ?_ _ | refine Below.setCell ?_ ?_ _ | refine Below.drew ?_ | refine below_drewN ?_ _ | (simp; done) | (simp; omega) | omega)) (by first | (simp; done) | (simp; omega) | omega))).mono ?_
      rw [Hf.out]
      rintro e W1 ⟨rfl, hb⟩
      have hst : Below W0.heap.size W0 W1 := Below.trans (by repeat' (first | with_reducible assumption | with_reducible exact Below.refl _ _ | refine Below.alloc ?_ ?_ _ | refine Below.setCell ?_ ?_ _ | refine Below.drew ?_ | refine below_drewN ?_ _ | (simp; done) | (simp; omega) | omega)) (hb.mono (by first | (simp; done) | (simp; omega) | omega))
      replace hbel := hbel.trans (hst.mono hsz)
      replace hsz := hbel.size
      replace bB := bB.below hst bB.lt
      clear p0 p1 lB
      have p0 := bB.cell 0
      have p1 := bB.cell 1
      have lB := bB.lt
      try clear hWb
      replace HP := hid (HP.out.below hst hst.size)
      clear hb hst
      obtain ⟨W0, rfl⟩ : ∃ W0 : World, W0 = W1 := ⟨_, rfl⟩
      go_wp2_with (fail)
      refine (works_any _).mono ?_
      rintro e W1 ⟨rfl, hb⟩
      have hst : Below W0.heap.size W0 W1 := Below.trans (by repeat' (first | with_reducible assumption | with_reducible exact Below.refl _ _ | refine Below.alloc ?_ ?_ _ | refine Below.setCell ?_ ?_ _ | refine Below.drew ?_ | refine below_drewN ?_ _ | (simp; done) | (simp; omega) | omega)) (hb.mono (by first | (simp; done) | (simp; omega) | omega))
      replace hbel := hbel.trans (hst.mono hsz)
      replace hsz := hbel.size
      replace bB := bB.below hst bB.lt
      clear p0 p1 lB
      have p0 := bB.cell 0
      have p1 := bB.cell 1
      have lB := bB.lt
      try clear hWb
      replace HP := hid (HP.out.below hst hst.size)
      clear hb hst
      obtain ⟨W0, rfl⟩ : ∃ W0 : World, W0 = W1 := ⟨_, rfl⟩
      go_wp2
      go_ret
      exact ⟨rfl, hbel⟩
    have h8i : ¬ (8 : Int) ≤ n := by omega
    obtain ⟨cc, hcc⟩ : ∃ cc, atC p m0 xn = cc := ⟨_, rfl⟩
    have hcm : cc ∈ casesL p m0 := by rw [← hcc]; exact at_mem p m0 xn
    have Hcc := hid hcc
    have hcl := (cases_isL hp8 hm2 cc hcm).2
    obtain ⟨rl, hrl⟩ : ∃ rl, resL pl cc = rl := ⟨_, rfl⟩
    have Hre := hid (resE_case hp8 hm2 Hc.out hcm)
    have Hrv := hid ((resV_case hp8 hm2 Hc.out hcm).trans hrl)
    have hrn : rl.length = n := by rw [← hrl, resL_len]; exact la.out
    have Hse : Hid (errR p m0 pl rl = 0) := hid (by rw [← hrl]; exact errR_case Hc.out cc)
    have Hte : Hid (toldE p m0 pl rl = 0) := hid (by rw [← hrl]; exact toldE_case Hc.out hcm)
    obtain ⟨tv, htv⟩ : ∃ tv, toldL p m0 pl rl = tv := ⟨_, rfl⟩
    have Htv : Hid (toldV p m0 pl rl = tv) := hid (by rw [toldV_zero Hte.out, htv])
    have Htl : Hid (tv.length ≤ 37) := hid (by rw [← htv]; exact toldL_len hp8 pl rl)
    have Hts : Hid (∀ d ∈ tv, d.length ≤ 2) := hid (fun d hd => by rw [← htv] at hd; have := (cases_isL hp8 hm2 d (told_mem.1 hd).1).2; omega)
    obtain ⟨qq, hqq⟩ : ∃ q, listed mn p = q := ⟨_, rfl⟩
    have Hqq := hid hqq
    have hql : qq.length ≤ 8 := by rw [← hqq]; exact Nat.le_trans (listed_len mn p) hp8
    have hqi : isL p 0 qq = true := by rw [← hqq]; exact listed_isL mn p
    obtain ⟨px, hpx⟩ : ∃ l, pl ++ [qq] = l := ⟨_, rfl⟩
    have Hpx := hid hpx
    have hpxl : px.length = n + 1 := by rw [← hpx, List.length_append, la.out]; rfl
    have hcx : checkPlan p m0 px = 0 := plan_ok hp1 hp8 hm2 (by omega) (fun r hr => by
      rw [← hpx] at hr
      rcases List.mem_append.1 hr with h | h
      · exact Hisl.out r h
      · rw [List.mem_singleton.1 h]; exact hqi)
    have Kx : Hid (∀ l ∈ px, l.length ≤ 12) := hid (fun r hr => by
      rw [← hpx] at hr
      rcases List.mem_append.1 hr with h | h
      · exact K2.out r h
      · rw [List.mem_singleton.1 h]; omega)
    obtain ⟨rx, hrx⟩ : ∃ l, resL px cc = l := ⟨_, rfl⟩
    have Hrex := hid (resE_case hp8 hm2 hcx hcm)
    have Hrvx := hid ((resV_case hp8 hm2 hcx hcm).trans hrx)
    have Htex : Hid (toldE p m0 px rx = 0) := hid (by rw [← hrx]; exact toldE_case hcx hcm)
    obtain ⟨tx, htx⟩ : ∃ tx, toldL p m0 px rx = tx := ⟨_, rfl⟩
    have Htvx : Hid (toldV p m0 px rx = tx) := hid (by rw [toldV_zero Htex.out, htx])
    have hrxe : rx = rl ++ [if meet qq cc then 1 else 0] := by rw [← hrx, ← hpx, resL_snoc, hrl]
    have htl : tx.length ≤ tv.length := by rw [← htx, ← htv, hrxe, ← hpx]; exact told_snoc pl qq rl _
    have hnl : needOf p m0 tx ≤ needOf p m0 tv := by rw [← htx, ← htv, hrxe, ← hpx]; exact need_snoc pl qq rl _
    obtain ⟨te, hte⟩ : ∃ v, tellsE p m0 pl = v := ⟨_, rfl⟩
    obtain ⟨tex, htex⟩ : ∃ v, tellsE p m0 px = v := ⟨_, rfl⟩
    obtain ⟨pe, hpe⟩ : ∃ v, plainE p m0 pl = v := ⟨_, rfl⟩
    obtain ⟨pex, hpex⟩ : ∃ v, plainE p m0 px = v := ⟨_, rfl⟩
    have hter := tellsE_or hp8 hm2 Hc.out
    have hper := plainE_or Hc.out
    have htt : te = 0 → tex = 0 := fun h => by
      rw [← htex, ← hpx]; rw [← hpx] at hcx
      exact (tells_iff hp8 hm2 hcx).2 (tells_snoc qq ((tells_iff hp8 hm2 Hc.out).1 (hte.trans h)))
    have hpp : pe = 0 → pex = 0 := fun h => by
      rw [← hpex, ← hpx]; rw [← hpx] at hcx
      exact (plain_iff hcx).2 (plain_snoc qq ((plain_iff Hc.out).1 (hpe.trans h)))
    have hfew : te = 0 → 0 < m0 → tellsE p ((m0 - 1 : Nat) : Int) pl = 0 := fun h _ =>
      (tells_iff hp8 (by omega) (plan_ok hp1 hp8 (by omega) hpl8 Hisl.out)).2 (tells_fewer ((tells_iff hp8 hm2 Hc.out).1 (hte.trans h)))
    rw [hte] at hter
    rw [hpe] at hper
    have Hte' := hid hte
    have Htex' := hid htex
    have Hpe' := hid hpe
    have Hpex' := hid hpex
    have hle : ¬ 5 < p → leftE p m0 pl rl = 0 := fun h => by
      unfold leftE
      rw [if_neg (by simp [Hse.out]), if_neg (by omega), if_neg (by
        show ¬ (toldL p m0 pl rl).length = 0
        intro e
        have : cc ∈ toldL p m0 pl rl := told_mem.2 ⟨hcm, hrl⟩
        rw [List.eq_nil_of_length_eq_zero e] at this; cases this)]
    have hlex : ¬ 5 < p → leftE p m0 px rx = 0 := fun h => by
      have he : errR p m0 px rx = 0 := by rw [← hrx]; exact errR_case hcx cc
      unfold leftE
      rw [if_neg (by simp [he]), if_neg (by omega), if_neg (by
        show ¬ (toldL p m0 px rx).length = 0
        intro e
        have : cc ∈ toldL p m0 px rx := told_mem.2 ⟨hcm, hrx⟩
        rw [List.eq_nil_of_length_eq_zero e] at this; cases this)]
    have hnv : ¬ 5 < p → needV p m0 pl rl = needOf p m0 tv := fun h => by unfold needV; rw [if_neg (by simp [hle h])]; show ((needOf p m0 (toldL p m0 pl rl) : Nat) : Int) = _; rw [htv]
    have hnvx : ¬ 5 < p → needV p m0 px rx = needOf p m0 tx := fun h => by unfold needV; rw [if_neg (by simp [hlex h])]; show ((needOf p m0 (toldL p m0 px rx) : Nat) : Int) = _; rw [htx]
    obtain ⟨nt, hnt⟩ : ∃ v, needOf p m0 tv = v := ⟨_, rfl⟩
    obtain ⟨nx, hnx⟩ : ∃ v, needOf p m0 tx = v := ⟨_, rfl⟩
    rw [hnt, hnx] at hnl
    rw [hnt] at hnv
    rw [hnx] at hnvx
    clear hcc hcm hrl htv hqq hpx hcx hrx htx hrxe hte htex hpe hpex hnt hnx hqi
    have HLE := hid hle
    have HLX := hid hlex
    have HNV := hid hnv
    have HNX := hid hnvx
    clear hle hlex hnv hnvx
    rcases hter with rfl | rfl
    · replace htt := htt rfl
      subst htt
      replace hfew := hfew rfl
      rcases hper with rfl | rfl
      · replace hpp := hpp rfl
        subst hpp
        go_enter Try.func10, Try.ntmps10
        go_wp2_with (fail)
        refine (fineW_any A n c pl _ _ _ (HP.out.below (by repeat' (first | with_reducible assumption | with_reducible exact Below.refl _ _ | refine Below.alloc ?_ ?_ _ | refine Below.setCell ?_ ?_ _ | refine Below.drew ?_ | refine below_drewN ?_ _ | (simp; done) | (simp; omega) | omega)) (by first | (simp; done) | (simp; omega) | omega))).mono ?_
        rw [Hf.out]
        rintro e W1 ⟨rfl, hb⟩
        have hst : Below W0.heap.size W0 W1 := Below.trans (by repeat' (first | with_reducible assumption | with_reducible exact Below.refl _ _ | refine Below.alloc ?_ ?_ _ | refine Below.setCell ?_ ?_ _ | refine Below.drew ?_ | refine below_drewN ?_ _ | (simp; done) | (simp; omega) | omega)) (hb.mono (by first | (simp; done) | (simp; omega) | omega))
        replace hbel := hbel.trans (hst.mono hsz)
        replace hsz := hbel.size
        replace bB := bB.below hst bB.lt
        clear p0 p1 lB
        have p0 := bB.cell 0
        have p1 := bB.cell 1
        have lB := bB.lt
        try clear hWb
        replace HP := hid (HP.out.below hst hst.size)
        clear hb hst
        obtain ⟨W0, rfl⟩ : ∃ W0 : World, W0 = W1 := ⟨_, rfl⟩
        have z2 : IntKind.i64.wrap (mn : Int) = (mn : Int) := IntWalk.i64_in _ (by omega)
        go_wp2_with (fail)
        obtain ⟨vs, hvs, hcs⟩ := HP.out.cells
        refine Sx.wp_region_el (fun W => Below W0.heap.size W0 W) (hSb W0) [1, 3, 4, 5, 6] 6 (by kernel_rfl) (by kernel_rfl) ((Below.refl _ _).drew) ?_
        simp only [pick, List.getElem?_toArray, List.getElem?_cons_zero, List.getElem?_cons_succ]
        (refine Sx.wpE_val (v := ?_) (by rfl) (fun W hW => ?_) ?_; rotate_left; (· have f0 := (bB.below hW lB).cell 0; have f1 := (bB.below hW lB).cell 1; have f2 := (bB.below hW lB).lt; go_simp; with_reducible rfl); simp only [Act.put, List.setIfInBounds_toArray, List.set_cons_zero, List.set_cons_succ])
        (refine Sx.wpE_val (v := ?_) (by rfl) (fun W hW => ?_) ?_; rotate_left; (· have f0 := (bB.below hW lB).cell 0; have f1 := (bB.below hW lB).cell 1; have f2 := (bB.below hW lB).lt; go_simp; with_reducible rfl); simp only [Act.put, List.setIfInBounds_toArray, List.set_cons_zero, List.set_cons_succ])
        (refine Sx.wpE_val (v := ?_) (by rfl) (fun W hW => ?_) ?_; rotate_left; (· have f0 := (bB.below hW lB).cell 0; have f1 := (bB.below hW lB).cell 1; have f2 := (bB.below hW lB).lt; go_simp; with_reducible rfl); simp only [Act.put, List.setIfInBounds_toArray, List.set_cons_zero, List.set_cons_succ])
        (refine Sx.wpE_val (v := ?_) (by rfl) (fun W hW => ?_) ?_; rotate_left; (· have f0 := (bB.below hW lB).cell 0; have f1 := (bB.below hW lB).cell 1; have f2 := (bB.below hW lB).lt; go_simp; with_reducible rfl); simp only [Act.put, List.setIfInBounds_toArray, List.set_cons_zero, List.set_cons_succ])
        (refine Sx.wpE_val (v := ?_) (by rfl) (fun W hW => ?_) ?_; rotate_left; (· have f0 := (bB.below hW lB).cell 0; have f1 := (bB.below hW lB).cell 1; have f2 := (bB.below hW lB).lt; go_simp; with_reducible rfl); simp only [Act.put, List.setIfInBounds_toArray, List.set_cons_zero, List.set_cons_succ])
        simp only [Sx.wpE]
        (refine Sx.wpM_one 0 _ (by simp only [List.getElem?_toArray, List.getElem?_cons_zero, List.getElem?_cons_succ]; rfl) (by kernel_rfl) (by rfl) ?_)
        intro X0 hu0 hs0
        (go_simp; simp only [LUpon, Act.put]; try simp only [List.setIfInBounds_toArray, List.set_cons_zero, List.set_cons_succ])
        refine ⟨hs0.alloc hs0.size _, ?_⟩
        have Hown := hid (own_full (e := 25) (size := 1) (base := W0.heap.size) (n := 0) (xs := []) X0 (cur := #[]) hs0.size (by unfold maxLen; omega) rfl rfl)
        have hg0 := hs0.size
        generalize hX0s : X0.heap.size = g0 at *
        (refine Sx.wpM_one 2 _ (by simp only [List.getElem?_toArray, List.getElem?_cons_zero, List.getElem?_cons_succ]; rfl) (by kernel_rfl) (by rfl) ?_)
        intro X1 hu1 hs1
        have ho1 := owns_below Hown.out hu1
        refine lupon_append_src _ _ _ 24 rfl W0.heap.size 25 i0 _ 1 24 under24 I0.out I1.out I2.out I3.out rfl (by decide) _ 0 [] (by rfl) ho1 A n c vs (by rfl) X1.heap.size (hvs.below' hs1 hs1.size) HA.out hcs.one (by unfold maxLen; omega) (by omega) hs1.size ?_
        intro v2 w2 ho2 hg2 hat2
        rw [Nat.zero_add, List.nil_append] at ho2
        have hs2 : Below W0.heap.size W0 w2 := hs1.grown hg2 hs1.size (fun r hr => (World.ownsRow.lt ho1 r hr).1)
        refine ⟨hs2, ?_⟩
        have Ho2 := hid ho2
        clear ho1 ho2 hg2 hat2
        simp only [Act.put, List.setIfInBounds_toArray, List.set_cons_zero, List.set_cons_succ]
        (refine Sx.wpM_one 7 _ (by simp only [List.getElem?_toArray, List.getElem?_cons_zero, List.getElem?_cons_succ]; rfl) (by kernel_rfl) (by rfl) ?_)
        intro X3 hu3 hs3
        (go_simp; simp only [LUpon, Act.put]; try simp only [List.setIfInBounds_toArray, List.set_cons_zero, List.set_cons_succ])
        have Ho3 := hid (owns_below Ho2.out hu3)
        clear Ho2
        refine (listed_any mn p X3 (by omega) (by omega)).mono ?_
        rw [Hqq.out]
        rintro e X4 ⟨vq, rfl, hoq, hb4⟩
        obtain ⟨Aq, cq, rfl, hiq, hyq⟩ := ins_young hoq
        have hs4 : Below W0.heap.size W0 X4 := hs3.trans (hb4.mono hs3.size)
        refine ⟨_, rfl, hs4, ?_⟩
        have Ho4 := hid (owns_below Ho3.out hb4)
        have Hr2 : Hid (∀ r, v2.ownBlock = some r → r < X3.heap.size) := hid (fun r hr => (World.ownsRow.lt Ho3.out r hr).2)
        have Hiq := hid hiq
        have Hyq := hid hyq
        clear Ho3 hoq hb4 hiq hyq
        try simp only [Act.put, List.setIfInBounds_toArray, List.set_cons_zero, List.set_cons_succ]
        (refine Sx.wpM_one 8 _ (by simp only [List.getElem?_toArray, List.getElem?_cons_zero, List.getElem?_cons_succ]; rfl) (by kernel_rfl) (by rfl) ?_)
        intro X5 hu5 hs5
        (go_simp; simp only [LUpon, Act.put]; try simp only [List.setIfInBounds_toArray, List.set_cons_zero, List.set_cons_succ])
        refine ⟨hs5.alloc hs5.size _, ?_⟩
        have b8 : Blk (X5.alloc (.cells #[.slice Aq qq.length cq] 25)) X5.heap.size 25 #[.slice Aq qq.length cq] := Blk.new' rfl
        have hal : Below X5.heap.size X5 (X5.alloc (.cells #[.slice Aq qq.length cq] 25)) := (Below.refl _ _).alloc (Nat.le_refl _) _
        have Ho5 := hid (owns_below (owns_below Ho4.out hu5) hal)
        have Hi5 := hid ((Hiq.out.below hu5 hu5.size).below hal hal.size)
        clear Ho4 Hiq hal
        generalize X5.alloc (.cells #[.slice Aq qq.length cq] 25) = X6 at *
        generalize X5.heap.size = g8 at *
        (refine Sx.wpM_one 9 _ (by simp only [List.getElem?_toArray, List.getElem?_cons_zero, List.getElem?_cons_succ]; rfl) (by kernel_rfl) (by rfl) ?_)
        intro X7 hu7 hs7
        have ho7 := owns_below Ho5.out hu7
        have hi7 := Hi5.out.below hu7 hu7.size
        have b7 := b8.below hu7 b8.lt
        refine lupon_append_src _ _ _ 24 rfl W0.heap.size 25 i0 _ 1 24 under24 I0.out I1.out I2.out I3.out rfl (by decide) _ n vs (by rfl) ho7 (some ⟨g8, 0, none⟩) 1 1 [.slice Aq qq.length cq] (by rfl) X7.heap.size ⟨rfl, fun _ => ⟨g8, 0, rfl, b7.lt, fun j u hu => by rw [b7.cell, Nat.zero_add]; simpa using hu⟩⟩ (fun h => by cases h) (fun u hu => by rw [List.mem_singleton.1 hu]; rfl) (by unfold maxLen; omega) (by omega) hs7.size ?_
        intro v9 w9 ho9 hg9 hat9
        have hs9 : Below W0.heap.size W0 w9 := hs7.grown hg9 hs7.size (fun r hr => (World.ownsRow.lt ho7 r hr).1)
        refine ⟨hs9, ?_⟩
        have hi9 : InS w9 w9.heap.size Aq qq.length qq := ins_outlast hi7 Hyq.out Hr2.out hg9 hg9.size
        obtain ⟨A9, c9, rfl, hl9, -⟩ := ((hcs.below hs9 hs9.size).snoc (m := qq.length) (c := cq) hi9).lis ho9
        have HX := hid hl9
        rw [Hpx.out] at HX
        clear ho7 hi7 b7 ho9 hg9 hat9 hi9 hl9 Ho5 Hi5 Hyq Hr2 b8 Hown hu0 hu1 hu3 hu5 hu7
        simp only [Act.put, List.setIfInBounds_toArray, List.set_cons_zero, List.set_cons_succ]
        refine Sx.wpM_early (hSb W0) (by kernel_rfl) [10] 0 _ _ (by kernel_rfl) ?_
        simp only [pick, List.getElem?_toArray, List.getElem?_cons_zero, List.getElem?_cons_succ]
        (refine Sx.wpE_val (v := ?_) (by rfl) (fun W hW => ?_) ?_; rotate_left; (· have f0 := (bB.below hW lB).cell 0; have f1 := (bB.below hW lB).cell 1; have f2 := (bB.below hW lB).lt; go_simp; with_reducible rfl); simp only [Act.put, List.setIfInBounds_toArray, List.set_cons_zero, List.set_cons_succ])
        simp only [Sx.wpE]
        refine Sx.wpM_end (by kernel_rfl) ?_
        intro W1 hvz hb
        replace HX := hid (HX.out.below hvz hvz.size)
        clear hvs hcs hs0 hs1 hs2 hs3 hs4 hs5 hs7 hs9 hvz
        replace hbel := hbel.trans (hb.mono hsz)
        replace hsz := hbel.size
        replace bB := bB.below hb bB.lt
        clear p0 p1 lB
        have p0 := bB.cell 0
        have p1 := bB.cell 1
        have lB := bB.lt
        replace HP := hid (HP.out.below hb hb.size)
        clear hb
        try clear hWb
        obtain ⟨W0, rfl⟩ : ∃ W0 : World, W0 = W1 := ⟨_, rfl⟩
        go_wp2_with (fail)
        refine (at_any p m0 xn _ hp8 hm2 (by omega)).mono ?_
        rw [Hcc.out]
        rintro e W1 ⟨Ac, mc, cq, rfl, h1, -, hb⟩
        have hst : Below W0.heap.size W0 W1 := Below.trans (by repeat' (first | with_reducible assumption | with_reducible exact Below.refl _ _ | refine Below.alloc ?_ ?_ _ | refine Below.setCell ?_ ?_ _ | refine Below.drew ?_ | refine below_drewN ?_ _ | (simp; done) | (simp; omega) | omega)) (hb.mono (by first | (simp; done) | (simp; omega) | omega))
        replace hbel := hbel.trans (hst.mono hsz)
        replace hsz := hbel.size
        replace bB := bB.below hst bB.lt
        clear p0 p1 lB
        have p0 := bB.cell 0
        have p1 := bB.cell 1
        have lB := bB.lt
        try clear hWb
        replace HP := hid (HP.out.below hst hst.size)
        replace HX := hid (HX.out.below hst hst.size)
        have HC := hid h1
        clear h1
        clear hb hst
        obtain ⟨W0, rfl⟩ : ∃ W0 : World, W0 = W1 := ⟨_, rfl⟩
        go_wp2_with (fail)
        refine (checkTells_any A n c pl _ _ _ (HP.out.below (by repeat' (first | with_reducible assumption | with_reducible exact Below.refl _ _ | refine Below.alloc ?_ ?_ _ | refine Below.setCell ?_ ?_ _ | refine Below.drew ?_ | refine below_drewN ?_ _ | (simp; done) | (simp; omega) | omega)) (by first | (simp; done) | (simp; omega) | omega)) (by omega) K2.out).mono ?_
        rw [Hte'.out]
        rintro e W1 ⟨rfl, hb⟩
        have hst : Below W0.heap.size W0 W1 := Below.trans (by repeat' (first | with_reducible assumption | with_reducible exact Below.refl _ _ | refine Below.alloc ?_ ?_ _ | refine Below.setCell ?_ ?_ _ | refine Below.drew ?_ | refine below_drewN ?_ _ | (simp; done) | (simp; omega) | omega)) (hb.mono (by first | (simp; done) | (simp; omega) | omega))
        replace hbel := hbel.trans (hst.mono hsz)
        replace hsz := hbel.size
        replace bB := bB.below hst bB.lt
        clear p0 p1 lB
        have p0 := bB.cell 0
        have p1 := bB.cell 1
        have lB := bB.lt
        try clear hWb
        replace HP := hid (HP.out.below hst hst.size)
        replace HX := hid (HX.out.below hst hst.size)
        replace HC := hid (HC.out.below hst hst.size)
        clear hb hst
        obtain ⟨W0, rfl⟩ : ∃ W0 : World, W0 = W1 := ⟨_, rfl⟩
        go_wp2_with (fail)
        refine (checkTells_any A9 (n + 1) c9 px _ _ _ (HX.out.below (by repeat' (first | with_reducible assumption | with_reducible exact Below.refl _ _ | refine Below.alloc ?_ ?_ _ | refine Below.setCell ?_ ?_ _ | refine Below.drew ?_ | refine below_drewN ?_ _ | (simp; done) | (simp; omega) | omega)) (by first | (simp; done) | (simp; omega) | omega)) (by omega) Kx.out).mono ?_
        rw [Htex'.out]
        rintro e W1 ⟨rfl, hb⟩
        have hst : Below W0.heap.size W0 W1 := Below.trans (by repeat' (first | with_reducible assumption | with_reducible exact Below.refl _ _ | refine Below.alloc ?_ ?_ _ | refine Below.setCell ?_ ?_ _ | refine Below.drew ?_ | refine below_drewN ?_ _ | (simp; done) | (simp; omega) | omega)) (hb.mono (by first | (simp; done) | (simp; omega) | omega))
        replace hbel := hbel.trans (hst.mono hsz)
        replace hsz := hbel.size
        replace bB := bB.below hst bB.lt
        clear p0 p1 lB
        have p0 := bB.cell 0
        have p1 := bB.cell 1
        have lB := bB.lt
        try clear hWb
        replace HP := hid (HP.out.below hst hst.size)
        replace HX := hid (HX.out.below hst hst.size)
        replace HC := hid (HC.out.below hst hst.size)
        clear hb hst
        obtain ⟨W0, rfl⟩ : ∃ W0 : World, W0 = W1 := ⟨_, rfl⟩
        go_wp2_with (fail)
        refine (checkPlain_any A n c pl _ _ _ (HP.out.below (by repeat' (first | with_reducible assumption | with_reducible exact Below.refl _ _ | refine Below.alloc ?_ ?_ _ | refine Below.setCell ?_ ?_ _ | refine Below.drew ?_ | refine below_drewN ?_ _ | (simp; done) | (simp; omega) | omega)) (by first | (simp; done) | (simp; omega) | omega)) (by omega) K2.out).mono ?_
        rw [Hpe'.out]
        rintro e W1 ⟨rfl, hb⟩
        have hst : Below W0.heap.size W0 W1 := Below.trans (by repeat' (first | with_reducible assumption | with_reducible exact Below.refl _ _ | refine Below.alloc ?_ ?_ _ | refine Below.setCell ?_ ?_ _ | refine Below.drew ?_ | refine below_drewN ?_ _ | (simp; done) | (simp; omega) | omega)) (hb.mono (by first | (simp; done) | (simp; omega) | omega))
        replace hbel := hbel.trans (hst.mono hsz)
        replace hsz := hbel.size
        replace bB := bB.below hst bB.lt
        clear p0 p1 lB
        have p0 := bB.cell 0
        have p1 := bB.cell 1
        have lB := bB.lt
        try clear hWb
        replace HP := hid (HP.out.below hst hst.size)
        replace HX := hid (HX.out.below hst hst.size)
        replace HC := hid (HC.out.below hst hst.size)
        clear hb hst
        obtain ⟨W0, rfl⟩ : ∃ W0 : World, W0 = W1 := ⟨_, rfl⟩
        go_wp2_with (fail)
        refine (checkPlain_any A9 (n + 1) c9 px _ _ _ (HX.out.below (by repeat' (first | with_reducible assumption | with_reducible exact Below.refl _ _ | refine Below.alloc ?_ ?_ _ | refine Below.setCell ?_ ?_ _ | refine Below.drew ?_ | refine below_drewN ?_ _ | (simp; done) | (simp; omega) | omega)) (by first | (simp; done) | (simp; omega) | omega)) (by omega) Kx.out).mono ?_
        rw [Hpex'.out]
        rintro e W1 ⟨rfl, hb⟩
        have hst : Below W0.heap.size W0 W1 := Below.trans (by repeat' (first | with_reducible assumption | with_reducible exact Below.refl _ _ | refine Below.alloc ?_ ?_ _ | refine Below.setCell ?_ ?_ _ | refine Below.drew ?_ | refine below_drewN ?_ _ | (simp; done) | (simp; omega) | omega)) (hb.mono (by first | (simp; done) | (simp; omega) | omega))
        replace hbel := hbel.trans (hst.mono hsz)
        replace hsz := hbel.size
        replace bB := bB.below hst bB.lt
        clear p0 p1 lB
        have p0 := bB.cell 0
        have p1 := bB.cell 1
        have lB := bB.lt
        try clear hWb
        replace HP := hid (HP.out.below hst hst.size)
        replace HX := hid (HX.out.below hst hst.size)
        replace HC := hid (HC.out.below hst hst.size)
        clear hb hst
        obtain ⟨W0, rfl⟩ : ∃ W0 : World, W0 = W1 := ⟨_, rfl⟩
        go_wp2_with (fail)
        refine (resultsF_any A Ac n c mc cq pl cc _ _ _ (HP.out.below (by repeat' (first | with_reducible assumption | with_reducible exact Below.refl _ _ | refine Below.alloc ?_ ?_ _ | refine Below.setCell ?_ ?_ _ | refine Below.drew ?_ | refine below_drewN ?_ _ | (simp; done) | (simp; omega) | omega)) (by first | (simp; done) | (simp; omega) | omega)) (HC.out.below (by repeat' (first | with_reducible assumption | with_reducible exact Below.refl _ _ | refine Below.alloc ?_ ?_ _ | refine Below.setCell ?_ ?_ _ | refine Below.drew ?_ | refine below_drewN ?_ _ | (simp; done) | (simp; omega) | omega)) (by first | (simp; done) | (simp; omega) | omega)) (by omega) K2.out (by have := HC.out.len; omega)).mono ?_
        rw [Hrv.out, Hre.out]
        rintro e W1 ⟨Ar, mr, cr, rfl, h1, hb⟩
        have hst : Below W0.heap.size W0 W1 := Below.trans (by repeat' (first | with_reducible assumption | with_reducible exact Below.refl _ _ | refine Below.alloc ?_ ?_ _ | refine Below.setCell ?_ ?_ _ | refine Below.drew ?_ | refine below_drewN ?_ _ | (simp; done) | (simp; omega) | omega)) (hb.mono (by first | (simp; done) | (simp; omega) | omega))
        replace hbel := hbel.trans (hst.mono hsz)
        replace hsz := hbel.size
        replace bB := bB.below hst bB.lt
        clear p0 p1 lB
        have p0 := bB.cell 0
        have p1 := bB.cell 1
        have lB := bB.lt
        try clear hWb
        replace HP := hid (HP.out.below hst hst.size)
        replace HX := hid (HX.out.below hst hst.size)
        replace HC := hid (HC.out.below hst hst.size)
        have HR := hid h1
        clear h1
        clear hb hst
        obtain ⟨W0, rfl⟩ : ∃ W0 : World, W0 = W1 := ⟨_, rfl⟩
        go_wp2_with (fail)
        refine (resultsF_any A9 Ac (n + 1) c9 mc cq px cc _ _ _ (HX.out.below (by repeat' (first | with_reducible assumption | with_reducible exact Below.refl _ _ | refine Below.alloc ?_ ?_ _ | refine Below.setCell ?_ ?_ _ | refine Below.drew ?_ | refine below_drewN ?_ _ | (simp; done) | (simp; omega) | omega)) (by first | (simp; done) | (simp; omega) | omega)) (HC.out.below (by repeat' (first | with_reducible assumption | with_reducible exact Below.refl _ _ | refine Below.alloc ?_ ?_ _ | refine Below.setCell ?_ ?_ _ | refine Below.drew ?_ | refine below_drewN ?_ _ | (simp; done) | (simp; omega) | omega)) (by first | (simp; done) | (simp; omega) | omega)) (by omega) Kx.out (by have := HC.out.len; omega)).mono ?_
        rw [Hrvx.out, Hrex.out]
        rintro e W1 ⟨As, ms, cs, rfl, h1, hb⟩
        have hst : Below W0.heap.size W0 W1 := Below.trans (by repeat' (first | with_reducible assumption | with_reducible exact Below.refl _ _ | refine Below.alloc ?_ ?_ _ | refine Below.setCell ?_ ?_ _ | refine Below.drew ?_ | refine below_drewN ?_ _ | (simp; done) | (simp; omega) | omega)) (hb.mono (by first | (simp; done) | (simp; omega) | omega))
        replace hbel := hbel.trans (hst.mono hsz)
        replace hsz := hbel.size
        replace bB := bB.below hst bB.lt
        clear p0 p1 lB
        have p0 := bB.cell 0
        have p1 := bB.cell 1
        have lB := bB.lt
        try clear hWb
        replace HP := hid (HP.out.below hst hst.size)
        replace HX := hid (HX.out.below hst hst.size)
        replace HC := hid (HC.out.below hst hst.size)
        replace HR := hid (HR.out.below hst hst.size)
        have HS := hid h1
        clear h1
        clear hb hst
        obtain ⟨W0, rfl⟩ : ∃ W0 : World, W0 = W1 := ⟨_, rfl⟩
        go_wp2_with (fail)
        refine (toldF_any A Ar n c mr cr pl rl _ _ _ (HP.out.below (by repeat' (first | with_reducible assumption | with_reducible exact Below.refl _ _ | refine Below.alloc ?_ ?_ _ | refine Below.setCell ?_ ?_ _ | refine Below.drew ?_ | refine below_drewN ?_ _ | (simp; done) | (simp; omega) | omega)) (by first | (simp; done) | (simp; omega) | omega)) (HR.out.below (by repeat' (first | with_reducible assumption | with_reducible exact Below.refl _ _ | refine Below.alloc ?_ ?_ _ | refine Below.setCell ?_ ?_ _ | refine Below.drew ?_ | refine below_drewN ?_ _ | (simp; done) | (simp; omega) | omega)) (by first | (simp; done) | (simp; omega) | omega)) (by omega) K2.out).mono ?_
        rw [Htv.out, Hte.out]
        rintro e W1 ⟨At, mt, ct, rfl, h1, hb⟩
        have hmt := h1.1.1
        clear h1
        have hst : Below W0.heap.size W0 W1 := Below.trans (by repeat' (first | with_reducible assumption | with_reducible exact Below.refl _ _ | refine Below.alloc ?_ ?_ _ | refine Below.setCell ?_ ?_ _ | refine Below.drew ?_ | refine below_drewN ?_ _ | (simp; done) | (simp; omega) | omega)) (hb.mono (by first | (simp; done) | (simp; omega) | omega))
        replace hbel := hbel.trans (hst.mono hsz)
        replace hsz := hbel.size
        replace bB := bB.below hst bB.lt
        clear p0 p1 lB
        have p0 := bB.cell 0
        have p1 := bB.cell 1
        have lB := bB.lt
        try clear hWb
        replace HP := hid (HP.out.below hst hst.size)
        replace HX := hid (HX.out.below hst hst.size)
        replace HC := hid (HC.out.below hst hst.size)
        replace HR := hid (HR.out.below hst hst.size)
        replace HS := hid (HS.out.below hst hst.size)
        clear hb hst
        obtain ⟨W0, rfl⟩ : ∃ W0 : World, W0 = W1 := ⟨_, rfl⟩
        go_wp2_with (fail)
        refine (toldF_any A9 As (n + 1) c9 ms cs px rx _ _ _ (HX.out.below (by repeat' (first | with_reducible assumption | with_reducible exact Below.refl _ _ | refine Below.alloc ?_ ?_ _ | refine Below.setCell ?_ ?_ _ | refine Below.drew ?_ | refine below_drewN ?_ _ | (simp; done) | (simp; omega) | omega)) (by first | (simp; done) | (simp; omega) | omega)) (HS.out.below (by repeat' (first | with_reducible assumption | with_reducible exact Below.refl _ _ | refine Below.alloc ?_ ?_ _ | refine Below.setCell ?_ ?_ _ | refine Below.drew ?_ | refine below_drewN ?_ _ | (simp; done) | (simp; omega) | omega)) (by first | (simp; done) | (simp; omega) | omega)) (by omega) Kx.out).mono ?_
        rw [Htvx.out, Htex.out]
        rintro e W1 ⟨Au, mu, cu, rfl, h1, hb⟩
        have hmu := h1.1.1
        clear h1
        have hst : Below W0.heap.size W0 W1 := Below.trans (by repeat' (first | with_reducible assumption | with_reducible exact Below.refl _ _ | refine Below.alloc ?_ ?_ _ | refine Below.setCell ?_ ?_ _ | refine Below.drew ?_ | refine below_drewN ?_ _ | (simp; done) | (simp; omega) | omega)) (hb.mono (by first | (simp; done) | (simp; omega) | omega))
        replace hbel := hbel.trans (hst.mono hsz)
        replace hsz := hbel.size
        replace bB := bB.below hst bB.lt
        clear p0 p1 lB
        have p0 := bB.cell 0
        have p1 := bB.cell 1
        have lB := bB.lt
        try clear hWb
        replace HP := hid (HP.out.below hst hst.size)
        replace HX := hid (HX.out.below hst hst.size)
        replace HC := hid (HC.out.below hst hst.size)
        replace HR := hid (HR.out.below hst hst.size)
        replace HS := hid (HS.out.below hst hst.size)
        clear hb hst
        obtain ⟨W0, rfl⟩ : ∃ W0 : World, W0 = W1 := ⟨_, rfl⟩
        have gl : ¬ (mt : Int) < (mu : Int) := by omega
        clear hmt hmu
        clear HC
        by_cases h5 : 5 < p
        · have h5i : (5 : Int) < p := by omega
          rcases Nat.eq_zero_or_pos m0 with hz | hz
          · have hzi : ¬ (0 : Int) < m0 := by omega
            clear hz
            have HP0 := HP
            go_wp2_with (fail)
            refine (works_any _).mono ?_
            rintro e W1 ⟨rfl, hb⟩
            have hst : Below W0.heap.size W0 W1 := Below.trans (by repeat' (first | with_reducible assumption | with_reducible exact Below.refl _ _ | refine Below.alloc ?_ ?_ _ | refine Below.setCell ?_ ?_ _ | refine Below.drew ?_ | refine below_drewN ?_ _ | (simp; done) | (simp; omega) | omega)) (hb.mono (by first | (simp; done) | (simp; omega) | omega))
            replace hbel := hbel.trans (hst.mono hsz)
            replace hsz := hbel.size
            replace bB := bB.below hst bB.lt
            clear p0 p1 lB
            have p0 := bB.cell 0
            have p1 := bB.cell 1
            have lB := bB.lt
            try clear hWb
            replace HP := hid (HP.out.below hst hst.size)
            replace HX := hid (HX.out.below hst hst.size)
            replace HR := hid (HR.out.below hst hst.size)
            replace HS := hid (HS.out.below hst hst.size)
            clear hb hst
            obtain ⟨W0, rfl⟩ : ∃ W0 : World, W0 = W1 := ⟨_, rfl⟩
            go_wp2
            go_ret
            exact ⟨rfl, hbel⟩
          · have hzi : (0 : Int) < m0 := by omega
            have hfe := hfew hz
            rw [show ((m0 - 1 : Nat) : Int) = (m0 : Int) - 1 by omega] at hfe
            have Hfew := hid hfe
            clear hfe
            have hsub : wrap64 ((m0 : Int) - 1) = ((m0 - 1 : Nat) : Int) := by simp only [wrap64]; omega
            clear hz
            have HP0 := HP
            go_wp2_with (fail)
            refine (checkTells_any A n c pl _ _ _ (HP.out.below (by repeat' (first | with_reducible assumption | with_reducible exact Below.refl _ _ | refine Below.alloc ?_ ?_ _ | refine Below.setCell ?_ ?_ _ | refine Below.drew ?_ | refine below_drewN ?_ _ | (simp; done) | (simp; omega) | omega)) (by first | (simp; done) | (simp; omega) | omega)) (by omega) K2.out).mono ?_
            rw [Hte'.out]
            rintro e W1 ⟨rfl, hb⟩
            have hst : Below W0.heap.size W0 W1 := Below.trans (by repeat' (first | with_reducible assumption | with_reducible exact Below.refl _ _ | refine Below.alloc ?_ ?_ _ | refine Below.setCell ?_ ?_ _ | refine Below.drew ?_ | refine below_drewN ?_ _ | (simp; done) | (simp; omega) | omega)) (hb.mono (by first | (simp; done) | (simp; omega) | omega))
            replace hbel := hbel.trans (hst.mono hsz)
            replace hsz := hbel.size
            replace bB := bB.below hst bB.lt
            clear p0 p1 lB
            have p0 := bB.cell 0
            have p1 := bB.cell 1
            have lB := bB.lt
            try clear hWb
            replace HP := hid (HP.out.below hst hst.size)
            replace HX := hid (HX.out.below hst hst.size)
            replace HR := hid (HR.out.below hst hst.size)
            replace HS := hid (HS.out.below hst hst.size)
            clear hb hst
            obtain ⟨W0, rfl⟩ : ∃ W0 : World, W0 = W1 := ⟨_, rfl⟩
            go_wp2_with (fail)
            refine (book_any _ _ _).mono ?_
            rintro e W1 ⟨rfl, hb⟩
            have hst : Below W0.heap.size W0 W1 := Below.trans (by repeat' (first | with_reducible assumption | with_reducible exact Below.refl _ _ | refine Below.alloc ?_ ?_ _ | refine Below.setCell ?_ ?_ _ | refine Below.drew ?_ | refine below_drewN ?_ _ | (simp; done) | (simp; omega) | omega)) (hb.mono (by first | (simp; done) | (simp; omega) | omega))
            replace hbel := hbel.trans (hst.mono hsz)
            replace hsz := hbel.size
            replace bB := bB.below hst bB.lt
            clear p0 p1 lB
            have p0 := bB.cell 0
            have p1 := bB.cell 1
            have lB := bB.lt
            try clear hWb
            replace HP := hid (HP.out.below hst hst.size)
            replace HX := hid (HX.out.below hst hst.size)
            replace HR := hid (HR.out.below hst hst.size)
            replace HS := hid (HS.out.below hst hst.size)
            clear hb hst
            obtain ⟨W0, rfl⟩ : ∃ W0 : World, W0 = W1 := ⟨_, rfl⟩
            go_wp2_with (fail)
            refine (checkTells_any A n c pl _ _ _ (HP.out.below (by repeat' (first | with_reducible assumption | with_reducible exact Below.refl _ _ | refine Below.alloc ?_ ?_ _ | refine Below.setCell ?_ ?_ _ | refine Below.drew ?_ | refine below_drewN ?_ _ | (simp; done) | (simp; omega) | omega)) (by first | (simp; done) | (simp; omega) | omega)) (by omega) K2.out).mono ?_
            rw [Hfew.out]
            rintro e W1 ⟨rfl, hb⟩
            have hst : Below W0.heap.size W0 W1 := Below.trans (by repeat' (first | with_reducible assumption | with_reducible exact Below.refl _ _ | refine Below.alloc ?_ ?_ _ | refine Below.setCell ?_ ?_ _ | refine Below.drew ?_ | refine below_drewN ?_ _ | (simp; done) | (simp; omega) | omega)) (hb.mono (by first | (simp; done) | (simp; omega) | omega))
            replace hbel := hbel.trans (hst.mono hsz)
            replace hsz := hbel.size
            replace bB := bB.below hst bB.lt
            clear p0 p1 lB
            have p0 := bB.cell 0
            have p1 := bB.cell 1
            have lB := bB.lt
            try clear hWb
            replace HP := hid (HP.out.below hst hst.size)
            replace HX := hid (HX.out.below hst hst.size)
            replace HR := hid (HR.out.below hst hst.size)
            replace HS := hid (HS.out.below hst hst.size)
            clear hb hst
            obtain ⟨W0, rfl⟩ : ∃ W0 : World, W0 = W1 := ⟨_, rfl⟩
            go_wp2_with (fail)
            refine (works_any _).mono ?_
            rintro e W1 ⟨rfl, hb⟩
            have hst : Below W0.heap.size W0 W1 := Below.trans (by repeat' (first | with_reducible assumption | with_reducible exact Below.refl _ _ | refine Below.alloc ?_ ?_ _ | refine Below.setCell ?_ ?_ _ | refine Below.drew ?_ | refine below_drewN ?_ _ | (simp; done) | (simp; omega) | omega)) (hb.mono (by first | (simp; done) | (simp; omega) | omega))
            replace hbel := hbel.trans (hst.mono hsz)
            replace hsz := hbel.size
            replace bB := bB.below hst bB.lt
            clear p0 p1 lB
            have p0 := bB.cell 0
            have p1 := bB.cell 1
            have lB := bB.lt
            try clear hWb
            replace HP := hid (HP.out.below hst hst.size)
            replace HX := hid (HX.out.below hst hst.size)
            replace HR := hid (HR.out.below hst hst.size)
            replace HS := hid (HS.out.below hst hst.size)
            clear hb hst
            obtain ⟨W0, rfl⟩ : ∃ W0 : World, W0 = W1 := ⟨_, rfl⟩
            go_wp2
            go_ret
            exact ⟨rfl, hbel⟩
        · have h5i : ¬ (5 : Int) < p := by omega
          have Hnv := hid (HNV.out h5)
          have Hnx := hid (HNX.out h5)
          have Hle := hid (HLE.out h5)
          have Hlx := hid (HLX.out h5)
          have gn : (nx : Int) ≤ (nt : Int) := by omega
          rcases Nat.eq_zero_or_pos m0 with hz | hz
          · have hzi : ¬ (0 : Int) < m0 := by omega
            clear hz
            have HP0 := HP
            go_wp2_with (fail)
            refine (neededF_any A Ar n c mr cr pl rl _ _ _ (HP.out.below (by repeat' (first | with_reducible assumption | with_reducible exact Below.refl _ _ | refine Below.alloc ?_ ?_ _ | refine Below.setCell ?_ ?_ _ | refine Below.drew ?_ | refine below_drewN ?_ _ | (simp; done) | (simp; omega) | omega)) (by first | (simp; done) | (simp; omega) | omega)) (HR.out.below (by repeat' (first | with_reducible assumption | with_reducible exact Below.refl _ _ | refine Below.alloc ?_ ?_ _ | refine Below.setCell ?_ ?_ _ | refine Below.drew ?_ | refine below_drewN ?_ _ | (simp; done) | (simp; omega) | omega)) (by first | (simp; done) | (simp; omega) | omega)) (by omega) K2.out).mono ?_
            rw [Hnv.out, Hle.out]
            rintro e W1 ⟨rfl, hb⟩
            have hst : Below W0.heap.size W0 W1 := Below.trans (by repeat' (first | with_reducible assumption | with_reducible exact Below.refl _ _ | refine Below.alloc ?_ ?_ _ | refine Below.setCell ?_ ?_ _ | refine Below.drew ?_ | refine below_drewN ?_ _ | (simp; done) | (simp; omega) | omega)) (hb.mono (by first | (simp; done) | (simp; omega) | omega))
            replace hbel := hbel.trans (hst.mono hsz)
            replace hsz := hbel.size
            replace bB := bB.below hst bB.lt
            clear p0 p1 lB
            have p0 := bB.cell 0
            have p1 := bB.cell 1
            have lB := bB.lt
            try clear hWb
            replace HP := hid (HP.out.below hst hst.size)
            replace HX := hid (HX.out.below hst hst.size)
            replace HR := hid (HR.out.below hst hst.size)
            replace HS := hid (HS.out.below hst hst.size)
            clear hb hst
            obtain ⟨W0, rfl⟩ : ∃ W0 : World, W0 = W1 := ⟨_, rfl⟩
            go_wp2_with (fail)
            refine (neededF_any A9 As (n + 1) c9 ms cs px rx _ _ _ (HX.out.below (by repeat' (first | with_reducible assumption | with_reducible exact Below.refl _ _ | refine Below.alloc ?_ ?_ _ | refine Below.setCell ?_ ?_ _ | refine Below.drew ?_ | refine below_drewN ?_ _ | (simp; done) | (simp; omega) | omega)) (by first | (simp; done) | (simp; omega) | omega)) (HS.out.below (by repeat' (first | with_reducible assumption | with_reducible exact Below.refl _ _ | refine Below.alloc ?_ ?_ _ | refine Below.setCell ?_ ?_ _ | refine Below.drew ?_ | refine below_drewN ?_ _ | (simp; done) | (simp; omega) | omega)) (by first | (simp; done) | (simp; omega) | omega)) (by omega) Kx.out).mono ?_
            rw [Hnx.out, Hlx.out]
            rintro e W1 ⟨rfl, hb⟩
            have hst : Below W0.heap.size W0 W1 := Below.trans (by repeat' (first | with_reducible assumption | with_reducible exact Below.refl _ _ | refine Below.alloc ?_ ?_ _ | refine Below.setCell ?_ ?_ _ | refine Below.drew ?_ | refine below_drewN ?_ _ | (simp; done) | (simp; omega) | omega)) (hb.mono (by first | (simp; done) | (simp; omega) | omega))
            replace hbel := hbel.trans (hst.mono hsz)
            replace hsz := hbel.size
            replace bB := bB.below hst bB.lt
            clear p0 p1 lB
            have p0 := bB.cell 0
            have p1 := bB.cell 1
            have lB := bB.lt
            try clear hWb
            replace HP := hid (HP.out.below hst hst.size)
            replace HX := hid (HX.out.below hst hst.size)
            replace HR := hid (HR.out.below hst hst.size)
            replace HS := hid (HS.out.below hst hst.size)
            clear hb hst
            obtain ⟨W0, rfl⟩ : ∃ W0 : World, W0 = W1 := ⟨_, rfl⟩
            go_wp2_with (fail)
            refine (works_any _).mono ?_
            rintro e W1 ⟨rfl, hb⟩
            have hst : Below W0.heap.size W0 W1 := Below.trans (by repeat' (first | with_reducible assumption | with_reducible exact Below.refl _ _ | refine Below.alloc ?_ ?_ _ | refine Below.setCell ?_ ?_ _ | refine Below.drew ?_ | refine below_drewN ?_ _ | (simp; done) | (simp; omega) | omega)) (hb.mono (by first | (simp; done) | (simp; omega) | omega))
            replace hbel := hbel.trans (hst.mono hsz)
            replace hsz := hbel.size
            replace bB := bB.below hst bB.lt
            clear p0 p1 lB
            have p0 := bB.cell 0
            have p1 := bB.cell 1
            have lB := bB.lt
            try clear hWb
            replace HP := hid (HP.out.below hst hst.size)
            replace HX := hid (HX.out.below hst hst.size)
            replace HR := hid (HR.out.below hst hst.size)
            replace HS := hid (HS.out.below hst hst.size)
            clear hb hst
            obtain ⟨W0, rfl⟩ : ∃ W0 : World, W0 = W1 := ⟨_, rfl⟩
            go_wp2
            go_ret
            exact ⟨rfl, hbel⟩
          · have hzi : (0 : Int) < m0 := by omega
            have hfe := hfew hz
            rw [show ((m0 - 1 : Nat) : Int) = (m0 : Int) - 1 by omega] at hfe
            have Hfew := hid hfe
            clear hfe
            have hsub : wrap64 ((m0 : Int) - 1) = ((m0 - 1 : Nat) : Int) := by simp only [wrap64]; omega
            clear hz
            have HP0 := HP
            go_wp2_with (fail)
            refine (checkTells_any A n c pl _ _ _ (HP.out.below (by repeat' (first | with_reducible assumption | with_reducible exact Below.refl _ _ | refine Below.alloc ?_ ?_ _ | refine Below.setCell ?_ ?_ _ | refine Below.drew ?_ | refine below_drewN ?_ _ | (simp; done) | (simp; omega) | omega)) (by first | (simp; done) | (simp; omega) | omega)) (by omega) K2.out).mono ?_
            rw [Hte'.out]
            rintro e W1 ⟨rfl, hb⟩
            have hst : Below W0.heap.size W0 W1 := Below.trans (by repeat' (first | with_reducible assumption | with_reducible exact Below.refl _ _ | refine Below.alloc ?_ ?_ _ | refine Below.setCell ?_ ?_ _ | refine Below.drew ?_ | refine below_drewN ?_ _ | (simp; done) | (simp; omega) | omega)) (hb.mono (by first | (simp; done) | (simp; omega) | omega))
            replace hbel := hbel.trans (hst.mono hsz)
            replace hsz := hbel.size
            replace bB := bB.below hst bB.lt
            clear p0 p1 lB
            have p0 := bB.cell 0
            have p1 := bB.cell 1
            have lB := bB.lt
            try clear hWb
            replace HP := hid (HP.out.below hst hst.size)
            replace HX := hid (HX.out.below hst hst.size)
            replace HR := hid (HR.out.below hst hst.size)
            replace HS := hid (HS.out.below hst hst.size)
            clear hb hst
            obtain ⟨W0, rfl⟩ : ∃ W0 : World, W0 = W1 := ⟨_, rfl⟩
            go_wp2_with (fail)
            refine (book_any _ _ _).mono ?_
            rintro e W1 ⟨rfl, hb⟩
            have hst : Below W0.heap.size W0 W1 := Below.trans (by repeat' (first | with_reducible assumption | with_reducible exact Below.refl _ _ | refine Below.alloc ?_ ?_ _ | refine Below.setCell ?_ ?_ _ | refine Below.drew ?_ | refine below_drewN ?_ _ | (simp; done) | (simp; omega) | omega)) (hb.mono (by first | (simp; done) | (simp; omega) | omega))
            replace hbel := hbel.trans (hst.mono hsz)
            replace hsz := hbel.size
            replace bB := bB.below hst bB.lt
            clear p0 p1 lB
            have p0 := bB.cell 0
            have p1 := bB.cell 1
            have lB := bB.lt
            try clear hWb
            replace HP := hid (HP.out.below hst hst.size)
            replace HX := hid (HX.out.below hst hst.size)
            replace HR := hid (HR.out.below hst hst.size)
            replace HS := hid (HS.out.below hst hst.size)
            clear hb hst
            obtain ⟨W0, rfl⟩ : ∃ W0 : World, W0 = W1 := ⟨_, rfl⟩
            go_wp2_with (fail)
            refine (checkTells_any A n c pl _ _ _ (HP.out.below (by repeat' (first | with_reducible assumption | with_reducible exact Below.refl _ _ | refine Below.alloc ?_ ?_ _ | refine Below.setCell ?_ ?_ _ | refine Below.drew ?_ | refine below_drewN ?_ _ | (simp; done) | (simp; omega) | omega)) (by first | (simp; done) | (simp; omega) | omega)) (by omega) K2.out).mono ?_
            rw [Hfew.out]
            rintro e W1 ⟨rfl, hb⟩
            have hst : Below W0.heap.size W0 W1 := Below.trans (by repeat' (first | with_reducible assumption | with_reducible exact Below.refl _ _ | refine Below.alloc ?_ ?_ _ | refine Below.setCell ?_ ?_ _ | refine Below.drew ?_ | refine below_drewN ?_ _ | (simp; done) | (simp; omega) | omega)) (hb.mono (by first | (simp; done) | (simp; omega) | omega))
            replace hbel := hbel.trans (hst.mono hsz)
            replace hsz := hbel.size
            replace bB := bB.below hst bB.lt
            clear p0 p1 lB
            have p0 := bB.cell 0
            have p1 := bB.cell 1
            have lB := bB.lt
            try clear hWb
            replace HP := hid (HP.out.below hst hst.size)
            replace HX := hid (HX.out.below hst hst.size)
            replace HR := hid (HR.out.below hst hst.size)
            replace HS := hid (HS.out.below hst hst.size)
            clear hb hst
            obtain ⟨W0, rfl⟩ : ∃ W0 : World, W0 = W1 := ⟨_, rfl⟩
            go_wp2_with (fail)
            refine (neededF_any A Ar n c mr cr pl rl _ _ _ (HP.out.below (by repeat' (first | with_reducible assumption | with_reducible exact Below.refl _ _ | refine Below.alloc ?_ ?_ _ | refine Below.setCell ?_ ?_ _ | refine Below.drew ?_ | refine below_drewN ?_ _ | (simp; done) | (simp; omega) | omega)) (by first | (simp; done) | (simp; omega) | omega)) (HR.out.below (by repeat' (first | with_reducible assumption | with_reducible exact Below.refl _ _ | refine Below.alloc ?_ ?_ _ | refine Below.setCell ?_ ?_ _ | refine Below.drew ?_ | refine below_drewN ?_ _ | (simp; done) | (simp; omega) | omega)) (by first | (simp; done) | (simp; omega) | omega)) (by omega) K2.out).mono ?_
            rw [Hnv.out, Hle.out]
            rintro e W1 ⟨rfl, hb⟩
            have hst : Below W0.heap.size W0 W1 := Below.trans (by repeat' (first | with_reducible assumption | with_reducible exact Below.refl _ _ | refine Below.alloc ?_ ?_ _ | refine Below.setCell ?_ ?_ _ | refine Below.drew ?_ | refine below_drewN ?_ _ | (simp; done) | (simp; omega) | omega)) (hb.mono (by first | (simp; done) | (simp; omega) | omega))
            replace hbel := hbel.trans (hst.mono hsz)
            replace hsz := hbel.size
            replace bB := bB.below hst bB.lt
            clear p0 p1 lB
            have p0 := bB.cell 0
            have p1 := bB.cell 1
            have lB := bB.lt
            try clear hWb
            replace HP := hid (HP.out.below hst hst.size)
            replace HX := hid (HX.out.below hst hst.size)
            replace HR := hid (HR.out.below hst hst.size)
            replace HS := hid (HS.out.below hst hst.size)
            clear hb hst
            obtain ⟨W0, rfl⟩ : ∃ W0 : World, W0 = W1 := ⟨_, rfl⟩
            go_wp2_with (fail)
            refine (neededF_any A9 As (n + 1) c9 ms cs px rx _ _ _ (HX.out.below (by repeat' (first | with_reducible assumption | with_reducible exact Below.refl _ _ | refine Below.alloc ?_ ?_ _ | refine Below.setCell ?_ ?_ _ | refine Below.drew ?_ | refine below_drewN ?_ _ | (simp; done) | (simp; omega) | omega)) (by first | (simp; done) | (simp; omega) | omega)) (HS.out.below (by repeat' (first | with_reducible assumption | with_reducible exact Below.refl _ _ | refine Below.alloc ?_ ?_ _ | refine Below.setCell ?_ ?_ _ | refine Below.drew ?_ | refine below_drewN ?_ _ | (simp; done) | (simp; omega) | omega)) (by first | (simp; done) | (simp; omega) | omega)) (by omega) Kx.out).mono ?_
            rw [Hnx.out, Hlx.out]
            rintro e W1 ⟨rfl, hb⟩
            have hst : Below W0.heap.size W0 W1 := Below.trans (by repeat' (first | with_reducible assumption | with_reducible exact Below.refl _ _ | refine Below.alloc ?_ ?_ _ | refine Below.setCell ?_ ?_ _ | refine Below.drew ?_ | refine below_drewN ?_ _ | (simp; done) | (simp; omega) | omega)) (hb.mono (by first | (simp; done) | (simp; omega) | omega))
            replace hbel := hbel.trans (hst.mono hsz)
            replace hsz := hbel.size
            replace bB := bB.below hst bB.lt
            clear p0 p1 lB
            have p0 := bB.cell 0
            have p1 := bB.cell 1
            have lB := bB.lt
            try clear hWb
            replace HP := hid (HP.out.below hst hst.size)
            replace HX := hid (HX.out.below hst hst.size)
            replace HR := hid (HR.out.below hst hst.size)
            replace HS := hid (HS.out.below hst hst.size)
            clear hb hst
            obtain ⟨W0, rfl⟩ : ∃ W0 : World, W0 = W1 := ⟨_, rfl⟩
            go_wp2_with (fail)
            refine (works_any _).mono ?_
            rintro e W1 ⟨rfl, hb⟩
            have hst : Below W0.heap.size W0 W1 := Below.trans (by repeat' (first | with_reducible assumption | with_reducible exact Below.refl _ _ | refine Below.alloc ?_ ?_ _ | refine Below.setCell ?_ ?_ _ | refine Below.drew ?_ | refine below_drewN ?_ _ | (simp; done) | (simp; omega) | omega)) (hb.mono (by first | (simp; done) | (simp; omega) | omega))
            replace hbel := hbel.trans (hst.mono hsz)
            replace hsz := hbel.size
            replace bB := bB.below hst bB.lt
            clear p0 p1 lB
            have p0 := bB.cell 0
            have p1 := bB.cell 1
            have lB := bB.lt
            try clear hWb
            replace HP := hid (HP.out.below hst hst.size)
            replace HX := hid (HX.out.below hst hst.size)
            replace HR := hid (HR.out.below hst hst.size)
            replace HS := hid (HS.out.below hst hst.size)
            clear hb hst
            obtain ⟨W0, rfl⟩ : ∃ W0 : World, W0 = W1 := ⟨_, rfl⟩
            go_wp2
            go_ret
            exact ⟨rfl, hbel⟩
      · clear hpp
        go_enter Try.func10, Try.ntmps10
        go_wp2_with (fail)
        refine (fineW_any A n c pl _ _ _ (HP.out.below (by repeat' (first | with_reducible assumption | with_reducible exact Below.refl _ _ | refine Below.alloc ?_ ?_ _ | refine Below.setCell ?_ ?_ _ | refine Below.drew ?_ | refine below_drewN ?_ _ | (simp; done) | (simp; omega) | omega)) (by first | (simp; done) | (simp; omega) | omega))).mono ?_
        rw [Hf.out]
        rintro e W1 ⟨rfl, hb⟩
        have hst : Below W0.heap.size W0 W1 := Below.trans (by repeat' (first | with_reducible assumption | with_reducible exact Below.refl _ _ | refine Below.alloc ?_ ?_ _ | refine Below.setCell ?_ ?_ _ | refine Below.drew ?_ | refine below_drewN ?_ _ | (simp; done) | (simp; omega) | omega)) (hb.mono (by first | (simp; done) | (simp; omega) | omega))
        replace hbel := hbel.trans (hst.mono hsz)
        replace hsz := hbel.size
        replace bB := bB.below hst bB.lt
        clear p0 p1 lB
        have p0 := bB.cell 0
        have p1 := bB.cell 1
        have lB := bB.lt
        try clear hWb
        replace HP := hid (HP.out.below hst hst.size)
        clear hb hst
        obtain ⟨W0, rfl⟩ : ∃ W0 : World, W0 = W1 := ⟨_, rfl⟩
        have z2 : IntKind.i64.wrap (mn : Int) = (mn : Int) := IntWalk.i64_in _ (by omega)
        go_wp2_with (fail)
        obtain ⟨vs, hvs, hcs⟩ := HP.out.cells
        refine Sx.wp_region_el (fun W => Below W0.heap.size W0 W) (hSb W0) [1, 3, 4, 5, 6] 6 (by kernel_rfl) (by kernel_rfl) ((Below.refl _ _).drew) ?_
        simp only [pick, List.getElem?_toArray, List.getElem?_cons_zero, List.getElem?_cons_succ]
        (refine Sx.wpE_val (v := ?_) (by rfl) (fun W hW => ?_) ?_; rotate_left; (· have f0 := (bB.below hW lB).cell 0; have f1 := (bB.below hW lB).cell 1; have f2 := (bB.below hW lB).lt; go_simp; with_reducible rfl); simp only [Act.put, List.setIfInBounds_toArray, List.set_cons_zero, List.set_cons_succ])
        (refine Sx.wpE_val (v := ?_) (by rfl) (fun W hW => ?_) ?_; rotate_left; (· have f0 := (bB.below hW lB).cell 0; have f1 := (bB.below hW lB).cell 1; have f2 := (bB.below hW lB).lt; go_simp; with_reducible rfl); simp only [Act.put, List.setIfInBounds_toArray, List.set_cons_zero, List.set_cons_succ])
        (refine Sx.wpE_val (v := ?_) (by rfl) (fun W hW => ?_) ?_; rotate_left; (· have f0 := (bB.below hW lB).cell 0; have f1 := (bB.below hW lB).cell 1; have f2 := (bB.below hW lB).lt; go_simp; with_reducible rfl); simp only [Act.put, List.setIfInBounds_toArray, List.set_cons_zero, List.set_cons_succ])
        (refine Sx.wpE_val (v := ?_) (by rfl) (fun W hW => ?_) ?_; rotate_left; (· have f0 := (bB.below hW lB).cell 0; have f1 := (bB.below hW lB).cell 1; have f2 := (bB.below hW lB).lt; go_simp; with_reducible rfl); simp only [Act.put, List.setIfInBounds_toArray, List.set_cons_zero, List.set_cons_succ])
        (refine Sx.wpE_val (v := ?_) (by rfl) (fun W hW => ?_) ?_; rotate_left; (· have f0 := (bB.below hW lB).cell 0; have f1 := (bB.below hW lB).cell 1; have f2 := (bB.below hW lB).lt; go_simp; with_reducible rfl); simp only [Act.put, List.setIfInBounds_toArray, List.set_cons_zero, List.set_cons_succ])
        simp only [Sx.wpE]
        (refine Sx.wpM_one 0 _ (by simp only [List.getElem?_toArray, List.getElem?_cons_zero, List.getElem?_cons_succ]; rfl) (by kernel_rfl) (by rfl) ?_)
        intro X0 hu0 hs0
        (go_simp; simp only [LUpon, Act.put]; try simp only [List.setIfInBounds_toArray, List.set_cons_zero, List.set_cons_succ])
        refine ⟨hs0.alloc hs0.size _, ?_⟩
        have Hown := hid (own_full (e := 25) (size := 1) (base := W0.heap.size) (n := 0) (xs := []) X0 (cur := #[]) hs0.size (by unfold maxLen; omega) rfl rfl)
        have hg0 := hs0.size
        generalize hX0s : X0.heap.size = g0 at *
        (refine Sx.wpM_one 2 _ (by simp only [List.getElem?_toArray, List.getElem?_cons_zero, List.getElem?_cons_succ]; rfl) (by kernel_rfl) (by rfl) ?_)
        intro X1 hu1 hs1
        have ho1 := owns_below Hown.out hu1
        refine lupon_append_src _ _ _ 24 rfl W0.heap.size 25 i0 _ 1 24 under24 I0.out I1.out I2.out I3.out rfl (by decide) _ 0 [] (by rfl) ho1 A n c vs (by rfl) X1.heap.size (hvs.below' hs1 hs1.size) HA.out hcs.one (by unfold maxLen; omega) (by omega) hs1.size ?_
        intro v2 w2 ho2 hg2 hat2
        rw [Nat.zero_add, List.nil_append] at ho2
        have hs2 : Below W0.heap.size W0 w2 := hs1.grown hg2 hs1.size (fun r hr => (World.ownsRow.lt ho1 r hr).1)
        refine ⟨hs2, ?_⟩
        have Ho2 := hid ho2
        clear ho1 ho2 hg2 hat2
        simp only [Act.put, List.setIfInBounds_toArray, List.set_cons_zero, List.set_cons_succ]
        (refine Sx.wpM_one 7 _ (by simp only [List.getElem?_toArray, List.getElem?_cons_zero, List.getElem?_cons_succ]; rfl) (by kernel_rfl) (by rfl) ?_)
        intro X3 hu3 hs3
        (go_simp; simp only [LUpon, Act.put]; try simp only [List.setIfInBounds_toArray, List.set_cons_zero, List.set_cons_succ])
        have Ho3 := hid (owns_below Ho2.out hu3)
        clear Ho2
        refine (listed_any mn p X3 (by omega) (by omega)).mono ?_
        rw [Hqq.out]
        rintro e X4 ⟨vq, rfl, hoq, hb4⟩
        obtain ⟨Aq, cq, rfl, hiq, hyq⟩ := ins_young hoq
        have hs4 : Below W0.heap.size W0 X4 := hs3.trans (hb4.mono hs3.size)
        refine ⟨_, rfl, hs4, ?_⟩
        have Ho4 := hid (owns_below Ho3.out hb4)
        have Hr2 : Hid (∀ r, v2.ownBlock = some r → r < X3.heap.size) := hid (fun r hr => (World.ownsRow.lt Ho3.out r hr).2)
        have Hiq := hid hiq
        have Hyq := hid hyq
        clear Ho3 hoq hb4 hiq hyq
        try simp only [Act.put, List.setIfInBounds_toArray, List.set_cons_zero, List.set_cons_succ]
        (refine Sx.wpM_one 8 _ (by simp only [List.getElem?_toArray, List.getElem?_cons_zero, List.getElem?_cons_succ]; rfl) (by kernel_rfl) (by rfl) ?_)
        intro X5 hu5 hs5
        (go_simp; simp only [LUpon, Act.put]; try simp only [List.setIfInBounds_toArray, List.set_cons_zero, List.set_cons_succ])
        refine ⟨hs5.alloc hs5.size _, ?_⟩
        have b8 : Blk (X5.alloc (.cells #[.slice Aq qq.length cq] 25)) X5.heap.size 25 #[.slice Aq qq.length cq] := Blk.new' rfl
        have hal : Below X5.heap.size X5 (X5.alloc (.cells #[.slice Aq qq.length cq] 25)) := (Below.refl _ _).alloc (Nat.le_refl _) _
        have Ho5 := hid (owns_below (owns_below Ho4.out hu5) hal)
        have Hi5 := hid ((Hiq.out.below hu5 hu5.size).below hal hal.size)
        clear Ho4 Hiq hal
        generalize X5.alloc (.cells #[.slice Aq qq.length cq] 25) = X6 at *
        generalize X5.heap.size = g8 at *
        (refine Sx.wpM_one 9 _ (by simp only [List.getElem?_toArray, List.getElem?_cons_zero, List.getElem?_cons_succ]; rfl) (by kernel_rfl) (by rfl) ?_)
        intro X7 hu7 hs7
        have ho7 := owns_below Ho5.out hu7
        have hi7 := Hi5.out.below hu7 hu7.size
        have b7 := b8.below hu7 b8.lt
        refine lupon_append_src _ _ _ 24 rfl W0.heap.size 25 i0 _ 1 24 under24 I0.out I1.out I2.out I3.out rfl (by decide) _ n vs (by rfl) ho7 (some ⟨g8, 0, none⟩) 1 1 [.slice Aq qq.length cq] (by rfl) X7.heap.size ⟨rfl, fun _ => ⟨g8, 0, rfl, b7.lt, fun j u hu => by rw [b7.cell, Nat.zero_add]; simpa using hu⟩⟩ (fun h => by cases h) (fun u hu => by rw [List.mem_singleton.1 hu]; rfl) (by unfold maxLen; omega) (by omega) hs7.size ?_
        intro v9 w9 ho9 hg9 hat9
        have hs9 : Below W0.heap.size W0 w9 := hs7.grown hg9 hs7.size (fun r hr => (World.ownsRow.lt ho7 r hr).1)
        refine ⟨hs9, ?_⟩
        have hi9 : InS w9 w9.heap.size Aq qq.length qq := ins_outlast hi7 Hyq.out Hr2.out hg9 hg9.size
        obtain ⟨A9, c9, rfl, hl9, -⟩ := ((hcs.below hs9 hs9.size).snoc (m := qq.length) (c := cq) hi9).lis ho9
        have HX := hid hl9
        rw [Hpx.out] at HX
        clear ho7 hi7 b7 ho9 hg9 hat9 hi9 hl9 Ho5 Hi5 Hyq Hr2 b8 Hown hu0 hu1 hu3 hu5 hu7
        simp only [Act.put, List.setIfInBounds_toArray, List.set_cons_zero, List.set_cons_succ]
        refine Sx.wpM_early (hSb W0) (by kernel_rfl) [10] 0 _ _ (by kernel_rfl) ?_
        simp only [pick, List.getElem?_toArray, List.getElem?_cons_zero, List.getElem?_cons_succ]
        (refine Sx.wpE_val (v := ?_) (by rfl) (fun W hW => ?_) ?_; rotate_left; (· have f0 := (bB.below hW lB).cell 0; have f1 := (bB.below hW lB).cell 1; have f2 := (bB.below hW lB).lt; go_simp; with_reducible rfl); simp only [Act.put, List.setIfInBounds_toArray, List.set_cons_zero, List.set_cons_succ])
        simp only [Sx.wpE]
        refine Sx.wpM_end (by kernel_rfl) ?_
        intro W1 hvz hb
        replace HX := hid (HX.out.below hvz hvz.size)
        clear hvs hcs hs0 hs1 hs2 hs3 hs4 hs5 hs7 hs9 hvz
        replace hbel := hbel.trans (hb.mono hsz)
        replace hsz := hbel.size
        replace bB := bB.below hb bB.lt
        clear p0 p1 lB
        have p0 := bB.cell 0
        have p1 := bB.cell 1
        have lB := bB.lt
        replace HP := hid (HP.out.below hb hb.size)
        clear hb
        try clear hWb
        obtain ⟨W0, rfl⟩ : ∃ W0 : World, W0 = W1 := ⟨_, rfl⟩
        go_wp2_with (fail)
        refine (at_any p m0 xn _ hp8 hm2 (by omega)).mono ?_
        rw [Hcc.out]
        rintro e W1 ⟨Ac, mc, cq, rfl, h1, -, hb⟩
        have hst : Below W0.heap.size W0 W1 := Below.trans (by repeat' (first | with_reducible assumption | with_reducible exact Below.refl _ _ | refine Below.alloc ?_ ?_ _ | refine Below.setCell ?_ ?_ _ | refine Below.drew ?_ | refine below_drewN ?_ _ | (simp; done) | (simp; omega) | omega)) (hb.mono (by first | (simp; done) | (simp; omega) | omega))
        replace hbel := hbel.trans (hst.mono hsz)
        replace hsz := hbel.size
        replace bB := bB.below hst bB.lt
        clear p0 p1 lB
        have p0 := bB.cell 0
        have p1 := bB.cell 1
        have lB := bB.lt
        try clear hWb
        replace HP := hid (HP.out.below hst hst.size)
        replace HX := hid (HX.out.below hst hst.size)
        have HC := hid h1
        clear h1
        clear hb hst
        obtain ⟨W0, rfl⟩ : ∃ W0 : World, W0 = W1 := ⟨_, rfl⟩
        go_wp2_with (fail)
        refine (checkTells_any A n c pl _ _ _ (HP.out.below (by repeat' (first | with_reducible assumption | with_reducible exact Below.refl _ _ | refine Below.alloc ?_ ?_ _ | refine Below.setCell ?_ ?_ _ | refine Below.drew ?_ | refine below_drewN ?_ _ | (simp; done) | (simp; omega) | omega)) (by first | (simp; done) | (simp; omega) | omega)) (by omega) K2.out).mono ?_
        rw [Hte'.out]
        rintro e W1 ⟨rfl, hb⟩
        have hst : Below W0.heap.size W0 W1 := Below.trans (by repeat' (first | with_reducible assumption | with_reducible exact Below.refl _ _ | refine Below.alloc ?_ ?_ _ | refine Below.setCell ?_ ?_ _ | refine Below.drew ?_ | refine below_drewN ?_ _ | (simp; done) | (simp; omega) | omega)) (hb.mono (by first | (simp; done) | (simp; omega) | omega))
        replace hbel := hbel.trans (hst.mono hsz)
        replace hsz := hbel.size
        replace bB := bB.below hst bB.lt
        clear p0 p1 lB
        have p0 := bB.cell 0
        have p1 := bB.cell 1
        have lB := bB.lt
        try clear hWb
        replace HP := hid (HP.out.below hst hst.size)
        replace HX := hid (HX.out.below hst hst.size)
        replace HC := hid (HC.out.below hst hst.size)
        clear hb hst
        obtain ⟨W0, rfl⟩ : ∃ W0 : World, W0 = W1 := ⟨_, rfl⟩
        go_wp2_with (fail)
        refine (checkTells_any A9 (n + 1) c9 px _ _ _ (HX.out.below (by repeat' (first | with_reducible assumption | with_reducible exact Below.refl _ _ | refine Below.alloc ?_ ?_ _ | refine Below.setCell ?_ ?_ _ | refine Below.drew ?_ | refine below_drewN ?_ _ | (simp; done) | (simp; omega) | omega)) (by first | (simp; done) | (simp; omega) | omega)) (by omega) Kx.out).mono ?_
        rw [Htex'.out]
        rintro e W1 ⟨rfl, hb⟩
        have hst : Below W0.heap.size W0 W1 := Below.trans (by repeat' (first | with_reducible assumption | with_reducible exact Below.refl _ _ | refine Below.alloc ?_ ?_ _ | refine Below.setCell ?_ ?_ _ | refine Below.drew ?_ | refine below_drewN ?_ _ | (simp; done) | (simp; omega) | omega)) (hb.mono (by first | (simp; done) | (simp; omega) | omega))
        replace hbel := hbel.trans (hst.mono hsz)
        replace hsz := hbel.size
        replace bB := bB.below hst bB.lt
        clear p0 p1 lB
        have p0 := bB.cell 0
        have p1 := bB.cell 1
        have lB := bB.lt
        try clear hWb
        replace HP := hid (HP.out.below hst hst.size)
        replace HX := hid (HX.out.below hst hst.size)
        replace HC := hid (HC.out.below hst hst.size)
        clear hb hst
        obtain ⟨W0, rfl⟩ : ∃ W0 : World, W0 = W1 := ⟨_, rfl⟩
        go_wp2_with (fail)
        refine (checkPlain_any A n c pl _ _ _ (HP.out.below (by repeat' (first | with_reducible assumption | with_reducible exact Below.refl _ _ | refine Below.alloc ?_ ?_ _ | refine Below.setCell ?_ ?_ _ | refine Below.drew ?_ | refine below_drewN ?_ _ | (simp; done) | (simp; omega) | omega)) (by first | (simp; done) | (simp; omega) | omega)) (by omega) K2.out).mono ?_
        rw [Hpe'.out]
        rintro e W1 ⟨rfl, hb⟩
        have hst : Below W0.heap.size W0 W1 := Below.trans (by repeat' (first | with_reducible assumption | with_reducible exact Below.refl _ _ | refine Below.alloc ?_ ?_ _ | refine Below.setCell ?_ ?_ _ | refine Below.drew ?_ | refine below_drewN ?_ _ | (simp; done) | (simp; omega) | omega)) (hb.mono (by first | (simp; done) | (simp; omega) | omega))
        replace hbel := hbel.trans (hst.mono hsz)
        replace hsz := hbel.size
        replace bB := bB.below hst bB.lt
        clear p0 p1 lB
        have p0 := bB.cell 0
        have p1 := bB.cell 1
        have lB := bB.lt
        try clear hWb
        replace HP := hid (HP.out.below hst hst.size)
        replace HX := hid (HX.out.below hst hst.size)
        replace HC := hid (HC.out.below hst hst.size)
        clear hb hst
        obtain ⟨W0, rfl⟩ : ∃ W0 : World, W0 = W1 := ⟨_, rfl⟩
        go_wp2_with (fail)
        refine (resultsF_any A Ac n c mc cq pl cc _ _ _ (HP.out.below (by repeat' (first | with_reducible assumption | with_reducible exact Below.refl _ _ | refine Below.alloc ?_ ?_ _ | refine Below.setCell ?_ ?_ _ | refine Below.drew ?_ | refine below_drewN ?_ _ | (simp; done) | (simp; omega) | omega)) (by first | (simp; done) | (simp; omega) | omega)) (HC.out.below (by repeat' (first | with_reducible assumption | with_reducible exact Below.refl _ _ | refine Below.alloc ?_ ?_ _ | refine Below.setCell ?_ ?_ _ | refine Below.drew ?_ | refine below_drewN ?_ _ | (simp; done) | (simp; omega) | omega)) (by first | (simp; done) | (simp; omega) | omega)) (by omega) K2.out (by have := HC.out.len; omega)).mono ?_
        rw [Hrv.out, Hre.out]
        rintro e W1 ⟨Ar, mr, cr, rfl, h1, hb⟩
        have hst : Below W0.heap.size W0 W1 := Below.trans (by repeat' (first | with_reducible assumption | with_reducible exact Below.refl _ _ | refine Below.alloc ?_ ?_ _ | refine Below.setCell ?_ ?_ _ | refine Below.drew ?_ | refine below_drewN ?_ _ | (simp; done) | (simp; omega) | omega)) (hb.mono (by first | (simp; done) | (simp; omega) | omega))
        replace hbel := hbel.trans (hst.mono hsz)
        replace hsz := hbel.size
        replace bB := bB.below hst bB.lt
        clear p0 p1 lB
        have p0 := bB.cell 0
        have p1 := bB.cell 1
        have lB := bB.lt
        try clear hWb
        replace HP := hid (HP.out.below hst hst.size)
        replace HX := hid (HX.out.below hst hst.size)
        replace HC := hid (HC.out.below hst hst.size)
        have HR := hid h1
        clear h1
        clear hb hst
        obtain ⟨W0, rfl⟩ : ∃ W0 : World, W0 = W1 := ⟨_, rfl⟩
        go_wp2_with (fail)
        refine (resultsF_any A9 Ac (n + 1) c9 mc cq px cc _ _ _ (HX.out.below (by repeat' (first | with_reducible assumption | with_reducible exact Below.refl _ _ | refine Below.alloc ?_ ?_ _ | refine Below.setCell ?_ ?_ _ | refine Below.drew ?_ | refine below_drewN ?_ _ | (simp; done) | (simp; omega) | omega)) (by first | (simp; done) | (simp; omega) | omega)) (HC.out.below (by repeat' (first | with_reducible assumption | with_reducible exact Below.refl _ _ | refine Below.alloc ?_ ?_ _ | refine Below.setCell ?_ ?_ _ | refine Below.drew ?_ | refine below_drewN ?_ _ | (simp; done) | (simp; omega) | omega)) (by first | (simp; done) | (simp; omega) | omega)) (by omega) Kx.out (by have := HC.out.len; omega)).mono ?_
        rw [Hrvx.out, Hrex.out]
        rintro e W1 ⟨As, ms, cs, rfl, h1, hb⟩
        have hst : Below W0.heap.size W0 W1 := Below.trans (by repeat' (first | with_reducible assumption | with_reducible exact Below.refl _ _ | refine Below.alloc ?_ ?_ _ | refine Below.setCell ?_ ?_ _ | refine Below.drew ?_ | refine below_drewN ?_ _ | (simp; done) | (simp; omega) | omega)) (hb.mono (by first | (simp; done) | (simp; omega) | omega))
        replace hbel := hbel.trans (hst.mono hsz)
        replace hsz := hbel.size
        replace bB := bB.below hst bB.lt
        clear p0 p1 lB
        have p0 := bB.cell 0
        have p1 := bB.cell 1
        have lB := bB.lt
        try clear hWb
        replace HP := hid (HP.out.below hst hst.size)
        replace HX := hid (HX.out.below hst hst.size)
        replace HC := hid (HC.out.below hst hst.size)
        replace HR := hid (HR.out.below hst hst.size)
        have HS := hid h1
        clear h1
        clear hb hst
        obtain ⟨W0, rfl⟩ : ∃ W0 : World, W0 = W1 := ⟨_, rfl⟩
        go_wp2_with (fail)
        refine (toldF_any A Ar n c mr cr pl rl _ _ _ (HP.out.below (by repeat' (first | with_reducible assumption | with_reducible exact Below.refl _ _ | refine Below.alloc ?_ ?_ _ | refine Below.setCell ?_ ?_ _ | refine Below.drew ?_ | refine below_drewN ?_ _ | (simp; done) | (simp; omega) | omega)) (by first | (simp; done) | (simp; omega) | omega)) (HR.out.below (by repeat' (first | with_reducible assumption | with_reducible exact Below.refl _ _ | refine Below.alloc ?_ ?_ _ | refine Below.setCell ?_ ?_ _ | refine Below.drew ?_ | refine below_drewN ?_ _ | (simp; done) | (simp; omega) | omega)) (by first | (simp; done) | (simp; omega) | omega)) (by omega) K2.out).mono ?_
        rw [Htv.out, Hte.out]
        rintro e W1 ⟨At, mt, ct, rfl, h1, hb⟩
        have hmt := h1.1.1
        clear h1
        have hst : Below W0.heap.size W0 W1 := Below.trans (by repeat' (first | with_reducible assumption | with_reducible exact Below.refl _ _ | refine Below.alloc ?_ ?_ _ | refine Below.setCell ?_ ?_ _ | refine Below.drew ?_ | refine below_drewN ?_ _ | (simp; done) | (simp; omega) | omega)) (hb.mono (by first | (simp; done) | (simp; omega) | omega))
        replace hbel := hbel.trans (hst.mono hsz)
        replace hsz := hbel.size
        replace bB := bB.below hst bB.lt
        clear p0 p1 lB
        have p0 := bB.cell 0
        have p1 := bB.cell 1
        have lB := bB.lt
        try clear hWb
        replace HP := hid (HP.out.below hst hst.size)
        replace HX := hid (HX.out.below hst hst.size)
        replace HC := hid (HC.out.below hst hst.size)
        replace HR := hid (HR.out.below hst hst.size)
        replace HS := hid (HS.out.below hst hst.size)
        clear hb hst
        obtain ⟨W0, rfl⟩ : ∃ W0 : World, W0 = W1 := ⟨_, rfl⟩
        go_wp2_with (fail)
        refine (toldF_any A9 As (n + 1) c9 ms cs px rx _ _ _ (HX.out.below (by repeat' (first | with_reducible assumption | with_reducible exact Below.refl _ _ | refine Below.alloc ?_ ?_ _ | refine Below.setCell ?_ ?_ _ | refine Below.drew ?_ | refine below_drewN ?_ _ | (simp; done) | (simp; omega) | omega)) (by first | (simp; done) | (simp; omega) | omega)) (HS.out.below (by repeat' (first | with_reducible assumption | with_reducible exact Below.refl _ _ | refine Below.alloc ?_ ?_ _ | refine Below.setCell ?_ ?_ _ | refine Below.drew ?_ | refine below_drewN ?_ _ | (simp; done) | (simp; omega) | omega)) (by first | (simp; done) | (simp; omega) | omega)) (by omega) Kx.out).mono ?_
        rw [Htvx.out, Htex.out]
        rintro e W1 ⟨Au, mu, cu, rfl, h1, hb⟩
        have hmu := h1.1.1
        clear h1
        have hst : Below W0.heap.size W0 W1 := Below.trans (by repeat' (first | with_reducible assumption | with_reducible exact Below.refl _ _ | refine Below.alloc ?_ ?_ _ | refine Below.setCell ?_ ?_ _ | refine Below.drew ?_ | refine below_drewN ?_ _ | (simp; done) | (simp; omega) | omega)) (hb.mono (by first | (simp; done) | (simp; omega) | omega))
        replace hbel := hbel.trans (hst.mono hsz)
        replace hsz := hbel.size
        replace bB := bB.below hst bB.lt
        clear p0 p1 lB
        have p0 := bB.cell 0
        have p1 := bB.cell 1
        have lB := bB.lt
        try clear hWb
        replace HP := hid (HP.out.below hst hst.size)
        replace HX := hid (HX.out.below hst hst.size)
        replace HC := hid (HC.out.below hst hst.size)
        replace HR := hid (HR.out.below hst hst.size)
        replace HS := hid (HS.out.below hst hst.size)
        clear hb hst
        obtain ⟨W0, rfl⟩ : ∃ W0 : World, W0 = W1 := ⟨_, rfl⟩
        have gl : ¬ (mt : Int) < (mu : Int) := by omega
        clear hmt hmu
        clear HC
        by_cases h5 : 5 < p
        · have h5i : (5 : Int) < p := by omega
          rcases Nat.eq_zero_or_pos m0 with hz | hz
          · have hzi : ¬ (0 : Int) < m0 := by omega
            clear hz
            have HP0 := HP
            go_wp2_with (fail)
            refine (works_any _).mono ?_
            rintro e W1 ⟨rfl, hb⟩
            have hst : Below W0.heap.size W0 W1 := Below.trans (by repeat' (first | with_reducible assumption | with_reducible exact Below.refl _ _ | refine Below.alloc ?_ ?_ _ | refine Below.setCell ?_ ?_ _ | refine Below.drew ?_ | refine below_drewN ?_ _ | (simp; done) | (simp; omega) | omega)) (hb.mono (by first | (simp; done) | (simp; omega) | omega))
            replace hbel := hbel.trans (hst.mono hsz)
            replace hsz := hbel.size
            replace bB := bB.below hst bB.lt
            clear p0 p1 lB
            have p0 := bB.cell 0
            have p1 := bB.cell 1
            have lB := bB.lt
            try clear hWb
            replace HP := hid (HP.out.below hst hst.size)
            replace HX := hid (HX.out.below hst hst.size)
            replace HR := hid (HR.out.below hst hst.size)
            replace HS := hid (HS.out.below hst hst.size)
            clear hb hst
            obtain ⟨W0, rfl⟩ : ∃ W0 : World, W0 = W1 := ⟨_, rfl⟩
            go_wp2
            go_ret
            exact ⟨rfl, hbel⟩
          · have hzi : (0 : Int) < m0 := by omega
            have hfe := hfew hz
            rw [show ((m0 - 1 : Nat) : Int) = (m0 : Int) - 1 by omega] at hfe
            have Hfew := hid hfe
            clear hfe
            have hsub : wrap64 ((m0 : Int) - 1) = ((m0 - 1 : Nat) : Int) := by simp only [wrap64]; omega
            clear hz
            have HP0 := HP
            go_wp2_with (fail)
            refine (checkTells_any A n c pl _ _ _ (HP.out.below (by repeat' (first | with_reducible assumption | with_reducible exact Below.refl _ _ | refine Below.alloc ?_ ?_ _ | refine Below.setCell ?_ ?_ _ | refine Below.drew ?_ | refine below_drewN ?_ _ | (simp; done) | (simp; omega) | omega)) (by first | (simp; done) | (simp; omega) | omega)) (by omega) K2.out).mono ?_
            rw [Hte'.out]
            rintro e W1 ⟨rfl, hb⟩
            have hst : Below W0.heap.size W0 W1 := Below.trans (by repeat' (first | with_reducible assumption | with_reducible exact Below.refl _ _ | refine Below.alloc ?_ ?_ _ | refine Below.setCell ?_ ?_ _ | refine Below.drew ?_ | refine below_drewN ?_ _ | (simp; done) | (simp; omega) | omega)) (hb.mono (by first | (simp; done) | (simp; omega) | omega))
            replace hbel := hbel.trans (hst.mono hsz)
            replace hsz := hbel.size
            replace bB := bB.below hst bB.lt
            clear p0 p1 lB
            have p0 := bB.cell 0
            have p1 := bB.cell 1
            have lB := bB.lt
            try clear hWb
            replace HP := hid (HP.out.below hst hst.size)
            replace HX := hid (HX.out.below hst hst.size)
            replace HR := hid (HR.out.below hst hst.size)
            replace HS := hid (HS.out.below hst hst.size)
            clear hb hst
            obtain ⟨W0, rfl⟩ : ∃ W0 : World, W0 = W1 := ⟨_, rfl⟩
            go_wp2_with (fail)
            refine (book_any _ _ _).mono ?_
            rintro e W1 ⟨rfl, hb⟩
            have hst : Below W0.heap.size W0 W1 := Below.trans (by repeat' (first | with_reducible assumption | with_reducible exact Below.refl _ _ | refine Below.alloc ?_ ?_ _ | refine Below.setCell ?_ ?_ _ | refine Below.drew ?_ | refine below_drewN ?_ _ | (simp; done) | (simp; omega) | omega)) (hb.mono (by first | (simp; done) | (simp; omega) | omega))
            replace hbel := hbel.trans (hst.mono hsz)
            replace hsz := hbel.size
            replace bB := bB.below hst bB.lt
            clear p0 p1 lB
            have p0 := bB.cell 0
            have p1 := bB.cell 1
            have lB := bB.lt
            try clear hWb
            replace HP := hid (HP.out.below hst hst.size)
            replace HX := hid (HX.out.below hst hst.size)
            replace HR := hid (HR.out.below hst hst.size)
            replace HS := hid (HS.out.below hst hst.size)
            clear hb hst
            obtain ⟨W0, rfl⟩ : ∃ W0 : World, W0 = W1 := ⟨_, rfl⟩
            go_wp2_with (fail)
            refine (checkTells_any A n c pl _ _ _ (HP.out.below (by repeat' (first | with_reducible assumption | with_reducible exact Below.refl _ _ | refine Below.alloc ?_ ?_ _ | refine Below.setCell ?_ ?_ _ | refine Below.drew ?_ | refine below_drewN ?_ _ | (simp; done) | (simp; omega) | omega)) (by first | (simp; done) | (simp; omega) | omega)) (by omega) K2.out).mono ?_
            rw [Hfew.out]
            rintro e W1 ⟨rfl, hb⟩
            have hst : Below W0.heap.size W0 W1 := Below.trans (by repeat' (first | with_reducible assumption | with_reducible exact Below.refl _ _ | refine Below.alloc ?_ ?_ _ | refine Below.setCell ?_ ?_ _ | refine Below.drew ?_ | refine below_drewN ?_ _ | (simp; done) | (simp; omega) | omega)) (hb.mono (by first | (simp; done) | (simp; omega) | omega))
            replace hbel := hbel.trans (hst.mono hsz)
            replace hsz := hbel.size
            replace bB := bB.below hst bB.lt
            clear p0 p1 lB
            have p0 := bB.cell 0
            have p1 := bB.cell 1
            have lB := bB.lt
            try clear hWb
            replace HP := hid (HP.out.below hst hst.size)
            replace HX := hid (HX.out.below hst hst.size)
            replace HR := hid (HR.out.below hst hst.size)
            replace HS := hid (HS.out.below hst hst.size)
            clear hb hst
            obtain ⟨W0, rfl⟩ : ∃ W0 : World, W0 = W1 := ⟨_, rfl⟩
            go_wp2_with (fail)
            refine (works_any _).mono ?_
            rintro e W1 ⟨rfl, hb⟩
            have hst : Below W0.heap.size W0 W1 := Below.trans (by repeat' (first | with_reducible assumption | with_reducible exact Below.refl _ _ | refine Below.alloc ?_ ?_ _ | refine Below.setCell ?_ ?_ _ | refine Below.drew ?_ | refine below_drewN ?_ _ | (simp; done) | (simp; omega) | omega)) (hb.mono (by first | (simp; done) | (simp; omega) | omega))
            replace hbel := hbel.trans (hst.mono hsz)
            replace hsz := hbel.size
            replace bB := bB.below hst bB.lt
            clear p0 p1 lB
            have p0 := bB.cell 0
            have p1 := bB.cell 1
            have lB := bB.lt
            try clear hWb
            replace HP := hid (HP.out.below hst hst.size)
            replace HX := hid (HX.out.below hst hst.size)
            replace HR := hid (HR.out.below hst hst.size)
            replace HS := hid (HS.out.below hst hst.size)
            clear hb hst
            obtain ⟨W0, rfl⟩ : ∃ W0 : World, W0 = W1 := ⟨_, rfl⟩
            go_wp2
            go_ret
            exact ⟨rfl, hbel⟩
        · have h5i : ¬ (5 : Int) < p := by omega
          have Hnv := hid (HNV.out h5)
          have Hnx := hid (HNX.out h5)
          have Hle := hid (HLE.out h5)
          have Hlx := hid (HLX.out h5)
          have gn : (nx : Int) ≤ (nt : Int) := by omega
          rcases Nat.eq_zero_or_pos m0 with hz | hz
          · have hzi : ¬ (0 : Int) < m0 := by omega
            clear hz
            have HP0 := HP
            go_wp2_with (fail)
            refine (neededF_any A Ar n c mr cr pl rl _ _ _ (HP.out.below (by repeat' (first | with_reducible assumption | with_reducible exact Below.refl _ _ | refine Below.alloc ?_ ?_ _ | refine Below.setCell ?_ ?_ _ | refine Below.drew ?_ | refine below_drewN ?_ _ | (simp; done) | (simp; omega) | omega)) (by first | (simp; done) | (simp; omega) | omega)) (HR.out.below (by repeat' (first | with_reducible assumption | with_reducible exact Below.refl _ _ | refine Below.alloc ?_ ?_ _ | refine Below.setCell ?_ ?_ _ | refine Below.drew ?_ | refine below_drewN ?_ _ | (simp; done) | (simp; omega) | omega)) (by first | (simp; done) | (simp; omega) | omega)) (by omega) K2.out).mono ?_
            rw [Hnv.out, Hle.out]
            rintro e W1 ⟨rfl, hb⟩
            have hst : Below W0.heap.size W0 W1 := Below.trans (by repeat' (first | with_reducible assumption | with_reducible exact Below.refl _ _ | refine Below.alloc ?_ ?_ _ | refine Below.setCell ?_ ?_ _ | refine Below.drew ?_ | refine below_drewN ?_ _ | (simp; done) | (simp; omega) | omega)) (hb.mono (by first | (simp; done) | (simp; omega) | omega))
            replace hbel := hbel.trans (hst.mono hsz)
            replace hsz := hbel.size
            replace bB := bB.below hst bB.lt
            clear p0 p1 lB
            have p0 := bB.cell 0
            have p1 := bB.cell 1
            have lB := bB.lt
            try clear hWb
            replace HP := hid (HP.out.below hst hst.size)
            replace HX := hid (HX.out.below hst hst.size)
            replace HR := hid (HR.out.below hst hst.size)
            replace HS := hid (HS.out.below hst hst.size)
            clear hb hst
            obtain ⟨W0, rfl⟩ : ∃ W0 : World, W0 = W1 := ⟨_, rfl⟩
            go_wp2_with (fail)
            refine (neededF_any A9 As (n + 1) c9 ms cs px rx _ _ _ (HX.out.below (by repeat' (first | with_reducible assumption | with_reducible exact Below.refl _ _ | refine Below.alloc ?_ ?_ _ | refine Below.setCell ?_ ?_ _ | refine Below.drew ?_ | refine below_drewN ?_ _ | (simp; done) | (simp; omega) | omega)) (by first | (simp; done) | (simp; omega) | omega)) (HS.out.below (by repeat' (first | with_reducible assumption | with_reducible exact Below.refl _ _ | refine Below.alloc ?_ ?_ _ | refine Below.setCell ?_ ?_ _ | refine Below.drew ?_ | refine below_drewN ?_ _ | (simp; done) | (simp; omega) | omega)) (by first | (simp; done) | (simp; omega) | omega)) (by omega) Kx.out).mono ?_
            rw [Hnx.out, Hlx.out]
            rintro e W1 ⟨rfl, hb⟩
            have hst : Below W0.heap.size W0 W1 := Below.trans (by repeat' (first | with_reducible assumption | with_reducible exact Below.refl _ _ | refine Below.alloc ?_ ?_ _ | refine Below.setCell ?_ ?_ _ | refine Below.drew ?_ | refine below_drewN ?_ _ | (simp; done) | (simp; omega) | omega)) (hb.mono (by first | (simp; done) | (simp; omega) | omega))
            replace hbel := hbel.trans (hst.mono hsz)
            replace hsz := hbel.size
            replace bB := bB.below hst bB.lt
            clear p0 p1 lB
            have p0 := bB.cell 0
            have p1 := bB.cell 1
            have lB := bB.lt
            try clear hWb
            replace HP := hid (HP.out.below hst hst.size)
            replace HX := hid (HX.out.below hst hst.size)
            replace HR := hid (HR.out.below hst hst.size)
            replace HS := hid (HS.out.below hst hst.size)
            clear hb hst
            obtain ⟨W0, rfl⟩ : ∃ W0 : World, W0 = W1 := ⟨_, rfl⟩
            go_wp2_with (fail)
            refine (works_any _).mono ?_
            rintro e W1 ⟨rfl, hb⟩
            have hst : Below W0.heap.size W0 W1 := Below.trans (by repeat' (first | with_reducible assumption | with_reducible exact Below.refl _ _ | refine Below.alloc ?_ ?_ _ | refine Below.setCell ?_ ?_ _ | refine Below.drew ?_ | refine below_drewN ?_ _ | (simp; done) | (simp; omega) | omega)) (hb.mono (by first | (simp; done) | (simp; omega) | omega))
            replace hbel := hbel.trans (hst.mono hsz)
            replace hsz := hbel.size
            replace bB := bB.below hst bB.lt
            clear p0 p1 lB
            have p0 := bB.cell 0
            have p1 := bB.cell 1
            have lB := bB.lt
            try clear hWb
            replace HP := hid (HP.out.below hst hst.size)
            replace HX := hid (HX.out.below hst hst.size)
            replace HR := hid (HR.out.below hst hst.size)
            replace HS := hid (HS.out.below hst hst.size)
            clear hb hst
            obtain ⟨W0, rfl⟩ : ∃ W0 : World, W0 = W1 := ⟨_, rfl⟩
            go_wp2
            go_ret
            exact ⟨rfl, hbel⟩
          · have hzi : (0 : Int) < m0 := by omega
            have hfe := hfew hz
            rw [show ((m0 - 1 : Nat) : Int) = (m0 : Int) - 1 by omega] at hfe
            have Hfew := hid hfe
            clear hfe
            have hsub : wrap64 ((m0 : Int) - 1) = ((m0 - 1 : Nat) : Int) := by simp only [wrap64]; omega
            clear hz
            have HP0 := HP
            go_wp2_with (fail)
            refine (checkTells_any A n c pl _ _ _ (HP.out.below (by repeat' (first | with_reducible assumption | with_reducible exact Below.refl _ _ | refine Below.alloc ?_ ?_ _ | refine Below.setCell ?_ ?_ _ | refine Below.drew ?_ | refine below_drewN ?_ _ | (simp; done) | (simp; omega) | omega)) (by first | (simp; done) | (simp; omega) | omega)) (by omega) K2.out).mono ?_
            rw [Hte'.out]
            rintro e W1 ⟨rfl, hb⟩
            have hst : Below W0.heap.size W0 W1 := Below.trans (by repeat' (first | with_reducible assumption | with_reducible exact Below.refl _ _ | refine Below.alloc ?_ ?_ _ | refine Below.setCell ?_ ?_ _ | refine Below.drew ?_ | refine below_drewN ?_ _ | (simp; done) | (simp; omega) | omega)) (hb.mono (by first | (simp; done) | (simp; omega) | omega))
            replace hbel := hbel.trans (hst.mono hsz)
            replace hsz := hbel.size
            replace bB := bB.below hst bB.lt
            clear p0 p1 lB
            have p0 := bB.cell 0
            have p1 := bB.cell 1
            have lB := bB.lt
            try clear hWb
            replace HP := hid (HP.out.below hst hst.size)
            replace HX := hid (HX.out.below hst hst.size)
            replace HR := hid (HR.out.below hst hst.size)
            replace HS := hid (HS.out.below hst hst.size)
            clear hb hst
            obtain ⟨W0, rfl⟩ : ∃ W0 : World, W0 = W1 := ⟨_, rfl⟩
            go_wp2_with (fail)
            refine (book_any _ _ _).mono ?_
            rintro e W1 ⟨rfl, hb⟩
            have hst : Below W0.heap.size W0 W1 := Below.trans (by repeat' (first | with_reducible assumption | with_reducible exact Below.refl _ _ | refine Below.alloc ?_ ?_ _ | refine Below.setCell ?_ ?_ _ | refine Below.drew ?_ | refine below_drewN ?_ _ | (simp; done) | (simp; omega) | omega)) (hb.mono (by first | (simp; done) | (simp; omega) | omega))
            replace hbel := hbel.trans (hst.mono hsz)
            replace hsz := hbel.size
            replace bB := bB.below hst bB.lt
            clear p0 p1 lB
            have p0 := bB.cell 0
            have p1 := bB.cell 1
            have lB := bB.lt
            try clear hWb
            replace HP := hid (HP.out.below hst hst.size)
            replace HX := hid (HX.out.below hst hst.size)
            replace HR := hid (HR.out.below hst hst.size)
            replace HS := hid (HS.out.below hst hst.size)
            clear hb hst
            obtain ⟨W0, rfl⟩ : ∃ W0 : World, W0 = W1 := ⟨_, rfl⟩
            go_wp2_with (fail)
            refine (checkTells_any A n c pl _ _ _ (HP.out.below (by repeat' (first | with_reducible assumption | with_reducible exact Below.refl _ _ | refine Below.alloc ?_ ?_ _ | refine Below.setCell ?_ ?_ _ | refine Below.drew ?_ | refine below_drewN ?_ _ | (simp; done) | (simp; omega) | omega)) (by first | (simp; done) | (simp; omega) | omega)) (by omega) K2.out).mono ?_
            rw [Hfew.out]
            rintro e W1 ⟨rfl, hb⟩
            have hst : Below W0.heap.size W0 W1 := Below.trans (by repeat' (first | with_reducible assumption | with_reducible exact Below.refl _ _ | refine Below.alloc ?_ ?_ _ | refine Below.setCell ?_ ?_ _ | refine Below.drew ?_ | refine below_drewN ?_ _ | (simp; done) | (simp; omega) | omega)) (hb.mono (by first | (simp; done) | (simp; omega) | omega))
            replace hbel := hbel.trans (hst.mono hsz)
            replace hsz := hbel.size
            replace bB := bB.below hst bB.lt
            clear p0 p1 lB
            have p0 := bB.cell 0
            have p1 := bB.cell 1
            have lB := bB.lt
            try clear hWb
            replace HP := hid (HP.out.below hst hst.size)
            replace HX := hid (HX.out.below hst hst.size)
            replace HR := hid (HR.out.below hst hst.size)
            replace HS := hid (HS.out.below hst hst.size)
            clear hb hst
            obtain ⟨W0, rfl⟩ : ∃ W0 : World, W0 = W1 := ⟨_, rfl⟩
            go_wp2_with (fail)
            refine (neededF_any A Ar n c mr cr pl rl _ _ _ (HP.out.below (by repeat' (first | with_reducible assumption | with_reducible exact Below.refl _ _ | refine Below.alloc ?_ ?_ _ | refine Below.setCell ?_ ?_ _ | refine Below.drew ?_ | refine below_drewN ?_ _ | (simp; done) | (simp; omega) | omega)) (by first | (simp; done) | (simp; omega) | omega)) (HR.out.below (by repeat' (first | with_reducible assumption | with_reducible exact Below.refl _ _ | refine Below.alloc ?_ ?_ _ | refine Below.setCell ?_ ?_ _ | refine Below.drew ?_ | refine below_drewN ?_ _ | (simp; done) | (simp; omega) | omega)) (by first | (simp; done) | (simp; omega) | omega)) (by omega) K2.out).mono ?_
            rw [Hnv.out, Hle.out]
            rintro e W1 ⟨rfl, hb⟩
            have hst : Below W0.heap.size W0 W1 := Below.trans (by repeat' (first | with_reducible assumption | with_reducible exact Below.refl _ _ | refine Below.alloc ?_ ?_ _ | refine Below.setCell ?_ ?_ _ | refine Below.drew ?_ | refine below_drewN ?_ _ | (simp; done) | (simp; omega) | omega)) (hb.mono (by first | (simp; done) | (simp; omega) | omega))
            replace hbel := hbel.trans (hst.mono hsz)
            replace hsz := hbel.size
            replace bB := bB.below hst bB.lt
            clear p0 p1 lB
            have p0 := bB.cell 0
            have p1 := bB.cell 1
            have lB := bB.lt
            try clear hWb
            replace HP := hid (HP.out.below hst hst.size)
            replace HX := hid (HX.out.below hst hst.size)
            replace HR := hid (HR.out.below hst hst.size)
            replace HS := hid (HS.out.below hst hst.size)
            clear hb hst
            obtain ⟨W0, rfl⟩ : ∃ W0 : World, W0 = W1 := ⟨_, rfl⟩
            go_wp2_with (fail)
            refine (neededF_any A9 As (n + 1) c9 ms cs px rx _ _ _ (HX.out.below (by repeat' (first | with_reducible assumption | with_reducible exact Below.refl _ _ | refine Below.alloc ?_ ?_ _ | refine Below.setCell ?_ ?_ _ | refine Below.drew ?_ | refine below_drewN ?_ _ | (simp; done) | (simp; omega) | omega)) (by first | (simp; done) | (simp; omega) | omega)) (HS.out.below (by repeat' (first | with_reducible assumption | with_reducible exact Below.refl _ _ | refine Below.alloc ?_ ?_ _ | refine Below.setCell ?_ ?_ _ | refine Below.drew ?_ | refine below_drewN ?_ _ | (simp; done) | (simp; omega) | omega)) (by first | (simp; done) | (simp; omega) | omega)) (by omega) Kx.out).mono ?_
            rw [Hnx.out, Hlx.out]
            rintro e W1 ⟨rfl, hb⟩
            have hst : Below W0.heap.size W0 W1 := Below.trans (by repeat' (first | with_reducible assumption | with_reducible exact Below.refl _ _ | refine Below.alloc ?_ ?_ _ | refine Below.setCell ?_ ?_ _ | refine Below.drew ?_ | refine below_drewN ?_ _ | (simp; done) | (simp; omega) | omega)) (hb.mono (by first | (simp; done) | (simp; omega) | omega))
            replace hbel := hbel.trans (hst.mono hsz)
            replace hsz := hbel.size
            replace bB := bB.below hst bB.lt
            clear p0 p1 lB
            have p0 := bB.cell 0
            have p1 := bB.cell 1
            have lB := bB.lt
            try clear hWb
            replace HP := hid (HP.out.below hst hst.size)
            replace HX := hid (HX.out.below hst hst.size)
            replace HR := hid (HR.out.below hst hst.size)
            replace HS := hid (HS.out.below hst hst.size)
            clear hb hst
            obtain ⟨W0, rfl⟩ : ∃ W0 : World, W0 = W1 := ⟨_, rfl⟩
            go_wp2_with (fail)
            refine (works_any _).mono ?_
            rintro e W1 ⟨rfl, hb⟩
            have hst : Below W0.heap.size W0 W1 := Below.trans (by repeat' (first | with_reducible assumption | with_reducible exact Below.refl _ _ | refine Below.alloc ?_ ?_ _ | refine Below.setCell ?_ ?_ _ | refine Below.drew ?_ | refine below_drewN ?_ _ | (simp; done) | (simp; omega) | omega)) (hb.mono (by first | (simp; done) | (simp; omega) | omega))
            replace hbel := hbel.trans (hst.mono hsz)
            replace hsz := hbel.size
            replace bB := bB.below hst bB.lt
            clear p0 p1 lB
            have p0 := bB.cell 0
            have p1 := bB.cell 1
            have lB := bB.lt
            try clear hWb
            replace HP := hid (HP.out.below hst hst.size)
            replace HX := hid (HX.out.below hst hst.size)
            replace HR := hid (HR.out.below hst hst.size)
            replace HS := hid (HS.out.below hst hst.size)
            clear hb hst
            obtain ⟨W0, rfl⟩ : ∃ W0 : World, W0 = W1 := ⟨_, rfl⟩
            go_wp2
            go_ret
            exact ⟨rfl, hbel⟩
    · clear htt hfew
      rcases hper with rfl | rfl
      · replace hpp := hpp rfl
        subst hpp
        go_enter Try.func10, Try.ntmps10
        go_wp2_with (fail)
        refine (fineW_any A n c pl _ _ _ (HP.out.below (by repeat' (first | with_reducible assumption | with_reducible exact Below.refl _ _ | refine Below.alloc ?_ ?_ _ | refine Below.setCell ?_ ?_ _ | refine Below.drew ?_ | refine below_drewN ?_ _ | (simp; done) | (simp; omega) | omega)) (by first | (simp; done) | (simp; omega) | omega))).mono ?_
        rw [Hf.out]
        rintro e W1 ⟨rfl, hb⟩
        have hst : Below W0.heap.size W0 W1 := Below.trans (by repeat' (first | with_reducible assumption | with_reducible exact Below.refl _ _ | refine Below.alloc ?_ ?_ _ | refine Below.setCell ?_ ?_ _ | refine Below.drew ?_ | refine below_drewN ?_ _ | (simp; done) | (simp; omega) | omega)) (hb.mono (by first | (simp; done) | (simp; omega) | omega))
        replace hbel := hbel.trans (hst.mono hsz)
        replace hsz := hbel.size
        replace bB := bB.below hst bB.lt
        clear p0 p1 lB
        have p0 := bB.cell 0
        have p1 := bB.cell 1
        have lB := bB.lt
        try clear hWb
        replace HP := hid (HP.out.below hst hst.size)
        clear hb hst
        obtain ⟨W0, rfl⟩ : ∃ W0 : World, W0 = W1 := ⟨_, rfl⟩
        have z2 : IntKind.i64.wrap (mn : Int) = (mn : Int) := IntWalk.i64_in _ (by omega)
        go_wp2_with (fail)
        obtain ⟨vs, hvs, hcs⟩ := HP.out.cells
        refine Sx.wp_region_el (fun W => Below W0.heap.size W0 W) (hSb W0) [1, 3, 4, 5, 6] 6 (by kernel_rfl) (by kernel_rfl) ((Below.refl _ _).drew) ?_
        simp only [pick, List.getElem?_toArray, List.getElem?_cons_zero, List.getElem?_cons_succ]
        (refine Sx.wpE_val (v := ?_) (by rfl) (fun W hW => ?_) ?_; rotate_left; (· have f0 := (bB.below hW lB).cell 0; have f1 := (bB.below hW lB).cell 1; have f2 := (bB.below hW lB).lt; go_simp; with_reducible rfl); simp only [Act.put, List.setIfInBounds_toArray, List.set_cons_zero, List.set_cons_succ])
        (refine Sx.wpE_val (v := ?_) (by rfl) (fun W hW => ?_) ?_; rotate_left; (· have f0 := (bB.below hW lB).cell 0; have f1 := (bB.below hW lB).cell 1; have f2 := (bB.below hW lB).lt; go_simp; with_reducible rfl); simp only [Act.put, List.setIfInBounds_toArray, List.set_cons_zero, List.set_cons_succ])
        (refine Sx.wpE_val (v := ?_) (by rfl) (fun W hW => ?_) ?_; rotate_left; (· have f0 := (bB.below hW lB).cell 0; have f1 := (bB.below hW lB).cell 1; have f2 := (bB.below hW lB).lt; go_simp; with_reducible rfl); simp only [Act.put, List.setIfInBounds_toArray, List.set_cons_zero, List.set_cons_succ])
        (refine Sx.wpE_val (v := ?_) (by rfl) (fun W hW => ?_) ?_; rotate_left; (· have f0 := (bB.below hW lB).cell 0; have f1 := (bB.below hW lB).cell 1; have f2 := (bB.below hW lB).lt; go_simp; with_reducible rfl); simp only [Act.put, List.setIfInBounds_toArray, List.set_cons_zero, List.set_cons_succ])
        (refine Sx.wpE_val (v := ?_) (by rfl) (fun W hW => ?_) ?_; rotate_left; (· have f0 := (bB.below hW lB).cell 0; have f1 := (bB.below hW lB).cell 1; have f2 := (bB.below hW lB).lt; go_simp; with_reducible rfl); simp only [Act.put, List.setIfInBounds_toArray, List.set_cons_zero, List.set_cons_succ])
        simp only [Sx.wpE]
        (refine Sx.wpM_one 0 _ (by simp only [List.getElem?_toArray, List.getElem?_cons_zero, List.getElem?_cons_succ]; rfl) (by kernel_rfl) (by rfl) ?_)
        intro X0 hu0 hs0
        (go_simp; simp only [LUpon, Act.put]; try simp only [List.setIfInBounds_toArray, List.set_cons_zero, List.set_cons_succ])
        refine ⟨hs0.alloc hs0.size _, ?_⟩
        have Hown := hid (own_full (e := 25) (size := 1) (base := W0.heap.size) (n := 0) (xs := []) X0 (cur := #[]) hs0.size (by unfold maxLen; omega) rfl rfl)
        have hg0 := hs0.size
        generalize hX0s : X0.heap.size = g0 at *
        (refine Sx.wpM_one 2 _ (by simp only [List.getElem?_toArray, List.getElem?_cons_zero, List.getElem?_cons_succ]; rfl) (by kernel_rfl) (by rfl) ?_)
        intro X1 hu1 hs1
        have ho1 := owns_below Hown.out hu1
        refine lupon_append_src _ _ _ 24 rfl W0.heap.size 25 i0 _ 1 24 under24 I0.out I1.out I2.out I3.out rfl (by decide) _ 0 [] (by rfl) ho1 A n c vs (by rfl) X1.heap.size (hvs.below' hs1 hs1.size) HA.out hcs.one (by unfold maxLen; omega) (by omega) hs1.size ?_
        intro v2 w2 ho2 hg2 hat2
        rw [Nat.zero_add, List.nil_append] at ho2
        have hs2 : Below W0.heap.size W0 w2 := hs1.grown hg2 hs1.size (fun r hr => (World.ownsRow.lt ho1 r hr).1)
        refine ⟨hs2, ?_⟩
        have Ho2 := hid ho2
        clear ho1 ho2 hg2 hat2
        simp only [Act.put, List.setIfInBounds_toArray, List.set_cons_zero, List.set_cons_succ]
        (refine Sx.wpM_one 7 _ (by simp only [List.getElem?_toArray, List.getElem?_cons_zero, List.getElem?_cons_succ]; rfl) (by kernel_rfl) (by rfl) ?_)
        intro X3 hu3 hs3
        (go_simp; simp only [LUpon, Act.put]; try simp only [List.setIfInBounds_toArray, List.set_cons_zero, List.set_cons_succ])
        have Ho3 := hid (owns_below Ho2.out hu3)
        clear Ho2
        refine (listed_any mn p X3 (by omega) (by omega)).mono ?_
        rw [Hqq.out]
        rintro e X4 ⟨vq, rfl, hoq, hb4⟩
        obtain ⟨Aq, cq, rfl, hiq, hyq⟩ := ins_young hoq
        have hs4 : Below W0.heap.size W0 X4 := hs3.trans (hb4.mono hs3.size)
        refine ⟨_, rfl, hs4, ?_⟩
        have Ho4 := hid (owns_below Ho3.out hb4)
        have Hr2 : Hid (∀ r, v2.ownBlock = some r → r < X3.heap.size) := hid (fun r hr => (World.ownsRow.lt Ho3.out r hr).2)
        have Hiq := hid hiq
        have Hyq := hid hyq
        clear Ho3 hoq hb4 hiq hyq
        try simp only [Act.put, List.setIfInBounds_toArray, List.set_cons_zero, List.set_cons_succ]
        (refine Sx.wpM_one 8 _ (by simp only [List.getElem?_toArray, List.getElem?_cons_zero, List.getElem?_cons_succ]; rfl) (by kernel_rfl) (by rfl) ?_)
        intro X5 hu5 hs5
        (go_simp; simp only [LUpon, Act.put]; try simp only [List.setIfInBounds_toArray, List.set_cons_zero, List.set_cons_succ])
        refine ⟨hs5.alloc hs5.size _, ?_⟩
        have b8 : Blk (X5.alloc (.cells #[.slice Aq qq.length cq] 25)) X5.heap.size 25 #[.slice Aq qq.length cq] := Blk.new' rfl
        have hal : Below X5.heap.size X5 (X5.alloc (.cells #[.slice Aq qq.length cq] 25)) := (Below.refl _ _).alloc (Nat.le_refl _) _
        have Ho5 := hid (owns_below (owns_below Ho4.out hu5) hal)
        have Hi5 := hid ((Hiq.out.below hu5 hu5.size).below hal hal.size)
        clear Ho4 Hiq hal
        generalize X5.alloc (.cells #[.slice Aq qq.length cq] 25) = X6 at *
        generalize X5.heap.size = g8 at *
        (refine Sx.wpM_one 9 _ (by simp only [List.getElem?_toArray, List.getElem?_cons_zero, List.getElem?_cons_succ]; rfl) (by kernel_rfl) (by rfl) ?_)
        intro X7 hu7 hs7
        have ho7 := owns_below Ho5.out hu7
        have hi7 := Hi5.out.below hu7 hu7.size
        have b7 := b8.below hu7 b8.lt
        refine lupon_append_src _ _ _ 24 rfl W0.heap.size 25 i0 _ 1 24 under24 I0.out I1.out I2.out I3.out rfl (by decide) _ n vs (by rfl) ho7 (some ⟨g8, 0, none⟩) 1 1 [.slice Aq qq.length cq] (by rfl) X7.heap.size ⟨rfl, fun _ => ⟨g8, 0, rfl, b7.lt, fun j u hu => by rw [b7.cell, Nat.zero_add]; simpa using hu⟩⟩ (fun h => by cases h) (fun u hu => by rw [List.mem_singleton.1 hu]; rfl) (by unfold maxLen; omega) (by omega) hs7.size ?_
        intro v9 w9 ho9 hg9 hat9
        have hs9 : Below W0.heap.size W0 w9 := hs7.grown hg9 hs7.size (fun r hr => (World.ownsRow.lt ho7 r hr).1)
        refine ⟨hs9, ?_⟩
        have hi9 : InS w9 w9.heap.size Aq qq.length qq := ins_outlast hi7 Hyq.out Hr2.out hg9 hg9.size
        obtain ⟨A9, c9, rfl, hl9, -⟩ := ((hcs.below hs9 hs9.size).snoc (m := qq.length) (c := cq) hi9).lis ho9
        have HX := hid hl9
        rw [Hpx.out] at HX
        clear ho7 hi7 b7 ho9 hg9 hat9 hi9 hl9 Ho5 Hi5 Hyq Hr2 b8 Hown hu0 hu1 hu3 hu5 hu7
        simp only [Act.put, List.setIfInBounds_toArray, List.set_cons_zero, List.set_cons_succ]
        refine Sx.wpM_early (hSb W0) (by kernel_rfl) [10] 0 _ _ (by kernel_rfl) ?_
        simp only [pick, List.getElem?_toArray, List.getElem?_cons_zero, List.getElem?_cons_succ]
        (refine Sx.wpE_val (v := ?_) (by rfl) (fun W hW => ?_) ?_; rotate_left; (· have f0 := (bB.below hW lB).cell 0; have f1 := (bB.below hW lB).cell 1; have f2 := (bB.below hW lB).lt; go_simp; with_reducible rfl); simp only [Act.put, List.setIfInBounds_toArray, List.set_cons_zero, List.set_cons_succ])
        simp only [Sx.wpE]
        refine Sx.wpM_end (by kernel_rfl) ?_
        intro W1 hvz hb
        replace HX := hid (HX.out.below hvz hvz.size)
        clear hvs hcs hs0 hs1 hs2 hs3 hs4 hs5 hs7 hs9 hvz
        replace hbel := hbel.trans (hb.mono hsz)
        replace hsz := hbel.size
        replace bB := bB.below hb bB.lt
        clear p0 p1 lB
        have p0 := bB.cell 0
        have p1 := bB.cell 1
        have lB := bB.lt
        replace HP := hid (HP.out.below hb hb.size)
        clear hb
        try clear hWb
        obtain ⟨W0, rfl⟩ : ∃ W0 : World, W0 = W1 := ⟨_, rfl⟩
        go_wp2_with (fail)
        refine (at_any p m0 xn _ hp8 hm2 (by omega)).mono ?_
        rw [Hcc.out]
        rintro e W1 ⟨Ac, mc, cq, rfl, h1, -, hb⟩
        have hst : Below W0.heap.size W0 W1 := Below.trans (by repeat' (first | with_reducible assumption | with_reducible exact Below.refl _ _ | refine Below.alloc ?_ ?_ _ | refine Below.setCell ?_ ?_ _ | refine Below.drew ?_ | refine below_drewN ?_ _ | (simp; done) | (simp; omega) | omega)) (hb.mono (by first | (simp; done) | (simp; omega) | omega))
        replace hbel := hbel.trans (hst.mono hsz)
        replace hsz := hbel.size
        replace bB := bB.below hst bB.lt
        clear p0 p1 lB
        have p0 := bB.cell 0
        have p1 := bB.cell 1
        have lB := bB.lt
        try clear hWb
        replace HP := hid (HP.out.below hst hst.size)
        replace HX := hid (HX.out.below hst hst.size)
        have HC := hid h1
        clear h1
        clear hb hst
        obtain ⟨W0, rfl⟩ : ∃ W0 : World, W0 = W1 := ⟨_, rfl⟩
        go_wp2_with (fail)
        refine (checkTells_any A n c pl _ _ _ (HP.out.below (by repeat' (first | with_reducible assumption | with_reducible exact Below.refl _ _ | refine Below.alloc ?_ ?_ _ | refine Below.setCell ?_ ?_ _ | refine Below.drew ?_ | refine below_drewN ?_ _ | (simp; done) | (simp; omega) | omega)) (by first | (simp; done) | (simp; omega) | omega)) (by omega) K2.out).mono ?_
        rw [Hte'.out]
        rintro e W1 ⟨rfl, hb⟩
        have hst : Below W0.heap.size W0 W1 := Below.trans (by repeat' (first | with_reducible assumption | with_reducible exact Below.refl _ _ | refine Below.alloc ?_ ?_ _ | refine Below.setCell ?_ ?_ _ | refine Below.drew ?_ | refine below_drewN ?_ _ | (simp; done) | (simp; omega) | omega)) (hb.mono (by first | (simp; done) | (simp; omega) | omega))
        replace hbel := hbel.trans (hst.mono hsz)
        replace hsz := hbel.size
        replace bB := bB.below hst bB.lt
        clear p0 p1 lB
        have p0 := bB.cell 0
        have p1 := bB.cell 1
        have lB := bB.lt
        try clear hWb
        replace HP := hid (HP.out.below hst hst.size)
        replace HX := hid (HX.out.below hst hst.size)
        replace HC := hid (HC.out.below hst hst.size)
        clear hb hst
        obtain ⟨W0, rfl⟩ : ∃ W0 : World, W0 = W1 := ⟨_, rfl⟩
        go_wp2_with (fail)
        refine (checkPlain_any A n c pl _ _ _ (HP.out.below (by repeat' (first | with_reducible assumption | with_reducible exact Below.refl _ _ | refine Below.alloc ?_ ?_ _ | refine Below.setCell ?_ ?_ _ | refine Below.drew ?_ | refine below_drewN ?_ _ | (simp; done) | (simp; omega) | omega)) (by first | (simp; done) | (simp; omega) | omega)) (by omega) K2.out).mono ?_
        rw [Hpe'.out]
        rintro e W1 ⟨rfl, hb⟩
        have hst : Below W0.heap.size W0 W1 := Below.trans (by repeat' (first | with_reducible assumption | with_reducible exact Below.refl _ _ | refine Below.alloc ?_ ?_ _ | refine Below.setCell ?_ ?_ _ | refine Below.drew ?_ | refine below_drewN ?_ _ | (simp; done) | (simp; omega) | omega)) (hb.mono (by first | (simp; done) | (simp; omega) | omega))
        replace hbel := hbel.trans (hst.mono hsz)
        replace hsz := hbel.size
        replace bB := bB.below hst bB.lt
        clear p0 p1 lB
        have p0 := bB.cell 0
        have p1 := bB.cell 1
        have lB := bB.lt
        try clear hWb
        replace HP := hid (HP.out.below hst hst.size)
        replace HX := hid (HX.out.below hst hst.size)
        replace HC := hid (HC.out.below hst hst.size)
        clear hb hst
        obtain ⟨W0, rfl⟩ : ∃ W0 : World, W0 = W1 := ⟨_, rfl⟩
        go_wp2_with (fail)
        refine (checkPlain_any A9 (n + 1) c9 px _ _ _ (HX.out.below (by repeat' (first | with_reducible assumption | with_reducible exact Below.refl _ _ | refine Below.alloc ?_ ?_ _ | refine Below.setCell ?_ ?_ _ | refine Below.drew ?_ | refine below_drewN ?_ _ | (simp; done) | (simp; omega) | omega)) (by first | (simp; done) | (simp; omega) | omega)) (by omega) Kx.out).mono ?_
        rw [Hpex'.out]
        rintro e W1 ⟨rfl, hb⟩
        have hst : Below W0.heap.size W0 W1 := Below.trans (by repeat' (first | with_reducible assumption | with_reducible exact Below.refl _ _ | refine Below.alloc ?_ ?_ _ | refine Below.setCell ?_ ?_ _ | refine Below.drew ?_ | refine below_drewN ?_ _ | (simp; done) | (simp; omega) | omega)) (hb.mono (by first | (simp; done) | (simp; omega) | omega))
        replace hbel := hbel.trans (hst.mono hsz)
        replace hsz := hbel.size
        replace bB := bB.below hst bB.lt
        clear p0 p1 lB
        have p0 := bB.cell 0
        have p1 := bB.cell 1
        have lB := bB.lt
        try clear hWb
        replace HP := hid (HP.out.below hst hst.size)
        replace HX := hid (HX.out.below hst hst.size)
        replace HC := hid (HC.out.below hst hst.size)
        clear hb hst
        obtain ⟨W0, rfl⟩ : ∃ W0 : World, W0 = W1 := ⟨_, rfl⟩
        go_wp2_with (fail)
        refine (resultsF_any A Ac n c mc cq pl cc _ _ _ (HP.out.below (by repeat' (first | with_reducible assumption | with_reducible exact Below.refl _ _ | refine Below.alloc ?_ ?_ _ | refine Below.setCell ?_ ?_ _ | refine Below.drew ?_ | refine below_drewN ?_ _ | (simp; done) | (simp; omega) | omega)) (by first | (simp; done) | (simp; omega) | omega)) (HC.out.below (by repeat' (first | with_reducible assumption | with_reducible exact Below.refl _ _ | refine Below.alloc ?_ ?_ _ | refine Below.setCell ?_ ?_ _ | refine Below.drew ?_ | refine below_drewN ?_ _ | (simp; done) | (simp; omega) | omega)) (by first | (simp; done) | (simp; omega) | omega)) (by omega) K2.out (by have := HC.out.len; omega)).mono ?_
        rw [Hrv.out, Hre.out]
        rintro e W1 ⟨Ar, mr, cr, rfl, h1, hb⟩
        have hst : Below W0.heap.size W0 W1 := Below.trans (by repeat' (first | with_reducible assumption | with_reducible exact Below.refl _ _ | refine Below.alloc ?_ ?_ _ | refine Below.setCell ?_ ?_ _ | refine Below.drew ?_ | refine below_drewN ?_ _ | (simp; done) | (simp; omega) | omega)) (hb.mono (by first | (simp; done) | (simp; omega) | omega))
        replace hbel := hbel.trans (hst.mono hsz)
        replace hsz := hbel.size
        replace bB := bB.below hst bB.lt
        clear p0 p1 lB
        have p0 := bB.cell 0
        have p1 := bB.cell 1
        have lB := bB.lt
        try clear hWb
        replace HP := hid (HP.out.below hst hst.size)
        replace HX := hid (HX.out.below hst hst.size)
        replace HC := hid (HC.out.below hst hst.size)
        have HR := hid h1
        clear h1
        clear hb hst
        obtain ⟨W0, rfl⟩ : ∃ W0 : World, W0 = W1 := ⟨_, rfl⟩
        go_wp2_with (fail)
        refine (resultsF_any A9 Ac (n + 1) c9 mc cq px cc _ _ _ (HX.out.below (by repeat' (first | with_reducible assumption | with_reducible exact Below.refl _ _ | refine Below.alloc ?_ ?_ _ | refine Below.setCell ?_ ?_ _ | refine Below.drew ?_ | refine below_drewN ?_ _ | (simp; done) | (simp; omega) | omega)) (by first | (simp; done) | (simp; omega) | omega)) (HC.out.below (by repeat' (first | with_reducible assumption | with_reducible exact Below.refl _ _ | refine Below.alloc ?_ ?_ _ | refine Below.setCell ?_ ?_ _ | refine Below.drew ?_ | refine below_drewN ?_ _ | (simp; done) | (simp; omega) | omega)) (by first | (simp; done) | (simp; omega) | omega)) (by omega) Kx.out (by have := HC.out.len; omega)).mono ?_
        rw [Hrvx.out, Hrex.out]
        rintro e W1 ⟨As, ms, cs, rfl, h1, hb⟩
        have hst : Below W0.heap.size W0 W1 := Below.trans (by repeat' (first | with_reducible assumption | with_reducible exact Below.refl _ _ | refine Below.alloc ?_ ?_ _ | refine Below.setCell ?_ ?_ _ | refine Below.drew ?_ | refine below_drewN ?_ _ | (simp; done) | (simp; omega) | omega)) (hb.mono (by first | (simp; done) | (simp; omega) | omega))
        replace hbel := hbel.trans (hst.mono hsz)
        replace hsz := hbel.size
        replace bB := bB.below hst bB.lt
        clear p0 p1 lB
        have p0 := bB.cell 0
        have p1 := bB.cell 1
        have lB := bB.lt
        try clear hWb
        replace HP := hid (HP.out.below hst hst.size)
        replace HX := hid (HX.out.below hst hst.size)
        replace HC := hid (HC.out.below hst hst.size)
        replace HR := hid (HR.out.below hst hst.size)
        have HS := hid h1
        clear h1
        clear hb hst
        obtain ⟨W0, rfl⟩ : ∃ W0 : World, W0 = W1 := ⟨_, rfl⟩
        go_wp2_with (fail)
        refine (toldF_any A Ar n c mr cr pl rl _ _ _ (HP.out.below (by repeat' (first | with_reducible assumption | with_reducible exact Below.refl _ _ | refine Below.alloc ?_ ?_ _ | refine Below.setCell ?_ ?_ _ | refine Below.drew ?_ | refine below_drewN ?_ _ | (simp; done) | (simp; omega) | omega)) (by first | (simp; done) | (simp; omega) | omega)) (HR.out.below (by repeat' (first | with_reducible assumption | with_reducible exact Below.refl _ _ | refine Below.alloc ?_ ?_ _ | refine Below.setCell ?_ ?_ _ | refine Below.drew ?_ | refine below_drewN ?_ _ | (simp; done) | (simp; omega) | omega)) (by first | (simp; done) | (simp; omega) | omega)) (by omega) K2.out).mono ?_
        rw [Htv.out, Hte.out]
        rintro e W1 ⟨At, mt, ct, rfl, h1, hb⟩
        have hmt := h1.1.1
        clear h1
        have hst : Below W0.heap.size W0 W1 := Below.trans (by repeat' (first | with_reducible assumption | with_reducible exact Below.refl _ _ | refine Below.alloc ?_ ?_ _ | refine Below.setCell ?_ ?_ _ | refine Below.drew ?_ | refine below_drewN ?_ _ | (simp; done) | (simp; omega) | omega)) (hb.mono (by first | (simp; done) | (simp; omega) | omega))
        replace hbel := hbel.trans (hst.mono hsz)
        replace hsz := hbel.size
        replace bB := bB.below hst bB.lt
        clear p0 p1 lB
        have p0 := bB.cell 0
        have p1 := bB.cell 1
        have lB := bB.lt
        try clear hWb
        replace HP := hid (HP.out.below hst hst.size)
        replace HX := hid (HX.out.below hst hst.size)
        replace HC := hid (HC.out.below hst hst.size)
        replace HR := hid (HR.out.below hst hst.size)
        replace HS := hid (HS.out.below hst hst.size)
        clear hb hst
        obtain ⟨W0, rfl⟩ : ∃ W0 : World, W0 = W1 := ⟨_, rfl⟩
        go_wp2_with (fail)
        refine (toldF_any A9 As (n + 1) c9 ms cs px rx _ _ _ (HX.out.below (by repeat' (first | with_reducible assumption | with_reducible exact Below.refl _ _ | refine Below.alloc ?_ ?_ _ | refine Below.setCell ?_ ?_ _ | refine Below.drew ?_ | refine below_drewN ?_ _ | (simp; done) | (simp; omega) | omega)) (by first | (simp; done) | (simp; omega) | omega)) (HS.out.below (by repeat' (first | with_reducible assumption | with_reducible exact Below.refl _ _ | refine Below.alloc ?_ ?_ _ | refine Below.setCell ?_ ?_ _ | refine Below.drew ?_ | refine below_drewN ?_ _ | (simp; done) | (simp; omega) | omega)) (by first | (simp; done) | (simp; omega) | omega)) (by omega) Kx.out).mono ?_
        rw [Htvx.out, Htex.out]
        rintro e W1 ⟨Au, mu, cu, rfl, h1, hb⟩
        have hmu := h1.1.1
        clear h1
        have hst : Below W0.heap.size W0 W1 := Below.trans (by repeat' (first | with_reducible assumption | with_reducible exact Below.refl _ _ | refine Below.alloc ?_ ?_ _ | refine Below.setCell ?_ ?_ _ | refine Below.drew ?_ | refine below_drewN ?_ _ | (simp; done) | (simp; omega) | omega)) (hb.mono (by first | (simp; done) | (simp; omega) | omega))
        replace hbel := hbel.trans (hst.mono hsz)
        replace hsz := hbel.size
        replace bB := bB.below hst bB.lt
        clear p0 p1 lB
        have p0 := bB.cell 0
        have p1 := bB.cell 1
        have lB := bB.lt
        try clear hWb
        replace HP := hid (HP.out.below hst hst.size)
        replace HX := hid (HX.out.below hst hst.size)
        replace HC := hid (HC.out.below hst hst.size)
        replace HR := hid (HR.out.below hst hst.size)
        replace HS := hid (HS.out.below hst hst.size)
        clear hb hst
        obtain ⟨W0, rfl⟩ : ∃ W0 : World, W0 = W1 := ⟨_, rfl⟩
        have gl : ¬ (mt : Int) < (mu : Int) := by omega
        clear hmt hmu
        clear HC
        by_cases h5 : 5 < p
        · have h5i : (5 : Int) < p := by omega
          rcases Nat.eq_zero_or_pos m0 with hz | hz
          · have hzi : ¬ (0 : Int) < m0 := by omega
            clear hz
            have HP0 := HP
            go_wp2_with (fail)
            refine (works_any _).mono ?_
            rintro e W1 ⟨rfl, hb⟩
            have hst : Below W0.heap.size W0 W1 := Below.trans (by repeat' (first | with_reducible assumption | with_reducible exact Below.refl _ _ | refine Below.alloc ?_ ?_ _ | refine Below.setCell ?_ ?_ _ | refine Below.drew ?_ | refine below_drewN ?_ _ | (simp; done) | (simp; omega) | omega)) (hb.mono (by first | (simp; done) | (simp; omega) | omega))
            replace hbel := hbel.trans (hst.mono hsz)
            replace hsz := hbel.size
            replace bB := bB.below hst bB.lt
            clear p0 p1 lB
            have p0 := bB.cell 0
            have p1 := bB.cell 1
            have lB := bB.lt
            try clear hWb
            replace HP := hid (HP.out.below hst hst.size)
            replace HX := hid (HX.out.below hst hst.size)
            replace HR := hid (HR.out.below hst hst.size)
            replace HS := hid (HS.out.below hst hst.size)
            clear hb hst
            obtain ⟨W0, rfl⟩ : ∃ W0 : World, W0 = W1 := ⟨_, rfl⟩
            go_wp2
            go_ret
            exact ⟨rfl, hbel⟩
          · have hzi : (0 : Int) < m0 := by omega
            have hsub : wrap64 ((m0 : Int) - 1) = ((m0 - 1 : Nat) : Int) := by simp only [wrap64]; omega
            clear hz
            have HP0 := HP
            go_wp2_with (fail)
            refine (checkTells_any A n c pl _ _ _ (HP.out.below (by repeat' (first | with_reducible assumption | with_reducible exact Below.refl _ _ | refine Below.alloc ?_ ?_ _ | refine Below.setCell ?_ ?_ _ | refine Below.drew ?_ | refine below_drewN ?_ _ | (simp; done) | (simp; omega) | omega)) (by first | (simp; done) | (simp; omega) | omega)) (by omega) K2.out).mono ?_
            rw [Hte'.out]
            rintro e W1 ⟨rfl, hb⟩
            have hst : Below W0.heap.size W0 W1 := Below.trans (by repeat' (first | with_reducible assumption | with_reducible exact Below.refl _ _ | refine Below.alloc ?_ ?_ _ | refine Below.setCell ?_ ?_ _ | refine Below.drew ?_ | refine below_drewN ?_ _ | (simp; done) | (simp; omega) | omega)) (hb.mono (by first | (simp; done) | (simp; omega) | omega))
            replace hbel := hbel.trans (hst.mono hsz)
            replace hsz := hbel.size
            replace bB := bB.below hst bB.lt
            clear p0 p1 lB
            have p0 := bB.cell 0
            have p1 := bB.cell 1
            have lB := bB.lt
            try clear hWb
            replace HP := hid (HP.out.below hst hst.size)
            replace HX := hid (HX.out.below hst hst.size)
            replace HR := hid (HR.out.below hst hst.size)
            replace HS := hid (HS.out.below hst hst.size)
            clear hb hst
            obtain ⟨W0, rfl⟩ : ∃ W0 : World, W0 = W1 := ⟨_, rfl⟩
            go_wp2_with (fail)
            refine (works_any _).mono ?_
            rintro e W1 ⟨rfl, hb⟩
            have hst : Below W0.heap.size W0 W1 := Below.trans (by repeat' (first | with_reducible assumption | with_reducible exact Below.refl _ _ | refine Below.alloc ?_ ?_ _ | refine Below.setCell ?_ ?_ _ | refine Below.drew ?_ | refine below_drewN ?_ _ | (simp; done) | (simp; omega) | omega)) (hb.mono (by first | (simp; done) | (simp; omega) | omega))
            replace hbel := hbel.trans (hst.mono hsz)
            replace hsz := hbel.size
            replace bB := bB.below hst bB.lt
            clear p0 p1 lB
            have p0 := bB.cell 0
            have p1 := bB.cell 1
            have lB := bB.lt
            try clear hWb
            replace HP := hid (HP.out.below hst hst.size)
            replace HX := hid (HX.out.below hst hst.size)
            replace HR := hid (HR.out.below hst hst.size)
            replace HS := hid (HS.out.below hst hst.size)
            clear hb hst
            obtain ⟨W0, rfl⟩ : ∃ W0 : World, W0 = W1 := ⟨_, rfl⟩
            go_wp2
            go_ret
            exact ⟨rfl, hbel⟩
        · have h5i : ¬ (5 : Int) < p := by omega
          have Hnv := hid (HNV.out h5)
          have Hnx := hid (HNX.out h5)
          have Hle := hid (HLE.out h5)
          have Hlx := hid (HLX.out h5)
          have gn : (nx : Int) ≤ (nt : Int) := by omega
          rcases Nat.eq_zero_or_pos m0 with hz | hz
          · have hzi : ¬ (0 : Int) < m0 := by omega
            clear hz
            have HP0 := HP
            go_wp2_with (fail)
            refine (neededF_any A Ar n c mr cr pl rl _ _ _ (HP.out.below (by repeat' (first | with_reducible assumption | with_reducible exact Below.refl _ _ | refine Below.alloc ?_ ?_ _ | refine Below.setCell ?_ ?_ _ | refine Below.drew ?_ | refine below_drewN ?_ _ | (simp; done) | (simp; omega) | omega)) (by first | (simp; done) | (simp; omega) | omega)) (HR.out.below (by repeat' (first | with_reducible assumption | with_reducible exact Below.refl _ _ | refine Below.alloc ?_ ?_ _ | refine Below.setCell ?_ ?_ _ | refine Below.drew ?_ | refine below_drewN ?_ _ | (simp; done) | (simp; omega) | omega)) (by first | (simp; done) | (simp; omega) | omega)) (by omega) K2.out).mono ?_
            rw [Hnv.out, Hle.out]
            rintro e W1 ⟨rfl, hb⟩
            have hst : Below W0.heap.size W0 W1 := Below.trans (by repeat' (first | with_reducible assumption | with_reducible exact Below.refl _ _ | refine Below.alloc ?_ ?_ _ | refine Below.setCell ?_ ?_ _ | refine Below.drew ?_ | refine below_drewN ?_ _ | (simp; done) | (simp; omega) | omega)) (hb.mono (by first | (simp; done) | (simp; omega) | omega))
            replace hbel := hbel.trans (hst.mono hsz)
            replace hsz := hbel.size
            replace bB := bB.below hst bB.lt
            clear p0 p1 lB
            have p0 := bB.cell 0
            have p1 := bB.cell 1
            have lB := bB.lt
            try clear hWb
            replace HP := hid (HP.out.below hst hst.size)
            replace HX := hid (HX.out.below hst hst.size)
            replace HR := hid (HR.out.below hst hst.size)
            replace HS := hid (HS.out.below hst hst.size)
            clear hb hst
            obtain ⟨W0, rfl⟩ : ∃ W0 : World, W0 = W1 := ⟨_, rfl⟩
            go_wp2_with (fail)
            refine (neededF_any A9 As (n + 1) c9 ms cs px rx _ _ _ (HX.out.below (by repeat' (first | with_reducible assumption | with_reducible exact Below.refl _ _ | refine Below.alloc ?_ ?_ _ | refine Below.setCell ?_ ?_ _ | refine Below.drew ?_ | refine below_drewN ?_ _ | (simp; done) | (simp; omega) | omega)) (by first | (simp; done) | (simp; omega) | omega)) (HS.out.below (by repeat' (first | with_reducible assumption | with_reducible exact Below.refl _ _ | refine Below.alloc ?_ ?_ _ | refine Below.setCell ?_ ?_ _ | refine Below.drew ?_ | refine below_drewN ?_ _ | (simp; done) | (simp; omega) | omega)) (by first | (simp; done) | (simp; omega) | omega)) (by omega) Kx.out).mono ?_
            rw [Hnx.out, Hlx.out]
            rintro e W1 ⟨rfl, hb⟩
            have hst : Below W0.heap.size W0 W1 := Below.trans (by repeat' (first | with_reducible assumption | with_reducible exact Below.refl _ _ | refine Below.alloc ?_ ?_ _ | refine Below.setCell ?_ ?_ _ | refine Below.drew ?_ | refine below_drewN ?_ _ | (simp; done) | (simp; omega) | omega)) (hb.mono (by first | (simp; done) | (simp; omega) | omega))
            replace hbel := hbel.trans (hst.mono hsz)
            replace hsz := hbel.size
            replace bB := bB.below hst bB.lt
            clear p0 p1 lB
            have p0 := bB.cell 0
            have p1 := bB.cell 1
            have lB := bB.lt
            try clear hWb
            replace HP := hid (HP.out.below hst hst.size)
            replace HX := hid (HX.out.below hst hst.size)
            replace HR := hid (HR.out.below hst hst.size)
            replace HS := hid (HS.out.below hst hst.size)
            clear hb hst
            obtain ⟨W0, rfl⟩ : ∃ W0 : World, W0 = W1 := ⟨_, rfl⟩
            go_wp2_with (fail)
            refine (works_any _).mono ?_
            rintro e W1 ⟨rfl, hb⟩
            have hst : Below W0.heap.size W0 W1 := Below.trans (by repeat' (first | with_reducible assumption | with_reducible exact Below.refl _ _ | refine Below.alloc ?_ ?_ _ | refine Below.setCell ?_ ?_ _ | refine Below.drew ?_ | refine below_drewN ?_ _ | (simp; done) | (simp; omega) | omega)) (hb.mono (by first | (simp; done) | (simp; omega) | omega))
            replace hbel := hbel.trans (hst.mono hsz)
            replace hsz := hbel.size
            replace bB := bB.below hst bB.lt
            clear p0 p1 lB
            have p0 := bB.cell 0
            have p1 := bB.cell 1
            have lB := bB.lt
            try clear hWb
            replace HP := hid (HP.out.below hst hst.size)
            replace HX := hid (HX.out.below hst hst.size)
            replace HR := hid (HR.out.below hst hst.size)
            replace HS := hid (HS.out.below hst hst.size)
            clear hb hst
            obtain ⟨W0, rfl⟩ : ∃ W0 : World, W0 = W1 := ⟨_, rfl⟩
            go_wp2
            go_ret
            exact ⟨rfl, hbel⟩
          · have hzi : (0 : Int) < m0 := by omega
            have hsub : wrap64 ((m0 : Int) - 1) = ((m0 - 1 : Nat) : Int) := by simp only [wrap64]; omega
            clear hz
            have HP0 := HP
            go_wp2_with (fail)
            refine (checkTells_any A n c pl _ _ _ (HP.out.below (by repeat' (first | with_reducible assumption | with_reducible exact Below.refl _ _ | refine Below.alloc ?_ ?_ _ | refine Below.setCell ?_ ?_ _ | refine Below.drew ?_ | refine below_drewN ?_ _ | (simp; done) | (simp; omega) | omega)) (by first | (simp; done) | (simp; omega) | omega)) (by omega) K2.out).mono ?_
            rw [Hte'.out]
            rintro e W1 ⟨rfl, hb⟩
            have hst : Below W0.heap.size W0 W1 := Below.trans (by repeat' (first | with_reducible assumption | with_reducible exact Below.refl _ _ | refine Below.alloc ?_ ?_ _ | refine Below.setCell ?_ ?_ _ | refine Below.drew ?_ | refine below_drewN ?_ _ | (simp; done) | (simp; omega) | omega)) (hb.mono (by first | (simp; done) | (simp; omega) | omega))
            replace hbel := hbel.trans (hst.mono hsz)
            replace hsz := hbel.size
            replace bB := bB.below hst bB.lt
            clear p0 p1 lB
            have p0 := bB.cell 0
            have p1 := bB.cell 1
            have lB := bB.lt
            try clear hWb
            replace HP := hid (HP.out.below hst hst.size)
            replace HX := hid (HX.out.below hst hst.size)
            replace HR := hid (HR.out.below hst hst.size)
            replace HS := hid (HS.out.below hst hst.size)
            clear hb hst
            obtain ⟨W0, rfl⟩ : ∃ W0 : World, W0 = W1 := ⟨_, rfl⟩
            go_wp2_with (fail)
            refine (neededF_any A Ar n c mr cr pl rl _ _ _ (HP.out.below (by repeat' (first | with_reducible assumption | with_reducible exact Below.refl _ _ | refine Below.alloc ?_ ?_ _ | refine Below.setCell ?_ ?_ _ | refine Below.drew ?_ | refine below_drewN ?_ _ | (simp; done) | (simp; omega) | omega)) (by first | (simp; done) | (simp; omega) | omega)) (HR.out.below (by repeat' (first | with_reducible assumption | with_reducible exact Below.refl _ _ | refine Below.alloc ?_ ?_ _ | refine Below.setCell ?_ ?_ _ | refine Below.drew ?_ | refine below_drewN ?_ _ | (simp; done) | (simp; omega) | omega)) (by first | (simp; done) | (simp; omega) | omega)) (by omega) K2.out).mono ?_
            rw [Hnv.out, Hle.out]
            rintro e W1 ⟨rfl, hb⟩
            have hst : Below W0.heap.size W0 W1 := Below.trans (by repeat' (first | with_reducible assumption | with_reducible exact Below.refl _ _ | refine Below.alloc ?_ ?_ _ | refine Below.setCell ?_ ?_ _ | refine Below.drew ?_ | refine below_drewN ?_ _ | (simp; done) | (simp; omega) | omega)) (hb.mono (by first | (simp; done) | (simp; omega) | omega))
            replace hbel := hbel.trans (hst.mono hsz)
            replace hsz := hbel.size
            replace bB := bB.below hst bB.lt
            clear p0 p1 lB
            have p0 := bB.cell 0
            have p1 := bB.cell 1
            have lB := bB.lt
            try clear hWb
            replace HP := hid (HP.out.below hst hst.size)
            replace HX := hid (HX.out.below hst hst.size)
            replace HR := hid (HR.out.below hst hst.size)
            replace HS := hid (HS.out.below hst hst.size)
            clear hb hst
            obtain ⟨W0, rfl⟩ : ∃ W0 : World, W0 = W1 := ⟨_, rfl⟩
            go_wp2_with (fail)
            refine (neededF_any A9 As (n + 1) c9 ms cs px rx _ _ _ (HX.out.below (by repeat' (first | with_reducible assumption | with_reducible exact Below.refl _ _ | refine Below.alloc ?_ ?_ _ | refine Below.setCell ?_ ?_ _ | refine Below.drew ?_ | refine below_drewN ?_ _ | (simp; done) | (simp; omega) | omega)) (by first | (simp; done) | (simp; omega) | omega)) (HS.out.below (by repeat' (first | with_reducible assumption | with_reducible exact Below.refl _ _ | refine Below.alloc ?_ ?_ _ | refine Below.setCell ?_ ?_ _ | refine Below.drew ?_ | refine below_drewN ?_ _ | (simp; done) | (simp; omega) | omega)) (by first | (simp; done) | (simp; omega) | omega)) (by omega) Kx.out).mono ?_
            rw [Hnx.out, Hlx.out]
            rintro e W1 ⟨rfl, hb⟩
            have hst : Below W0.heap.size W0 W1 := Below.trans (by repeat' (first | with_reducible assumption | with_reducible exact Below.refl _ _ | refine Below.alloc ?_ ?_ _ | refine Below.setCell ?_ ?_ _ | refine Below.drew ?_ | refine below_drewN ?_ _ | (simp; done) | (simp; omega) | omega)) (hb.mono (by first | (simp; done) | (simp; omega) | omega))
            replace hbel := hbel.trans (hst.mono hsz)
            replace hsz := hbel.size
            replace bB := bB.below hst bB.lt
            clear p0 p1 lB
            have p0 := bB.cell 0
            have p1 := bB.cell 1
            have lB := bB.lt
            try clear hWb
            replace HP := hid (HP.out.below hst hst.size)
            replace HX := hid (HX.out.below hst hst.size)
            replace HR := hid (HR.out.below hst hst.size)
            replace HS := hid (HS.out.below hst hst.size)
            clear hb hst
            obtain ⟨W0, rfl⟩ : ∃ W0 : World, W0 = W1 := ⟨_, rfl⟩
            go_wp2_with (fail)
            refine (works_any _).mono ?_
            rintro e W1 ⟨rfl, hb⟩
            have hst : Below W0.heap.size W0 W1 := Below.trans (by repeat' (first | with_reducible assumption | with_reducible exact Below.refl _ _ | refine Below.alloc ?_ ?_ _ | refine Below.setCell ?_ ?_ _ | refine Below.drew ?_ | refine below_drewN ?_ _ | (simp; done) | (simp; omega) | omega)) (hb.mono (by first | (simp; done) | (simp; omega) | omega))
            replace hbel := hbel.trans (hst.mono hsz)
            replace hsz := hbel.size
            replace bB := bB.below hst bB.lt
            clear p0 p1 lB
            have p0 := bB.cell 0
            have p1 := bB.cell 1
            have lB := bB.lt
            try clear hWb
            replace HP := hid (HP.out.below hst hst.size)
            replace HX := hid (HX.out.below hst hst.size)
            replace HR := hid (HR.out.below hst hst.size)
            replace HS := hid (HS.out.below hst hst.size)
            clear hb hst
            obtain ⟨W0, rfl⟩ : ∃ W0 : World, W0 = W1 := ⟨_, rfl⟩
            go_wp2
            go_ret
            exact ⟨rfl, hbel⟩
      · clear hpp
        go_enter Try.func10, Try.ntmps10
        go_wp2_with (fail)
        refine (fineW_any A n c pl _ _ _ (HP.out.below (by repeat' (first | with_reducible assumption | with_reducible exact Below.refl _ _ | refine Below.alloc ?_ ?_ _ | refine Below.setCell ?_ ?_ _ | refine Below.drew ?_ | refine below_drewN ?_ _ | (simp; done) | (simp; omega) | omega)) (by first | (simp; done) | (simp; omega) | omega))).mono ?_
        rw [Hf.out]
        rintro e W1 ⟨rfl, hb⟩
        have hst : Below W0.heap.size W0 W1 := Below.trans (by repeat' (first | with_reducible assumption | with_reducible exact Below.refl _ _ | refine Below.alloc ?_ ?_ _ | refine Below.setCell ?_ ?_ _ | refine Below.drew ?_ | refine below_drewN ?_ _ | (simp; done) | (simp; omega) | omega)) (hb.mono (by first | (simp; done) | (simp; omega) | omega))
        replace hbel := hbel.trans (hst.mono hsz)
        replace hsz := hbel.size
        replace bB := bB.below hst bB.lt
        clear p0 p1 lB
        have p0 := bB.cell 0
        have p1 := bB.cell 1
        have lB := bB.lt
        try clear hWb
        replace HP := hid (HP.out.below hst hst.size)
        clear hb hst
        obtain ⟨W0, rfl⟩ : ∃ W0 : World, W0 = W1 := ⟨_, rfl⟩
        have z2 : IntKind.i64.wrap (mn : Int) = (mn : Int) := IntWalk.i64_in _ (by omega)
        go_wp2_with (fail)
        obtain ⟨vs, hvs, hcs⟩ := HP.out.cells
        refine Sx.wp_region_el (fun W => Below W0.heap.size W0 W) (hSb W0) [1, 3, 4, 5, 6] 6 (by kernel_rfl) (by kernel_rfl) ((Below.refl _ _).drew) ?_
        simp only [pick, List.getElem?_toArray, List.getElem?_cons_zero, List.getElem?_cons_succ]
        (refine Sx.wpE_val (v := ?_) (by rfl) (fun W hW => ?_) ?_; rotate_left; (· have f0 := (bB.below hW lB).cell 0; have f1 := (bB.below hW lB).cell 1; have f2 := (bB.below hW lB).lt; go_simp; with_reducible rfl); simp only [Act.put, List.setIfInBounds_toArray, List.set_cons_zero, List.set_cons_succ])
        (refine Sx.wpE_val (v := ?_) (by rfl) (fun W hW => ?_) ?_; rotate_left; (· have f0 := (bB.below hW lB).cell 0; have f1 := (bB.below hW lB).cell 1; have f2 := (bB.below hW lB).lt; go_simp; with_reducible rfl); simp only [Act.put, List.setIfInBounds_toArray, List.set_cons_zero, List.set_cons_succ])
        (refine Sx.wpE_val (v := ?_) (by rfl) (fun W hW => ?_) ?_; rotate_left; (· have f0 := (bB.below hW lB).cell 0; have f1 := (bB.below hW lB).cell 1; have f2 := (bB.below hW lB).lt; go_simp; with_reducible rfl); simp only [Act.put, List.setIfInBounds_toArray, List.set_cons_zero, List.set_cons_succ])
        (refine Sx.wpE_val (v := ?_) (by rfl) (fun W hW => ?_) ?_; rotate_left; (· have f0 := (bB.below hW lB).cell 0; have f1 := (bB.below hW lB).cell 1; have f2 := (bB.below hW lB).lt; go_simp; with_reducible rfl); simp only [Act.put, List.setIfInBounds_toArray, List.set_cons_zero, List.set_cons_succ])
        (refine Sx.wpE_val (v := ?_) (by rfl) (fun W hW => ?_) ?_; rotate_left; (· have f0 := (bB.below hW lB).cell 0; have f1 := (bB.below hW lB).cell 1; have f2 := (bB.below hW lB).lt; go_simp; with_reducible rfl); simp only [Act.put, List.setIfInBounds_toArray, List.set_cons_zero, List.set_cons_succ])
        simp only [Sx.wpE]
        (refine Sx.wpM_one 0 _ (by simp only [List.getElem?_toArray, List.getElem?_cons_zero, List.getElem?_cons_succ]; rfl) (by kernel_rfl) (by rfl) ?_)
        intro X0 hu0 hs0
        (go_simp; simp only [LUpon, Act.put]; try simp only [List.setIfInBounds_toArray, List.set_cons_zero, List.set_cons_succ])
        refine ⟨hs0.alloc hs0.size _, ?_⟩
        have Hown := hid (own_full (e := 25) (size := 1) (base := W0.heap.size) (n := 0) (xs := []) X0 (cur := #[]) hs0.size (by unfold maxLen; omega) rfl rfl)
        have hg0 := hs0.size
        generalize hX0s : X0.heap.size = g0 at *
        (refine Sx.wpM_one 2 _ (by simp only [List.getElem?_toArray, List.getElem?_cons_zero, List.getElem?_cons_succ]; rfl) (by kernel_rfl) (by rfl) ?_)
        intro X1 hu1 hs1
        have ho1 := owns_below Hown.out hu1
        refine lupon_append_src _ _ _ 24 rfl W0.heap.size 25 i0 _ 1 24 under24 I0.out I1.out I2.out I3.out rfl (by decide) _ 0 [] (by rfl) ho1 A n c vs (by rfl) X1.heap.size (hvs.below' hs1 hs1.size) HA.out hcs.one (by unfold maxLen; omega) (by omega) hs1.size ?_
        intro v2 w2 ho2 hg2 hat2
        rw [Nat.zero_add, List.nil_append] at ho2
        have hs2 : Below W0.heap.size W0 w2 := hs1.grown hg2 hs1.size (fun r hr => (World.ownsRow.lt ho1 r hr).1)
        refine ⟨hs2, ?_⟩
        have Ho2 := hid ho2
        clear ho1 ho2 hg2 hat2
        simp only [Act.put, List.setIfInBounds_toArray, List.set_cons_zero, List.set_cons_succ]
        (refine Sx.wpM_one 7 _ (by simp only [List.getElem?_toArray, List.getElem?_cons_zero, List.getElem?_cons_succ]; rfl) (by kernel_rfl) (by rfl) ?_)
        intro X3 hu3 hs3
        (go_simp; simp only [LUpon, Act.put]; try simp only [List.setIfInBounds_toArray, List.set_cons_zero, List.set_cons_succ])
        have Ho3 := hid (owns_below Ho2.out hu3)
        clear Ho2
        refine (listed_any mn p X3 (by omega) (by omega)).mono ?_
        rw [Hqq.out]
        rintro e X4 ⟨vq, rfl, hoq, hb4⟩
        obtain ⟨Aq, cq, rfl, hiq, hyq⟩ := ins_young hoq
        have hs4 : Below W0.heap.size W0 X4 := hs3.trans (hb4.mono hs3.size)
        refine ⟨_, rfl, hs4, ?_⟩
        have Ho4 := hid (owns_below Ho3.out hb4)
        have Hr2 : Hid (∀ r, v2.ownBlock = some r → r < X3.heap.size) := hid (fun r hr => (World.ownsRow.lt Ho3.out r hr).2)
        have Hiq := hid hiq
        have Hyq := hid hyq
        clear Ho3 hoq hb4 hiq hyq
        try simp only [Act.put, List.setIfInBounds_toArray, List.set_cons_zero, List.set_cons_succ]
        (refine Sx.wpM_one 8 _ (by simp only [List.getElem?_toArray, List.getElem?_cons_zero, List.getElem?_cons_succ]; rfl) (by kernel_rfl) (by rfl) ?_)
        intro X5 hu5 hs5
        (go_simp; simp only [LUpon, Act.put]; try simp only [List.setIfInBounds_toArray, List.set_cons_zero, List.set_cons_succ])
        refine ⟨hs5.alloc hs5.size _, ?_⟩
        have b8 : Blk (X5.alloc (.cells #[.slice Aq qq.length cq] 25)) X5.heap.size 25 #[.slice Aq qq.length cq] := Blk.new' rfl
        have hal : Below X5.heap.size X5 (X5.alloc (.cells #[.slice Aq qq.length cq] 25)) := (Below.refl _ _).alloc (Nat.le_refl _) _
        have Ho5 := hid (owns_below (owns_below Ho4.out hu5) hal)
        have Hi5 := hid ((Hiq.out.below hu5 hu5.size).below hal hal.size)
        clear Ho4 Hiq hal
        generalize X5.alloc (.cells #[.slice Aq qq.length cq] 25) = X6 at *
        generalize X5.heap.size = g8 at *
        (refine Sx.wpM_one 9 _ (by simp only [List.getElem?_toArray, List.getElem?_cons_zero, List.getElem?_cons_succ]; rfl) (by kernel_rfl) (by rfl) ?_)
        intro X7 hu7 hs7
        have ho7 := owns_below Ho5.out hu7
        have hi7 := Hi5.out.below hu7 hu7.size
        have b7 := b8.below hu7 b8.lt
        refine lupon_append_src _ _ _ 24 rfl W0.heap.size 25 i0 _ 1 24 under24 I0.out I1.out I2.out I3.out rfl (by decide) _ n vs (by rfl) ho7 (some ⟨g8, 0, none⟩) 1 1 [.slice Aq qq.length cq] (by rfl) X7.heap.size ⟨rfl, fun _ => ⟨g8, 0, rfl, b7.lt, fun j u hu => by rw [b7.cell, Nat.zero_add]; simpa using hu⟩⟩ (fun h => by cases h) (fun u hu => by rw [List.mem_singleton.1 hu]; rfl) (by unfold maxLen; omega) (by omega) hs7.size ?_
        intro v9 w9 ho9 hg9 hat9
        have hs9 : Below W0.heap.size W0 w9 := hs7.grown hg9 hs7.size (fun r hr => (World.ownsRow.lt ho7 r hr).1)
        refine ⟨hs9, ?_⟩
        have hi9 : InS w9 w9.heap.size Aq qq.length qq := ins_outlast hi7 Hyq.out Hr2.out hg9 hg9.size
        obtain ⟨A9, c9, rfl, hl9, -⟩ := ((hcs.below hs9 hs9.size).snoc (m := qq.length) (c := cq) hi9).lis ho9
        have HX := hid hl9
        rw [Hpx.out] at HX
        clear ho7 hi7 b7 ho9 hg9 hat9 hi9 hl9 Ho5 Hi5 Hyq Hr2 b8 Hown hu0 hu1 hu3 hu5 hu7
        simp only [Act.put, List.setIfInBounds_toArray, List.set_cons_zero, List.set_cons_succ]
        refine Sx.wpM_early (hSb W0) (by kernel_rfl) [10] 0 _ _ (by kernel_rfl) ?_
        simp only [pick, List.getElem?_toArray, List.getElem?_cons_zero, List.getElem?_cons_succ]
        (refine Sx.wpE_val (v := ?_) (by rfl) (fun W hW => ?_) ?_; rotate_left; (· have f0 := (bB.below hW lB).cell 0; have f1 := (bB.below hW lB).cell 1; have f2 := (bB.below hW lB).lt; go_simp; with_reducible rfl); simp only [Act.put, List.setIfInBounds_toArray, List.set_cons_zero, List.set_cons_succ])
        simp only [Sx.wpE]
        refine Sx.wpM_end (by kernel_rfl) ?_
        intro W1 hvz hb
        replace HX := hid (HX.out.below hvz hvz.size)
        clear hvs hcs hs0 hs1 hs2 hs3 hs4 hs5 hs7 hs9 hvz
        replace hbel := hbel.trans (hb.mono hsz)
        replace hsz := hbel.size
        replace bB := bB.below hb bB.lt
        clear p0 p1 lB
        have p0 := bB.cell 0
        have p1 := bB.cell 1
        have lB := bB.lt
        replace HP := hid (HP.out.below hb hb.size)
        clear hb
        try clear hWb
        obtain ⟨W0, rfl⟩ : ∃ W0 : World, W0 = W1 := ⟨_, rfl⟩
        go_wp2_with (fail)
        refine (at_any p m0 xn _ hp8 hm2 (by omega)).mono ?_
        rw [Hcc.out]
        rintro e W1 ⟨Ac, mc, cq, rfl, h1, -, hb⟩
        have hst : Below W0.heap.size W0 W1 := Below.trans (by repeat' (first | with_reducible assumption | with_reducible exact Below.refl _ _ | refine Below.alloc ?_ ?_ _ | refine Below.setCell ?_ ?_ _ | refine Below.drew ?_ | refine below_drewN ?_ _ | (simp; done) | (simp; omega) | omega)) (hb.mono (by first | (simp; done) | (simp; omega) | omega))
        replace hbel := hbel.trans (hst.mono hsz)
        replace hsz := hbel.size
        replace bB := bB.below hst bB.lt
        clear p0 p1 lB
        have p0 := bB.cell 0
        have p1 := bB.cell 1
        have lB := bB.lt
        try clear hWb
        replace HP := hid (HP.out.below hst hst.size)
        replace HX := hid (HX.out.below hst hst.size)
        have HC := hid h1
        clear h1
        clear hb hst
        obtain ⟨W0, rfl⟩ : ∃ W0 : World, W0 = W1 := ⟨_, rfl⟩
        go_wp2_with (fail)
        refine (checkTells_any A n c pl _ _ _ (HP.out.below (by repeat' (first | with_reducible assumption | with_reducible exact Below.refl _ _ | refine Below.alloc ?_ ?_ _ | refine Below.setCell ?_ ?_ _ | refine Below.drew ?_ | refine below_drewN ?_ _ | (simp; done) | (simp; omega) | omega)) (by first | (simp; done) | (simp; omega) | omega)) (by omega) K2.out).mono ?_
        rw [Hte'.out]
        rintro e W1 ⟨rfl, hb⟩
        have hst : Below W0.heap.size W0 W1 := Below.trans (by repeat' (first | with_reducible assumption | with_reducible exact Below.refl _ _ | refine Below.alloc ?_ ?_ _ | refine Below.setCell ?_ ?_ _ | refine Below.drew ?_ | refine below_drewN ?_ _ | (simp; done) | (simp; omega) | omega)) (hb.mono (by first | (simp; done) | (simp; omega) | omega))
        replace hbel := hbel.trans (hst.mono hsz)
        replace hsz := hbel.size
        replace bB := bB.below hst bB.lt
        clear p0 p1 lB
        have p0 := bB.cell 0
        have p1 := bB.cell 1
        have lB := bB.lt
        try clear hWb
        replace HP := hid (HP.out.below hst hst.size)
        replace HX := hid (HX.out.below hst hst.size)
        replace HC := hid (HC.out.below hst hst.size)
        clear hb hst
        obtain ⟨W0, rfl⟩ : ∃ W0 : World, W0 = W1 := ⟨_, rfl⟩
        go_wp2_with (fail)
        refine (checkPlain_any A n c pl _ _ _ (HP.out.below (by repeat' (first | with_reducible assumption | with_reducible exact Below.refl _ _ | refine Below.alloc ?_ ?_ _ | refine Below.setCell ?_ ?_ _ | refine Below.drew ?_ | refine below_drewN ?_ _ | (simp; done) | (simp; omega) | omega)) (by first | (simp; done) | (simp; omega) | omega)) (by omega) K2.out).mono ?_
        rw [Hpe'.out]
        rintro e W1 ⟨rfl, hb⟩
        have hst : Below W0.heap.size W0 W1 := Below.trans (by repeat' (first | with_reducible assumption | with_reducible exact Below.refl _ _ | refine Below.alloc ?_ ?_ _ | refine Below.setCell ?_ ?_ _ | refine Below.drew ?_ | refine below_drewN ?_ _ | (simp; done) | (simp; omega) | omega)) (hb.mono (by first | (simp; done) | (simp; omega) | omega))
        replace hbel := hbel.trans (hst.mono hsz)
        replace hsz := hbel.size
        replace bB := bB.below hst bB.lt
        clear p0 p1 lB
        have p0 := bB.cell 0
        have p1 := bB.cell 1
        have lB := bB.lt
        try clear hWb
        replace HP := hid (HP.out.below hst hst.size)
        replace HX := hid (HX.out.below hst hst.size)
        replace HC := hid (HC.out.below hst hst.size)
        clear hb hst
        obtain ⟨W0, rfl⟩ : ∃ W0 : World, W0 = W1 := ⟨_, rfl⟩
        go_wp2_with (fail)
        refine (resultsF_any A Ac n c mc cq pl cc _ _ _ (HP.out.below (by repeat' (first | with_reducible assumption | with_reducible exact Below.refl _ _ | refine Below.alloc ?_ ?_ _ | refine Below.setCell ?_ ?_ _ | refine Below.drew ?_ | refine below_drewN ?_ _ | (simp; done) | (simp; omega) | omega)) (by first | (simp; done) | (simp; omega) | omega)) (HC.out.below (by repeat' (first | with_reducible assumption | with_reducible exact Below.refl _ _ | refine Below.alloc ?_ ?_ _ | refine Below.setCell ?_ ?_ _ | refine Below.drew ?_ | refine below_drewN ?_ _ | (simp; done) | (simp; omega) | omega)) (by first | (simp; done) | (simp; omega) | omega)) (by omega) K2.out (by have := HC.out.len; omega)).mono ?_
        rw [Hrv.out, Hre.out]
        rintro e W1 ⟨Ar, mr, cr, rfl, h1, hb⟩
        have hst : Below W0.heap.size W0 W1 := Below.trans (by repeat' (first | with_reducible assumption | with_reducible exact Below.refl _ _ | refine Below.alloc ?_ ?_ _ | refine Below.setCell ?_ ?_ _ | refine Below.drew ?_ | refine below_drewN ?_ _ | (simp; done) | (simp; omega) | omega)) (hb.mono (by first | (simp; done) | (simp; omega) | omega))
        replace hbel := hbel.trans (hst.mono hsz)
        replace hsz := hbel.size
        replace bB := bB.below hst bB.lt
        clear p0 p1 lB
        have p0 := bB.cell 0
        have p1 := bB.cell 1
        have lB := bB.lt
        try clear hWb
        replace HP := hid (HP.out.below hst hst.size)
        replace HX := hid (HX.out.below hst hst.size)
        replace HC := hid (HC.out.below hst hst.size)
        have HR := hid h1
        clear h1
        clear hb hst
        obtain ⟨W0, rfl⟩ : ∃ W0 : World, W0 = W1 := ⟨_, rfl⟩
        go_wp2_with (fail)
        refine (resultsF_any A9 Ac (n + 1) c9 mc cq px cc _ _ _ (HX.out.below (by repeat' (first | with_reducible assumption | with_reducible exact Below.refl _ _ | refine Below.alloc ?_ ?_ _ | refine Below.setCell ?_ ?_ _ | refine Below.drew ?_ | refine below_drewN ?_ _ | (simp; done) | (simp; omega) | omega)) (by first | (simp; done) | (simp; omega) | omega)) (HC.out.below (by repeat' (first | with_reducible assumption | with_reducible exact Below.refl _ _ | refine Below.alloc ?_ ?_ _ | refine Below.setCell ?_ ?_ _ | refine Below.drew ?_ | refine below_drewN ?_ _ | (simp; done) | (simp; omega) | omega)) (by first | (simp; done) | (simp; omega) | omega)) (by omega) Kx.out (by have := HC.out.len; omega)).mono ?_
        rw [Hrvx.out, Hrex.out]
        rintro e W1 ⟨As, ms, cs, rfl, h1, hb⟩
        have hst : Below W0.heap.size W0 W1 := Below.trans (by repeat' (first | with_reducible assumption | with_reducible exact Below.refl _ _ | refine Below.alloc ?_ ?_ _ | refine Below.setCell ?_ ?_ _ | refine Below.drew ?_ | refine below_drewN ?_ _ | (simp; done) | (simp; omega) | omega)) (hb.mono (by first | (simp; done) | (simp; omega) | omega))
        replace hbel := hbel.trans (hst.mono hsz)
        replace hsz := hbel.size
        replace bB := bB.below hst bB.lt
        clear p0 p1 lB
        have p0 := bB.cell 0
        have p1 := bB.cell 1
        have lB := bB.lt
        try clear hWb
        replace HP := hid (HP.out.below hst hst.size)
        replace HX := hid (HX.out.below hst hst.size)
        replace HC := hid (HC.out.below hst hst.size)
        replace HR := hid (HR.out.below hst hst.size)
        have HS := hid h1
        clear h1
        clear hb hst
        obtain ⟨W0, rfl⟩ : ∃ W0 : World, W0 = W1 := ⟨_, rfl⟩
        go_wp2_with (fail)
        refine (toldF_any A Ar n c mr cr pl rl _ _ _ (HP.out.below (by repeat' (first | with_reducible assumption | with_reducible exact Below.refl _ _ | refine Below.alloc ?_ ?_ _ | refine Below.setCell ?_ ?_ _ | refine Below.drew ?_ | refine below_drewN ?_ _ | (simp; done) | (simp; omega) | omega)) (by first | (simp; done) | (simp; omega) | omega)) (HR.out.below (by repeat' (first | with_reducible assumption | with_reducible exact Below.refl _ _ | refine Below.alloc ?_ ?_ _ | refine Below.setCell ?_ ?_ _ | refine Below.drew ?_ | refine below_drewN ?_ _ | (simp; done) | (simp; omega) | omega)) (by first | (simp; done) | (simp; omega) | omega)) (by omega) K2.out).mono ?_
        rw [Htv.out, Hte.out]
        rintro e W1 ⟨At, mt, ct, rfl, h1, hb⟩
        have hmt := h1.1.1
        clear h1
        have hst : Below W0.heap.size W0 W1 := Below.trans (by repeat' (first | with_reducible assumption | with_reducible exact Below.refl _ _ | refine Below.alloc ?_ ?_ _ | refine Below.setCell ?_ ?_ _ | refine Below.drew ?_ | refine below_drewN ?_ _ | (simp; done) | (simp; omega) | omega)) (hb.mono (by first | (simp; done) | (simp; omega) | omega))
        replace hbel := hbel.trans (hst.mono hsz)
        replace hsz := hbel.size
        replace bB := bB.below hst bB.lt
        clear p0 p1 lB
        have p0 := bB.cell 0
        have p1 := bB.cell 1
        have lB := bB.lt
        try clear hWb
        replace HP := hid (HP.out.below hst hst.size)
        replace HX := hid (HX.out.below hst hst.size)
        replace HC := hid (HC.out.below hst hst.size)
        replace HR := hid (HR.out.below hst hst.size)
        replace HS := hid (HS.out.below hst hst.size)
        clear hb hst
        obtain ⟨W0, rfl⟩ : ∃ W0 : World, W0 = W1 := ⟨_, rfl⟩
        go_wp2_with (fail)
        refine (toldF_any A9 As (n + 1) c9 ms cs px rx _ _ _ (HX.out.below (by repeat' (first | with_reducible assumption | with_reducible exact Below.refl _ _ | refine Below.alloc ?_ ?_ _ | refine Below.setCell ?_ ?_ _ | refine Below.drew ?_ | refine below_drewN ?_ _ | (simp; done) | (simp; omega) | omega)) (by first | (simp; done) | (simp; omega) | omega)) (HS.out.below (by repeat' (first | with_reducible assumption | with_reducible exact Below.refl _ _ | refine Below.alloc ?_ ?_ _ | refine Below.setCell ?_ ?_ _ | refine Below.drew ?_ | refine below_drewN ?_ _ | (simp; done) | (simp; omega) | omega)) (by first | (simp; done) | (simp; omega) | omega)) (by omega) Kx.out).mono ?_
        rw [Htvx.out, Htex.out]
        rintro e W1 ⟨Au, mu, cu, rfl, h1, hb⟩
        have hmu := h1.1.1
        clear h1
        have hst : Below W0.heap.size W0 W1 := Below.trans (by repeat' (first | with_reducible assumption | with_reducible exact Below.refl _ _ | refine Below.alloc ?_ ?_ _ | refine Below.setCell ?_ ?_ _ | refine Below.drew ?_ | refine below_drewN ?_ _ | (simp; done) | (simp; omega) | omega)) (hb.mono (by first | (simp; done) | (simp; omega) | omega))
        replace hbel := hbel.trans (hst.mono hsz)
        replace hsz := hbel.size
        replace bB := bB.below hst bB.lt
        clear p0 p1 lB
        have p0 := bB.cell 0
        have p1 := bB.cell 1
        have lB := bB.lt
        try clear hWb
        replace HP := hid (HP.out.below hst hst.size)
        replace HX := hid (HX.out.below hst hst.size)
        replace HC := hid (HC.out.below hst hst.size)
        replace HR := hid (HR.out.below hst hst.size)
        replace HS := hid (HS.out.below hst hst.size)
        clear hb hst
        obtain ⟨W0, rfl⟩ : ∃ W0 : World, W0 = W1 := ⟨_, rfl⟩
        have gl : ¬ (mt : Int) < (mu : Int) := by omega
        clear hmt hmu
        clear HC
        by_cases h5 : 5 < p
        · have h5i : (5 : Int) < p := by omega
          rcases Nat.eq_zero_or_pos m0 with hz | hz
          · have hzi : ¬ (0 : Int) < m0 := by omega
            clear hz
            have HP0 := HP
            go_wp2_with (fail)
            refine (works_any _).mono ?_
            rintro e W1 ⟨rfl, hb⟩
            have hst : Below W0.heap.size W0 W1 := Below.trans (by repeat' (first | with_reducible assumption | with_reducible exact Below.refl _ _ | refine Below.alloc ?_ ?_ _ | refine Below.setCell ?_ ?_ _ | refine Below.drew ?_ | refine below_drewN ?_ _ | (simp; done) | (simp; omega) | omega)) (hb.mono (by first | (simp; done) | (simp; omega) | omega))
            replace hbel := hbel.trans (hst.mono hsz)
            replace hsz := hbel.size
            replace bB := bB.below hst bB.lt
            clear p0 p1 lB
            have p0 := bB.cell 0
            have p1 := bB.cell 1
            have lB := bB.lt
            try clear hWb
            replace HP := hid (HP.out.below hst hst.size)
            replace HX := hid (HX.out.below hst hst.size)
            replace HR := hid (HR.out.below hst hst.size)
            replace HS := hid (HS.out.below hst hst.size)
            clear hb hst
            obtain ⟨W0, rfl⟩ : ∃ W0 : World, W0 = W1 := ⟨_, rfl⟩
            go_wp2
            go_ret
            exact ⟨rfl, hbel⟩
          · have hzi : (0 : Int) < m0 := by omega
            have hsub : wrap64 ((m0 : Int) - 1) = ((m0 - 1 : Nat) : Int) := by simp only [wrap64]; omega
            clear hz
            have HP0 := HP
            go_wp2_with (fail)
            refine (checkTells_any A n c pl _ _ _ (HP.out.below (by repeat' (first | with_reducible assumption | with_reducible exact Below.refl _ _ | refine Below.alloc ?_ ?_ _ | refine Below.setCell ?_ ?_ _ | refine Below.drew ?_ | refine below_drewN ?_ _ | (simp; done) | (simp; omega) | omega)) (by first | (simp; done) | (simp; omega) | omega)) (by omega) K2.out).mono ?_
            rw [Hte'.out]
            rintro e W1 ⟨rfl, hb⟩
            have hst : Below W0.heap.size W0 W1 := Below.trans (by repeat' (first | with_reducible assumption | with_reducible exact Below.refl _ _ | refine Below.alloc ?_ ?_ _ | refine Below.setCell ?_ ?_ _ | refine Below.drew ?_ | refine below_drewN ?_ _ | (simp; done) | (simp; omega) | omega)) (hb.mono (by first | (simp; done) | (simp; omega) | omega))
            replace hbel := hbel.trans (hst.mono hsz)
            replace hsz := hbel.size
            replace bB := bB.below hst bB.lt
            clear p0 p1 lB
            have p0 := bB.cell 0
            have p1 := bB.cell 1
            have lB := bB.lt
            try clear hWb
            replace HP := hid (HP.out.below hst hst.size)
            replace HX := hid (HX.out.below hst hst.size)
            replace HR := hid (HR.out.below hst hst.size)
            replace HS := hid (HS.out.below hst hst.size)
            clear hb hst
            obtain ⟨W0, rfl⟩ : ∃ W0 : World, W0 = W1 := ⟨_, rfl⟩
            go_wp2_with (fail)
            refine (works_any _).mono ?_
            rintro e W1 ⟨rfl, hb⟩
            have hst : Below W0.heap.size W0 W1 := Below.trans (by repeat' (first | with_reducible assumption | with_reducible exact Below.refl _ _ | refine Below.alloc ?_ ?_ _ | refine Below.setCell ?_ ?_ _ | refine Below.drew ?_ | refine below_drewN ?_ _ | (simp; done) | (simp; omega) | omega)) (hb.mono (by first | (simp; done) | (simp; omega) | omega))
            replace hbel := hbel.trans (hst.mono hsz)
            replace hsz := hbel.size
            replace bB := bB.below hst bB.lt
            clear p0 p1 lB
            have p0 := bB.cell 0
            have p1 := bB.cell 1
            have lB := bB.lt
            try clear hWb
            replace HP := hid (HP.out.below hst hst.size)
            replace HX := hid (HX.out.below hst hst.size)
            replace HR := hid (HR.out.below hst hst.size)
            replace HS := hid (HS.out.below hst hst.size)
            clear hb hst
            obtain ⟨W0, rfl⟩ : ∃ W0 : World, W0 = W1 := ⟨_, rfl⟩
            go_wp2
            go_ret
            exact ⟨rfl, hbel⟩
        · have h5i : ¬ (5 : Int) < p := by omega
          have Hnv := hid (HNV.out h5)
          have Hnx := hid (HNX.out h5)
          have Hle := hid (HLE.out h5)
          have Hlx := hid (HLX.out h5)
          have gn : (nx : Int) ≤ (nt : Int) := by omega
          rcases Nat.eq_zero_or_pos m0 with hz | hz
          · have hzi : ¬ (0 : Int) < m0 := by omega
            clear hz
            have HP0 := HP
            go_wp2_with (fail)
            refine (neededF_any A Ar n c mr cr pl rl _ _ _ (HP.out.below (by repeat' (first | with_reducible assumption | with_reducible exact Below.refl _ _ | refine Below.alloc ?_ ?_ _ | refine Below.setCell ?_ ?_ _ | refine Below.drew ?_ | refine below_drewN ?_ _ | (simp; done) | (simp; omega) | omega)) (by first | (simp; done) | (simp; omega) | omega)) (HR.out.below (by repeat' (first | with_reducible assumption | with_reducible exact Below.refl _ _ | refine Below.alloc ?_ ?_ _ | refine Below.setCell ?_ ?_ _ | refine Below.drew ?_ | refine below_drewN ?_ _ | (simp; done) | (simp; omega) | omega)) (by first | (simp; done) | (simp; omega) | omega)) (by omega) K2.out).mono ?_
            rw [Hnv.out, Hle.out]
            rintro e W1 ⟨rfl, hb⟩
            have hst : Below W0.heap.size W0 W1 := Below.trans (by repeat' (first | with_reducible assumption | with_reducible exact Below.refl _ _ | refine Below.alloc ?_ ?_ _ | refine Below.setCell ?_ ?_ _ | refine Below.drew ?_ | refine below_drewN ?_ _ | (simp; done) | (simp; omega) | omega)) (hb.mono (by first | (simp; done) | (simp; omega) | omega))
            replace hbel := hbel.trans (hst.mono hsz)
            replace hsz := hbel.size
            replace bB := bB.below hst bB.lt
            clear p0 p1 lB
            have p0 := bB.cell 0
            have p1 := bB.cell 1
            have lB := bB.lt
            try clear hWb
            replace HP := hid (HP.out.below hst hst.size)
            replace HX := hid (HX.out.below hst hst.size)
            replace HR := hid (HR.out.below hst hst.size)
            replace HS := hid (HS.out.below hst hst.size)
            clear hb hst
            obtain ⟨W0, rfl⟩ : ∃ W0 : World, W0 = W1 := ⟨_, rfl⟩
            go_wp2_with (fail)
            refine (neededF_any A9 As (n + 1) c9 ms cs px rx _ _ _ (HX.out.below (by repeat' (first | with_reducible assumption | with_reducible exact Below.refl _ _ | refine Below.alloc ?_ ?_ _ | refine Below.setCell ?_ ?_ _ | refine Below.drew ?_ | refine below_drewN ?_ _ | (simp; done) | (simp; omega) | omega)) (by first | (simp; done) | (simp; omega) | omega)) (HS.out.below (by repeat' (first | with_reducible assumption | with_reducible exact Below.refl _ _ | refine Below.alloc ?_ ?_ _ | refine Below.setCell ?_ ?_ _ | refine Below.drew ?_ | refine below_drewN ?_ _ | (simp; done) | (simp; omega) | omega)) (by first | (simp; done) | (simp; omega) | omega)) (by omega) Kx.out).mono ?_
            rw [Hnx.out, Hlx.out]
            rintro e W1 ⟨rfl, hb⟩
            have hst : Below W0.heap.size W0 W1 := Below.trans (by repeat' (first | with_reducible assumption | with_reducible exact Below.refl _ _ | refine Below.alloc ?_ ?_ _ | refine Below.setCell ?_ ?_ _ | refine Below.drew ?_ | refine below_drewN ?_ _ | (simp; done) | (simp; omega) | omega)) (hb.mono (by first | (simp; done) | (simp; omega) | omega))
            replace hbel := hbel.trans (hst.mono hsz)
            replace hsz := hbel.size
            replace bB := bB.below hst bB.lt
            clear p0 p1 lB
            have p0 := bB.cell 0
            have p1 := bB.cell 1
            have lB := bB.lt
            try clear hWb
            replace HP := hid (HP.out.below hst hst.size)
            replace HX := hid (HX.out.below hst hst.size)
            replace HR := hid (HR.out.below hst hst.size)
            replace HS := hid (HS.out.below hst hst.size)
            clear hb hst
            obtain ⟨W0, rfl⟩ : ∃ W0 : World, W0 = W1 := ⟨_, rfl⟩
            go_wp2_with (fail)
            refine (works_any _).mono ?_
            rintro e W1 ⟨rfl, hb⟩
            have hst : Below W0.heap.size W0 W1 := Below.trans (by repeat' (first | with_reducible assumption | with_reducible exact Below.refl _ _ | refine Below.alloc ?_ ?_ _ | refine Below.setCell ?_ ?_ _ | refine Below.drew ?_ | refine below_drewN ?_ _ | (simp; done) | (simp; omega) | omega)) (hb.mono (by first | (simp; done) | (simp; omega) | omega))
            replace hbel := hbel.trans (hst.mono hsz)
            replace hsz := hbel.size
            replace bB := bB.below hst bB.lt
            clear p0 p1 lB
            have p0 := bB.cell 0
            have p1 := bB.cell 1
            have lB := bB.lt
            try clear hWb
            replace HP := hid (HP.out.below hst hst.size)
            replace HX := hid (HX.out.below hst hst.size)
            replace HR := hid (HR.out.below hst hst.size)
            replace HS := hid (HS.out.below hst hst.size)
            clear hb hst
            obtain ⟨W0, rfl⟩ : ∃ W0 : World, W0 = W1 := ⟨_, rfl⟩
            go_wp2
            go_ret
            exact ⟨rfl, hbel⟩
          · have hzi : (0 : Int) < m0 := by omega
            have hsub : wrap64 ((m0 : Int) - 1) = ((m0 - 1 : Nat) : Int) := by simp only [wrap64]; omega
            clear hz
            have HP0 := HP
            go_wp2_with (fail)
            refine (checkTells_any A n c pl _ _ _ (HP.out.below (by repeat' (first | with_reducible assumption | with_reducible exact Below.refl _ _ | refine Below.alloc ?_ ?_ _ | refine Below.setCell ?_ ?_ _ | refine Below.drew ?_ | refine below_drewN ?_ _ | (simp; done) | (simp; omega) | omega)) (by first | (simp; done) | (simp; omega) | omega)) (by omega) K2.out).mono ?_
            rw [Hte'.out]
            rintro e W1 ⟨rfl, hb⟩
            have hst : Below W0.heap.size W0 W1 := Below.trans (by repeat' (first | with_reducible assumption | with_reducible exact Below.refl _ _ | refine Below.alloc ?_ ?_ _ | refine Below.setCell ?_ ?_ _ | refine Below.drew ?_ | refine below_drewN ?_ _ | (simp; done) | (simp; omega) | omega)) (hb.mono (by first | (simp; done) | (simp; omega) | omega))
            replace hbel := hbel.trans (hst.mono hsz)
            replace hsz := hbel.size
            replace bB := bB.below hst bB.lt
            clear p0 p1 lB
            have p0 := bB.cell 0
            have p1 := bB.cell 1
            have lB := bB.lt
            try clear hWb
            replace HP := hid (HP.out.below hst hst.size)
            replace HX := hid (HX.out.below hst hst.size)
            replace HR := hid (HR.out.below hst hst.size)
            replace HS := hid (HS.out.below hst hst.size)
            clear hb hst
            obtain ⟨W0, rfl⟩ : ∃ W0 : World, W0 = W1 := ⟨_, rfl⟩
            go_wp2_with (fail)
            refine (neededF_any A Ar n c mr cr pl rl _ _ _ (HP.out.below (by repeat' (first | with_reducible assumption | with_reducible exact Below.refl _ _ | refine Below.alloc ?_ ?_ _ | refine Below.setCell ?_ ?_ _ | refine Below.drew ?_ | refine below_drewN ?_ _ | (simp; done) | (simp; omega) | omega)) (by first | (simp; done) | (simp; omega) | omega)) (HR.out.below (by repeat' (first | with_reducible assumption | with_reducible exact Below.refl _ _ | refine Below.alloc ?_ ?_ _ | refine Below.setCell ?_ ?_ _ | refine Below.drew ?_ | refine below_drewN ?_ _ | (simp; done) | (simp; omega) | omega)) (by first | (simp; done) | (simp; omega) | omega)) (by omega) K2.out).mono ?_
            rw [Hnv.out, Hle.out]
            rintro e W1 ⟨rfl, hb⟩
            have hst : Below W0.heap.size W0 W1 := Below.trans (by repeat' (first | with_reducible assumption | with_reducible exact Below.refl _ _ | refine Below.alloc ?_ ?_ _ | refine Below.setCell ?_ ?_ _ | refine Below.drew ?_ | refine below_drewN ?_ _ | (simp; done) | (simp; omega) | omega)) (hb.mono (by first | (simp; done) | (simp; omega) | omega))
            replace hbel := hbel.trans (hst.mono hsz)
            replace hsz := hbel.size
            replace bB := bB.below hst bB.lt
            clear p0 p1 lB
            have p0 := bB.cell 0
            have p1 := bB.cell 1
            have lB := bB.lt
            try clear hWb
            replace HP := hid (HP.out.below hst hst.size)
            replace HX := hid (HX.out.below hst hst.size)
            replace HR := hid (HR.out.below hst hst.size)
            replace HS := hid (HS.out.below hst hst.size)
            clear hb hst
            obtain ⟨W0, rfl⟩ : ∃ W0 : World, W0 = W1 := ⟨_, rfl⟩
            go_wp2_with (fail)
            refine (neededF_any A9 As (n + 1) c9 ms cs px rx _ _ _ (HX.out.below (by repeat' (first | with_reducible assumption | with_reducible exact Below.refl _ _ | refine Below.alloc ?_ ?_ _ | refine Below.setCell ?_ ?_ _ | refine Below.drew ?_ | refine below_drewN ?_ _ | (simp; done) | (simp; omega) | omega)) (by first | (simp; done) | (simp; omega) | omega)) (HS.out.below (by repeat' (first | with_reducible assumption | with_reducible exact Below.refl _ _ | refine Below.alloc ?_ ?_ _ | refine Below.setCell ?_ ?_ _ | refine Below.drew ?_ | refine below_drewN ?_ _ | (simp; done) | (simp; omega) | omega)) (by first | (simp; done) | (simp; omega) | omega)) (by omega) Kx.out).mono ?_
            rw [Hnx.out, Hlx.out]
            rintro e W1 ⟨rfl, hb⟩
            have hst : Below W0.heap.size W0 W1 := Below.trans (by repeat' (first | with_reducible assumption | with_reducible exact Below.refl _ _ | refine Below.alloc ?_ ?_ _ | refine Below.setCell ?_ ?_ _ | refine Below.drew ?_ | refine below_drewN ?_ _ | (simp; done) | (simp; omega) | omega)) (hb.mono (by first | (simp; done) | (simp; omega) | omega))
            replace hbel := hbel.trans (hst.mono hsz)
            replace hsz := hbel.size
            replace bB := bB.below hst bB.lt
            clear p0 p1 lB
            have p0 := bB.cell 0
            have p1 := bB.cell 1
            have lB := bB.lt
            try clear hWb
            replace HP := hid (HP.out.below hst hst.size)
            replace HX := hid (HX.out.below hst hst.size)
            replace HR := hid (HR.out.below hst hst.size)
            replace HS := hid (HS.out.below hst hst.size)
            clear hb hst
            obtain ⟨W0, rfl⟩ : ∃ W0 : World, W0 = W1 := ⟨_, rfl⟩
            go_wp2_with (fail)
            refine (works_any _).mono ?_
            rintro e W1 ⟨rfl, hb⟩
            have hst : Below W0.heap.size W0 W1 := Below.trans (by repeat' (first | with_reducible assumption | with_reducible exact Below.refl _ _ | refine Below.alloc ?_ ?_ _ | refine Below.setCell ?_ ?_ _ | refine Below.drew ?_ | refine below_drewN ?_ _ | (simp; done) | (simp; omega) | omega)) (hb.mono (by first | (simp; done) | (simp; omega) | omega))
            replace hbel := hbel.trans (hst.mono hsz)
            replace hsz := hbel.size
            replace bB := bB.below hst bB.lt
            clear p0 p1 lB
            have p0 := bB.cell 0
            have p1 := bB.cell 1
            have lB := bB.lt
            try clear hWb
            replace HP := hid (HP.out.below hst hst.size)
            replace HX := hid (HX.out.below hst hst.size)
            replace HR := hid (HR.out.below hst hst.size)
            replace HS := hid (HS.out.below hst hst.size)
            clear hb hst
            obtain ⟨W0, rfl⟩ : ∃ W0 : World, W0 = W1 := ⟨_, rfl⟩
            go_wp2
            go_ret
            exact ⟨rfl, hbel⟩

section
open Go.ChangeShapes Go.WideShapes Go.ChangeAt Go.RowKit
set_option maxRecDepth 100000 in
theorem rodMore_lifted (os : Os) (started : os.Started) (H : Type) (enc : TypeId × Value → H) :
    ReturnsInHanded {} Try.checked os 10 .any (Rows.rodMoreSpec.pre6 enc Try.prog Try.f10 Rows.rodMoreRow.domain false) (Rows.rodMoreSpec.post enc Try.prog Try.f10 false true false false) := by
  refine returnsInHanded_of_change (C := Try.checked) ownKx started (by kernel_rfl) Try.func10
    (ChangeSpec.witness6 (enc := enc) (C := Try.checked) false ⟨#[], #[.agg #[.int .i64 0, .int .i64 0], .slice none 0 0, .int .u8 0, .int .u8 0], []⟩ 8 (by kernel_rfl) (by kernel_rfl) (by kernel_rfl) (by kernel_rfl)) ?_
  intro W base args ds gs before hval0 hW hcnd _
  have hval : ∀ (j : Nat) t v, Try.f10.params[j]? = some t → args[j]? = some v → Value.okWide Try.prog W .any base t v := hval0
  have hW' := hW
  obtain ⟨p, q, hA0, hV, rfl, hfz, hnd⟩ := hW
  have hA : DataW.TrodAll enc Try.prog W 0 (fun _ => true) true Try.f10.params.toList args.toList ds p := hA0
  have hlt : ∀ x ∈ p, x.block < W.heap.size := fun x hx => hW'.lt x (List.mem_append_left _ hx)
  have hAll : ∀ W', Below W.heap.size W W' → DataW.TrodAll enc Try.prog W' 0 (fun b => decide (b < W.heap.size)) true Try.f10.params.toList args.toList ds p := fun W' hb => all_below laidOut hb (readable_of (by kernel_rfl)) hlt hA
  rw [Try.params10] at hA hval
  obtain ⟨v0, v1, v2, v3, d0, d1, d2, d3, p0, p1, p2, p3, rfl, rfl, rfl, h0, h1, h2, h3⟩ := trodAll_four hA
  obtain ⟨rfl, rfl⟩ := trodVars_none hV
  clear hA0 hval0
  obtain ⟨x0, rfl⟩ := open_book (hval 0 23 v0 rfl rfl) h0
  obtain ⟨A1, n1, c1, rfl⟩ := okWide_slice Try.underlying24 (hval 1 24 v1 rfl rfl)
  obtain ⟨hc1, l1, hl1, hr1⟩ := open_lis h1
  obtain ⟨x2, rfl, rfl, rfl, wx2⟩ := open_int Try.underlying5 (hval 2 5 v2 rfl rfl) h2
  obtain ⟨x3, rfl, rfl, rfl, wx3⟩ := open_int Try.underlying5 (hval 3 5 v3 rfl rfl) h3
  refine (rodMore_walk W x0.P x0.M A1 n1 c1 l1 x2 x3 (u8_bd wx2) (u8_bd wx3) (open_nil under24 h1) hr1).mono fun e W' ⟨he, hb⟩ => ?_
  subst he
  exact ⟨_, rfl, ⟨_, _, _, [], _, [], hW', trodAll_cons_mk (shut_bool Try.underlying4 _) trodAll_mk0, hAll W' hb, rfl, hb.frame _, fun h => by cases h⟩⟩
/-- The law: whatever the input, it returns true, and the input reads as it did. -/
theorem rodMore_holds : Rows.RodMoreSaid :=
  OpenClaim.holds_of_wide 10 Try.f10 rfl rfl rfl rfl rfl rfl rfl ⟨rfl, rfl, rfl, rfl, rfl⟩ rfl rfl rfl rfl rfl (by kernel_rfl) Try.func10 (by kernel_rfl)
    (of_decide_eq_true (by kernel_rfl)) (by unfold Func.isWrapper; first | (rw [if_pos (by decide +kernel)]; kernel_rfl) | (rw [if_neg (by decide +kernel)]; exact ⟨rfl, rfl⟩))
    (fun os started H enc _ => rodMore_lifted os started H enc)
end
end Go.Proofs.Ytpgdfipikfbjeaa

