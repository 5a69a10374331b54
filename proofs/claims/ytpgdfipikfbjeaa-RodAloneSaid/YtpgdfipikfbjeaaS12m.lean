/- The statement RodAlone holds: whatever the arguments, the law returns true and leaves its arguments as they were. -/
import Derived.Test.YtpgdfipikfbjeaaMr
set_option linter.unusedSimpArgs false
set_option linter.unusedVariables false
namespace Go.Proofs.Ytpgdfipikfbjeaa
open Go.RowKit Go.Shelf
attribute [local go_sem] Oper.semAt_some
theorem single_take {P k : Nat} (h : k < P) : (single P).take (k + 1) = (single P).take k ++ [[(k : Int)]] := by
  rw [List.take_add_one]
  congr 1
  unfold single
  rw [List.getElem?_map, List.getElem?_range h]; rfl
set_option maxRecDepth 100000 in
set_option maxHeartbeats 40000000 in
theorem rodAlone_walk (w : World) (x y : Int) (hx : 0 ≤ x ∧ x ≤ 255) (hy : 0 ≤ y ∧ y ≤ 255) (A : Option Addr) (n c : Nat) (l : List Int) (hl : U8S w w.heap.size A n l) (hb : ∀ z ∈ l, 0 ≤ z ∧ z ≤ 255) :
    Calls Try.prog 12 #[.int .u8 x, .int .u8 y, .slice A n c] w fun e w' => e = .returned (.bool true) ∧ Below w.heap.size w w' := by
  obtain ⟨xn, rfl⟩ : ∃ k : Nat, x = k := ⟨x.toNat, by omega⟩
  obtain ⟨yn, rfl⟩ : ∃ k : Nat, y = k := ⟨y.toNat, by omega⟩
  have Hb := hid hb
  clear hb
  by_cases h20 : 20 < n
  · have h20i : (20 : Int) < n := by omega
    clear hl
    go_enter Try.func12, Try.ntmps12
    go_wp2_with (fail)
    refine (works_any _).mono ?_
    rintro e W1 ⟨rfl, hb⟩
    go_wp2
    go_ret
    exact ⟨rfl, hb⟩
  have h20i : ¬ (20 : Int) < n := by omega
  obtain ⟨xm, hxm⟩ : ∃ m, xn % 8 = m := ⟨_, rfl⟩
  obtain ⟨m0, hm0⟩ : ∃ m, yn % 3 = m := ⟨_, rfl⟩
  have hx8 : xm < 8 := by omega
  have hm2 : m0 ≤ 2 := by omega
  have z0 : IntKind.i64.wrap (xn : Int) = (xn : Int) := IntWalk.i64_in _ (by omega)
  have z1 : Int.tmod (xn : Int) 8 = (xm : Int) := by rw [← hxm]; exact (Int.ofNat_tmod xn 8).symm
  have z2 : IntKind.i64.wrap (yn : Int) = (yn : Int) := IntWalk.i64_in _ (by omega)
  have z3 : Int.tmod (yn : Int) 3 = (m0 : Int) := by rw [← hm0]; exact (Int.ofNat_tmod yn 3).symm
  obtain ⟨p, hp⟩ : ∃ p, xm + 1 = p := ⟨_, rfl⟩
  have z4 : (1 : Int) + (xm : Int) = (p : Int) := by omega
  have z5 : IntKind.i64.wrap (p : Int) = (p : Int) := IntWalk.i64_in _ (by omega)
  have z6 : IntKind.i64.wrap (xm : Int) = (xm : Int) := IntWalk.i64_in _ (by omega)
  have z7 : IntKind.i64.wrap (m0 : Int) = (m0 : Int) := IntWalk.i64_in _ (by omega)
  have hp1 : 1 ≤ p := by omega
  have hp8 : p ≤ 8 := by omega
  have HB := hid hl
  clear hxm hm0 hp hl
  obtain ⟨SL, hSL⟩ : ∃ s, single p = s := ⟨_, rfl⟩
  have hSn : SL.length = p := by rw [← hSL, single_len]
  have hcs : checkPlan p m0 SL = 0 := plan_ok hp1 hp8 hm2 (by omega) (fun r hr => by rw [← hSL] at hr; exact single_isL p r hr)
  have hps : PlainP p m0 SL := by rw [← hSL]; exact single_plain p m0
  have Hpe := hid ((plain_iff hcs).2 hps)
  have Hte := hid ((tells_iff hp8 hm2 hcs).2 (plain_tells hp8 hm2 hps))
  have Hk12 : Hid (∀ r ∈ SL, r.length ≤ 12) := hid (fun r hr => by
    rw [← hSL] at hr
    obtain ⟨i, -, rfl⟩ := List.mem_map.1 hr
    simp)
  have Htk : Hid (∀ k, k < p → SL.take (k + 1) = SL.take k ++ [[(k : Int)]]) := hid (fun k hk => by rw [← hSL]; exact single_take hk)
  have HSn := hid hSn
  have Hgp : Hid (m0 = 0 → tellsE p m0 (givL l p) = 0) := hid (fun h => by
    subst h
    exact (tells_iff hp8 (by omega) (plan_ok hp1 hp8 (by omega) (givL_len l p) givL_isL)).2 (tells_none p _))
  have Hgk : Hid (∀ r ∈ givL l p, r.length ≤ 12) := hid (fun r hr => by
    obtain ⟨b, -, rfl⟩ := List.mem_map.1 hr
    exact Nat.le_trans (listed_len _ p) (by omega))
  have hbk := (plan_good hcs).1
  have Hbk := hid hbk
  obtain ⟨bv, hbv⟩ : ∃ v, boundC (casesL p m0).length = v := ⟨_, rfl⟩
  obtain ⟨nv, hnv⟩ : ∃ v, needOf p m0 (casesL p m0) = v := ⟨_, rfl⟩
  have Hbo : Hid (boundV p m0 = (bv : Int)) := hid (by unfold boundV; rw [if_pos hbk]; exact congrArg _ hbv)
  have hce : checkPlan p m0 [] = 0 := plan_ok hp1 hp8 hm2 (by simp) (by simp)
  have her : errR p m0 [] [] = 0 := errR_of hce rfl (by simp)
  have htd : toldL p m0 [] [] = casesL p m0 := told_nil p m0
  have hle : ¬ 5 < p → leftE p m0 [] [] = 0 := fun h => by unfold leftE; rw [if_neg (by simp [her]), if_neg (by omega), if_neg (by show ¬ (toldL p m0 [] []).length = 0; rw [htd]; have := cases_pos p m0; omega)]
  have Hle := hid hle
  have Hnv : Hid (¬ 5 < p → needV p m0 [] [] = (nv : Int)) := hid (fun h => by unfold needV; rw [if_neg (by simp [hle h])]; show ((needOf p m0 (toldL p m0 [] []) : Nat) : Int) = _; rw [htd, hnv])
  have hnp : nv ≤ p := by rw [← hnv, ← htd]; exact need_few hp8 hm2 [] []
  have hn0 : m0 = 0 → nv = 0 ∧ bv = 0 := fun h => by
    subst h
    rw [← hnv, ← hbv]
    exact ⟨need_none_bad hp8, (by have e : casesL p 0 = [[]] := rfl; rw [e]; decide)⟩
  have hn1 : ¬ 5 < p → m0 = 1 → nv = bv := fun h h1 => by
    subst h1
    rw [← hnv, ← hbv]
    exact need_one_bad hp1 (by omega)
  clear hSL hSn hcs hps hbk hbv hnv hce her htd hle
  have hbel0 := Below.refl w.heap.size w
  go_enter Try.func12, Try.ntmps12
  go_wp2_with (fail)
  refine (book_any _ _ _).mono ?_
  rintro e W1 ⟨rfl, hbel⟩
  have hsz := hbel.size
  obtain ⟨W0, hWb⟩ : ∃ W0, W1.alloc (.cells #[.int .i64 p, .int .i64 m0] 23) = W0 := ⟨_, rfl⟩
  have bB : Blk W0 W1.heap.size 23 #[.int .i64 p, .int .i64 m0] := by rw [← hWb]; exact Blk.new' rfl
  replace hbel : Below w.heap.size w W0 := by rw [← hWb]; exact hbel.alloc hsz _
  replace hsz := hbel.size
  replace HB := hid (HB.out.below hbel hsz)
  have lB := bB.lt
  have p0 := bB.cell 0
  have p1 := bB.cell 1
  obtain ⟨T1, hT1⟩ : ∃ T1, W1.heap.size = T1 := ⟨_, rfl⟩
  rw [hT1] at bB lB p0 p1
  go_wp2_with (fail)
  go_loopw [9, 10] (fun v i wr => ∃ k : Nat, k ≤ p ∧ i = .int .i64 k ∧ Below W0.heap.size W0 wr ∧ Hid (NewLi wr W0.heap.size v (SL.take k))) (fun _ i _ => p - (intOf i).toNat)
  case atStart => exact ⟨0, by omega, rfl, (by rw [← hWb]; exact Below.refl _ _), hid (NewLi.nil _ _)⟩
  case round =>
    try clear hWb
    obtain ⟨k, hk, rfl, hbw, hown⟩ := hrel
    have hszw := hbw.size
    by_cases hlt : k < p
    · have hlti : (k : Int) < p := by omega
      have Hst := hid (Htk.out k hlt)
      have hlk : (SL.take k).length ≤ 8 := by rw [List.length_take]; omega
      go_wp2_with (first | (go_at_call 51; refine (of_any _ _ _ _).mono ?_; rintro e W2 ⟨rfl, rfl⟩) | (at_builtin; obtain ⟨e1, e2, e3, e4⟩ := two_new hown.out [(k : Int)]; refine newLi_append rfl (by rfl) _ _ rfl W0.heap.size _ _ rfl e1 (wr.heap.size + 1) _ 1 1 [(k : Int)] rfl e2 e3 e4 (by omega) (by simp; omega) ?_; intro v3 w3 hn3 hg3 hat3; have hb3 : Below W0.heap.size W0 w3 := ((hbw.alloc hszw _).alloc (by simp; omega) _).grown hg3 (by simp; omega) (fun r hr => (hown.out.own_lt r hr).1)))
      exact ⟨⟨k + 1, by omega, by go_num, hb3, hid (by rw [Hst.out]; exact hn3)⟩, by simp [intOf]; omega⟩
    · obtain rfl : k = p := by omega
      have hx := hown.out
      rw [List.take_of_length_le (by rw [HSn.out]; exact Nat.le_refl _)] at hx
      obtain ⟨A9, c9, rfl, hl9⟩ := hx.short
      rw [HSn.out] at hl9 ⊢
      have HX := hid hl9
      clear hx hl9 hown hszw
      replace hbel := hbel.trans (hbw.mono hsz)
      replace hsz := hbel.size
      replace bB := bB.below hbw bB.lt
      clear p0 p1 lB
      have p0 := bB.cell 0
      have p1 := bB.cell 1
      have lB := bB.lt
      replace HB := hid (HB.out.below hbw hbw.size)
      clear hbw
      try clear hWb
      obtain ⟨W0, rfl⟩ : ∃ W0 : World, W0 = wr := ⟨_, rfl⟩
      go_wp2_with (fail)
      refine (checkPlain_any A9 k c9 SL _ _ _ (HX.out.below (by repeat' (first | with_reducible assumption | with_reducible exact Below.refl _ _ | refine Below.alloc ?_ ?_ _ | refine Below.setCell ?_ ?_ _ | refine Below.drew ?_ | refine below_drewN ?_ _ | (simp; done) | (simp; omega) | omega)) (by first | (simp; done) | (simp; omega) | omega)) (by omega) Hk12.out).mono ?_
      rw [Hpe.out]
      rintro e W1 ⟨rfl, hb⟩
      have hst : Below W0.heap.size W0 W1 := Below.trans (by repeat' (first | with_reducible assumption | with_reducible exact Below.refl _ _ | refine Below.alloc ?_ ?_ _ | refine Below.setCell ?_ ?_ _ | refine Below.drew ?_ | refine below_drewN ?_ _ | (simp; done) | (simp; omega) | omega)) (hb.mono (by first | (simp; done) | (simp; omega) | omega))
      replace hbel := hbel.trans (hst.mono hsz)
      replace hsz := hbel.size
      replace bB := bB.below hst bB.lt
      clear p0 p1 lB
      have p0 := bB.cell 0
      have p1 := bB.cell 1
      have lB := bB.lt
      try clear hWb
      replace HB := hid (HB.out.below hst hst.size)
      replace HX := hid (HX.out.below hst hst.size)
      clear hb hst
      obtain ⟨W0, rfl⟩ : ∃ W0 : World, W0 = W1 := ⟨_, rfl⟩
      go_wp2_with (fail)
      refine (checkTells_any A9 k c9 SL _ _ _ (HX.out.below (by repeat' (first | with_reducible assumption | with_reducible exact Below.refl _ _ | refine Below.alloc ?_ ?_ _ | refine Below.setCell ?_ ?_ _ | refine Below.drew ?_ | refine below_drewN ?_ _ | (simp; done) | (simp; omega) | omega)) (by first | (simp; done) | (simp; omega) | omega)) (by omega) Hk12.out).mono ?_
      rw [Hte.out]
      rintro e W1 ⟨rfl, hb⟩
      have hst : Below W0.heap.size W0 W1 := Below.trans (by repeat' (first | with_reducible assumption | with_reducible exact Below.refl _ _ | refine Below.alloc ?_ ?_ _ | refine Below.setCell ?_ ?_ _ | refine Below.drew ?_ | refine below_drewN ?_ _ | (simp; done) | (simp; omega) | omega)) (hb.mono (by first | (simp; done) | (simp; omega) | omega))
      replace hbel := hbel.trans (hst.mono hsz)
      replace hsz := hbel.size
      replace bB := bB.below hst bB.lt
      clear p0 p1 lB
      have p0 := bB.cell 0
      have p1 := bB.cell 1
      have lB := bB.lt
      try clear hWb
      replace HB := hid (HB.out.below hst hst.size)
      replace HX := hid (HX.out.below hst hst.size)
      clear hb hst
      obtain ⟨W0, rfl⟩ : ∃ W0 : World, W0 = W1 := ⟨_, rfl⟩
      clear HX
      have hmc : m0 = 0 ∨ m0 = 1 ∨ m0 = 2 := by omega
      replace hmc := hid hmc
      have HN0 := hid hn0
      have HN1 := hid hn1
      clear hn0 hn1
      rcases hmc.out with hm0 | hm0 | hm0 <;> clear hmc
      · have hm := hid hm0
        have d0 : ((m0 : Int) == 0) = true := by simp; omega
        have d1 : ¬ (1 : Int) < m0 := by omega
        have d2 : ¬ (0 : Int) < m0 := by omega
        have HT := hid (Hgp.out hm.out)
        clear hm0
        go_wp2_with (fail)
        refine Sx.wp_region_el (fun W => Below W0.heap.size W0 W) (hSb W0) [0, 1, 2, 3, 4, 5, 6] 4 (by kernel_rfl) (by kernel_rfl) ((Below.refl _ _).drew) ?_
        simp only [pick, List.getElem?_toArray, List.getElem?_cons_zero, List.getElem?_cons_succ]
        (refine Sx.wpE_val (v := ?_) (by rfl) (fun W hW => ?_) ?_; rotate_left; (· have f0 := (bB.below hW lB).cell 0; have f1 := (bB.below hW lB).cell 1; have f2 := (bB.below hW lB).lt; go_simp; with_reducible rfl); simp only [Act.put, List.setIfInBounds_toArray, List.set_cons_zero, List.set_cons_succ])
        (refine Sx.wpE_val (v := ?_) (by rfl) (fun W hW => ?_) ?_; rotate_left; (· have f0 := (bB.below hW lB).cell 0; have f1 := (bB.below hW lB).cell 1; have f2 := (bB.below hW lB).lt; go_simp; with_reducible rfl); simp only [Act.put, List.setIfInBounds_toArray, List.set_cons_zero, List.set_cons_succ])
        (refine Sx.wpE_val (v := ?_) (by rfl) (fun W hW => ?_) ?_; rotate_left; (· have f0 := (bB.below hW lB).cell 0; have f1 := (bB.below hW lB).cell 1; have f2 := (bB.below hW lB).lt; go_simp; with_reducible rfl); simp only [Act.put, List.setIfInBounds_toArray, List.set_cons_zero, List.set_cons_succ])
        (refine Sx.wpE_val (v := ?_) (by rfl) (fun W hW => ?_) ?_; rotate_left; (· have f0 := (bB.below hW lB).cell 0; have f1 := (bB.below hW lB).cell 1; have f2 := (bB.below hW lB).lt; go_simp; with_reducible rfl); simp only [Act.put, List.setIfInBounds_toArray, List.set_cons_zero, List.set_cons_succ])
        (refine Sx.wpE_val (v := ?_) (by rfl) (fun W hW => ?_) ?_; rotate_left; (· have f0 := (bB.below hW lB).cell 0; have f1 := (bB.below hW lB).cell 1; have f2 := (bB.below hW lB).lt; go_simp; with_reducible rfl); simp only [Act.put, List.setIfInBounds_toArray, List.set_cons_zero, List.set_cons_succ])
        (refine Sx.wpE_val (v := ?_) (by rfl) (fun W hW => ?_) ?_; rotate_left; (· have f0 := (bB.below hW lB).cell 0; have f1 := (bB.below hW lB).cell 1; have f2 := (bB.below hW lB).lt; go_simp; with_reducible rfl); simp only [Act.put, List.setIfInBounds_toArray, List.set_cons_zero, List.set_cons_succ])
        (refine Sx.wpE_val (v := ?_) (by rfl) (fun W hW => ?_) ?_; rotate_left; (· have f0 := (bB.below hW lB).cell 0; have f1 := (bB.below hW lB).cell 1; have f2 := (bB.below hW lB).lt; go_simp; with_reducible rfl); simp only [Act.put, List.setIfInBounds_toArray, List.set_cons_zero, List.set_cons_succ])
        simp only [Sx.wpE]
        (refine Sx.wpM_one 7 _ (by simp only [List.getElem?_toArray, List.getElem?_cons_zero, List.getElem?_cons_succ]; rfl) (by kernel_rfl) (by rfl) ?_)
        intro U1 huU1 hsU1
        (go_simp; simp only [LUpon, Act.put]; try simp only [List.setIfInBounds_toArray, List.set_cons_zero, List.set_cons_succ])
        refine (given_any A n c k m0 l U1 (HB.out.below hsU1 hsU1.size) (by omega) hp8 Hb.out).mono ?_
        rintro e U1q ⟨vg, rfl, hng, hb⟩
        have htU1 : Below W0.heap.size W0 U1q := hsU1.trans (hb.mono hsU1.size)
        refine ⟨_, rfl, htU1, ?_⟩
        clear hb
        obtain ⟨Ag, cg, rfl, hlg⟩ := hng.short
        have HG := hid hlg
        clear hng hlg
        try simp only [Act.put, List.setIfInBounds_toArray, List.set_cons_zero, List.set_cons_succ]
        (refine Sx.wpM_one 8 _ (by simp only [List.getElem?_toArray, List.getElem?_cons_zero, List.getElem?_cons_succ]; rfl) (by kernel_rfl) (by rfl) ?_)
        intro U2 huU2 hsU2
        replace HG := hid (HG.out.below huU2 huU2.size)
        (go_simp; simp only [LUpon, Act.put]; try simp only [List.setIfInBounds_toArray, List.set_cons_zero, List.set_cons_succ])
        refine (checkTells_any Ag _ cg (givL l k) k m0 U2 HG.out (by have := givL_len l k; omega) Hgk.out).mono ?_
        rw [HT.out]
        rintro e U2q ⟨rfl, hb⟩
        have htU2 : Below W0.heap.size W0 U2q := hsU2.trans (hb.mono hsU2.size)
        refine ⟨_, rfl, htU2, ?_⟩
        replace HG := hid (HG.out.below hb hb.size)
        clear hb
        try simp only [Act.put, List.setIfInBounds_toArray, List.set_cons_zero, List.set_cons_succ]
        refine Sx.wpM_early (hSb W0) (by kernel_rfl) [9, 10] 0 _ _ (by kernel_rfl) ?_
        simp only [pick, List.getElem?_toArray, List.getElem?_cons_zero, List.getElem?_cons_succ]
        (refine Sx.wpE_val (v := ?_) (by rfl) (fun W hW => ?_) ?_; rotate_left; (· have f0 := (bB.below hW lB).cell 0; have f1 := (bB.below hW lB).cell 1; have f2 := (bB.below hW lB).lt; go_simp; with_reducible rfl); simp only [Act.put, List.setIfInBounds_toArray, List.set_cons_zero, List.set_cons_succ])
        (refine Sx.wpE_val (v := ?_) (by rfl) (fun W hW => ?_) ?_; rotate_left; (· have f0 := (bB.below hW lB).cell 0; have f1 := (bB.below hW lB).cell 1; have f2 := (bB.below hW lB).lt; go_simp; with_reducible rfl); simp only [Act.put, List.setIfInBounds_toArray, List.set_cons_zero, List.set_cons_succ])
        simp only [Sx.wpE]
        refine Sx.wpM_end (by kernel_rfl) ?_
        intro W1 hvz hb
        replace HG := hid (HG.out.below hvz hvz.size)
        replace bB := bB.below hb bB.lt
        clear p0 p1 lB
        have p0 := bB.cell 0
        have p1 := bB.cell 1
        have lB := bB.lt
        replace HB := hid (HB.out.below hb hb.size)
        replace hbel := hbel.trans (hb.mono hsz)
        replace hsz := hbel.size
        clear hb
        try clear hWb
        obtain ⟨W0, rfl⟩ : ∃ W0 : World, W0 = W1 := ⟨_, rfl⟩
        clear HG
        by_cases h5 : 5 < k
        · have h5i : (5 : Int) < k := by omega
          go_wp2_with (fail)
          refine (works_any _).mono ?_
          rintro e W1 ⟨rfl, hb⟩
          have hst : Below W0.heap.size W0 W1 := Below.trans (by repeat' (first | with_reducible assumption | with_reducible exact Below.refl _ _ | refine Below.alloc ?_ ?_ _ | refine Below.setCell ?_ ?_ _ | refine Below.drew ?_ | refine below_drewN ?_ _ | (simp; done) | (simp; omega) | omega)) (hb.mono (by first | (simp; done) | (simp; omega) | omega))
          replace hbel := hbel.trans (hst.mono hsz)
          replace hsz := hbel.size
          replace bB := bB.below hst bB.lt
          clear p0 p1 lB
          have p0 := bB.cell 0
          have p1 := bB.cell 1
          have lB := bB.lt
          try clear hWb
          replace HB := hid (HB.out.below hst hst.size)
          clear hb hst
          obtain ⟨W0, rfl⟩ : ∃ W0 : World, W0 = W1 := ⟨_, rfl⟩
          go_wp2
          go_ret
          exact ⟨rfl, hbel⟩
        · have h5i : ¬ (5 : Int) < k := by omega
          have HLE := hid (Hle.out h5)
          have HNV := hid (Hnv.out h5)
          have gp : (nv : Int) ≤ (k : Int) := by omega
          have e0 : ((nv : Int) == 0) = true := by have := (HN0.out hm.out).1; simp; omega
          have e1 : ((nv : Int) == (bv : Int)) = true := by have := (HN0.out hm.out); simp; omega
          go_wp2_with (fail)
          refine (bound_any _ _ _).mono ?_
          rw [Hbo.out, Hbk.out]
          rintro e W1 ⟨rfl, hb⟩
          have hst : Below W0.heap.size W0 W1 := Below.trans (by repeat' (first | with_reducible assumption | with_reducible exact Below.refl _ _ | refine Below.alloc ?_ ?_ _ | refine Below.setCell ?_ ?_ _ | refine Below.drew ?_ | refine below_drewN ?_ _ | (simp; done) | (simp; omega) | omega)) (hb.mono (by first | (simp; done) | (simp; omega) | omega))
          replace hbel := hbel.trans (hst.mono hsz)
          replace hsz := hbel.size
          replace bB := bB.below hst bB.lt
          clear p0 p1 lB
          have p0 := bB.cell 0
          have p1 := bB.cell 1
          have lB := bB.lt
          try clear hWb
          replace HB := hid (HB.out.below hst hst.size)
          clear hb hst
          obtain ⟨W0, rfl⟩ : ∃ W0 : World, W0 = W1 := ⟨_, rfl⟩
          go_wp2_with (fail)
          refine (neededF_any none none 0 0 0 0 [] [] _ _ _ (LiS.nil_ _ _) Sl.none_ (by decide) (by simp)).mono ?_
          rw [HNV.out, HLE.out]
          rintro e W1 ⟨rfl, hb⟩
          have hst : Below W0.heap.size W0 W1 := Below.trans (by repeat' (first | with_reducible assumption | with_reducible exact Below.refl _ _ | refine Below.alloc ?_ ?_ _ | refine Below.setCell ?_ ?_ _ | refine Below.drew ?_ | refine below_drewN ?_ _ | (simp; done) | (simp; omega) | omega)) (hb.mono (by first | (simp; done) | (simp; omega) | omega))
          replace hbel := hbel.trans (hst.mono hsz)
          replace hsz := hbel.size
          replace bB := bB.below hst bB.lt
          clear p0 p1 lB
          have p0 := bB.cell 0
          have p1 := bB.cell 1
          have lB := bB.lt
          try clear hWb
          replace HB := hid (HB.out.below hst hst.size)
          clear hb hst
          obtain ⟨W0, rfl⟩ : ∃ W0 : World, W0 = W1 := ⟨_, rfl⟩
          go_wp2_with (fail)
          refine (works_any _).mono ?_
          rintro e W1 ⟨rfl, hb⟩
          have hst : Below W0.heap.size W0 W1 := Below.trans (by repeat' (first | with_reducible assumption | with_reducible exact Below.refl _ _ | refine Below.alloc ?_ ?_ _ | refine Below.setCell ?_ ?_ _ | refine Below.drew ?_ | refine below_drewN ?_ _ | (simp; done) | (simp; omega) | omega)) (hb.mono (by first | (simp; done) | (simp; omega) | omega))
          replace hbel := hbel.trans (hst.mono hsz)
          replace hsz := hbel.size
          replace bB := bB.below hst bB.lt
          clear p0 p1 lB
          have p0 := bB.cell 0
          have p1 := bB.cell 1
          have lB := bB.lt
          try clear hWb
          replace HB := hid (HB.out.below hst hst.size)
          clear hb hst
          obtain ⟨W0, rfl⟩ : ∃ W0 : World, W0 = W1 := ⟨_, rfl⟩
          go_wp2
          go_ret
          exact ⟨rfl, hbel⟩
      · have hm := hid hm0
        have d0 : ((m0 : Int) == 0) = false := by simp; omega
        have d1 : ¬ (1 : Int) < m0 := by omega
        have d2 : (0 : Int) < m0 := by omega
        clear hm0
        go_wp2_with (fail)
        refine wp_region_hd_all (fun W => Below W0.heap.size W0 W) (by kernel_rfl) (by kernel_rfl) ((Below.refl _ _).drew) ?_
        (refine wpHd_val (v := ?_) (by rfl) (fun W hW => ?_) ?_; rotate_left; (· obtain ⟨hcW, hfW⟩ := bcell hW; go_simp; with_reducible rfl); simp only [Act.put, List.setIfInBounds_toArray, List.set_cons_zero, List.set_cons_succ])
        (refine wpHd_val (v := ?_) (by rfl) (fun W hW => ?_) ?_; rotate_left; (· obtain ⟨hcW, hfW⟩ := bcell hW; go_simp; with_reducible rfl); simp only [Act.put, List.setIfInBounds_toArray, List.set_cons_zero, List.set_cons_succ])
        (refine wpHd_val (v := ?_) (by rfl) (fun W hW => ?_) ?_; rotate_left; (· obtain ⟨hcW, hfW⟩ := bcell hW; go_simp; with_reducible rfl); simp only [Act.put, List.setIfInBounds_toArray, List.set_cons_zero, List.set_cons_succ])
        (refine wpHd_val (v := ?_) (by rfl) (fun W hW => ?_) ?_; rotate_left; (· obtain ⟨hcW, hfW⟩ := bcell hW; go_simp; with_reducible rfl); simp only [Act.put, List.setIfInBounds_toArray, List.set_cons_zero, List.set_cons_succ])
        (refine wpHd_not (by rfl) ?_; simp only [Act.put, List.setIfInBounds_toArray, List.set_cons_zero, List.set_cons_succ])
        (refine wpHd_not (by rfl) ?_; simp only [Act.put, List.setIfInBounds_toArray, List.set_cons_zero, List.set_cons_succ])
        (refine wpHd_not (by rfl) ?_; simp only [Act.put, List.setIfInBounds_toArray, List.set_cons_zero, List.set_cons_succ])
        (refine wpHd_not (by rfl) ?_; simp only [Act.put, List.setIfInBounds_toArray, List.set_cons_zero, List.set_cons_succ])
        (refine wpHd_not (by rfl) ?_; simp only [Act.put, List.setIfInBounds_toArray, List.set_cons_zero, List.set_cons_succ])
        (refine wpHd_not (by rfl) ?_; simp only [Act.put, List.setIfInBounds_toArray, List.set_cons_zero, List.set_cons_succ])
        (refine wpHd_val (v := ?_) (by rfl) (fun W hW => ?_) ?_; rotate_left; (· obtain ⟨hcW, hfW⟩ := bcell hW; go_simp; with_reducible rfl); simp only [Act.put, List.setIfInBounds_toArray, List.set_cons_zero, List.set_cons_succ])
        refine wpHd_nil ?_
        intro W1 hb
        replace hbel := hbel.trans (hb.mono hsz)
        replace hsz := hbel.size
        replace bB := bB.below hb bB.lt
        clear p0 p1 lB
        have p0 := bB.cell 0
        have p1 := bB.cell 1
        have lB := bB.lt
        replace HB := hid (HB.out.below hb hb.size)
        clear hb
        try clear hWb
        obtain ⟨W0, rfl⟩ : ∃ W0 : World, W0 = W1 := ⟨_, rfl⟩
        by_cases h5 : 5 < k
        · have h5i : (5 : Int) < k := by omega
          go_wp2_with (fail)
          refine (works_any _).mono ?_
          rintro e W1 ⟨rfl, hb⟩
          have hst : Below W0.heap.size W0 W1 := Below.trans (by repeat' (first | with_reducible assumption | with_reducible exact Below.refl _ _ | refine Below.alloc ?_ ?_ _ | refine Below.setCell ?_ ?_ _ | refine Below.drew ?_ | refine below_drewN ?_ _ | (simp; done) | (simp; omega) | omega)) (hb.mono (by first | (simp; done) | (simp; omega) | omega))
          replace hbel := hbel.trans (hst.mono hsz)
          replace hsz := hbel.size
          replace bB := bB.below hst bB.lt
          clear p0 p1 lB
          have p0 := bB.cell 0
          have p1 := bB.cell 1
          have lB := bB.lt
          try clear hWb
          replace HB := hid (HB.out.below hst hst.size)
          clear hb hst
          obtain ⟨W0, rfl⟩ : ∃ W0 : World, W0 = W1 := ⟨_, rfl⟩
          go_wp2
          go_ret
          exact ⟨rfl, hbel⟩
        · have h5i : ¬ (5 : Int) < k := by omega
          have HLE := hid (Hle.out h5)
          have HNV := hid (Hnv.out h5)
          have gp : (nv : Int) ≤ (k : Int) := by omega
          have e0 : ((nv : Int) == (bv : Int)) = true := by have := HN1.out h5 hm.out; simp; omega
          go_wp2_with (fail)
          refine (bound_any _ _ _).mono ?_
          rw [Hbo.out, Hbk.out]
          rintro e W1 ⟨rfl, hb⟩
          have hst : Below W0.heap.size W0 W1 := Below.trans (by repeat' (first | with_reducible assumption | with_reducible exact Below.refl _ _ | refine Below.alloc ?_ ?_ _ | refine Below.setCell ?_ ?_ _ | refine Below.drew ?_ | refine below_drewN ?_ _ | (simp; done) | (simp; omega) | omega)) (hb.mono (by first | (simp; done) | (simp; omega) | omega))
          replace hbel := hbel.trans (hst.mono hsz)
          replace hsz := hbel.size
          replace bB := bB.below hst bB.lt
          clear p0 p1 lB
          have p0 := bB.cell 0
          have p1 := bB.cell 1
          have lB := bB.lt
          try clear hWb
          replace HB := hid (HB.out.below hst hst.size)
          clear hb hst
          obtain ⟨W0, rfl⟩ : ∃ W0 : World, W0 = W1 := ⟨_, rfl⟩
          go_wp2_with (fail)
          refine (neededF_any none none 0 0 0 0 [] [] _ _ _ (LiS.nil_ _ _) Sl.none_ (by decide) (by simp)).mono ?_
          rw [HNV.out, HLE.out]
          rintro e W1 ⟨rfl, hb⟩
          have hst : Below W0.heap.size W0 W1 := Below.trans (by repeat' (first | with_reducible assumption | with_reducible exact Below.refl _ _ | refine Below.alloc ?_ ?_ _ | refine Below.setCell ?_ ?_ _ | refine Below.drew ?_ | refine below_drewN ?_ _ | (simp; done) | (simp; omega) | omega)) (hb.mono (by first | (simp; done) | (simp; omega) | omega))
          replace hbel := hbel.trans (hst.mono hsz)
          replace hsz := hbel.size
          replace bB := bB.below hst bB.lt
          clear p0 p1 lB
          have p0 := bB.cell 0
          have p1 := bB.cell 1
          have lB := bB.lt
          try clear hWb
          replace HB := hid (HB.out.below hst hst.size)
          clear hb hst
          obtain ⟨W0, rfl⟩ : ∃ W0 : World, W0 = W1 := ⟨_, rfl⟩
          go_wp2_with (fail)
          refine (works_any _).mono ?_
          rintro e W1 ⟨rfl, hb⟩
          have hst : Below W0.heap.size W0 W1 := Below.trans (by repeat' (first | with_reducible assumption | with_reducible exact Below.refl _ _ | refine Below.alloc ?_ ?_ _ | refine Below.setCell ?_ ?_ _ | refine Below.drew ?_ | refine below_drewN ?_ _ | (simp; done) | (simp; omega) | omega)) (hb.mono (by first | (simp; done) | (simp; omega) | omega))
          replace hbel := hbel.trans (hst.mono hsz)
          replace hsz := hbel.size
          replace bB := bB.below hst bB.lt
          clear p0 p1 lB
          have p0 := bB.cell 0
          have p1 := bB.cell 1
          have lB := bB.lt
          try clear hWb
          replace HB := hid (HB.out.below hst hst.size)
          clear hb hst
          obtain ⟨W0, rfl⟩ : ∃ W0 : World, W0 = W1 := ⟨_, rfl⟩
          go_wp2
          go_ret
          exact ⟨rfl, hbel⟩
      · have hm := hid hm0
        have d0 : ((m0 : Int) == 0) = false := by simp; omega
        have d1 : (1 : Int) < m0 := by omega
        have d2 : (0 : Int) < m0 := by omega
        clear hm0
        go_wp2_with (fail)
        refine wp_region_hd_all (fun W => Below W0.heap.size W0 W) (by kernel_rfl) (by kernel_rfl) ((Below.refl _ _).drew) ?_
        (refine wpHd_val (v := ?_) (by rfl) (fun W hW => ?_) ?_; rotate_left; (· obtain ⟨hcW, hfW⟩ := bcell hW; go_simp; with_reducible rfl); simp only [Act.put, List.setIfInBounds_toArray, List.set_cons_zero, List.set_cons_succ])
        (refine wpHd_val (v := ?_) (by rfl) (fun W hW => ?_) ?_; rotate_left; (· obtain ⟨hcW, hfW⟩ := bcell hW; go_simp; with_reducible rfl); simp only [Act.put, List.setIfInBounds_toArray, List.set_cons_zero, List.set_cons_succ])
        (refine wpHd_val (v := ?_) (by rfl) (fun W hW => ?_) ?_; rotate_left; (· obtain ⟨hcW, hfW⟩ := bcell hW; go_simp; with_reducible rfl); simp only [Act.put, List.setIfInBounds_toArray, List.set_cons_zero, List.set_cons_succ])
        (refine wpHd_val (v := ?_) (by rfl) (fun W hW => ?_) ?_; rotate_left; (· obtain ⟨hcW, hfW⟩ := bcell hW; go_simp; with_reducible rfl); simp only [Act.put, List.setIfInBounds_toArray, List.set_cons_zero, List.set_cons_succ])
        (refine wpHd_not (by rfl) ?_; simp only [Act.put, List.setIfInBounds_toArray, List.set_cons_zero, List.set_cons_succ])
        (refine wpHd_not (by rfl) ?_; simp only [Act.put, List.setIfInBounds_toArray, List.set_cons_zero, List.set_cons_succ])
        (refine wpHd_not (by rfl) ?_; simp only [Act.put, List.setIfInBounds_toArray, List.set_cons_zero, List.set_cons_succ])
        (refine wpHd_not (by rfl) ?_; simp only [Act.put, List.setIfInBounds_toArray, List.set_cons_zero, List.set_cons_succ])
        (refine wpHd_not (by rfl) ?_; simp only [Act.put, List.setIfInBounds_toArray, List.set_cons_zero, List.set_cons_succ])
        (refine wpHd_not (by rfl) ?_; simp only [Act.put, List.setIfInBounds_toArray, List.set_cons_zero, List.set_cons_succ])
        (refine wpHd_val (v := ?_) (by rfl) (fun W hW => ?_) ?_; rotate_left; (· obtain ⟨hcW, hfW⟩ := bcell hW; go_simp; with_reducible rfl); simp only [Act.put, List.setIfInBounds_toArray, List.set_cons_zero, List.set_cons_succ])
        refine wpHd_nil ?_
        intro W1 hb
        replace hbel := hbel.trans (hb.mono hsz)
        replace hsz := hbel.size
        replace bB := bB.below hb bB.lt
        clear p0 p1 lB
        have p0 := bB.cell 0
        have p1 := bB.cell 1
        have lB := bB.lt
        replace HB := hid (HB.out.below hb hb.size)
        clear hb
        try clear hWb
        obtain ⟨W0, rfl⟩ : ∃ W0 : World, W0 = W1 := ⟨_, rfl⟩
        by_cases h5 : 5 < k
        · have h5i : (5 : Int) < k := by omega
          go_wp2_with (fail)
          refine (works_any _).mono ?_
          rintro e W1 ⟨rfl, hb⟩
          have hst : Below W0.heap.size W0 W1 := Below.trans (by repeat' (first | with_reducible assumption | with_reducible exact Below.refl _ _ | refine Below.alloc ?_ ?_ _ | refine Below.setCell ?_ ?_ _ | refine Below.drew ?_ | refine below_drewN ?_ _ | (simp; done) | (simp; omega) | omega)) (hb.mono (by first | (simp; done) | (simp; omega) | omega))
          replace hbel := hbel.trans (hst.mono hsz)
          replace hsz := hbel.size
          replace bB := bB.below hst bB.lt
          clear p0 p1 lB
          have p0 := bB.cell 0
          have p1 := bB.cell 1
          have lB := bB.lt
          try clear hWb
          replace HB := hid (HB.out.below hst hst.size)
          clear hb hst
          obtain ⟨W0, rfl⟩ : ∃ W0 : World, W0 = W1 := ⟨_, rfl⟩
          go_wp2
          go_ret
          exact ⟨rfl, hbel⟩
        · have h5i : ¬ (5 : Int) < k := by omega
          have HLE := hid (Hle.out h5)
          have HNV := hid (Hnv.out h5)
          have gp : (nv : Int) ≤ (k : Int) := by omega
          go_wp2_with (fail)
          refine (bound_any _ _ _).mono ?_
          rw [Hbo.out, Hbk.out]
          rintro e W1 ⟨rfl, hb⟩
          have hst : Below W0.heap.size W0 W1 := Below.trans (by repeat' (first | with_reducible assumption | with_reducible exact Below.refl _ _ | refine Below.alloc ?_ ?_ _ | refine Below.setCell ?_ ?_ _ | refine Below.drew ?_ | refine below_drewN ?_ _ | (simp; done) | (simp; omega) | omega)) (hb.mono (by first | (simp; done) | (simp; omega) | omega))
          replace hbel := hbel.trans (hst.mono hsz)
          replace hsz := hbel.size
          replace bB := bB.below hst bB.lt
          clear p0 p1 lB
          have p0 := bB.cell 0
          have p1 := bB.cell 1
          have lB := bB.lt
          try clear hWb
          replace HB := hid (HB.out.below hst hst.size)
          clear hb hst
          obtain ⟨W0, rfl⟩ : ∃ W0 : World, W0 = W1 := ⟨_, rfl⟩
          go_wp2_with (fail)
          refine (neededF_any none none 0 0 0 0 [] [] _ _ _ (LiS.nil_ _ _) Sl.none_ (by decide) (by simp)).mono ?_
          rw [HNV.out, HLE.out]
          rintro e W1 ⟨rfl, hb⟩
          have hst : Below W0.heap.size W0 W1 := Below.trans (by repeat' (first | with_reducible assumption | with_reducible exact Below.refl _ _ | refine Below.alloc ?_ ?_ _ | refine Below.setCell ?_ ?_ _ | refine Below.drew ?_ | refine below_drewN ?_ _ | (simp; done) | (simp; omega) | omega)) (hb.mono (by first | (simp; done) | (simp; omega) | omega))
          replace hbel := hbel.trans (hst.mono hsz)
          replace hsz := hbel.size
          replace bB := bB.below hst bB.lt
          clear p0 p1 lB
          have p0 := bB.cell 0
          have p1 := bB.cell 1
          have lB := bB.lt
          try clear hWb
          replace HB := hid (HB.out.below hst hst.size)
          clear hb hst
          obtain ⟨W0, rfl⟩ : ∃ W0 : World, W0 = W1 := ⟨_, rfl⟩
          go_wp2_with (fail)
          refine (works_any _).mono ?_
          rintro e W1 ⟨rfl, hb⟩
          have hst : Below W0.heap.size W0 W1 := Below.trans (by repeat' (first | with_reducible assumption | with_reducible exact Below.refl _ _ | refine Below.alloc ?_ ?_ _ | refine Below.setCell ?_ ?_ _ | refine Below.drew ?_ | refine below_drewN ?_ _ | (simp; done) | (simp; omega) | omega)) (hb.mono (by first | (simp; done) | (simp; omega) | omega))
          replace hbel := hbel.trans (hst.mono hsz)
          replace hsz := hbel.size
          replace bB := bB.below hst bB.lt
          clear p0 p1 lB
          have p0 := bB.cell 0
          have p1 := bB.cell 1
          have lB := bB.lt
          try clear hWb
          replace HB := hid (HB.out.below hst hst.size)
          clear hb hst
          obtain ⟨W0, rfl⟩ : ∃ W0 : World, W0 = W1 := ⟨_, rfl⟩
          go_wp2
          go_ret
          exact ⟨rfl, hbel⟩

section
open Go.ChangeShapes Go.WideShapes Go.ChangeAt Go.RowKit
set_option maxRecDepth 100000 in
theorem rodAlone_lifted (os : Os) (started : os.Started) (H : Type) (enc : TypeId × Value → H) :
    ReturnsInHanded {} Try.checked os 12 .any (Rows.rodAloneSpec.pre6 enc Try.prog Try.f12 Rows.rodAloneRow.domain false) (Rows.rodAloneSpec.post enc Try.prog Try.f12 false true false false) := by
  refine returnsInHanded_of_change (C := Try.checked) ownKx started (by kernel_rfl) Try.func12
    (ChangeSpec.witness6 (enc := enc) (C := Try.checked) false ⟨#[], #[.int .u8 0, .int .u8 0, .slice none 0 0], []⟩ 8 (by kernel_rfl) (by kernel_rfl) (by kernel_rfl) (by kernel_rfl)) ?_
  intro W base args ds gs before hval0 hW hcnd _
  have hval : ∀ (j : Nat) t v, Try.f12.params[j]? = some t → args[j]? = some v → Value.okWide Try.prog W .any base t v := hval0
  have hW' := hW
  obtain ⟨p, q, hA0, hV, rfl, hfz, hnd⟩ := hW
  have hA : DataW.TrodAll enc Try.prog W 0 (fun _ => true) true Try.f12.params.toList args.toList ds p := hA0
  have hlt : ∀ x ∈ p, x.block < W.heap.size := fun x hx => hW'.lt x (List.mem_append_left _ hx)
  have hAll : ∀ W', Below W.heap.size W W' → DataW.TrodAll enc Try.prog W' 0 (fun b => decide (b < W.heap.size)) true Try.f12.params.toList args.toList ds p := fun W' hb => all_below laidOut hb (readable_of (by kernel_rfl)) hlt hA
  rw [Try.params12] at hA hval
  obtain ⟨v0, v1, v2, d0, d1, d2, p0, p1, p2, rfl, rfl, rfl, h0, h1, h2⟩ := trodAll_three hA
  obtain ⟨rfl, rfl⟩ := trodVars_none hV
  clear hA0 hval0
  obtain ⟨x0, rfl, rfl, rfl, wx0⟩ := open_int Try.underlying5 (hval 0 5 v0 rfl rfl) h0
  obtain ⟨x1, rfl, rfl, rfl, wx1⟩ := open_int Try.underlying5 (hval 1 5 v1 rfl rfl) h1
  obtain ⟨A2, n2, c2, rfl⟩ := okWide_slice Try.underlying61 (hval 2 61 v2 rfl rfl)
  obtain ⟨hc2, l2, hl2, hr2⟩ := open_is Try.underlying61 Try.underlying5 (by kernel_rfl) h2
  refine (rodAlone_walk W x0 x1 (u8_bd wx0) (u8_bd wx1) A2 n2 c2 (l2.map (·.1)) (by unfold U8S; rw [List.map_map]; have h := hr2; rw [show (l2.flatMap fun x => [Value.int .u8 x.1]) = l2.map ((fun x => Value.int .u8 x) ∘ fun x => x.1) from flat_one _ l2] at h; exact h) (fun z hz => by obtain ⟨q, -, rfl⟩ := List.mem_map.1 hz; exact u8_bd q.2)).mono fun e W' ⟨he, hb⟩ => ?_
  subst he
  exact ⟨_, rfl, ⟨_, _, _, [], _, [], hW', trodAll_cons_mk (shut_bool Try.underlying4 _) trodAll_mk0, hAll W' hb, rfl, hb.frame _, fun h => by cases h⟩⟩
/-- The law: whatever the input, it returns true, and the input reads as it did. -/
theorem rodAlone_holds : Rows.RodAloneSaid :=
  OpenClaim.holds_of_wide 12 Try.f12 rfl rfl rfl rfl rfl rfl rfl ⟨rfl, rfl, rfl, rfl, rfl⟩ rfl rfl rfl rfl rfl (by kernel_rfl) Try.func12 (by kernel_rfl)
    (of_decide_eq_true (by kernel_rfl)) (by unfold Func.isWrapper; first | (rw [if_pos (by decide +kernel)]; kernel_rfl) | (rw [if_neg (by decide +kernel)]; exact ⟨rfl, rfl⟩))
    (fun os started H enc _ => rodAlone_lifted os started H enc)
end
end Go.Proofs.Ytpgdfipikfbjeaa

