/- The statement StoneCounted holds: whatever the arguments, the law returns true and leaves its arguments as they were. -/
import Derived.Test.YtolghmhodaphfaaMr
import Derived.Test.YtolghmhodaphfaaMn
import Derived.Test.YtolghmhodaphfaaMp
namespace Go.Proofs.Ytolghmhodaphfaa
open Go.RowKit Go.Shelf
attribute [local go_sem] Oper.semAt_some
theorem hSbW (W0 : World) : ∀ W W', Below W0.heap.size W0 W → Ext W W' → Below W0.heap.size W0 W' := fun _ _ h he => h.trans (he.mono h.size)
set_option maxRecDepth 100000 in
set_option maxHeartbeats 4000000 in
theorem counted_walk (w : World) (bo : Bool) (x : Int) (hx0 : 0 ≤ x ∧ x ≤ 255) :
    Calls Try.prog 11 #[.int .u8 x, .bool bo] w fun e w' => e = .returned (.bool true) ∧ Below w.heap.size w w' := by
  obtain ⟨p, hp⟩ : ∃ p, pansOf bo = p := ⟨_, rfl⟩
  have HP := hid (pansOf_or bo)
  rw [hp] at HP
  have Hp := hid hp
  clear hp
  obtain ⟨hx1, hx2⟩ := hx0
  have z1 : IntKind.i64.wrap x = x := wrap_ok (by omega)
  obtain ⟨a0, ha⟩ : ∃ a, x % 60 = a := ⟨_, rfl⟩
  have ha0 := Int.emod_nonneg x (b := 60) (by omega)
  have ha1 := Int.emod_lt_of_pos x (b := 60) (by omega)
  rw [ha] at ha0 ha1
  have z2 : x.tmod 60 = a0 := by rw [Int.tmod_eq_emod_of_nonneg hx1]; exact ha
  have z3 : IntKind.i64.wrap a0 = a0 := wrap_ok (by omega)
  obtain ⟨a, haa⟩ : ∃ a, 1 + a0 = a := ⟨_, rfl⟩
  have z4 : IntKind.i64.wrap (1 + a0) = a := by rw [haa]; exact wrap_ok (by omega)
  have HAB : Hid (1 ≤ a ∧ a ≤ 60) := hid (by omega)
  clear ha ha0 ha1 haa
  obtain ⟨q1, q2, q3, q4, q5⟩ := counted_facts HP.out HAB.out.1 HAB.out.2
  obtain ⟨LS, hLS⟩ : ∃ LS, allSets p a = LS := ⟨_, rfl⟩
  rw [hLS] at q2 q3 q4
  have hab := HAB.out
  obtain ⟨N, hN⟩ : ∃ N : Nat, p * a + 1 = N := ⟨(p * a + 1).toNat, by rcases HP.out with h | h <;> rw [h] <;> omega⟩
  have hNb : 1 ≤ N ∧ N ≤ 121 := by rcases HP.out with h | h <;> rw [h] at hN <;> omega
  obtain ⟨pa, hpa⟩ : ∃ pa, p * a = pa := ⟨_, rfl⟩
  have z5 : IntKind.i64.wrap (p * a) = pa := by rw [hpa]; exact wrap_ok (by omega)
  have z6 : IntKind.i64.wrap (pa + 1) = N := by rw [← hpa, hN]; exact wrap_ok (by omega)
  rw [hN, Int.toNat_natCast] at q5
  have hcnt : Hid (countV p a = LS.length) := hid q4.symm
  have hord : Hid ((oT N : Int) = LS.length) := hid (by rw [← q5]; exact q4.symm)
  have hLSb : LS.length ≤ 200 := by have := oT_bd N; have := hord.out; omega
  have HLS := hid hLS
  have Q1 := hid q1
  have Q2 := hid q2
  have Q3 := hid q3
  have HNB := hid hNb
  clear hLS q1 q2 q3 q4 q5 hN hNb hpa hab
  go_enter Try.func11, Try.ntmps11
  obtain ⟨W0, hW0⟩ : ∃ W0 : World, W0 = w := ⟨_, rfl⟩
  rw [← hW0]
  clear hW0
  have hbel : Below W0.heap.size W0 W0 := Below.refl _ _
  have hsz := hbel.size
  go_wp2_with (fail)
  refine (pans_any _ _).mono ?_
  rw [Hp.out]
  rintro e W1 ⟨rfl, hb⟩
  have hst : Below W0.heap.size W0 W1 := Below.trans (by repeat' (first | with_reducible assumption | with_reducible exact Below.refl _ _ | refine Below.alloc ?_ ?_ _ | refine Below.setCell ?_ ?_ _ | refine Below.drew ?_ | refine below_drewN ?_ _ | (simp; done) | (simp; omega) | omega)) (hb.mono (by first | (simp; done) | (simp; omega) | omega))
  replace hbel := hbel.trans (hst.mono hsz)
  replace hsz := hbel.size
  clear hb hst
  obtain ⟨W0, rfl⟩ : ∃ W0 : World, W0 = W1 := ⟨_, rfl⟩
  go_wp2_with (fail)
  refine (count_any p a _).mono ?_
  rw [hcnt.out, Q1.out]
  rintro e W1 ⟨rfl, hb⟩
  have hst : Below W0.heap.size W0 W1 := Below.trans (by repeat' (first | with_reducible assumption | with_reducible exact Below.refl _ _ | refine Below.alloc ?_ ?_ _ | refine Below.setCell ?_ ?_ _ | refine Below.drew ?_ | refine below_drewN ?_ _ | (simp; done) | (simp; omega) | omega)) (hb.mono (by first | (simp; done) | (simp; omega) | omega))
  replace hbel := hbel.trans (hst.mono hsz)
  replace hsz := hbel.size
  clear hb hst
  obtain ⟨W0, rfl⟩ : ∃ W0 : World, W0 = W1 := ⟨_, rfl⟩
  go_wp2_with (fail)
  refine (all_any p a _).mono ?_
  rw [HLS.out, Q1.out]
  rintro e W1 ⟨Ax, nx, cx, rfl, hx, hb⟩
  have hnx := hx.1
  subst hnx
  have hst : Below W0.heap.size W0 W1 := Below.trans (by repeat' (first | with_reducible assumption | with_reducible exact Below.refl _ _ | refine Below.alloc ?_ ?_ _ | refine Below.setCell ?_ ?_ _ | refine Below.drew ?_ | refine below_drewN ?_ _ | (simp; done) | (simp; omega) | omega)) (hb.mono (by first | (simp; done) | (simp; omega) | omega))
  replace hbel := hbel.trans (hst.mono hsz)
  replace hsz := hbel.size
  have HX := hid hx
  clear hx
  clear hb hst
  obtain ⟨W0, rfl⟩ : ∃ W0 : World, W0 = W1 := ⟨_, rfl⟩
  go_wp2_with (fail)
  refine (orders_any N HNB.out.1 HNB.out.2 _).mono ?_
  rw [hord.out]
  rintro e W1 ⟨rfl, hb⟩
  have hst : Below W0.heap.size W0 W1 := Below.trans (by repeat' (first | with_reducible assumption | with_reducible exact Below.refl _ _ | refine Below.alloc ?_ ?_ _ | refine Below.setCell ?_ ?_ _ | refine Below.drew ?_ | refine below_drewN ?_ _ | (simp; done) | (simp; omega) | omega)) (hb.mono (by first | (simp; done) | (simp; omega) | omega))
  replace hbel := hbel.trans (hst.mono hsz)
  replace hsz := hbel.size
  replace HX := hid (HX.out.below hst hst.size)
  clear hb hst
  obtain ⟨W0, rfl⟩ : ∃ W0 : World, W0 = W1 := ⟨_, rfl⟩
  go_wp2_with (fail)
  have HXX := hid HX.out
  go_loopw [11] (fun i wr => ∃ k : Nat, k ≤ LS.length ∧ i = .int .i64 k ∧ Below W0.heap.size W0 wr) (fun i _ => LS.length - (intOf i).toNat)
  case atStart => exact ⟨0, by omega, rfl, Below.refl _ _⟩
  case round =>
    obtain ⟨k, hk, rfl, hbw⟩ := hrel
    replace HX := hid (HXX.out.below hbw hbw.size)
    obtain ⟨WB, hWB⟩ : ∃ WB : World, WB = W0 := ⟨_, rfl⟩
    have hbB : Below WB.heap.size WB wr := by rw [hWB]; exact hbw
    have HB0 := hid hWB
    replace hbel := hbel.trans (hbw.mono hsz)
    replace hsz := hbel.size
    clear hbw hWB
    have hbK := hid hbB
    have hszB := hbB.size
    clear hbB
    obtain ⟨W1, hW1⟩ : ∃ W1 : World, W1 = wr := ⟨_, rfl⟩
    rw [← hW1] at HX hbel hsz hbK hszB ⊢
    clear hW1
    by_cases hlt : k < LS.length
    · obtain ⟨b, off, s, As, ms, cs, rfl, hb1, hm, c0, hks⟩ := HX.out.at_ hlt
      obtain ⟨r1, r2, r3, r4⟩ := Q2.out s (List.mem_of_getElem? hm)
      have hsf := hid (fineB_of r1)
      have hms : ms ≤ 12 := by have := hks.len; have := (checkSet_good r1).2.1; omega
      have hsm := hid (fun k (hk : k ∈ s) => smallK_of (List.all_eq_true.1 (checkSet_good r1).2.2.1 k hk))
      have hok := hid (List.all_eq_true.1 (checkSet_good r1).2.2.1)
      have R2 := hid r2
      have R3 := hid r3
      have R4 := hid r4
      have Hm := hid hm
      have HK := hid hks
      clear r1 r2 r3 r4 hm hks
      obtain ⟨W0', rfl⟩ : ∃ W0' : World, W0' = W1 := ⟨_, rfl⟩
      have c00 := hid c0
      go_wp2_with (fail)
      refine (fine_any As ms cs s _ HK.out).mono ?_
      rw [hsf.out]
      rintro e V1 ⟨rfl, hbv⟩
      have hz1 := hbv.size
      have hbc1 : Below W0'.heap.size W0' V1 := hbv
      clear hbv
      have hzc1 := hbc1.size
      have c0 := ((bcell hbc1).1 b (off + k) hb1).trans c00.out
      go_wp2_with (fail)
      refine (refSum_any _ As ms cs s (HK.out.below hbc1 hbc1.size) (by omega) hsm.out).mono ?_
      rw [R2.out]
      rintro e V2 ⟨rfl, hbv⟩
      have hz2 := hbv.size
      have hbc2 : Below W0'.heap.size W0' V2 := hbc1.trans (hbv.mono hbc1.size)
      clear hbv
      have hzc2 := hbc2.size
      have c0 := ((bcell hbc2).1 b (off + k) hb1).trans c00.out
      go_wp2_with (fail)
      refine (perfect_any _ As ms cs s p (HK.out.below hbc2 hbc2.size) hms).mono ?_
      rw [R3.out, R4.out]
      rintro e V3 ⟨rfl, hbv⟩
      have hz3 := hbv.size
      have hbc3 : Below W0'.heap.size W0' V3 := hbc2.trans (hbv.mono hbc2.size)
      clear hbv
      have hzc3 := hbc3.size
      have c0 := ((bcell hbc3).1 b (off + k) hb1).trans c00.out
      go_wp2_with (fail)
      have hl3 : b < V3.heap.size := by omega
      by_cases hk0 : k = 0
      · subst hk0
        refine wp_region_hd_all (fun W => Below V3.heap.size V3 W) (by kernel_rfl) (by kernel_rfl) ((Below.refl _ _).drew) ?_
        iterate 3 (refine wpHd_val (v := ?_) (by rfl) (fun W hW => ?_) ?_; rotate_left; (· obtain ⟨hcW, hfW⟩ := bcell hW; go_simp; with_reducible rfl); simp only [Act.put, List.setIfInBounds_toArray, List.set_cons_zero, List.set_cons_succ])
        iterate 15 (refine wpHd_not (by rfl) ?_; simp only [Act.put, List.setIfInBounds_toArray, List.set_cons_zero, List.set_cons_succ])
        (refine wpHd_val (v := ?_) (by rfl) (fun W hW => ?_) ?_; rotate_left; (· obtain ⟨hcW, hfW⟩ := bcell hW; go_simp; with_reducible rfl); simp only [Act.put, List.setIfInBounds_toArray, List.set_cons_zero, List.set_cons_succ])
        refine wpHd_nil ?_
        intro V4 hb4
        go_wp2
        exact ⟨⟨1, by omega, by go_num, by rw [← HB0.out]; exact hbK.out.trans ((hbc3.trans (hb4.mono hzc3)).mono hszB)⟩, by simp [intOf]; omega⟩
      · obtain ⟨j, hj⟩ : ∃ j, k = j + 1 := ⟨k - 1, by omega⟩
        have zj : IntKind.i64.wrap ((k : Int) - 1) = (j : Int) := by rw [hj, Int.natCast_add, Int.natCast_one, Int.add_sub_cancel]; exact wrap_ok (by omega)
        obtain ⟨bj, offj, sj, Aj, mj, cj, hAe, hbj, hmj, d0, hkj⟩ := HX.out.at_ (k := j) (by omega)
        cases hAe
        obtain ⟨r1, r2, r3, r4⟩ := Q2.out sj (List.mem_of_getElem? hmj)
        have hmj12 : mj ≤ 12 := by have := hkj.len; have := (checkSet_good r1).2.1; omega
        have hokj := hid (List.all_eq_true.1 (checkSet_good r1).2.2.1)
        have hch := hid (Q3.out j sj s hmj (by rw [← hj]; exact Hm.out))
        have HKj := hid hkj
        have hjlt : (j : Int) < LS.length := by omega
        have hj0 : (0 : Int) ≤ j := by omega
        have hki : (0 : Int) < k := by omega
        have hkn : 0 < k := by omega
        have dk : decide ((0 : Int) < k) = true := decide_eq_true hki
        have dkn : decide (0 < k) = true := decide_eq_true hkn
        replace d0 := ((bcell hbc3).1 b (off + j) hb1).trans d0
        have D0 := hid d0
        have C0 := hid c0
        clear r1 r2 r3 r4 hmj hkj d0 c0 hj
        refine Sx.wp_region_el (fun W => Below V3.heap.size V3 W) (hSbW V3) [0, 1, 2, 3, 4, 5, 6, 7, 8, 10, 11, 12, 13, 14] 5 (by kernel_rfl) (by kernel_rfl) ((Below.refl _ _).drew) ?_
        simp only [pick, List.getElem?_toArray, List.getElem?_cons_zero, List.getElem?_cons_succ]
        iterate 14 (refine Sx.wpE_val (v := ?_) (by rfl) (fun W hW => ?_) ?_; rotate_left; (· have e0 := ((bcell hW).1 b (off + j) hl3).trans D0.out; have e1 := ((bcell hW).1 b (off + k) hl3).trans C0.out; have lb : b < W.heap.size := Nat.lt_of_lt_of_le hl3 hW.size; go_simp; with_reducible rfl); simp only [Act.put, List.setIfInBounds_toArray, List.set_cons_zero, List.set_cons_succ])
        simp only [Sx.wpE]
        (refine Sx.wpM_one 9 _ (by simp only [List.getElem?_toArray, List.getElem?_cons_zero, List.getElem?_cons_succ]; rfl) (by kernel_rfl) (by rfl) ?_)
        intro X hX hS
        (go_simp; simp only [LUpon, Act.put]; try simp only [List.setIfInBounds_toArray, List.set_cons_zero, List.set_cons_succ])
        refine (factorsOf_any X Aj mj cj sj p (HKj.out.below (hbc3.trans (hS.mono hzc3)) (hbc3.trans (hS.mono hzc3)).size) hokj HP.out hmj12).mono ?_
        rintro e X1 ⟨v1, rfl, ho1, hq1⟩
        obtain ⟨A1, c1, hv1, hs1⟩ := sl_of_owns ho1
        subst hv1
        have hS1 : Below V3.heap.size V3 X1 := hS.trans (hq1.mono hS.size)
        refine ⟨_, rfl, hS1, ?_⟩
        refine Sx.wpM_narrow (S' := fun W => Below V3.heap.size V3 W ∧ Below X1.heap.size X1 W) (fun W W' h he => ⟨h.1.trans (he.mono h.1.size), h.2.trans (he.mono h.2.size)⟩) (fun W h => h.1) _ _ _ _ ⟨hS1, Below.refl _ _⟩ ?_
        (refine Sx.wpM_one 15 _ (by simp only [List.getElem?_toArray, List.getElem?_cons_zero, List.getElem?_cons_succ]; rfl) (by kernel_rfl) (by rfl) ?_)
        intro X2 hX2 hS2
        (go_simp; simp only [LUpon, Act.put]; try simp only [List.setIfInBounds_toArray, List.set_cons_zero, List.set_cons_succ])
        refine (factorsOf_any X2 As ms cs s p (HK.out.below (hbc3.trans (hS2.1.mono hzc3)) (hbc3.trans (hS2.1.mono hzc3)).size) hok HP.out hms).mono ?_
        rintro e X3 ⟨v2, rfl, ho2, hq2⟩
        obtain ⟨A2, c2, hv2, hs2⟩ := sl_of_owns ho2
        subst hv2
        have hS3 : Below V3.heap.size V3 X3 ∧ Below X1.heap.size X1 X3 := ⟨hS2.1.trans (hq2.mono hS2.1.size), hS2.2.trans (hq2.mono hS2.2.size)⟩
        refine ⟨_, rfl, hS3, ?_⟩
        refine Sx.wpM_narrow (S' := fun W => Below V3.heap.size V3 W ∧ Below X1.heap.size X1 W ∧ Below X3.heap.size X3 W) (fun W W' h he => ⟨h.1.trans (he.mono h.1.size), h.2.1.trans (he.mono h.2.1.size), h.2.2.trans (he.mono h.2.2.size)⟩) (fun W h => ⟨h.1, h.2.1⟩) _ _ _ _ ⟨hS3.1, hS3.2, Below.refl _ _⟩ ?_
        (refine Sx.wpM_one 16 _ (by simp only [List.getElem?_toArray, List.getElem?_cons_zero, List.getElem?_cons_succ]; rfl) (by kernel_rfl) (by rfl) ?_)
        intro X4 hX4 hS4
        (go_simp; simp only [LUpon, Act.put]; try simp only [List.setIfInBounds_toArray, List.set_cons_zero, List.set_cons_succ])
        refine (before_any X4 A1 A2 mj c1 ms c2 (factsL p sj) (factsL p s) (InS.below (show InS X1 X1.heap.size A1 mj (factsL p sj) from hs1) hS4.2.1 hS4.2.1.size) (InS.below (show InS X3 X3.heap.size A2 ms (factsL p s) from hs2) hS4.2.2 hS4.2.2.size) (by omega) (by omega)).mono ?_
        rw [hch.out]
        rintro e X5 ⟨rfl, hq5⟩
        refine ⟨_, rfl, ⟨hS4.1.trans (hq5.mono hS4.1.size), hS4.2.1.trans (hq5.mono hS4.2.1.size), hS4.2.2.trans (hq5.mono hS4.2.2.size)⟩, ?_⟩
        (refine Sx.wpM_one 17 _ (by simp only [List.getElem?_toArray, List.getElem?_cons_zero, List.getElem?_cons_succ]; rfl) (by kernel_rfl) (by rfl) ?_)
        intro X6 hX6 hS6
        (go_simp; simp only [LUpon, Act.put]; try simp only [List.setIfInBounds_toArray, List.set_cons_zero, List.set_cons_succ])
        refine ⟨hS6, ?_⟩
        (refine Sx.wpM_one 18 _ (by simp only [List.getElem?_toArray, List.getElem?_cons_zero, List.getElem?_cons_succ]; rfl) (by kernel_rfl) (by rfl) ?_)
        intro X7 hX7 hS7
        (go_simp; simp only [LUpon, Act.put]; try simp only [List.setIfInBounds_toArray, List.set_cons_zero, List.set_cons_succ])
        refine ⟨hS7, ?_⟩
        refine Sx.wpM_end (by kernel_rfl) ?_
        intro V4 hV4 hS8
        have hb4 := hS8.1
        clear hX hS hX2 hS2 hX4 hS4 hX6 hS6 hX7 hS7 hs1 hs2 ho1 ho2 hS1 hS3 hq1 hq2 hq5 hV4 hS8
        go_wp2
        exact ⟨⟨k + 1, by omega, by go_num, by rw [← HB0.out]; exact hbK.out.trans ((hbc3.trans (hb4.mono hzc3)).mono hszB)⟩, by simp [intOf]; omega⟩
    · obtain rfl : k = LS.length := by omega
      obtain ⟨V0, rfl⟩ : ∃ V0 : World, V0 = W1 := ⟨_, rfl⟩
      go_wp2_with (fail)
      refine (works_any _).mono ?_
      rintro e V1 ⟨rfl, hb⟩
      have hst := hbel.trans (hb.mono hsz)
      go_wp2
      go_ret
      exact ⟨rfl, hst⟩

section
open Go.ChangeShapes Go.WideShapes Go.ChangeAt Go.RowKit
set_option maxRecDepth 100000 in
theorem stoneCounted_lifted (os : Os) (started : os.Started) (H : Type) (enc : TypeId × Value → H) :
    ReturnsInHanded {} Try.checked os 11 .any (Rows.stoneCountedSpec.pre6 enc Try.prog Try.f11 Rows.stoneCountedRow.domain false) (Rows.stoneCountedSpec.post enc Try.prog Try.f11 false true false false) := by
  refine returnsInHanded_of_change (C := Try.checked) ownKx started (by kernel_rfl) Try.func11
    (ChangeSpec.witness6 (enc := enc) (C := Try.checked) false ⟨#[], #[.int .u8 0, .bool false], []⟩ 8 (by kernel_rfl) (by kernel_rfl) (by kernel_rfl) (by kernel_rfl)) ?_
  intro W base args ds gs before hval0 hW hcnd _
  have hval : ∀ (j : Nat) t v, Try.f11.params[j]? = some t → args[j]? = some v → Value.okWide Try.prog W .any base t v := hval0
  have hW' := hW
  obtain ⟨p, q, hA0, hV, rfl, hfz, hnd⟩ := hW
  have hA : DataW.TrodAll enc Try.prog W 0 (fun _ => true) true Try.f11.params.toList args.toList ds p := hA0
  have hlt : ∀ x ∈ p, x.block < W.heap.size := fun x hx => hW'.lt x (List.mem_append_left _ hx)
  have hAll : ∀ W', Below W.heap.size W W' → DataW.TrodAll enc Try.prog W' 0 (fun b => decide (b < W.heap.size)) true Try.f11.params.toList args.toList ds p := fun W' hb => all_below laidOut hb (readable_of (by kernel_rfl)) hlt hA
  rw [Try.params11] at hA hval
  obtain ⟨v0, v1, d0, d1, p0, p1, rfl, rfl, rfl, h0, h1⟩ := trodAll_two hA
  obtain ⟨rfl, rfl⟩ := trodVars_none hV
  clear hA0 hval0
  obtain ⟨x0, rfl, rfl, rfl, wx0⟩ := open_int Try.underlying5 (hval 0 5 v0 rfl rfl) h0
  obtain ⟨x1, rfl, rfl, rfl⟩ := open_bool Try.underlying4 (hval 1 4 v1 rfl rfl) h1
  refine (counted_walk W x1 x0 (u8_bd wx0)).mono fun e W' ⟨he, hb⟩ => ?_
  subst he
  exact ⟨_, rfl, ⟨_, _, _, [], _, [], hW', trodAll_cons_mk (shut_bool Try.underlying4 _) trodAll_mk0, hAll W' hb, rfl, hb.frame _, fun h => by cases h⟩⟩
/-- The law: whatever the input, it returns true, and the input reads as it did. -/
theorem stoneCounted_holds : Rows.StoneCountedSaid :=
  OpenClaim.holds_of_wide 11 Try.f11 rfl rfl rfl rfl rfl rfl rfl ⟨rfl, rfl, rfl, rfl, rfl⟩ rfl rfl rfl rfl rfl (by kernel_rfl) Try.func11 (by kernel_rfl)
    (of_decide_eq_true (by kernel_rfl)) (by unfold Func.isWrapper; first | (rw [if_pos (by decide +kernel)]; kernel_rfl) | (rw [if_neg (by decide +kernel)]; exact ⟨rfl, rfl⟩))
    (fun os started H enc _ => stoneCounted_lifted os started H enc)
end
end Go.Proofs.Ytolghmhodaphfaa

