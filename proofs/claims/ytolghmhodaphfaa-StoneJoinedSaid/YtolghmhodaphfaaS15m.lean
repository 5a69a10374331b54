/- The statement StoneJoined holds: whatever the arguments, the law returns true and leaves its arguments as they were. -/
import Derived.Test.YtolghmhodaphfaaMs
import Derived.Test.YtolghmhodaphfaaMp
import Derived.Test.YtolghmhodaphfaaMn
namespace Go.Proofs.Ytolghmhodaphfaa
open Go.RowKit Go.Shelf
attribute [local go_sem] Oper.semAt_some
set_option maxRecDepth 100000 in
set_option maxHeartbeats 4000000 in
theorem joined_walk (w : World) (x0 x1 x2 x3 : Int) (bo : Bool) (hx0 : 0 ≤ x0 ∧ x0 ≤ 255) (hx1 : 0 ≤ x1 ∧ x1 ≤ 255) (hx2 : 0 ≤ x2 ∧ x2 ≤ 255) (hx3 : 0 ≤ x3 ∧ x3 ≤ 255) :
    Calls Try.prog 15 #[.int .u8 x0, .int .u8 x1, .int .u8 x2, .int .u8 x3, .bool bo] w fun e w' => e = .returned (.bool true) ∧ Below w.heap.size w w' := by
  obtain ⟨p, hp⟩ : ∃ p, pansOf bo = p := ⟨_, rfl⟩
  have HP := hid (pansOf_or bo)
  rw [hp] at HP
  have Hp := hid hp
  clear hp
  obtain ⟨i0, hi0, hi1, hi2, hi3⟩ := info_parts' info61
  have I0 := hid hi0; have I1 := hid hi1; have I2 := hid hi2; have I3 := hid hi3
  obtain ⟨j0, hj0, hj1, hj2, hj3⟩ := info_parts' info2
  have J0 := hid hj0; have J1 := hid hj1; have J2 := hid hj2; have J3 := hid hj3
  clear hi0 hi1 hi2 hi3 hj0 hj1 hj2 hj3
  obtain ⟨qx01, qx02⟩ := hx0
  obtain ⟨ra, hra⟩ : ∃ r, x0 % 20 = r := ⟨_, rfl⟩
  have ha1 := Int.emod_nonneg x0 (b := 20) (by omega)
  have ha2 := Int.emod_lt_of_pos x0 (b := 20) (by omega)
  rw [hra] at ha1 ha2
  have za1 : x0.tmod 20 = ra := by rw [Int.tmod_eq_emod_of_nonneg qx01]; exact hra
  have za2 : IntKind.u8.wrap ra = ra := IntWalk.u8_in _ (by omega)
  have za3 : IntKind.i64.wrap ra = ra := wrap_ok (by omega)
  obtain ⟨a, ha0⟩ : ∃ a, 1 + ra = a := ⟨_, rfl⟩
  have za4 : IntKind.i64.wrap (1 + ra) = a := by rw [ha0]; exact wrap_ok (by omega)
  have Ba : Hid (1 ≤ a ∧ a ≤ 60) := hid (by omega)
  have Ba20 : Hid (a ≤ 20) := hid (by omega)
  clear hra ha1 ha2 ha0
  obtain ⟨qx11, qx12⟩ := hx1
  obtain ⟨rb, hrb⟩ : ∃ r, x1 % 20 = r := ⟨_, rfl⟩
  have hb1 := Int.emod_nonneg x1 (b := 20) (by omega)
  have hb2 := Int.emod_lt_of_pos x1 (b := 20) (by omega)
  rw [hrb] at hb1 hb2
  have zb1 : x1.tmod 20 = rb := by rw [Int.tmod_eq_emod_of_nonneg qx11]; exact hrb
  have zb2 : IntKind.u8.wrap rb = rb := IntWalk.u8_in _ (by omega)
  have zb3 : IntKind.i64.wrap rb = rb := wrap_ok (by omega)
  obtain ⟨b, hb0⟩ : ∃ a, 1 + rb = a := ⟨_, rfl⟩
  have zb4 : IntKind.i64.wrap (1 + rb) = b := by rw [hb0]; exact wrap_ok (by omega)
  have Bb : Hid (1 ≤ b ∧ b ≤ 60) := hid (by omega)
  have Bb20 : Hid (b ≤ 20) := hid (by omega)
  clear hrb hb1 hb2 hb0
  have FLA := hid (counted_perf HP.out Ba.out.1 Ba.out.2)
  have OLA := hid (counted_facts HP.out Ba.out.1 Ba.out.2).1
  obtain ⟨LA, hLA⟩ : ∃ L, allSets p a = L := ⟨_, rfl⟩
  rw [hLA] at FLA
  have HLA := hid hLA
  have gLA1 := FLA.out.2.1
  have gLA2 := FLA.out.2.2
  obtain ⟨qx21, qx22⟩ := hx2
  have zu0 : IntKind.i64.wrap x2 = x2 := wrap_ok (by omega)
  obtain ⟨u, hu0⟩ : ∃ j : Nat, x2 % (LA.length : Int) = j := ⟨(x2 % (LA.length : Int)).toNat, by have := Int.emod_nonneg x2 (b := (LA.length : Int)) (by omega); omega⟩
  have hu1 := Int.emod_lt_of_pos x2 (b := (LA.length : Int)) (by omega)
  rw [hu0] at hu1
  have hu2 : u < LA.length := by omega
  have zu1 : x2.tmod (LA.length : Int) = (u : Int) := by rw [Int.tmod_eq_emod_of_nonneg qx21]; exact hu0
  have zu2 : IntKind.i64.wrap (u : Int) = (u : Int) := wrap_ok (by omega)
  have zu3 : ¬ LA.length = 0 := by omega
  have zu4 : ¬ (LA.length : Int) = 0 := by omega
  have zu5 : ¬ (LA.length : Int) < 1 := by omega
  have zu6 : ¬ (1000 : Int) < LA.length := by omega
  have zu7 : (0 : Int) ≤ u := by omega
  have zu8 : LA ≠ [] := by intro e; rw [e] at gLA1; simp at gLA1
  clear hLA hu0
  have FLB := hid (counted_perf HP.out Bb.out.1 Bb.out.2)
  have OLB := hid (counted_facts HP.out Bb.out.1 Bb.out.2).1
  obtain ⟨LB, hLB⟩ : ∃ L, allSets p b = L := ⟨_, rfl⟩
  rw [hLB] at FLB
  have HLB := hid hLB
  have gLB1 := FLB.out.2.1
  have gLB2 := FLB.out.2.2
  obtain ⟨qx31, qx32⟩ := hx3
  have zv0 : IntKind.i64.wrap x3 = x3 := wrap_ok (by omega)
  obtain ⟨v, hv0⟩ : ∃ j : Nat, x3 % (LB.length : Int) = j := ⟨(x3 % (LB.length : Int)).toNat, by have := Int.emod_nonneg x3 (b := (LB.length : Int)) (by omega); omega⟩
  have hv1 := Int.emod_lt_of_pos x3 (b := (LB.length : Int)) (by omega)
  rw [hv0] at hv1
  have hv2 : v < LB.length := by omega
  have zv1 : x3.tmod (LB.length : Int) = (v : Int) := by rw [Int.tmod_eq_emod_of_nonneg qx31]; exact hv0
  have zv2 : IntKind.i64.wrap (v : Int) = (v : Int) := wrap_ok (by omega)
  have zv3 : ¬ LB.length = 0 := by omega
  have zv4 : ¬ (LB.length : Int) = 0 := by omega
  have zv5 : ¬ (LB.length : Int) < 1 := by omega
  have zv6 : ¬ (1000 : Int) < LB.length := by omega
  have zv7 : (0 : Int) ≤ v := by omega
  have zv8 : LB ≠ [] := by intro e; rw [e] at gLB1; simp at gLB1
  clear hLB hv0
  have hpa : Hid (1 ≤ p * a ∧ p * a ≤ 40) := hid (by have h1 := Ba.out; have h2 := Ba20.out; rcases HP.out with h | h <;> rw [h] <;> omega)
  obtain ⟨pa, hpa0⟩ : ∃ pa, p * a = pa := ⟨_, rfl⟩
  rw [hpa0] at hpa
  have hpa1 := hpa.out
  have zp1 : IntKind.i64.wrap (p * a) = pa := by rw [hpa0]; exact wrap_ok (by omega)
  have zp2 : IntKind.i64.wrap (pa + 1) = pa + 1 := wrap_ok (by omega)
  have HPA := hid hpa0
  clear hpa0
  go_enter Try.func15, Try.ntmps15
  obtain ⟨W0, hW0⟩ : ∃ W0 : World, W0 = w := ⟨_, rfl⟩
  rw [← hW0]
  clear hW0
  have hbel : Below W0.heap.size W0 W0 := Below.refl _ _
  have hsz := hbel.size
  go_wp2_with (fail)
  refine (pans_any _ _).mono ?_
  rw [Hp.out]
  rintro e W1 ⟨rfl, hb⟩
  have hst : Below W0.heap.size W0 W1 := Below.trans (by repeat' (first | with_reducible assumption | with_reducible exact Below.refl _ _ | refine Below.alloc ?_ ?_ _ | refine Below.setCell ?_ ?_ _ | refine Below.drew ?_ | refine below_drewN ?_ _ | (simp; done) | (simp; omega) | omega)) (hb.mono (by first | (simp; done) | (simp; omega) | omega))
  replace hbel := hbel.trans (hst.mono hsz)
  replace hsz := hbel.size
  clear hb hst
  obtain ⟨W0, rfl⟩ : ∃ W0 : World, W0 = W1 := ⟨_, rfl⟩
  go_wp2_with (fail)
  refine (all_any p a _).mono ?_
  rw [HLA.out, OLA.out]
  rintro e W1 ⟨Ax, nx, cx, rfl, hx, hb⟩
  have hnx := hx.1
  subst hnx
  have hst : Below W0.heap.size W0 W1 := Below.trans (by repeat' (first | with_reducible assumption | with_reducible exact Below.refl _ _ | refine Below.alloc ?_ ?_ _ | refine Below.setCell ?_ ?_ _ | refine Below.drew ?_ | refine below_drewN ?_ _ | (simp; done) | (simp; omega) | omega)) (hb.mono (by first | (simp; done) | (simp; omega) | omega))
  replace hbel := hbel.trans (hst.mono hsz)
  replace hsz := hbel.size
  have HX := hid hx
  clear hx
  clear hb hst
  obtain ⟨W0, rfl⟩ : ∃ W0 : World, W0 = W1 := ⟨_, rfl⟩
  go_wp2_with (fail)
  refine (all_any p b _).mono ?_
  rw [HLB.out, OLB.out]
  rintro e W1 ⟨Ay, ny, cy, rfl, hy, hb⟩
  have hny := hy.1
  subst hny
  have hst : Below W0.heap.size W0 W1 := Below.trans (by repeat' (first | with_reducible assumption | with_reducible exact Below.refl _ _ | refine Below.alloc ?_ ?_ _ | refine Below.setCell ?_ ?_ _ | refine Below.drew ?_ | refine below_drewN ?_ _ | (simp; done) | (simp; omega) | omega)) (hb.mono (by first | (simp; done) | (simp; omega) | omega))
  replace hbel := hbel.trans (hst.mono hsz)
  replace hsz := hbel.size
  replace HX := hid (HX.out.below hst hst.size)
  have HY := hid hy
  clear hy
  clear hb hst
  obtain ⟨W0, rfl⟩ : ∃ W0 : World, W0 = W1 := ⟨_, rfl⟩
  obtain ⟨bx, ox, ss, As, ms, cs, hAx, hbx, hms, cx0, hks⟩ := HX.out.at_ hu2
  subst hAx
  obtain ⟨by_, oy, ts, At, mt, ct, hAy, hby, hmt, cy0, hkt⟩ := HY.out.at_ hv2
  subst hAy
  go_wp2_with (fail)
  go_quiet (fail)
  have MS := hid (List.mem_of_getElem? hms)
  have MT := hid (List.mem_of_getElem? hmt)
  have HS := hid hks
  have HT := hid hkt
  clear hms hmt hks hkt cx0 cy0
  obtain ⟨s1, s2, s3⟩ := FLA.out.1 ss MS.out
  obtain ⟨t1, t2, t3⟩ := FLB.out.1 ts MT.out
  have S1 := hid s1
  have S2 := hid s2
  have T1 := hid t1
  have hsl := hid HS.out.len
  have htl := hid HT.out.len
  have hms8 : ms ≤ 8 := by have := hsl.out; have := (checkSet_good s1).2.1; omega
  have hms1 : 1 ≤ ms := by have := hsl.out; have := (checkSet_good s1).1; omega
  have hmt8 : mt ≤ 8 := by have := htl.out; have := (checkSet_good t1).2.1; omega
  have hsf := hid (fineB_of s1)
  have htf := hid (fineB_of t1)
  have hsok := hid (List.all_eq_true.1 (checkSet_good s1).2.2.1)
  have htok := hid (List.all_eq_true.1 (checkSet_good t1).2.2.1)
  have hssm := hid (fun k (hk : k ∈ ss) => smallK_of (hsok.out k hk))
  clear s1 s2 s3 t1 t2 t3
  obtain ⟨Bs, os, hAs, hBs⟩ : ∃ b o, As = some ⟨b, o, none⟩ ∧ b < _ := by obtain ⟨b, o, e, h, -⟩ := HS.out.2 (by omega); exact ⟨b, o, e, h⟩
  subst hAs
  clear hBs
  go_wp2_with (fail)
  refine (fine_any _ _ _ _ _ (HS.out.below (by repeat' (first | with_reducible assumption | with_reducible exact Below.refl _ _ | refine Below.alloc ?_ ?_ _ | refine Below.setCell ?_ ?_ _ | refine Below.drew ?_ | refine below_drewN ?_ _ | (simp; done) | (simp; omega) | omega)) (by first | (simp; done) | (simp; omega) | omega))).mono ?_
  rw [hsf.out]
  rintro e W1 ⟨rfl, hb⟩
  have hst : Below W0.heap.size W0 W1 := Below.trans (by repeat' (first | with_reducible assumption | with_reducible exact Below.refl _ _ | refine Below.alloc ?_ ?_ _ | refine Below.setCell ?_ ?_ _ | refine Below.drew ?_ | refine below_drewN ?_ _ | (simp; done) | (simp; omega) | omega)) (hb.mono (by first | (simp; done) | (simp; omega) | omega))
  replace hbel := hbel.trans (hst.mono hsz)
  replace hsz := hbel.size
  replace HS := hid (HS.out.below hst hst.size)
  replace HT := hid (HT.out.below hst hst.size)
  clear hb hst
  obtain ⟨W0, rfl⟩ : ∃ W0 : World, W0 = W1 := ⟨_, rfl⟩
  go_wp2_with (fail)
  refine (fine_any _ _ _ _ _ (HT.out.below (by repeat' (first | with_reducible assumption | with_reducible exact Below.refl _ _ | refine Below.alloc ?_ ?_ _ | refine Below.setCell ?_ ?_ _ | refine Below.drew ?_ | refine below_drewN ?_ _ | (simp; done) | (simp; omega) | omega)) (by first | (simp; done) | (simp; omega) | omega))).mono ?_
  rw [htf.out]
  rintro e W1 ⟨rfl, hb⟩
  have hst : Below W0.heap.size W0 W1 := Below.trans (by repeat' (first | with_reducible assumption | with_reducible exact Below.refl _ _ | refine Below.alloc ?_ ?_ _ | refine Below.setCell ?_ ?_ _ | refine Below.drew ?_ | refine below_drewN ?_ _ | (simp; done) | (simp; omega) | omega)) (hb.mono (by first | (simp; done) | (simp; omega) | omega))
  replace hbel := hbel.trans (hst.mono hsz)
  replace hsz := hbel.size
  replace HS := hid (HS.out.below hst hst.size)
  replace HT := hid (HT.out.below hst hst.size)
  clear hb hst
  obtain ⟨W0, rfl⟩ : ∃ W0 : World, W0 = W1 := ⟨_, rfl⟩
  go_wp2_with (fail)
  refine (refSum_any _ _ _ _ ss (HS.out.below (by repeat' (first | with_reducible assumption | with_reducible exact Below.refl _ _ | refine Below.alloc ?_ ?_ _ | refine Below.setCell ?_ ?_ _ | refine Below.drew ?_ | refine below_drewN ?_ _ | (simp; done) | (simp; omega) | omega)) (by first | (simp; done) | (simp; omega) | omega)) (by omega) hssm.out).mono ?_
  rw [S2.out]
  rintro e W1 ⟨rfl, hb⟩
  have hst : Below W0.heap.size W0 W1 := Below.trans (by repeat' (first | with_reducible assumption | with_reducible exact Below.refl _ _ | refine Below.alloc ?_ ?_ _ | refine Below.setCell ?_ ?_ _ | refine Below.drew ?_ | refine below_drewN ?_ _ | (simp; done) | (simp; omega) | omega)) (hb.mono (by first | (simp; done) | (simp; omega) | omega))
  replace hbel := hbel.trans (hst.mono hsz)
  replace hsz := hbel.size
  replace HS := hid (HS.out.below hst hst.size)
  replace HT := hid (HT.out.below hst hst.size)
  clear hb hst
  obtain ⟨W0, rfl⟩ : ∃ W0 : World, W0 = W1 := ⟨_, rfl⟩
  go_wp2_with (first | (at_builtin; refine wpList_append_src rfl _ _ 22 rfl W0.heap.size 61 i0 _ 2 16 under22 I0.out I1.out I2.out I3.out rfl (by decide) _ 0 [] rfl (own_full (n := 0) W0 (cur := #[]) (Nat.le_refl _) (by unfold maxLen; omega) rfl rfl) (some ⟨Bs, os, none⟩) ms cs (ss.flatMap cK) rfl W0.heap.size (Sl.alloc HS.out (Nat.le_refl _) _) (fun h => by cases h) (one_cKs _) (by unfold maxLen; omega) (by omega) (by simp) ?_; intro v3 w3 ho3 hg3 _ hat3; rw [List.nil_append, Nat.zero_add] at ho3; have hb3 : Below W0.heap.size W0 w3 := ((Below.refl _ _).alloc (Nat.le_refl _) _).grown hg3 (by simp) (fun r hr => by cases hr; exact Nat.le_refl _); have hz3 := hb3.size; have hown3 := hid ho3; clear ho3))
  have HSS := hid HS.out
  have HTT := hid HT.out
  go_loopw [19, 20] (fun v i wr => ∃ k : Nat, k ≤ mt ∧ i = .int .i64 k ∧ Below W0.heap.size W0 wr ∧ Hid (wr.ownsRow W0.heap.size 61 2 v (ms + k) ((ss ++ scK (pa + 1) (ts.take k)).flatMap cK))) (fun _ i _ => mt - (intOf i).toNat)
  case atStart => exact ⟨0, by omega, rfl, hb3, hid (by have := hown3.out; rw [show scK (pa + 1) (ts.take 0) = [] from rfl, List.append_nil]; exact this)⟩
  case round =>
    obtain ⟨k, hk2, rfl, hbw, hown⟩ := hrel
    have hszw := hbw.size
    by_cases hlt : k < mt
    · obtain ⟨b9, off, m, rfl, hb, hm, c0, c1⟩ := (HTT.out.below hbw (Nat.le_refl _)).at_ hlt
      have hmm := okK_le (htok.out m (List.mem_of_getElem? hm))
      have Hm := hid hm
      have hlti : (k : Int) < mt := by omega
      have hk0 : (0 : Int) ≤ k := by omega
      have hq0 : 0 ≤ m.wt * (pa + 1) ∧ m.wt * (pa + 1) ≤ 300 * 41 := ⟨Int.mul_nonneg (by omega) (by omega), Int.mul_le_mul hmm.2.1 (by omega) (by omega) (by omega)⟩
      obtain ⟨q, hq⟩ : ∃ q, m.wt * (pa + 1) = q := ⟨_, rfl⟩
      have xq1 : IntKind.i64.wrap (m.wt * (pa + 1)) = q := by rw [hq]; exact wrap_ok (by omega)
      have Hq := hid (show (pa + 1) * m.wt = q by rw [Int.mul_comm]; exact hq)
      have C0 := hid (((hbw.cell (p := ⟨b9, off + k * 2, none⟩) hb).symm.trans c0))
      have C1 := hid (((hbw.cell (p := ⟨b9, off + k * 2 + 1, none⟩) hb).symm.trans c1))
      clear hm hq c0 c1 hq0
      go_wp2
      refine Sx.wp_region_el (fun W => Below W0.heap.size W0 W) (hSb W0) [0, 1, 2, 3, 4, 5, 6, 7, 8, 9, 10, 11, 12, 13] 3 (by kernel_rfl) (by kernel_rfl) (hSb W0 _ _ hbw (Below.refl _ _).drew) ?_
      have hown1 := hid (owns_below hown.out (Below.refl _ _).drew)
      simp only [pick, List.getElem?_toArray, List.getElem?_cons_zero, List.getElem?_cons_succ]
      iterate 14 (refine Sx.wpE_val (v := ?_) (by rfl) (fun W hW => ?_) ?_; rotate_left; (· have q0 := ((bcell hW).1 b9 (off + k * 2) hb).trans C0.out; have q1 := ((bcell hW).1 b9 (off + k * 2 + 1) hb).trans C1.out; have lb : b9 < W.heap.size := Nat.lt_of_lt_of_le hb hW.size; go_simp; with_reducible rfl); simp only [Act.put, List.setIfInBounds_toArray, List.set_cons_zero, List.set_cons_succ])
      simp only [Sx.wpE]
      (refine Sx.wpM_one 14 _ (by simp only [List.getElem?_toArray, List.getElem?_cons_zero, List.getElem?_cons_succ]; rfl) (by kernel_rfl) (by rfl) ?_)
      intro X1 hX1 hS1
      have hown2 := hid (owns_below hown1.out hX1)
      (go_simp; simp only [LUpon, Act.put]; try simp only [List.setIfInBounds_toArray, List.set_cons_zero, List.set_cons_succ])
      refine ⟨hS1.alloc hS1.size _, ?_⟩
      have b8 : Blk (X1.alloc (.cells #[.int .i64 q, .int .i64 m.many] 61)) X1.heap.size 61 #[.int .i64 q, .int .i64 m.many] := Blk.new _ _ _
      have hown3 := hid (hown2.out.alloc (.cells #[.int .i64 q, .int .i64 m.many] 61))
      generalize hB9 : X1.heap.size = B9 at *
      generalize X1.alloc (.cells #[.int .i64 q, .int .i64 m.many] 61) = X1b at *
      (refine Sx.wpM_one 15 _ (by simp only [List.getElem?_toArray, List.getElem?_cons_zero, List.getElem?_cons_succ]; rfl) (by kernel_rfl) (by rfl) ?_)
      intro X2 hX2 hS2
      have b10 := b8.below hX2 b8.lt
      refine lupon_append_own _ _ _ 22 rfl W0.heap.size 61 i0 _ 2 16 under22 I0.out I1.out I2.out I3.out rfl (by decide) _ (ms + k) _ (by rfl) (owns_below hown3.out hX2) ⟨B9, 0, none⟩ 1 1 (cK ⟨q, m.many⟩) (by rfl) rfl (fun j u hj => World.news_of_block b10 j u hj) (one_cK _) (by unfold maxLen; omega) (by omega) hS2.size ?_
      intro v4 w4 ho4 hg4
      refine ⟨hS2.grown hg4 hS2.size (fun r hr => (World.ownsRow.lt (owns_below hown3.out hX2) r hr).1), ?_⟩
      simp only [Act.put, List.setIfInBounds_toArray, List.set_cons_zero, List.set_cons_succ]
      (refine Sx.wpM_one 16 _ (by simp only [List.getElem?_toArray, List.getElem?_cons_zero, List.getElem?_cons_succ]; rfl) (by kernel_rfl) (by rfl) ?_)
      intro X4 hX4 hS4
      have ho5 := hid (owns_below ho4 hX4)
      (go_simp; simp only [LUpon, Act.put]; try simp only [List.setIfInBounds_toArray, List.set_cons_zero, List.set_cons_succ])
      refine ⟨hS4, ?_⟩
      refine Sx.wpM_end (by kernel_rfl) ?_
      intro X5 hX5 hS5
      have ho6 := hid (owns_below ho5.out hX5)
      clear ho4 hown1 hown2 hown3 ho5 b8 b10
      go_wp2
      refine ⟨⟨k + 1, by omega, by go_num, hS5, hid ?_⟩, by simp [intOf]; omega⟩
      have h6 := ho6.out
      rw [List.flatMap_append, List.append_assoc, ← Hq.out, ← scK_take Hm.out, ← List.flatMap_append] at h6
      exact h6
    · obtain rfl : k = mt := by omega
      have hown2 := hown.out
      rw [List.take_of_length_le (by rw [htl.out]; exact Nat.le_refl _)] at hown2
      obtain ⟨xs, hxs⟩ : ∃ xs, ss ++ scK (pa + 1) ts = xs := ⟨_, rfl⟩
      rw [hxs] at hown2
      obtain ⟨A3, c3, hvx, hsx⟩ := sl_of_owns hown2
      subst hvx
      replace HS := hid (HSS.out.below hbw hszw)
      replace HT := hid (HTT.out.below hbw hszw)
      have HZ := hid (show KdS wr wr.heap.size A3 (ms + k) xs from hsx)
      clear HSS HTT hown hown2 hown3 hsx hb3 hg3 hat3
      replace hbel := hbel.trans (hbw.mono hsz)
      replace hsz := hbel.size
      clear hbw
      obtain ⟨W0, rfl⟩ : ∃ W0 : World, W0 = wr := ⟨_, rfl⟩
      cases hfx : fineB xs
      · have Hfx := hid hfx
        clear hfx
        go_wp2_with (fail)
        refine (fine_any _ _ _ _ _ (HZ.out.below (by repeat' (first | with_reducible assumption | with_reducible exact Below.refl _ _ | refine Below.alloc ?_ ?_ _ | refine Below.setCell ?_ ?_ _ | refine Below.drew ?_ | refine below_drewN ?_ _ | (simp; done) | (simp; omega) | omega)) (by first | (simp; done) | (simp; omega) | omega))).mono ?_
        rw [Hfx.out]
        rintro e W1 ⟨rfl, hb⟩
        have hst : Below W0.heap.size W0 W1 := Below.trans (by repeat' (first | with_reducible assumption | with_reducible exact Below.refl _ _ | refine Below.alloc ?_ ?_ _ | refine Below.setCell ?_ ?_ _ | refine Below.drew ?_ | refine below_drewN ?_ _ | (simp; done) | (simp; omega) | omega)) (hb.mono (by first | (simp; done) | (simp; omega) | omega))
        replace hbel := hbel.trans (hst.mono hsz)
        replace hsz := hbel.size
        replace HS := hid (HS.out.below hst hst.size)
        replace HT := hid (HT.out.below hst hst.size)
        replace HZ := hid (HZ.out.below hst hst.size)
        clear hb hst
        obtain ⟨W0, rfl⟩ : ∃ W0 : World, W0 = W1 := ⟨_, rfl⟩
        go_wp2_with (fail)
        refine (works_any _).mono ?_
        rintro e W1 ⟨rfl, hb⟩
        have hst : Below W0.heap.size W0 W1 := Below.trans (by repeat' (first | with_reducible assumption | with_reducible exact Below.refl _ _ | refine Below.alloc ?_ ?_ _ | refine Below.setCell ?_ ?_ _ | refine Below.drew ?_ | refine below_drewN ?_ _ | (simp; done) | (simp; omega) | omega)) (hb.mono (by first | (simp; done) | (simp; omega) | omega))
        replace hbel := hbel.trans (hst.mono hsz)
        replace hsz := hbel.size
        replace HS := hid (HS.out.below hst hst.size)
        replace HT := hid (HT.out.below hst hst.size)
        replace HZ := hid (HZ.out.below hst hst.size)
        clear hb hst
        obtain ⟨W0, rfl⟩ : ∃ W0 : World, W0 = W1 := ⟨_, rfl⟩
        go_wp2
        go_ret
        exact ⟨rfl, hbel⟩
      · have Hfx := hid hfx
        have h0x := (fineB_good hfx).1
        have hxn : ms + k ≤ 12 := by have := HZ.out.len; have := (fineB_good hfx).2; omega
        have hjf := joined_facts HP.out Ba.out.1 Ba.out.2 Bb.out.1 Bb.out.2 (by rw [HLA.out]; exact MS.out) (by rw [HLB.out]; exact MT.out) (by rw [HPA.out, hxs]; exact h0x)
        rw [HPA.out, hxs] at hjf
        obtain ⟨e1, e2, e3⟩ := hjf
        obtain ⟨sx, hsx⟩ : ∃ sx, sumOf xs = sx := ⟨_, rfl⟩
        rw [hsx] at e2
        have E1 := hid e1
        have E2 := hid e2
        have E3 := hid e3
        have ESX := hid hsx
        have hxsm := hid (fun k (hk : k ∈ xs) => smallK_of (List.all_eq_true.1 (checkSet_good h0x).2.2.1 k hk))
        have hfl1 : Hid ((factsL p ss).length = ms) := hid (by unfold factsL; rw [List.length_map]; exact hsl.out)
        have hfl2 : Hid ((factsL p ts).length = k) := hid (by unfold factsL; rw [List.length_map]; exact htl.out)
        have hfl3 : Hid ((factsL p xs).length = ms + k) := hid (by rw [e3, List.length_append, hfl1.out, hfl2.out])
        have heq : Hid (eqI (factsL p xs) (factsL p ss ++ factsL p ts) = true) := hid (eqI_t.2 e3)
        clear hfx h0x e1 e2 e3 hsx hxs
        go_wp2_with (fail)
        refine (fine_any _ _ _ _ _ (HZ.out.below (by repeat' (first | with_reducible assumption | with_reducible exact Below.refl _ _ | refine Below.alloc ?_ ?_ _ | refine Below.setCell ?_ ?_ _ | refine Below.drew ?_ | refine below_drewN ?_ _ | (simp; done) | (simp; omega) | omega)) (by first | (simp; done) | (simp; omega) | omega))).mono ?_
        rw [Hfx.out]
        rintro e W1 ⟨rfl, hb⟩
        have hst : Below W0.heap.size W0 W1 := Below.trans (by repeat' (first | with_reducible assumption | with_reducible exact Below.refl _ _ | refine Below.alloc ?_ ?_ _ | refine Below.setCell ?_ ?_ _ | refine Below.drew ?_ | refine below_drewN ?_ _ | (simp; done) | (simp; omega) | omega)) (hb.mono (by first | (simp; done) | (simp; omega) | omega))
        replace hbel := hbel.trans (hst.mono hsz)
        replace hsz := hbel.size
        replace HS := hid (HS.out.below hst hst.size)
        replace HT := hid (HT.out.below hst hst.size)
        replace HZ := hid (HZ.out.below hst hst.size)
        clear hb hst
        obtain ⟨W0, rfl⟩ : ∃ W0 : World, W0 = W1 := ⟨_, rfl⟩
        go_wp2_with (fail)
        refine (perfect_any _ _ _ _ xs p (HZ.out.below (by repeat' (first | with_reducible assumption | with_reducible exact Below.refl _ _ | refine Below.alloc ?_ ?_ _ | refine Below.setCell ?_ ?_ _ | refine Below.drew ?_ | refine below_drewN ?_ _ | (simp; done) | (simp; omega) | omega)) (by first | (simp; done) | (simp; omega) | omega)) hxn).mono ?_
        rw [E1.out, E2.out]
        rintro e W1 ⟨rfl, hb⟩
        have hst : Below W0.heap.size W0 W1 := Below.trans (by repeat' (first | with_reducible assumption | with_reducible exact Below.refl _ _ | refine Below.alloc ?_ ?_ _ | refine Below.setCell ?_ ?_ _ | refine Below.drew ?_ | refine below_drewN ?_ _ | (simp; done) | (simp; omega) | omega)) (hb.mono (by first | (simp; done) | (simp; omega) | omega))
        replace hbel := hbel.trans (hst.mono hsz)
        replace hsz := hbel.size
        replace HS := hid (HS.out.below hst hst.size)
        replace HT := hid (HT.out.below hst hst.size)
        replace HZ := hid (HZ.out.below hst hst.size)
        clear hb hst
        obtain ⟨W0, rfl⟩ : ∃ W0 : World, W0 = W1 := ⟨_, rfl⟩
        go_wp2_with (fail)
        refine (factors_any _ _ _ _ xs p (HZ.out.below (by repeat' (first | with_reducible assumption | with_reducible exact Below.refl _ _ | refine Below.alloc ?_ ?_ _ | refine Below.setCell ?_ ?_ _ | refine Below.drew ?_ | refine below_drewN ?_ _ | (simp; done) | (simp; omega) | omega)) (by first | (simp; done) | (simp; omega) | omega)) hxn).mono ?_
        rw [E1.out]
        rintro e W1 ⟨v1, rfl, ho1, hb⟩
        rw [if_pos rfl] at ho1
        obtain ⟨A1, c1, hv1, hs1⟩ := sl_of_owns ho1
        subst hv1
        clear ho1
        rw [hfl3.out] at hs1 ⊢
        have hst : Below W0.heap.size W0 W1 := Below.trans (by repeat' (first | with_reducible assumption | with_reducible exact Below.refl _ _ | refine Below.alloc ?_ ?_ _ | refine Below.setCell ?_ ?_ _ | refine Below.drew ?_ | refine below_drewN ?_ _ | (simp; done) | (simp; omega) | omega)) (hb.mono (by first | (simp; done) | (simp; omega) | omega))
        replace hbel := hbel.trans (hst.mono hsz)
        replace hsz := hbel.size
        replace HS := hid (HS.out.below hst hst.size)
        replace HT := hid (HT.out.below hst hst.size)
        replace HZ := hid (HZ.out.below hst hst.size)
        have HF := hid (show InS W1 W1.heap.size A1 _ (factsL p xs) from hs1)
        clear hb hst
        obtain ⟨W0, rfl⟩ : ∃ W0 : World, W0 = W1 := ⟨_, rfl⟩
        clear hs1
        go_wp2_with (fail)
        refine (refSum_any _ _ _ _ xs (HZ.out.below (by repeat' (first | with_reducible assumption | with_reducible exact Below.refl _ _ | refine Below.alloc ?_ ?_ _ | refine Below.setCell ?_ ?_ _ | refine Below.drew ?_ | refine below_drewN ?_ _ | (simp; done) | (simp; omega) | omega)) (by first | (simp; done) | (simp; omega) | omega)) (by omega) hxsm.out).mono ?_
        rw [ESX.out]
        rintro e W1 ⟨rfl, hb⟩
        have hst : Below W0.heap.size W0 W1 := Below.trans (by repeat' (first | with_reducible assumption | with_reducible exact Below.refl _ _ | refine Below.alloc ?_ ?_ _ | refine Below.setCell ?_ ?_ _ | refine Below.drew ?_ | refine below_drewN ?_ _ | (simp; done) | (simp; omega) | omega)) (hb.mono (by first | (simp; done) | (simp; omega) | omega))
        replace hbel := hbel.trans (hst.mono hsz)
        replace hsz := hbel.size
        replace HS := hid (HS.out.below hst hst.size)
        replace HT := hid (HT.out.below hst hst.size)
        replace HZ := hid (HZ.out.below hst hst.size)
        replace HF := hid (HF.out.below hst hst.size)
        clear hb hst
        obtain ⟨W0, rfl⟩ : ∃ W0 : World, W0 = W1 := ⟨_, rfl⟩
        obtain ⟨Wb, hWb⟩ : ∃ Wb : World, Wb = W0 := ⟨_, rfl⟩
        have HFb := hid (show InS Wb Wb.heap.size A1 (ms + k) (factsL p xs) by rw [hWb]; exact HF.out)
        have hbb : Below Wb.heap.size Wb W0 := by rw [hWb]; exact Below.refl _ _
        have hbw := hid hbel
        have hszw := hid hsz
        have HWb := hid hWb
        clear hWb
        clear HZ
        clear HF
        go_wp2_with (fail)
        refine (factorsOf_any _ _ _ _ ss p (HS.out.below (by repeat' (first | with_reducible assumption | with_reducible exact Below.refl _ _ | refine Below.alloc ?_ ?_ _ | refine Below.setCell ?_ ?_ _ | refine Below.drew ?_ | refine below_drewN ?_ _ | (simp; done) | (simp; omega) | omega)) (by first | (simp; done) | (simp; omega) | omega)) hsok HP.out (by omega)).mono ?_
        rintro e W1 ⟨v5, rfl, ho5, hb⟩
        have Ho5 := hid (show W1.ownsRow Wb.heap.size 2 1 v5 ms ((factsL p ss).flatMap cI) by rw [HWb.out]; exact ho5)
        clear ho5
        replace hbb := hbb.trans (hb.mono hbb.size)
        have hst : Below W0.heap.size W0 W1 := Below.trans (by repeat' (first | with_reducible assumption | with_reducible exact Below.refl _ _ | refine Below.alloc ?_ ?_ _ | refine Below.setCell ?_ ?_ _ | refine Below.drew ?_ | refine below_drewN ?_ _ | (simp; done) | (simp; omega) | omega)) (hb.mono (by first | (simp; done) | (simp; omega) | omega))
        replace hbel := hbel.trans (hst.mono hsz)
        replace hsz := hbel.size
        replace HS := hid (HS.out.below hst hst.size)
        replace HT := hid (HT.out.below hst hst.size)
        clear hb hst
        obtain ⟨W0, rfl⟩ : ∃ W0 : World, W0 = W1 := ⟨_, rfl⟩
        go_wp2_with (fail)
        refine (factorsOf_any _ _ _ _ ts p (HT.out.below (by repeat' (first | with_reducible assumption | with_reducible exact Below.refl _ _ | refine Below.alloc ?_ ?_ _ | refine Below.setCell ?_ ?_ _ | refine Below.drew ?_ | refine below_drewN ?_ _ | (simp; done) | (simp; omega) | omega)) (by first | (simp; done) | (simp; omega) | omega)) htok HP.out (by omega)).mono ?_
        rintro e W1 ⟨v6, rfl, ho6, hb⟩
        obtain ⟨A6, c6, hv6, hs6, hA6⟩ := own_src ho6
        subst hv6
        clear ho6
        replace Ho5 := hid (owns_below Ho5.out hb)
        replace hbb := hbb.trans (hb.mono hbb.size)
        have Hs6 := hid hs6
        have HA6 := hid hA6
        clear hs6 hA6
        have hst : Below W0.heap.size W0 W1 := Below.trans (by repeat' (first | with_reducible assumption | with_reducible exact Below.refl _ _ | refine Below.alloc ?_ ?_ _ | refine Below.setCell ?_ ?_ _ | refine Below.drew ?_ | refine below_drewN ?_ _ | (simp; done) | (simp; omega) | omega)) (hb.mono (by first | (simp; done) | (simp; omega) | omega))
        replace hbel := hbel.trans (hst.mono hsz)
        replace hsz := hbel.size
        replace HS := hid (HS.out.below hst hst.size)
        replace HT := hid (HT.out.below hst hst.size)
        clear hb hst
        obtain ⟨W0, rfl⟩ : ∃ W0 : World, W0 = W1 := ⟨_, rfl⟩
        go_wp2_with (first | (at_builtin; refine wpList_append_srcG (by rfl) _ _ 23 rfl Wb.heap.size 2 j0 _ 1 8 under23 J0.out J1.out J2.out J3.out rfl (by decide) _ ms ((factsL p ss).flatMap cI) rfl Ho5.out A6 k c6 ((factsL p ts).flatMap cI) rfl _ Hs6.out HA6.out (one_flatI _) (by unfold maxLen; omega) (by omega) hbb.size ?_; intro v7 w7 ho7 hg7 _ _; rw [← List.flatMap_append] at ho7; obtain ⟨A7, c7, hv7, hs7⟩ := sl_of_owns ho7; subst hv7; have hb7 : Below Wb.heap.size Wb w7 := hbb.grown hg7 hbb.size (fun r hr => (World.ownsRow.lt Ho5.out r hr).1); have Hs7 := hid (show InS w7 w7.heap.size A7 (ms + k) (factsL p ss ++ factsL p ts) from hs7); clear hs7 ho7 hg7))
        clear hbel hsz
        have hbel := hbw.out
        have hsz := hszw.out
        rw [← HWb.out] at hbel hsz
        replace hbel := hbel.trans (hb7.mono hsz)
        replace hsz := hbel.size
        refine (longs_any _ _ _ _ _ _ _ (factsL p xs) (factsL p ss ++ factsL p ts) (HFb.out.below hb7 hb7.size) Hs7.out (by omega)).mono ?_
        rw [heq.out]
        rintro e W1 ⟨rfl, hb⟩
        have hst : Below w7.heap.size w7 W1 := hb
        replace hbel := hbel.trans (hst.mono hsz)
        replace hsz := hbel.size
        clear hb hst
        obtain ⟨W0, rfl⟩ : ∃ W0 : World, W0 = W1 := ⟨_, rfl⟩
        go_wp2_with (fail)
        refine (works_any _).mono ?_
        rintro e W1 ⟨rfl, hb⟩
        have hst : Below W0.heap.size W0 W1 := Below.trans (by repeat' (first | with_reducible assumption | with_reducible exact Below.refl _ _ | refine Below.alloc ?_ ?_ _ | refine Below.setCell ?_ ?_ _ | refine Below.drew ?_ | refine below_drewN ?_ _ | (simp; done) | (simp; omega) | omega)) (hb.mono (by first | (simp; done) | (simp; omega) | omega))
        replace hbel := hbel.trans (hst.mono hsz)
        replace hsz := hbel.size
        clear hb hst
        obtain ⟨W0, rfl⟩ : ∃ W0 : World, W0 = W1 := ⟨_, rfl⟩
        go_wp2
        go_ret
        exact ⟨rfl, hbel⟩

section
open Go.ChangeShapes Go.WideShapes Go.ChangeAt Go.RowKit
set_option maxRecDepth 100000 in
theorem stoneJoined_lifted (os : Os) (started : os.Started) (H : Type) (enc : TypeId × Value → H) :
    ReturnsInHanded {} Try.checked os 15 .any (Rows.stoneJoinedSpec.pre6 enc Try.prog Try.f15 Rows.stoneJoinedRow.domain false) (Rows.stoneJoinedSpec.post enc Try.prog Try.f15 false true false false) := by
  refine returnsInHanded_of_change (C := Try.checked) ownKx started (by kernel_rfl) Try.func15
    (ChangeSpec.witness6 (enc := enc) (C := Try.checked) false ⟨#[], #[.int .u8 0, .int .u8 0, .int .u8 0, .int .u8 0, .bool false], []⟩ 8 (by kernel_rfl) (by kernel_rfl) (by kernel_rfl) (by kernel_rfl)) ?_
  intro W base args ds gs before hval0 hW hcnd _
  have hval : ∀ (j : Nat) t v, Try.f15.params[j]? = some t → args[j]? = some v → Value.okWide Try.prog W .any base t v := hval0
  have hW' := hW
  obtain ⟨p, q, hA0, hV, rfl, hfz, hnd⟩ := hW
  have hA : DataW.TrodAll enc Try.prog W 0 (fun _ => true) true Try.f15.params.toList args.toList ds p := hA0
  have hlt : ∀ x ∈ p, x.block < W.heap.size := fun x hx => hW'.lt x (List.mem_append_left _ hx)
  have hAll : ∀ W', Below W.heap.size W W' → DataW.TrodAll enc Try.prog W' 0 (fun b => decide (b < W.heap.size)) true Try.f15.params.toList args.toList ds p := fun W' hb => all_below laidOut hb (readable_of (by kernel_rfl)) hlt hA
  rw [Try.params15] at hA hval
  obtain ⟨v0, v1, v2, v3, v4, d0, d1, d2, d3, d4, p0, p1, p2, p3, p4, rfl, rfl, rfl, h0, h1, h2, h3, h4⟩ := trodAll_five hA
  obtain ⟨rfl, rfl⟩ := trodVars_none hV
  clear hA0 hval0
  obtain ⟨x0, rfl, rfl, rfl, wx0⟩ := open_int Try.underlying5 (hval 0 5 v0 rfl rfl) h0
  obtain ⟨x1, rfl, rfl, rfl, wx1⟩ := open_int Try.underlying5 (hval 1 5 v1 rfl rfl) h1
  obtain ⟨x2, rfl, rfl, rfl, wx2⟩ := open_int Try.underlying5 (hval 2 5 v2 rfl rfl) h2
  obtain ⟨x3, rfl, rfl, rfl, wx3⟩ := open_int Try.underlying5 (hval 3 5 v3 rfl rfl) h3
  obtain ⟨x4, rfl, rfl, rfl⟩ := open_bool Try.underlying4 (hval 4 4 v4 rfl rfl) h4
  refine (joined_walk W x0 x1 x2 x3 x4 (u8_bd wx0) (u8_bd wx1) (u8_bd wx2) (u8_bd wx3)).mono fun e W' ⟨he, hb⟩ => ?_
  subst he
  exact ⟨_, rfl, ⟨_, _, _, [], _, [], hW', trodAll_cons_mk (shut_bool Try.underlying4 _) trodAll_mk0, hAll W' hb, rfl, hb.frame _, fun h => by cases h⟩⟩
/-- The law: whatever the input, it returns true, and the input reads as it did. -/
theorem stoneJoined_holds : Rows.StoneJoinedSaid :=
  OpenClaim.holds_of_wide 15 Try.f15 rfl rfl rfl rfl rfl rfl rfl ⟨rfl, rfl, rfl, rfl, rfl⟩ rfl rfl rfl rfl rfl (by kernel_rfl) Try.func15 (by kernel_rfl)
    (of_decide_eq_true (by kernel_rfl)) (by unfold Func.isWrapper; first | (rw [if_pos (by decide +kernel)]; kernel_rfl) | (rw [if_neg (by decide +kernel)]; exact ⟨rfl, rfl⟩))
    (fun os started H enc _ => stoneJoined_lifted os started H enc)
end
end Go.Proofs.Ytolghmhodaphfaa

