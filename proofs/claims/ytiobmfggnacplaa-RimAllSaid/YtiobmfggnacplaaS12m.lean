/- The statement RimAll holds: whatever the arguments, the law returns true and leaves its arguments as they were. -/
import Derived.Test.YtiobmfggnacplaaMm
import Derived.Test.YtiobmfggnacplaaMo
set_option linter.unusedSimpArgs false
set_option linter.unusedVariables false
namespace Go.Proofs.Ytiobmfggnacplaa
open Go.RowKit Go.Shelf
attribute [local go_sem] Oper.semAt_some
set_option maxRecDepth 100000 in
set_option maxHeartbeats 40000000 in
theorem rimAll_walk (w : World) (x y : Nat) (A0 : Option Addr) (n0 c0 : Nat) (by_ : List Nat) (hx : x < 256) (hy : y < 256) (h0 : U8S w w.heap.size A0 n0 by_) (hby : ∀ z ∈ by_, z < 256) :
    Calls Try.prog 12 #[.int .u8 (x : Int), .int .u8 (y : Int), .slice A0 n0 c0] w fun e w' => e = .returned (.bool true) ∧ Below w.heap.size w w' := by
  have H0 := hid h0
  have Hby := hid hby
  clear h0 hby
  by_cases hg : 30 < n0
  · have hgi : (30 : Int) < n0 := by omega
    go_enter Try.func12, Try.ntmps12
    obtain ⟨W0, rfl⟩ : ∃ W0 : World, W0 = w := ⟨_, rfl⟩
    skip
    skip
    have hbel : Below W0.heap.size W0 W0 := Below.refl _ _
    have hsz := hbel.size
    go_wp2_with (fail)
    refine (works_any _).mono ?_
    rintro e W1 ⟨rfl, hb⟩
    have hst : Below W0.heap.size W0 W1 := Below.trans (by repeat' (first | with_reducible assumption | with_reducible exact Below.refl _ _ | refine Below.alloc ?_ ?_ _ | refine Below.setCell ?_ ?_ _ | refine Below.drew ?_ | refine below_drewN ?_ _ | (simp; done) | (simp; omega) | omega)) (hb.mono (by first | (simp; done) | (simp; omega) | omega))
    replace hbel := hbel.trans (hst.mono hsz)
    replace hsz := hbel.size
    replace H0 := hid (H0.out.below hst hst.size)
    clear hb hst
    obtain ⟨W0, rfl⟩ : ∃ W0 : World, W0 = W1 := ⟨_, rfl⟩
    go_wp2
    go_ret
    exact ⟨rfl, hbel⟩
  · have hgi : ¬ (30 : Int) < n0 := by omega
    have HKc := fun w => kindsF_any x w hx
    obtain ⟨k, hk⟩ : ∃ k, 1 + x % 4 = k := ⟨_, rfl⟩
    rw [hk] at HKc
    have hk1 : 1 ≤ k := by omega
    have hk4 : k ≤ 4 := by omega
    obtain ⟨r, hr⟩ : ∃ r, y % 12 = r := ⟨_, rfl⟩
    have hr12 : r < 12 := by omega
    have hmod : (y : Int) % 12 = (r : Int) := by rw [← hr]; exact (Int.natCast_emod y 12).symm
    have htmod : Int.tmod (y : Int) 12 = (r : Int) := by rw [← hr]; exact (Int.ofNat_tmod y 12).symm
    have zy : IntKind.i64.wrap (y : Int) = (y : Int) := IntWalk.i64_in _ (by omega)
    obtain ⟨n, hn⟩ : ∃ n, 1 + r = n := ⟨_, rfl⟩
    have hn1 : 1 ≤ n := by omega
    have hn12 : n ≤ 12 := by omega
    have zr : (1 : Int) + (r : Int) = (n : Int) := by omega
    have zn : IntKind.i64.wrap (n : Int) = (n : Int) := IntWalk.i64_in _ (by omega)
    clear hk hr hn
    have hcE0 : cntE k n = 0 := by unfold cntE; rw [if_neg (by omega), if_neg (by omega)]
    have hcE : Hid (cntE k n = 0) := hid hcE0
    have hcV : countV k n = cntT k n (n + 1) := by unfold countV; rw [hcE0, if_pos rfl]; rfl
    have haE : allE k n = if 400 < countV k n then 6 else 0 := by unfold allE; rw [if_neg (by omega)]
    obtain ⟨c, hc⟩ : ∃ c, countV k n = c := ⟨_, rfl⟩
    have HcV := hid hc
    rw [hc] at haE hcV
    by_cases hbig : 400 < c
    · have HaE : Hid (allE k n = 6) := hid (by rw [haE, if_pos hbig])
      have HaV : Hid (allV k n = []) := hid (by unfold allV; rw [HaE.out, if_neg (by decide)])
      have hb2 : ¬ c ≤ 400 := by omega
      clear hc haE hcV hcE0 hbig
      go_enter Try.func12, Try.ntmps12
      obtain ⟨W0, rfl⟩ : ∃ W0 : World, W0 = w := ⟨_, rfl⟩
      skip
      skip
      have hbel : Below W0.heap.size W0 W0 := Below.refl _ _
      have hsz := hbel.size
      go_wp2_with (fail)
      refine (HKc _).mono ?_
      rintro e W1 ⟨rfl, rfl⟩
      go_wp2_with (fail)
      refine (count_any (k : Int) (n : Int) _).mono ?_
      rw [HcV.out, hcE.out]
      rintro e W1 ⟨rfl, hb⟩
      have hst : Below W0.heap.size W0 W1 := Below.trans (by repeat' (first | with_reducible assumption | with_reducible exact Below.refl _ _ | refine Below.alloc ?_ ?_ _ | refine Below.setCell ?_ ?_ _ | refine Below.drew ?_ | refine below_drewN ?_ _ | (simp; done) | (simp; omega) | omega)) (hb.mono (by first | (simp; done) | (simp; omega) | omega))
      replace hbel := hbel.trans (hst.mono hsz)
      replace hsz := hbel.size
      replace H0 := hid (H0.out.below hst hst.size)
      clear hb hst
      obtain ⟨W0, rfl⟩ : ∃ W0 : World, W0 = W1 := ⟨_, rfl⟩
      go_wp2_with (fail)
      refine (all_any (k : Int) (n : Int) _).mono ?_
      rw [HaE.out, HaV.out]
      rintro e W1 ⟨v1, rfl, hnl, hb⟩
      obtain ⟨A1, c1, rfl, -, -⟩ := hnl.lis
      clear hnl
      have hst : Below W0.heap.size W0 W1 := Below.trans (by repeat' (first | with_reducible assumption | with_reducible exact Below.refl _ _ | refine Below.alloc ?_ ?_ _ | refine Below.setCell ?_ ?_ _ | refine Below.drew ?_ | refine below_drewN ?_ _ | (simp; done) | (simp; omega) | omega)) (hb.mono (by first | (simp; done) | (simp; omega) | omega))
      replace hbel := hbel.trans (hst.mono hsz)
      replace hsz := hbel.size
      replace H0 := hid (H0.out.below hst hst.size)
      clear hb hst
      obtain ⟨W0, rfl⟩ : ∃ W0 : World, W0 = W1 := ⟨_, rfl⟩
      go_wp2_with (fail)
      refine (works_any _).mono ?_
      rintro e W1 ⟨rfl, hb⟩
      have hst : Below W0.heap.size W0 W1 := Below.trans (by repeat' (first | with_reducible assumption | with_reducible exact Below.refl _ _ | refine Below.alloc ?_ ?_ _ | refine Below.setCell ?_ ?_ _ | refine Below.drew ?_ | refine below_drewN ?_ _ | (simp; done) | (simp; omega) | omega)) (hb.mono (by first | (simp; done) | (simp; omega) | omega))
      replace hbel := hbel.trans (hst.mono hsz)
      replace hsz := hbel.size
      replace H0 := hid (H0.out.below hst hst.size)
      clear hb hst
      obtain ⟨W0, rfl⟩ : ∃ W0 : World, W0 = W1 := ⟨_, rfl⟩
      go_wp2
      go_ret
      exact ⟨rfl, hbel⟩
    · have HaE : Hid (allE k n = 0) := hid (by rw [haE, if_neg hbig])
      have hfew := few_cnt ⟨k, by omega⟩ ⟨n, by omega⟩ hn1 hk1 (by simp only; omega)
      simp only at hfew
      have hVp := perF_all hk1 hk4 hn1 hn12 hfew
      have hcnt := perF_cnt ⟨k, by omega⟩ ⟨n, by omega⟩ hfew hk1 hn1
      simp only at hcnt
      rw [hVp, ← hcV] at hcnt
      have hVe : allV k n = allT k n (k ^ n) := by unfold allV; rw [HaE.out, if_pos rfl]; rfl
      have hinc := all_inc (K := k) (t := n) hk1 (k ^ n) (Nat.le_refl _)
      have hmem : ∀ z ∈ allT k n (k ^ n), z.length = n ∧ leastB z = true ∧ fineB k z = true ∧ lstart z = 0 := fun z hz => by
        obtain ⟨u, hu, rfl, hl⟩ := all_mem hz
        have hlen := numL_len k n u
        refine ⟨hlen, hl, fineB_t.2 (checkRim_ok (by omega) (by omega) (by omega) (by omega) (fun v hv => numL_mem hk1 hv)), lstart_zero (by omega) hl⟩
      have hb2 : c ≤ 400 := by omega
      obtain ⟨gv, hgv⟩ : ∃ gv, givR k n by_ = gv := ⟨_, rfl⟩
      have hgl : gv.length = n := by rw [← hgv]; exact givR_len _ _ _
      have hgo : ∀ z ∈ gv, 0 ≤ z ∧ z < (k : Int) := by rw [← hgv]; exact givR_ok hk1
      have hgr : checkRim k gv = 0 := checkRim_ok (by omega) (by omega) (by omega) (by omega) hgo
      have hgE : Hid (decide (checkRim k gv = 0) = true) := hid (decide_eq_true hgr)
      have hgV : Hid (leastV k gv = least gv) := hid (if_pos hgr)
      have hal : Hid ((least gv).length = n) := hid (by rw [least_len, hgl])
      have hain : least gv ∈ allT k n (k ^ n) := by
        have := all_has (K := k) (a := least gv) (fun z hz => hgo z (rot_mem.1 hz)) (leastB_least (by omega))
        rwa [least_len, hgl] at this
      obtain ⟨a, ha⟩ : ∃ a, least gv = a := ⟨_, rfl⟩
      rw [ha] at hgV hal hain
      obtain ⟨V, hV⟩ : ∃ V, allT k n (k ^ n) = V := ⟨_, rfl⟩
      rw [hV] at hVe hinc hmem hain hcnt
      have HaV := hid hVe
      have Hinc := hid hinc
      have Hmem := hid hmem
      have Hain := hid hain
      have Hgv := hid hgv
      have Hgl := hid hgl
      obtain ⟨N, hN⟩ : ∃ N, V.length = N := ⟨_, rfl⟩
      have HN := hid hN
      rw [hN] at hcnt
      have tcN : ((N : Int) != c) = false := by rw [hcnt]; simp
      have hN400 : N ≤ 400 := by omega
      have tc6 : (c ≤ 400) = True := by simp [hb2]
      clear hc haE hcV hcE0 hfew hVp hVe hinc hmem hgv hgl hgo hgr hain ha hV hN hcnt hbig tc6
      go_enter Try.func12, Try.ntmps12
      obtain ⟨W0, rfl⟩ : ∃ W0 : World, W0 = w := ⟨_, rfl⟩
      skip
      skip
      have hbel : Below W0.heap.size W0 W0 := Below.refl _ _
      have hsz := hbel.size
      go_wp2_with (fail)
      refine (HKc _).mono ?_
      rintro e W1 ⟨rfl, rfl⟩
      go_wp2_with (fail)
      refine (count_any (k : Int) (n : Int) _).mono ?_
      rw [HcV.out, hcE.out]
      rintro e W1 ⟨rfl, hb⟩
      have hst : Below W0.heap.size W0 W1 := Below.trans (by repeat' (first | with_reducible assumption | with_reducible exact Below.refl _ _ | refine Below.alloc ?_ ?_ _ | refine Below.setCell ?_ ?_ _ | refine Below.drew ?_ | refine below_drewN ?_ _ | (simp; done) | (simp; omega) | omega)) (hb.mono (by first | (simp; done) | (simp; omega) | omega))
      replace hbel := hbel.trans (hst.mono hsz)
      replace hsz := hbel.size
      replace H0 := hid (H0.out.below hst hst.size)
      clear hb hst
      obtain ⟨W0, rfl⟩ : ∃ W0 : World, W0 = W1 := ⟨_, rfl⟩
      go_wp2_with (fail)
      refine (all_any (k : Int) (n : Int) _).mono ?_
      rw [HaE.out, HaV.out]
      rintro e W1 ⟨v1, rfl, hnl, hb⟩
      obtain ⟨A1, c1, rfl, ha1, -⟩ := hnl.lis
      rw [HN.out] at ha1 ⊢
      clear hnl
      have hst : Below W0.heap.size W0 W1 := Below.trans (by repeat' (first | with_reducible assumption | with_reducible exact Below.refl _ _ | refine Below.alloc ?_ ?_ _ | refine Below.setCell ?_ ?_ _ | refine Below.drew ?_ | refine below_drewN ?_ _ | (simp; done) | (simp; omega) | omega)) (hb.mono (by first | (simp; done) | (simp; omega) | omega))
      replace hbel := hbel.trans (hst.mono hsz)
      replace hsz := hbel.size
      replace H0 := hid (H0.out.below hst hst.size)
      have HA := hid ha1
      clear ha1
      clear hb hst
      obtain ⟨W0, rfl⟩ : ∃ W0 : World, W0 = W1 := ⟨_, rfl⟩
      go_wp2_with (fail)
      refine (given_any A0 n0 c0 k n by_ _ (H0.out.below (by repeat' (first | with_reducible assumption | with_reducible exact Below.refl _ _ | refine Below.alloc ?_ ?_ _ | refine Below.setCell ?_ ?_ _ | refine Below.drew ?_ | refine below_drewN ?_ _ | (simp; done) | (simp; omega) | omega)) (by first | (simp; done) | (simp; omega) | omega)) (by omega) hk1 hk4 (by omega) Hby.out).mono ?_
      rw [Hgv.out]
      rintro e W1 ⟨v2, rfl, ho, hb⟩
      obtain ⟨Ag, cg, rfl, hg2⟩ := sl_of_owns ho
      have hg3 : InS W1 W1.heap.size Ag n gv := hg2
      have hcg := own_capN ho
      clear ho hg2
      have hst : Below W0.heap.size W0 W1 := Below.trans (by repeat' (first | with_reducible assumption | with_reducible exact Below.refl _ _ | refine Below.alloc ?_ ?_ _ | refine Below.setCell ?_ ?_ _ | refine Below.drew ?_ | refine below_drewN ?_ _ | (simp; done) | (simp; omega) | omega)) (hb.mono (by first | (simp; done) | (simp; omega) | omega))
      replace hbel := hbel.trans (hst.mono hsz)
      replace hsz := hbel.size
      replace H0 := hid (H0.out.below hst hst.size)
      replace HA := hid (HA.out.below hst hst.size)
      have HG := hid hg3
      clear hg3
      clear hb hst
      obtain ⟨W0, rfl⟩ : ∃ W0 : World, W0 = W1 := ⟨_, rfl⟩
      go_wp2_with (fail)
      refine (lawLeast_any (k : Int) Ag n cg gv _ (HG.out.below (by repeat' (first | with_reducible assumption | with_reducible exact Below.refl _ _ | refine Below.alloc ?_ ?_ _ | refine Below.setCell ?_ ?_ _ | refine Below.drew ?_ | refine below_drewN ?_ _ | (simp; done) | (simp; omega) | omega)) (by first | (simp; done) | (simp; omega) | omega)) (by omega) hcg).mono ?_
      rw [hgE.out, hgV.out]
      rintro e W1 ⟨Ba, ma, ca, rfl, hr, hb⟩
      have hr0 := hr.1.len
      obtain rfl : n = ma := by rw [← hr0, hal.out]
      have hr1 := hr.1
      clear hr hr0
      have hst : Below W0.heap.size W0 W1 := Below.trans (by repeat' (first | with_reducible assumption | with_reducible exact Below.refl _ _ | refine Below.alloc ?_ ?_ _ | refine Below.setCell ?_ ?_ _ | refine Below.drew ?_ | refine below_drewN ?_ _ | (simp; done) | (simp; omega) | omega)) (hb.mono (by first | (simp; done) | (simp; omega) | omega))
      replace hbel := hbel.trans (hst.mono hsz)
      replace hsz := hbel.size
      replace H0 := hid (H0.out.below hst hst.size)
      replace HA := hid (HA.out.below hst hst.size)
      replace HG := hid (HG.out.below hst hst.size)
      have Ha := hid hr1
      clear hr1
      clear hb hst
      obtain ⟨W0, rfl⟩ : ∃ W0 : World, W0 = W1 := ⟨_, rfl⟩
      clear HG
      clear H0
      go_wp2_with (fail)
      go_loopw [16, 17] (fun f i wr => ∃ j d : Nat, j ≤ N ∧ i = .int .i64 (j : Int) ∧ f = .int .i64 (d : Int) ∧ Hid ((d = 0 ∧ ∀ i : Nat, i < j → V[i]? ≠ some a) ∨ (d = 1 ∧ ∃ i : Nat, i < j ∧ V[i]? = some a)) ∧ Below W0.heap.size W0 wr) (fun _ i _ => N - (intOf i).toNat)
      case atStart => exact ⟨0, 0, Nat.zero_le _, rfl, rfl, hid (.inl ⟨rfl, fun i h => by omega⟩), Below.refl _ _⟩
      case round =>
        obtain ⟨j, d, hjN, rfl, rfl, hd, hbr⟩ := hrel
        have hszr := hbr.size
        by_cases hlt : j < N
        · have hlti : (j : Int) < N := by omega
          obtain ⟨b5, o5, z, A5, m5, c5, e5, lb5, hz, d5, hin5⟩ := (HA.out.below hbr hszr).at_ hlt
          subst e5
          obtain ⟨hz1, hz2, hz3, hz4⟩ := Hmem.out z (List.mem_of_getElem? hz)
          obtain rfl : n = m5 := by rw [← hz1]; exact hin5.len
          have HI5 := hid hin5
          have HZ := hid hz
          have Hz3 := hid hz3
          have Hz4 := hid hz4
          have tnn : ((n : Int) != (n : Int)) = false := by simp
          have hj0 : (0 : Int) ≤ j := by omega
          have hAr := hid (Ha.out.below hbr hszr)
          obtain ⟨bv, hbv⟩ : ∃ bv, eqI z a = bv := ⟨_, rfl⟩
          have Hbv := hid hbv
          have hnew : Hid (∀ d' : Nat, d' = (if bv then d + 1 else d) → (d' = 0 ∧ ∀ i : Nat, i < j + 1 → V[i]? ≠ some a) ∨ (d' = 1 ∧ ∃ i : Nat, i < j + 1 ∧ V[i]? = some a)) := hid (fun d' hd' => by
            cases bv with
            | true =>
              have hza := eqI_t.1 hbv
              rcases hd.out with ⟨h1, h2⟩ | ⟨h1, i, h2, h3⟩
              · exact .inr ⟨by rw [hd', h1]; rfl, j, by omega, by rw [HZ.out, hza]⟩
              · exfalso
                have := pw_at Hinc.out h3 HZ.out h2
                rw [hza, bef_self] at this; cases this
            | false =>
              rcases hd.out with ⟨h1, h2⟩ | ⟨h1, i, h2, h3⟩
              · refine .inl ⟨by rw [hd', h1]; rfl, fun i hi e => ?_⟩
                rcases Nat.lt_or_ge i j with h4 | h4
                · exact h2 i h4 e
                · obtain rfl : i = j := by omega
                  rw [HZ.out] at e
                  cases e
                  rw [eqI_t.2 rfl] at hbv; cases hbv
              · exact .inr ⟨by rw [hd', h1]; rfl, i, by omega, h3⟩)
          have hdle : d ≤ 1 := by rcases hd.out with ⟨h, -⟩ | ⟨h, -⟩ <;> omega
          have zd : IntKind.i64.wrap ((d : Int) + 1) = (d : Int) + 1 := IntWalk.i64_in _ (by omega)
          clear hz hz1 hz2 hz3 hz4 hin5 hbv hd
          go_wp2
          refine wp_region_hd_all (fun W => Below wr.heap.size wr W) (by kernel_rfl) (by kernel_rfl) ((Below.refl _ _).drew) ?_
          iterate 13 (refine wpHd_val (v := ?_) (by rfl) (fun W hW => ?_) ?_; rotate_left; (· obtain ⟨hcW, hfW⟩ := bcell hW; go_simp; with_reducible rfl); simp only [Act.put, List.setIfInBounds_toArray, List.set_cons_zero, List.set_cons_succ])
          (refine wpHd_callB (by rfl) (fun W hW => fineW_any (k : Int) A5 n c5 z W (HI5.out.below hW hW.size)) (fun W hW => ?_) ?_; (· obtain ⟨hcW, hfW⟩ := bcell hW; go_simp); simp only [Act.put, List.setIfInBounds_toArray, List.set_cons_zero, List.set_cons_succ])
          rw [Hz3.out]
          iterate 3 (refine wpHd_val (v := ?_) (by rfl) (fun W hW => ?_) ?_; rotate_left; (· obtain ⟨hcW, hfW⟩ := bcell hW; go_simp; with_reducible rfl); simp only [Act.put, List.setIfInBounds_toArray, List.set_cons_zero, List.set_cons_succ])
          by_cases hj1 : j = 0
          · have tj : ¬ (0 : Int) < (j : Int) := by omega
            have tj2 : decide ((0 : Int) < (j : Int)) = false := by simp [hj1]
            have tj5 : ¬ 0 < j := by omega
            have tj6 : decide (0 < j) = false := decide_eq_false tj5
            clear hj1
            iterate 3 (refine wpHd_val (v := ?_) (by rfl) (fun W hW => ?_) ?_; rotate_left; (· obtain ⟨hcW, hfW⟩ := bcell hW; go_simp; with_reducible rfl); simp only [Act.put, List.setIfInBounds_toArray, List.set_cons_zero, List.set_cons_succ])
            iterate 11 (refine wpHd_not (by rfl) ?_; simp only [Act.put, List.setIfInBounds_toArray, List.set_cons_zero, List.set_cons_succ])
            iterate 2 (refine wpHd_val (v := ?_) (by rfl) (fun W hW => ?_) ?_; rotate_left; (· obtain ⟨hcW, hfW⟩ := bcell hW; go_simp; with_reducible rfl); simp only [Act.put, List.setIfInBounds_toArray, List.set_cons_zero, List.set_cons_succ])
            refine wpHd_nil ?_
            intro W9 hW9
            have hbr9 := hbr.trans (hW9.mono hszr)
            have hsz9 := hbr9.size
            have h99 := hW9.size
            have d59 := (hW9.cell (p := ⟨b5, o5 + j, none⟩) lb5).trans d5
            have lb59 : b5 < W9.heap.size := by omega
            clear d5
            go_wp2_with (fail)
            refine (leastOf_any A5 n c5 z _ ((HI5.out.below hW9 h99)) (by omega) hn1).mono ?_
            rw [Hz4.out]
            rintro e W5 ⟨A7, c7, rfl, hr7, hb5⟩
            have hbr5 := hbr9.trans (hb5.mono hsz9)
            have hsz5 := hbr5.size
            have h95 := hb5.size
            have d55 := (hb5.cell (p := ⟨b5, o5 + j, none⟩) lb59).trans d59
            have lb55 : b5 < W5.heap.size := by omega
            clear d59
            cases bv
            · go_wp2_with (go_at_call 27; refine (ints_any _ A5 Ba n c5 n ca z a ((HI5.out.below hW9 h99).below hb5 h95) ((hAr.out.below hW9 h99).below hb5 h95) (by omega)).mono ?_; rw [Hbv.out]; rintro e W6 ⟨rfl, hb6⟩)
              exact ⟨⟨j + 1, d, by omega, by go_num, rfl, hid (hnew.out d rfl), hbr5.trans (hb6.mono hsz5)⟩, by simp [intOf]; omega⟩
            · go_wp2_with (go_at_call 27; refine (ints_any _ A5 Ba n c5 n ca z a ((HI5.out.below hW9 h99).below hb5 h95) ((hAr.out.below hW9 h99).below hb5 h95) (by omega)).mono ?_; rw [Hbv.out]; rintro e W6 ⟨rfl, hb6⟩)
              exact ⟨⟨j + 1, d + 1, by omega, by go_num, by go_num, hid (hnew.out (d + 1) rfl), hbr5.trans (hb6.mono hsz5)⟩, by simp [intOf]; omega⟩
          · obtain ⟨j', rfl⟩ : ∃ j', j = j' + 1 := ⟨j - 1, by omega⟩
            have tj : (0 : Int) < (j' : Int) + 1 := by omega
            have tj0 : (0 : Int) ≤ (j' : Int) + 1 := by omega
            have tjN : (j' : Int) + 1 < N := by omega
            have tj3 : (0 : Int) ≤ (j' : Int) := by omega
            have tj4 : (j' : Int) < N := by omega
            have zj : IntKind.i64.wrap (j' : Int) = (j' : Int) := IntWalk.i64_in _ (by omega)
            obtain ⟨b6, o6, u, A6, m6, c6, e6, lb6, hu, d6, hin6⟩ := (HA.out.below hbr hszr).at_ (show j' < N by omega)
            cases e6
            have hbf := hid (pw_at Hinc.out hu HZ.out (Nat.lt_succ_self j'))
            have HI6 := hid hin6
            have hm6 : m6 ≤ 1000000 := by have h1 := (Hmem.out u (List.mem_of_getElem? hu)).1; have h2 := hin6.len; omega
            clear hu hin6
            iterate 12 (refine wpHd_val (v := ?_) (by rfl) (fun W hW => ?_) ?_; rotate_left; (· obtain ⟨hcW, hfW⟩ := bcell hW; go_simp; with_reducible rfl); simp only [Act.put, List.setIfInBounds_toArray, List.set_cons_zero, List.set_cons_succ])
            (refine wpHd_callB (by rfl) (fun W hW => before_any W A6 A5 m6 c6 n c5 u z (HI6.out.below hW hW.size) (HI5.out.below hW hW.size) hm6 (by omega)) (fun W hW => ?_) ?_; (· obtain ⟨hcW, hfW⟩ := bcell hW; go_simp); simp only [Act.put, List.setIfInBounds_toArray, List.set_cons_zero, List.set_cons_succ])
            rw [hbf.out]
            iterate 3 (refine wpHd_val (v := ?_) (by rfl) (fun W hW => ?_) ?_; rotate_left; (· obtain ⟨hcW, hfW⟩ := bcell hW; go_simp; with_reducible rfl); simp only [Act.put, List.setIfInBounds_toArray, List.set_cons_zero, List.set_cons_succ])
            refine wpHd_nil ?_
            intro W9 hW9
            have hbr9 := hbr.trans (hW9.mono hszr)
            have hsz9 := hbr9.size
            have h99 := hW9.size
            have d59 := (hW9.cell (p := ⟨b5, o5 + (j' + 1), none⟩) lb5).trans d5
            have lb59 : b5 < W9.heap.size := by omega
            clear d5
            go_wp2_with (fail)
            refine (leastOf_any A5 n c5 z _ ((HI5.out.below hW9 h99)) (by omega) hn1).mono ?_
            rw [Hz4.out]
            rintro e W5 ⟨A7, c7, rfl, hr7, hb5⟩
            have hbr5 := hbr9.trans (hb5.mono hsz9)
            have hsz5 := hbr5.size
            have h95 := hb5.size
            have d55 := (hb5.cell (p := ⟨b5, o5 + (j' + 1), none⟩) lb59).trans d59
            have lb55 : b5 < W5.heap.size := by omega
            clear d59
            cases bv
            · go_wp2_with (go_at_call 27; refine (ints_any _ A5 Ba n c5 n ca z a ((HI5.out.below hW9 h99).below hb5 h95) ((hAr.out.below hW9 h99).below hb5 h95) (by omega)).mono ?_; rw [Hbv.out]; rintro e W6 ⟨rfl, hb6⟩)
              exact ⟨⟨(j' + 1) + 1, d, by omega, by go_num, rfl, hid (hnew.out d rfl), hbr5.trans (hb6.mono hsz5)⟩, by simp [intOf]; omega⟩
            · go_wp2_with (go_at_call 27; refine (ints_any _ A5 Ba n c5 n ca z a ((HI5.out.below hW9 h99).below hb5 h95) ((hAr.out.below hW9 h99).below hb5 h95) (by omega)).mono ?_; rw [Hbv.out]; rintro e W6 ⟨rfl, hb6⟩)
              exact ⟨⟨(j' + 1) + 1, d + 1, by omega, by go_num, by go_num, hid (hnew.out (d + 1) rfl), hbr5.trans (hb6.mono hsz5)⟩, by simp [intOf]; omega⟩
        · obtain rfl : N = j := by omega
          have hlti : ¬ (N : Int) < N := by omega
          have hd1 : d = 1 := by
            rcases hd.out with ⟨-, h2⟩ | ⟨h1, -⟩
            · exfalso
              obtain ⟨i, hi⟩ := List.getElem?_of_mem Hain.out
              exact h2 i (by have := (List.getElem?_eq_some_iff.1 hi).1; rw [HN.out] at this; exact this) hi
            · exact h1
          have td : ((d : Int) == 1) = true := by rw [hd1]; rfl
          clear hd hd1
          go_wp2_with (go_at_call 18; refine (works_any _).mono ?_; rintro e W5 ⟨rfl, hb5⟩)
          go_ret
          exact ⟨rfl, hbel.trans ((hbr.trans (hb5.mono hszr)).mono hsz)⟩

section
open Go.ChangeShapes Go.WideShapes Go.ChangeAt Go.RowKit
set_option maxRecDepth 100000 in
theorem rimAll_lifted (os : Os) (started : os.Started) (H : Type) (enc : TypeId × Value → H) :
    ReturnsInHanded {} Try.checked os 12 .any (Rows.rimAllSpec.pre6 enc Try.prog Try.f12 Rows.rimAllRow.domain false) (Rows.rimAllSpec.post enc Try.prog Try.f12 false true false false) := by
  refine returnsInHanded_of_change (C := Try.checked) ownKx started (by kernel_rfl) Try.func12
    (ChangeSpec.witness6 (enc := enc) (C := Try.checked) false ⟨#[], #[.int .u8 0, .int .u8 0, .slice none 0 0], []⟩ 8 (by kernel_rfl) (by kernel_rfl) (by kernel_rfl) (by kernel_rfl)) ?_
  intro W base args ds gs before hval0 hW hcnd _
  have hval : ∀ (j : Nat) t v, Try.f12.params[j]? = some t → args[j]? = some v → Value.okWide Try.prog W .any base t v := hval0
  have hW' := hW
  obtain ⟨p, q, hA0, hV, rfl, hfz, hnd⟩ := hW
  have hA : DataW.TrodAll enc Try.prog W 0 (fun _ => true) true Try.f12.params.toList args.toList ds p := hA0
  have hlt : ∀ x ∈ p, x.block < W.heap.size := fun x hx => hW'.lt x (List.mem_append_left _ hx)
  have hAll : ∀ W', Below W.heap.size W W' → DataW.TrodAll enc Try.prog W' 0 (fun b => decide (b < W.heap.size)) true Try.f12.params.toList args.toList ds p := fun W' hb => all_below laidOut hb (readable_of (by kernel_rfl)) hlt hA
  rw [Try.params12] at hA hval
  obtain ⟨v0, v1, v2, d0, d1, d2, p0, p1, p2, rfl, rfl, rfl, h0, h1, h2⟩ := trodAll_three hA
  obtain ⟨rfl, rfl⟩ := trodVars_none hV
  clear hA0 hval0
  obtain ⟨x0, rfl, rfl, rfl, wx0⟩ := open_int Try.underlying5 (hval 0 5 v0 rfl rfl) h0
  obtain ⟨x1, rfl, rfl, rfl, wx1⟩ := open_int Try.underlying5 (hval 1 5 v1 rfl rfl) h1
  obtain ⟨A2, n2, c2, rfl⟩ := okWide_slice Try.underlying59 (hval 2 59 v2 rfl rfl)
  obtain ⟨hc2, l2, hl2, hr2, hu2⟩ := open_u8s h2
  obtain ⟨y0, rfl⟩ : ∃ y : Nat, x0 = y := ⟨x0.toNat, (Int.toNat_of_nonneg (wf_u8 wx0).1).symm⟩
  obtain ⟨y1, rfl⟩ : ∃ y : Nat, x1 = y := ⟨x1.toNat, (Int.toNat_of_nonneg (wf_u8 wx1).1).symm⟩
  refine (rimAll_walk W y0 y1 A2 n2 c2 l2 (by have := wf_u8 wx0; omega) (by have := wf_u8 wx1; omega) hr2 hu2).mono fun e W' ⟨he, hb⟩ => ?_
  subst he
  exact ⟨_, rfl, ⟨_, _, _, [], _, [], hW', trodAll_cons_mk (shut_bool Try.underlying4 _) trodAll_mk0, hAll W' hb, rfl, hb.frame _, fun h => by cases h⟩⟩
/-- The law: whatever the input, it returns true, and the input reads as it did. -/
theorem rimAll_holds : Rows.RimAllSaid :=
  OpenClaim.holds_of_wide 12 Try.f12 rfl rfl rfl rfl rfl rfl rfl ⟨rfl, rfl, rfl, rfl, rfl⟩ rfl rfl rfl rfl rfl (by kernel_rfl) Try.func12 (by kernel_rfl)
    (of_decide_eq_true (by kernel_rfl)) (by unfold Func.isWrapper; first | (rw [if_pos (by decide +kernel)]; kernel_rfl) | (rw [if_neg (by decide +kernel)]; exact ⟨rfl, rfl⟩))
    (fun os started H enc _ => rimAll_lifted os started H enc)
end
end Go.Proofs.Ytiobmfggnacplaa

