/- The statement StoneTimes holds: whatever the arguments, the law returns true and leaves its arguments as they were. -/
import Derived.Test.YtolghmhodaphfaaMr
import Derived.Test.YtolghmhodaphfaaMh
namespace Go.Proofs.Ytolghmhodaphfaa
open Go.RowKit Go.Shelf
attribute [local go_sem] Oper.semAt_some
set_option maxRecDepth 100000 in
set_option maxHeartbeats 4000000 in
theorem times_walk (w : World) (A : Option Addr) (n c : Nat) (ks : List Kd) (bo : Bool) (y x : Int) (hy0 : 0 ≤ y ∧ y ≤ 255) (hx0 : 0 ≤ x ∧ x ≤ 65535) (hr : KdS w w.heap.size A n ks) :
    Calls Try.prog 13 #[.slice A n c, .bool bo, .int .u8 y, .int .u16 x] w fun e w' => e = .returned (.bool true) ∧ Below w.heap.size w w' := by
  obtain ⟨W0, hW0⟩ : ∃ W0 : World, W0 = w := ⟨_, rfl⟩
  rw [← hW0] at hr ⊢
  clear hW0
  have HR := hid hr
  clear hr
  have hbel : Below W0.heap.size W0 W0 := Below.refl _ _
  have hsz := hbel.size
  cases hf : fineB ks
  · have Hf := hid hf
    clear hf
    go_enter Try.func13, Try.ntmps13
    go_wp2_with (fail)
    refine (fine_any _ _ _ _ _ (HR.out.below (by repeat' (first | with_reducible assumption | with_reducible exact Below.refl _ _ | refine Below.alloc ?_ ?_ _ | refine Below.setCell ?_ ?_ _ | refine Below.drew ?_ | refine below_drewN ?_ _ | (simp; done) | (simp; omega) | omega)) (by first | (simp; done) | (simp; omega) | omega))).mono ?_
    rw [Hf.out]
    rintro e W1 ⟨rfl, hb⟩
    have hst : Below W0.heap.size W0 W1 := Below.trans (by repeat' (first | with_reducible assumption | with_reducible exact Below.refl _ _ | refine Below.alloc ?_ ?_ _ | refine Below.setCell ?_ ?_ _ | refine Below.drew ?_ | refine below_drewN ?_ _ | (simp; done) | (simp; omega) | omega)) (hb.mono (by first | (simp; done) | (simp; omega) | omega))
    replace hbel := hbel.trans (hst.mono hsz)
    replace hsz := hbel.size
    replace HR := hid (HR.out.below hst hst.size)
    clear hb hst
    obtain ⟨W0, rfl⟩ : ∃ W0 : World, W0 = W1 := ⟨_, rfl⟩
    go_wp2_with (fail)
    refine (works_any _).mono ?_
    rintro e W1 ⟨rfl, hb⟩
    have hst : Below W0.heap.size W0 W1 := Below.trans (by repeat' (first | with_reducible assumption | with_reducible exact Below.refl _ _ | refine Below.alloc ?_ ?_ _ | refine Below.setCell ?_ ?_ _ | refine Below.drew ?_ | refine below_drewN ?_ _ | (simp; done) | (simp; omega) | omega)) (hb.mono (by first | (simp; done) | (simp; omega) | omega))
    replace hbel := hbel.trans (hst.mono hsz)
    replace hsz := hbel.size
    replace HR := hid (HR.out.below hst hst.size)
    clear hb hst
    obtain ⟨W0, rfl⟩ : ∃ W0 : World, W0 = W1 := ⟨_, rfl⟩
    go_wp2
    go_ret
    exact ⟨rfl, hbel⟩
  · have Hf := hid hf
    obtain ⟨h0, h8⟩ := fineB_good hf
    have hlen := hid HR.out.len
    have hn : n ≤ 8 := by have := hlen.out; omega
    have H0 := hid h0
    have hok := hid (fun k (hk : k ∈ ks) => okK_le (List.all_eq_true.1 (checkSet_good h0).2.2.1 k hk))
    clear hf h0 h8
    obtain ⟨i0, hi0, hi1, hi2, hi3⟩ := info_parts' info61
    have I0 := hid hi0; have I1 := hid hi1; have I2 := hid hi2; have I3 := hid hi3
    clear hi0 hi1 hi2 hi3
    obtain ⟨p, hp⟩ : ∃ p, pansOf bo = p := ⟨_, rfl⟩
    have HP := hid (pansOf_or bo)
    rw [hp] at HP
    have Hp := hid hp
    clear hp
    obtain ⟨hy1, hy2⟩ := hy0
    obtain ⟨r, hr0⟩ : ∃ r, y % 3 = r := ⟨_, rfl⟩
    have hr1 := Int.emod_nonneg y (b := 3) (by omega)
    have hr2 := Int.emod_lt_of_pos y (b := 3) (by omega)
    rw [hr0] at hr1 hr2
    have y1 : y.tmod 3 = r := by rw [Int.tmod_eq_emod_of_nonneg hy1]; exact hr0
    have y2 : IntKind.u8.wrap r = r := IntWalk.u8_in r (by omega)
    have y3 : IntKind.i64.wrap r = r := wrap_ok (by omega)
    obtain ⟨t, ht0⟩ : ∃ t, 2 + r = t := ⟨_, rfl⟩
    have y4 : IntKind.i64.wrap (2 + r) = t := by rw [ht0]; exact wrap_ok (by omega)
    have htb : 2 ≤ t ∧ t ≤ 4 := by omega
    obtain ⟨ht1, ht2⟩ := htb
    clear hr0 hr1 hr2 ht0
    obtain ⟨hx1, hx2⟩ := hx0
    have z1 : IntKind.i64.wrap x = x := wrap_ok (by omega)
    obtain ⟨a, ha⟩ : ∃ a, x % 301 = a := ⟨_, rfl⟩
    have ha0 := Int.emod_nonneg x (b := 301) (by omega)
    have ha1 := Int.emod_lt_of_pos x (b := 301) (by omega)
    rw [ha] at ha0 ha1
    have z2 : x.tmod 301 = a := by rw [Int.tmod_eq_emod_of_nonneg hx1]; exact ha
    have z3 : IntKind.i64.wrap a = a := wrap_ok (by omega)
    have HAB : Hid (0 ≤ a ∧ a ≤ 300) := hid ⟨ha0, by omega⟩
    obtain ⟨b, hb0⟩ : ∃ b, a / t = b := ⟨_, rfl⟩
    obtain ⟨rt, hrt⟩ : ∃ rt, a % t = rt := ⟨_, rfl⟩
    have hrt0 := Int.emod_nonneg a (b := t) (by omega)
    have hrt1 := Int.emod_lt_of_pos a (b := t) (by omega)
    have hbt0 : 0 ≤ a / t := Int.ediv_nonneg ha0 (by omega)
    have hbt1 : a / t ≤ a := Int.ediv_le_self _ ha0
    rw [hrt] at hrt0 hrt1
    rw [hb0] at hbt0 hbt1
    have z4 : a.tmod t = rt := by rw [Int.tmod_eq_emod_of_nonneg ha0]; exact hrt
    have z5 : IntKind.i64.wrap rt = rt := wrap_ok (by omega)
    have z6 : a.tdiv t = b := by rw [Int.tdiv_eq_ediv_of_nonneg ha0]; exact hb0
    have z7 : IntKind.i64.wrap b = b := wrap_ok (by omega)
    have z8 : ¬ t = 0 := by omega
    have HBB : Hid (0 ≤ b ∧ b ≤ 300) := hid ⟨hbt0, by omega⟩
    obtain ⟨tf1, tf2⟩ := times_facts (p := p) (t := t) (a := a) (by omega) ks
    rw [hrt] at tf1 tf2
    rw [hb0] at tf2
    have TF1 := hid tf1
    have TF2 := hid tf2
    clear ha ha0 ha1 hb0 hrt hrt0 hrt1 hbt0 hbt1 tf1 tf2
    go_enter Try.func13, Try.ntmps13
    go_wp2_with (fail)
    refine (fine_any _ _ _ _ _ (HR.out.below (by repeat' (first | with_reducible assumption | with_reducible exact Below.refl _ _ | refine Below.alloc ?_ ?_ _ | refine Below.setCell ?_ ?_ _ | refine Below.drew ?_ | refine below_drewN ?_ _ | (simp; done) | (simp; omega) | omega)) (by first | (simp; done) | (simp; omega) | omega))).mono ?_
    rw [Hf.out]
    rintro e W1 ⟨rfl, hb⟩
    have hst : Below W0.heap.size W0 W1 := Below.trans (by repeat' (first | with_reducible assumption | with_reducible exact Below.refl _ _ | refine Below.alloc ?_ ?_ _ | refine Below.setCell ?_ ?_ _ | refine Below.drew ?_ | refine below_drewN ?_ _ | (simp; done) | (simp; omega) | omega)) (hb.mono (by first | (simp; done) | (simp; omega) | omega))
    replace hbel := hbel.trans (hst.mono hsz)
    replace hsz := hbel.size
    replace HR := hid (HR.out.below hst hst.size)
    clear hb hst
    obtain ⟨W0, rfl⟩ : ∃ W0 : World, W0 = W1 := ⟨_, rfl⟩
    go_wp2_with (fail)
    refine (pans_any _ _).mono ?_
    rw [Hp.out]
    rintro e W1 ⟨rfl, hb⟩
    have hst : Below W0.heap.size W0 W1 := Below.trans (by repeat' (first | with_reducible assumption | with_reducible exact Below.refl _ _ | refine Below.alloc ?_ ?_ _ | refine Below.setCell ?_ ?_ _ | refine Below.drew ?_ | refine below_drewN ?_ _ | (simp; done) | (simp; omega) | omega)) (hb.mono (by first | (simp; done) | (simp; omega) | omega))
    replace hbel := hbel.trans (hst.mono hsz)
    replace hsz := hbel.size
    replace HR := hid (HR.out.below hst hst.size)
    clear hb hst
    obtain ⟨W0, rfl⟩ : ∃ W0 : World, W0 = W1 := ⟨_, rfl⟩
    go_wp2_with (fail)
    have HRR := hid HR.out
    go_loopw [11, 12] (fun v i wr => ∃ k : Nat, k ≤ n ∧ i = .int .i64 k ∧ Below W0.heap.size W0 wr ∧ Hid (wr.ownsRow W0.heap.size 61 2 v k ((scK t (ks.take k)).flatMap cK))) (fun _ i _ => n - (intOf i).toNat)
    case atStart => exact ⟨0, by omega, rfl, Below.refl _ _, hid (World.ownsRow_nil _ _ _ _)⟩
    case round =>
      obtain ⟨k, hk2, rfl, hbw, hown⟩ := hrel
      have hszw := hbw.size
      by_cases hlt : k < n
      · obtain ⟨b, off, m, rfl, hb, hm, c0, c1⟩ := (HRR.out.below hbw (Nat.le_refl _)).at_ hlt
        have hmm := hok.out m (List.mem_of_getElem? hm)
        have Hm := hid hm
        have hlti : (k : Int) < n := by omega
        have hk0 : (0 : Int) ≤ k := by omega
        have hq0 : 0 ≤ t * m.wt ∧ t * m.wt ≤ 4 * 300 := ⟨Int.mul_nonneg (by omega) (by omega), Int.mul_le_mul ht2 hmm.2.1 (by omega) (by omega)⟩
        obtain ⟨q, hq⟩ : ∃ q, t * m.wt = q := ⟨_, rfl⟩
        have x1 : IntKind.i64.wrap (t * m.wt) = q := by rw [hq]; exact wrap_ok (by omega)
        have Hq := hid hq
        have C0 := hid (((hbw.cell (p := ⟨b, off + k * 2, none⟩) hb).symm.trans c0))
        have C1 := hid (((hbw.cell (p := ⟨b, off + k * 2 + 1, none⟩) hb).symm.trans c1))
        clear hm hq c0 c1 hq0
        go_wp2
        refine Sx.wp_region_el (fun W => Below W0.heap.size W0 W) (hSb W0) [0, 1, 2, 3, 4, 5, 6, 7, 8, 9, 10, 11, 12, 13] 3 (by kernel_rfl) (by kernel_rfl) (hSb W0 _ _ hbw (Below.refl _ _).drew) ?_
        have hown1 := hid (owns_below hown.out (Below.refl _ _).drew)
        simp only [pick, List.getElem?_toArray, List.getElem?_cons_zero, List.getElem?_cons_succ]
        iterate 14 (refine Sx.wpE_val (v := ?_) (by rfl) (fun W hW => ?_) ?_; rotate_left; (· have q0 := ((bcell hW).1 b (off + k * 2) hb).trans C0.out; have q1 := ((bcell hW).1 b (off + k * 2 + 1) hb).trans C1.out; have lb : b < W.heap.size := Nat.lt_of_lt_of_le hb hW.size; go_simp; with_reducible rfl); simp only [Act.put, List.setIfInBounds_toArray, List.set_cons_zero, List.set_cons_succ])
        simp only [Sx.wpE]
        (refine Sx.wpM_one 14 _ (by simp only [List.getElem?_toArray, List.getElem?_cons_zero, List.getElem?_cons_succ]; rfl) (by kernel_rfl) (by rfl) ?_)
        intro X1 hX1 hS1
        have hown2 := hid (owns_below hown1.out hX1)
        (go_simp; simp only [LUpon, Act.put]; try simp only [List.setIfInBounds_toArray, List.set_cons_zero, List.set_cons_succ])
        refine ⟨hS1.alloc hS1.size _, ?_⟩
        have b9 : Blk (X1.alloc (.cells #[.int .i64 q, .int .i64 m.many] 61)) X1.heap.size 61 #[.int .i64 q, .int .i64 m.many] := Blk.new _ _ _
        have hown3 := hid (hown2.out.alloc (.cells #[.int .i64 q, .int .i64 m.many] 61))
        generalize hB9 : X1.heap.size = B9 at *
        generalize X1.alloc (.cells #[.int .i64 q, .int .i64 m.many] 61) = X1b at *
        (refine Sx.wpM_one 15 _ (by simp only [List.getElem?_toArray, List.getElem?_cons_zero, List.getElem?_cons_succ]; rfl) (by kernel_rfl) (by rfl) ?_)
        intro X2 hX2 hS2
        have b10 := b9.below hX2 b9.lt
        refine lupon_append_own _ _ _ 22 rfl W0.heap.size 61 i0 _ 2 16 under22 I0.out I1.out I2.out I3.out rfl (by decide) _ k _ (by rfl) (owns_below hown3.out hX2) ⟨B9, 0, none⟩ 1 1 (cK ⟨q, m.many⟩) (by rfl) rfl (fun j u hj => World.news_of_block b10 j u hj) (one_cK _) (by unfold maxLen; omega) (by omega) hS2.size ?_
        intro v3 w3 ho3 hg3
        refine ⟨hS2.grown hg3 hS2.size (fun r hr => (World.ownsRow.lt (owns_below hown3.out hX2) r hr).1), ?_⟩
        simp only [Act.put, List.setIfInBounds_toArray, List.set_cons_zero, List.set_cons_succ]
        (refine Sx.wpM_one 16 _ (by simp only [List.getElem?_toArray, List.getElem?_cons_zero, List.getElem?_cons_succ]; rfl) (by kernel_rfl) (by rfl) ?_)
        intro X4 hX4 hS4
        have ho4 := hid (owns_below ho3 hX4)
        (go_simp; simp only [LUpon, Act.put]; try simp only [List.setIfInBounds_toArray, List.set_cons_zero, List.set_cons_succ])
        refine ⟨hS4, ?_⟩
        refine Sx.wpM_end (by kernel_rfl) ?_
        intro X5 hX5 hS5
        have ho5 := hid (owns_below ho4.out hX5)
        clear ho3 hown1 hown2 hown3 ho4 b9 b10
        go_wp2
        refine ⟨⟨k + 1, by omega, by go_num, hS5, hid ?_⟩, by simp [intOf]; omega⟩
        rw [scK_take Hm.out, Hq.out]
        exact ho5.out
      · obtain rfl : k = n := by omega
        have hown2 := hown.out
        rw [List.take_of_length_le (by rw [hlen.out]; exact Nat.le_refl _)] at hown2
        obtain ⟨Ax, cx, hvx, hsx⟩ := sl_of_owns hown2
        subst hvx
        replace HR := hid (HRR.out.below hbw hszw)
        have HX := hid (show KdS wr wr.heap.size Ax k (scK t ks) from hsx)
        clear HRR hown hown2 hsx
        replace hbel := hbel.trans (hbw.mono hsz)
        replace hsz := hbel.size
        clear hbw
        obtain ⟨W0, rfl⟩ : ∃ W0 : World, W0 = wr := ⟨_, rfl⟩
        cases hfx : fineB (scK t ks)
        · have Hfx := hid hfx
          clear hfx
          go_wp2_with (fail)
          refine (fine_any _ _ _ _ _ (HX.out.below (by repeat' (first | with_reducible assumption | with_reducible exact Below.refl _ _ | refine Below.alloc ?_ ?_ _ | refine Below.setCell ?_ ?_ _ | refine Below.drew ?_ | refine below_drewN ?_ _ | (simp; done) | (simp; omega) | omega)) (by first | (simp; done) | (simp; omega) | omega))).mono ?_
          rw [Hfx.out]
          rintro e W1 ⟨rfl, hb⟩
          have hst : Below W0.heap.size W0 W1 := Below.trans (by repeat' (first | with_reducible assumption | with_reducible exact Below.refl _ _ | refine Below.alloc ?_ ?_ _ | refine Below.setCell ?_ ?_ _ | refine Below.drew ?_ | refine below_drewN ?_ _ | (simp; done) | (simp; omega) | omega)) (hb.mono (by first | (simp; done) | (simp; omega) | omega))
          replace hbel := hbel.trans (hst.mono hsz)
          replace hsz := hbel.size
          replace HR := hid (HR.out.below hst hst.size)
          replace HX := hid (HX.out.below hst hst.size)
          clear hb hst
          obtain ⟨W0, rfl⟩ : ∃ W0 : World, W0 = W1 := ⟨_, rfl⟩
          go_wp2_with (fail)
          refine (works_any _).mono ?_
          rintro e W1 ⟨rfl, hb⟩
          have hst : Below W0.heap.size W0 W1 := Below.trans (by repeat' (first | with_reducible assumption | with_reducible exact Below.refl _ _ | refine Below.alloc ?_ ?_ _ | refine Below.setCell ?_ ?_ _ | refine Below.drew ?_ | refine below_drewN ?_ _ | (simp; done) | (simp; omega) | omega)) (hb.mono (by first | (simp; done) | (simp; omega) | omega))
          replace hbel := hbel.trans (hst.mono hsz)
          replace hsz := hbel.size
          replace HR := hid (HR.out.below hst hst.size)
          replace HX := hid (HX.out.below hst hst.size)
          clear hb hst
          obtain ⟨W0, rfl⟩ : ∃ W0 : World, W0 = W1 := ⟨_, rfl⟩
          go_wp2
          go_ret
          exact ⟨rfl, hbel⟩
        · have Hfx := hid hfx
          have H0x := hid (fineB_good hfx).1
          obtain ⟨z, hz⟩ : ∃ z, ways p (scK t ks) a = z := ⟨_, rfl⟩
          obtain ⟨f1, hf1⟩ : ∃ f1, fI p (scK t ks) a = f1 := ⟨_, rfl⟩
          obtain ⟨b1, hb1⟩ : ∃ b1, fB p (scK t ks) a = b1 := ⟨_, rfl⟩
          have HZ := hid hz
          have HF := hid hf1
          have HB := hid hb1
          clear hfx hz hf1 hb1
          go_wp2_with (fail)
          refine (fine_any _ _ _ _ _ (HX.out.below (by repeat' (first | with_reducible assumption | with_reducible exact Below.refl _ _ | refine Below.alloc ?_ ?_ _ | refine Below.setCell ?_ ?_ _ | refine Below.drew ?_ | refine below_drewN ?_ _ | (simp; done) | (simp; omega) | omega)) (by first | (simp; done) | (simp; omega) | omega))).mono ?_
          rw [Hfx.out]
          rintro e W1 ⟨rfl, hb⟩
          have hst : Below W0.heap.size W0 W1 := Below.trans (by repeat' (first | with_reducible assumption | with_reducible exact Below.refl _ _ | refine Below.alloc ?_ ?_ _ | refine Below.setCell ?_ ?_ _ | refine Below.drew ?_ | refine below_drewN ?_ _ | (simp; done) | (simp; omega) | omega)) (hb.mono (by first | (simp; done) | (simp; omega) | omega))
          replace hbel := hbel.trans (hst.mono hsz)
          replace hsz := hbel.size
          replace HR := hid (HR.out.below hst hst.size)
          replace HX := hid (HX.out.below hst hst.size)
          clear hb hst
          obtain ⟨W0, rfl⟩ : ∃ W0 : World, W0 = W1 := ⟨_, rfl⟩
          go_wp2_with (fail)
          refine (waysL_any _ _ _ _ (scK t ks) p a (HX.out.below (by repeat' (first | with_reducible assumption | with_reducible exact Below.refl _ _ | refine Below.alloc ?_ ?_ _ | refine Below.setCell ?_ ?_ _ | refine Below.drew ?_ | refine below_drewN ?_ _ | (simp; done) | (simp; omega) | omega)) (by first | (simp; done) | (simp; omega) | omega)) H0x.out HP.out HAB.out).mono ?_
          rw [HZ.out]
          rintro e W1 ⟨rfl, hb⟩
          have hst : Below W0.heap.size W0 W1 := Below.trans (by repeat' (first | with_reducible assumption | with_reducible exact Below.refl _ _ | refine Below.alloc ?_ ?_ _ | refine Below.setCell ?_ ?_ _ | refine Below.drew ?_ | refine below_drewN ?_ _ | (simp; done) | (simp; omega) | omega)) (hb.mono (by first | (simp; done) | (simp; omega) | omega))
          replace hbel := hbel.trans (hst.mono hsz)
          replace hsz := hbel.size
          replace HR := hid (HR.out.below hst hst.size)
          replace HX := hid (HX.out.below hst hst.size)
          clear hb hst
          obtain ⟨W0, rfl⟩ : ∃ W0 : World, W0 = W1 := ⟨_, rfl⟩
          go_wp2_with (fail)
          refine (fewL_any _ _ _ _ (scK t ks) p a (HX.out.below (by repeat' (first | with_reducible assumption | with_reducible exact Below.refl _ _ | refine Below.alloc ?_ ?_ _ | refine Below.setCell ?_ ?_ _ | refine Below.drew ?_ | refine below_drewN ?_ _ | (simp; done) | (simp; omega) | omega)) (by first | (simp; done) | (simp; omega) | omega)) H0x.out HP.out HAB.out).mono ?_
          rw [fewR_eq, HF.out, HB.out]
          rintro e W1 ⟨rfl, hb⟩
          have hst : Below W0.heap.size W0 W1 := Below.trans (by repeat' (first | with_reducible assumption | with_reducible exact Below.refl _ _ | refine Below.alloc ?_ ?_ _ | refine Below.setCell ?_ ?_ _ | refine Below.drew ?_ | refine below_drewN ?_ _ | (simp; done) | (simp; omega) | omega)) (hb.mono (by first | (simp; done) | (simp; omega) | omega))
          replace hbel := hbel.trans (hst.mono hsz)
          replace hsz := hbel.size
          replace HR := hid (HR.out.below hst hst.size)
          replace HX := hid (HX.out.below hst hst.size)
          clear hb hst
          obtain ⟨W0, rfl⟩ : ∃ W0 : World, W0 = W1 := ⟨_, rfl⟩
          by_cases hrt : rt = 0
          · obtain ⟨e1, e2, e3⟩ := TF2.out hrt
            have HZ2 := hid (e1.symm.trans HZ.out)
            have HB2 := hid (e2.symm.trans HB.out)
            have HF2 := hid (e3.symm.trans HF.out)
            subst hrt
            clear e1 e2 e3
            go_wp2_with (fail)
            refine (waysL_any _ _ _ _ ks p b (HR.out.below (by repeat' (first | with_reducible assumption | with_reducible exact Below.refl _ _ | refine Below.alloc ?_ ?_ _ | refine Below.setCell ?_ ?_ _ | refine Below.drew ?_ | refine below_drewN ?_ _ | (simp; done) | (simp; omega) | omega)) (by first | (simp; done) | (simp; omega) | omega)) H0.out HP.out HBB.out).mono ?_
            rw [HZ2.out]
            rintro e W1 ⟨rfl, hb⟩
            have hst : Below W0.heap.size W0 W1 := Below.trans (by repeat' (first | with_reducible assumption | with_reducible exact Below.refl _ _ | refine Below.alloc ?_ ?_ _ | refine Below.setCell ?_ ?_ _ | refine Below.drew ?_ | refine below_drewN ?_ _ | (simp; done) | (simp; omega) | omega)) (hb.mono (by first | (simp; done) | (simp; omega) | omega))
            replace hbel := hbel.trans (hst.mono hsz)
            replace hsz := hbel.size
            replace HR := hid (HR.out.below hst hst.size)
            replace HX := hid (HX.out.below hst hst.size)
            clear hb hst
            obtain ⟨W0, rfl⟩ : ∃ W0 : World, W0 = W1 := ⟨_, rfl⟩
            go_wp2_with (fail)
            refine (fewL_any _ _ _ _ ks p b (HR.out.below (by repeat' (first | with_reducible assumption | with_reducible exact Below.refl _ _ | refine Below.alloc ?_ ?_ _ | refine Below.setCell ?_ ?_ _ | refine Below.drew ?_ | refine below_drewN ?_ _ | (simp; done) | (simp; omega) | omega)) (by first | (simp; done) | (simp; omega) | omega)) H0.out HP.out HBB.out).mono ?_
            rw [fewR_eq, HF2.out, HB2.out]
            rintro e W1 ⟨rfl, hb⟩
            have hst : Below W0.heap.size W0 W1 := Below.trans (by repeat' (first | with_reducible assumption | with_reducible exact Below.refl _ _ | refine Below.alloc ?_ ?_ _ | refine Below.setCell ?_ ?_ _ | refine Below.drew ?_ | refine below_drewN ?_ _ | (simp; done) | (simp; omega) | omega)) (hb.mono (by first | (simp; done) | (simp; omega) | omega))
            replace hbel := hbel.trans (hst.mono hsz)
            replace hsz := hbel.size
            replace HR := hid (HR.out.below hst hst.size)
            replace HX := hid (HX.out.below hst hst.size)
            clear hb hst
            obtain ⟨W0, rfl⟩ : ∃ W0 : World, W0 = W1 := ⟨_, rfl⟩
            go_wp2_with (fail)
            refine (works_any _).mono ?_
            rintro e W1 ⟨rfl, hb⟩
            have hst : Below W0.heap.size W0 W1 := Below.trans (by repeat' (first | with_reducible assumption | with_reducible exact Below.refl _ _ | refine Below.alloc ?_ ?_ _ | refine Below.setCell ?_ ?_ _ | refine Below.drew ?_ | refine below_drewN ?_ _ | (simp; done) | (simp; omega) | omega)) (hb.mono (by first | (simp; done) | (simp; omega) | omega))
            replace hbel := hbel.trans (hst.mono hsz)
            replace hsz := hbel.size
            replace HR := hid (HR.out.below hst hst.size)
            replace HX := hid (HX.out.below hst hst.size)
            clear hb hst
            obtain ⟨W0, rfl⟩ : ∃ W0 : World, W0 = W1 := ⟨_, rfl⟩
            go_wp2
            go_ret
            exact ⟨rfl, hbel⟩
          · obtain ⟨e1, e2, e3⟩ := TF1.out hrt
            obtain rfl := e1.symm.trans HZ.out
            obtain rfl := e2.symm.trans HB.out
            have drt : (rt != 0) = true := by simpa using hrt
            clear e1 e2 e3
            go_wp2_with (fail)
            refine (works_any _).mono ?_
            rintro e W1 ⟨rfl, hb⟩
            have hst : Below W0.heap.size W0 W1 := Below.trans (by repeat' (first | with_reducible assumption | with_reducible exact Below.refl _ _ | refine Below.alloc ?_ ?_ _ | refine Below.setCell ?_ ?_ _ | refine Below.drew ?_ | refine below_drewN ?_ _ | (simp; done) | (simp; omega) | omega)) (hb.mono (by first | (simp; done) | (simp; omega) | omega))
            replace hbel := hbel.trans (hst.mono hsz)
            replace hsz := hbel.size
            replace HR := hid (HR.out.below hst hst.size)
            replace HX := hid (HX.out.below hst hst.size)
            clear hb hst
            obtain ⟨W0, rfl⟩ : ∃ W0 : World, W0 = W1 := ⟨_, rfl⟩
            go_wp2
            go_ret
            exact ⟨rfl, hbel⟩

section
open Go.ChangeShapes Go.WideShapes Go.ChangeAt Go.RowKit
set_option maxRecDepth 100000 in
theorem stoneTimes_lifted (os : Os) (started : os.Started) (H : Type) (enc : TypeId × Value → H) :
    ReturnsInHanded {} Try.checked os 13 .any (Rows.stoneTimesSpec.pre6 enc Try.prog Try.f13 Rows.stoneTimesRow.domain false) (Rows.stoneTimesSpec.post enc Try.prog Try.f13 false true false false) := by
  refine returnsInHanded_of_change (C := Try.checked) ownKx started (by kernel_rfl) Try.func13
    (ChangeSpec.witness6 (enc := enc) (C := Try.checked) false ⟨#[], #[.slice none 0 0, .bool false, .int .u8 0, .int .u16 0], []⟩ 8 (by kernel_rfl) (by kernel_rfl) (by kernel_rfl) (by kernel_rfl)) ?_
  intro W base args ds gs before hval0 hW hcnd _
  have hval : ∀ (j : Nat) t v, Try.f13.params[j]? = some t → args[j]? = some v → Value.okWide Try.prog W .any base t v := hval0
  have hW' := hW
  obtain ⟨p, q, hA0, hV, rfl, hfz, hnd⟩ := hW
  have hA : DataW.TrodAll enc Try.prog W 0 (fun _ => true) true Try.f13.params.toList args.toList ds p := hA0
  have hlt : ∀ x ∈ p, x.block < W.heap.size := fun x hx => hW'.lt x (List.mem_append_left _ hx)
  have hAll : ∀ W', Below W.heap.size W W' → DataW.TrodAll enc Try.prog W' 0 (fun b => decide (b < W.heap.size)) true Try.f13.params.toList args.toList ds p := fun W' hb => all_below laidOut hb (readable_of (by kernel_rfl)) hlt hA
  rw [Try.params13] at hA hval
  obtain ⟨v0, v1, v2, v3, d0, d1, d2, d3, p0, p1, p2, p3, rfl, rfl, rfl, h0, h1, h2, h3⟩ := trodAll_four hA
  obtain ⟨rfl, rfl⟩ := trodVars_none hV
  clear hA0 hval0
  obtain ⟨A0, n0, c0, rfl⟩ := okWide_slice Try.underlying22 (hval 0 22 v0 rfl rfl)
  obtain ⟨hc0, l0, hl0, hr0⟩ := open_kds h0
  obtain ⟨x1, rfl, rfl, rfl⟩ := open_bool Try.underlying4 (hval 1 4 v1 rfl rfl) h1
  obtain ⟨x2, rfl, rfl, rfl, wx2⟩ := open_int Try.underlying5 (hval 2 5 v2 rfl rfl) h2
  obtain ⟨x3, rfl, rfl, rfl, wx3⟩ := open_int Try.underlying50 (hval 3 50 v3 rfl rfl) h3
  refine (times_walk W A0 n0 c0 l0 x1 x2 x3 (u8_bd wx2) (u16_bd wx3) hr0).mono fun e W' ⟨he, hb⟩ => ?_
  subst he
  exact ⟨_, rfl, ⟨_, _, _, [], _, [], hW', trodAll_cons_mk (shut_bool Try.underlying4 _) trodAll_mk0, hAll W' hb, rfl, hb.frame _, fun h => by cases h⟩⟩
/-- The law: whatever the input, it returns true, and the input reads as it did. -/
theorem stoneTimes_holds : Rows.StoneTimesSaid :=
  OpenClaim.holds_of_wide 13 Try.f13 rfl rfl rfl rfl rfl rfl rfl ⟨rfl, rfl, rfl, rfl, rfl⟩ rfl rfl rfl rfl rfl (by kernel_rfl) Try.func13 (by kernel_rfl)
    (of_decide_eq_true (by kernel_rfl)) (by unfold Func.isWrapper; first | (rw [if_pos (by decide +kernel)]; kernel_rfl) | (rw [if_neg (by decide +kernel)]; exact ⟨rfl, rfl⟩))
    (fun os started H enc _ => stoneTimes_lifted os started H enc)
end
end Go.Proofs.Ytolghmhodaphfaa

