/- The statement RimJoined holds: whatever the arguments, the law returns true and leaves its arguments as they were. -/
import Derived.Test.YtiobmfggnacplaaMm
import Derived.Test.YtiobmfggnacplaaMo
set_option linter.unusedSimpArgs false
set_option linter.unusedVariables false
namespace Go.Proofs.Ytiobmfggnacplaa
open Go.RowKit Go.Shelf
attribute [local go_sem] Oper.semAt_some
theorem app_step0 {wr w6 : World} {v v6 u : Value} {B e s m : Nat} {ys : List Value} (hD : Apart v u) (hu : wr.ownsRow B e s u m ys) (hgr : wr.grownBy w6 v.ownBlock) (hob : v6.ownBlock = v.ownBlock ∨ v6.ownBlock = some wr.heap.size) : w6.ownsRow B e s u m ys ∧ Apart v6 u := by
  refine ⟨hu.kept hgr ?_, fun q h1 h2 => ?_⟩
  · cases h : u.ownBlock with
    | none => exact .inl rfl
    | some q => exact .inr fun e => hD q e.symm h
  · rcases hob with e | e
    · exact hD q (e.symm.trans h1) h2
    · rw [e] at h1
      have := (hu.lt q h2).2
      simp at h1
      omega
theorem ins_nn {w : World} {B n c : Nat} {A : Option Addr} {l : List Int} (h : InS w B A n l) (hn : 0 < n) : A = none → n = 0 ∧ c = 0 := fun e2 => by
  obtain ⟨b, off, e, _⟩ := ins_some h hn
  rw [e] at e2; cases e2
set_option maxRecDepth 100000 in
set_option maxHeartbeats 40000000 in
theorem rimJoined_walk (w : World) (K : Int) (A0 : Option Addr) (n c0 : Nat) (l : List Int) (x y z : Nat) (hx : x < 256) (hy : y < 256) (hz : z < 256) (h0 : InS w w.heap.size A0 n l) (hc0 : n ≤ c0) :
    Calls Try.prog 14 #[.int .i64 K, .slice A0 n c0, .int .u8 (x : Int), .int .u8 (y : Int), .int .u8 (z : Int)] w fun e w' => e = .returned (.bool true) ∧ Below w.heap.size w w' := by
  have H0 := hid h0
  have hl0 := hid h0.len
  clear h0
  cases hf0 : fineB K l
  · have Hf0 := hid hf0
    clear hf0
    go_enter Try.func14, Try.ntmps14
    obtain ⟨W0, rfl⟩ : ∃ W0 : World, W0 = w := ⟨_, rfl⟩
    skip
    skip
    have hbel : Below W0.heap.size W0 W0 := Below.refl _ _
    have hsz := hbel.size
    go_wp2_with (fail)
    refine (fineW_any K A0 n c0 l _ (H0.out.below (by repeat' (first | with_reducible assumption | with_reducible exact Below.refl _ _ | refine Below.alloc ?_ ?_ _ | refine Below.setCell ?_ ?_ _ | refine Below.drew ?_ | refine below_drewN ?_ _ | (simp; done) | (simp; omega) | omega)) (by first | (simp; done) | (simp; omega) | omega))).mono ?_
    rw [Hf0.out]
    rintro e W1 ⟨rfl, hb⟩
    have hst : Below W0.heap.size W0 W1 := Below.trans (by repeat' (first | with_reducible assumption | with_reducible exact Below.refl _ _ | refine Below.alloc ?_ ?_ _ | refine Below.setCell ?_ ?_ _ | refine Below.drew ?_ | refine below_drewN ?_ _ | (simp; done) | (simp; omega) | omega)) (hb.mono (by first | (simp; done) | (simp; omega) | omega))
    replace hbel := hbel.trans (hst.mono hsz)
    replace hsz := hbel.size
    replace H0 := hid (H0.out.below hst hst.size)
    clear hb hst
    obtain ⟨W0, rfl⟩ : ∃ W0 : World, W0 = W1 := ⟨_, rfl⟩
    go_wp2_with (fail)
    refine (works_any _).mono ?_
    rintro e W1 ⟨rfl, hb⟩
    have hst : Below W0.heap.size W0 W1 := Below.trans (by repeat' (first | with_reducible assumption | with_reducible exact Below.refl _ _ | refine Below.alloc ?_ ?_ _ | refine Below.setCell ?_ ?_ _ | refine Below.drew ?_ | refine below_drewN ?_ _ | (simp; done) | (simp; omega) | omega)) (hb.mono (by first | (simp; done) | (simp; omega) | omega))
    replace hbel := hbel.trans (hst.mono hsz)
    replace hsz := hbel.size
    replace H0 := hid (H0.out.below hst hst.size)
    clear hb hst
    obtain ⟨W0, rfl⟩ : ∃ W0 : World, W0 = W1 := ⟨_, rfl⟩
    go_wp2
    go_ret
    exact ⟨rfl, hbel⟩
  · have hok0 := fineB_t.1 hf0
    have Hf0 := hid hf0
    clear hf0
    by_cases hg : 16 < n
    · have hgi : (16 : Int) < n := by omega
      go_enter Try.func14, Try.ntmps14
      obtain ⟨W0, rfl⟩ : ∃ W0 : World, W0 = w := ⟨_, rfl⟩
      skip
      skip
      have hbel : Below W0.heap.size W0 W0 := Below.refl _ _
      have hsz := hbel.size
      go_wp2_with (fail)
      refine (fineW_any K A0 n c0 l _ (H0.out.below (by repeat' (first | with_reducible assumption | with_reducible exact Below.refl _ _ | refine Below.alloc ?_ ?_ _ | refine Below.setCell ?_ ?_ _ | refine Below.drew ?_ | refine below_drewN ?_ _ | (simp; done) | (simp; omega) | omega)) (by first | (simp; done) | (simp; omega) | omega))).mono ?_
      rw [Hf0.out]
      rintro e W1 ⟨rfl, hb⟩
      have hst : Below W0.heap.size W0 W1 := Below.trans (by repeat' (first | with_reducible assumption | with_reducible exact Below.refl _ _ | refine Below.alloc ?_ ?_ _ | refine Below.setCell ?_ ?_ _ | refine Below.drew ?_ | refine below_drewN ?_ _ | (simp; done) | (simp; omega) | omega)) (hb.mono (by first | (simp; done) | (simp; omega) | omega))
      replace hbel := hbel.trans (hst.mono hsz)
      replace hsz := hbel.size
      replace H0 := hid (H0.out.below hst hst.size)
      clear hb hst
      obtain ⟨W0, rfl⟩ : ∃ W0 : World, W0 = W1 := ⟨_, rfl⟩
      go_wp2_with (fail)
      refine (works_any _).mono ?_
      rintro e W1 ⟨rfl, hb⟩
      have hst : Below W0.heap.size W0 W1 := Below.trans (by repeat' (first | with_reducible assumption | with_reducible exact Below.refl _ _ | refine Below.alloc ?_ ?_ _ | refine Below.setCell ?_ ?_ _ | refine Below.drew ?_ | refine below_drewN ?_ _ | (simp; done) | (simp; omega) | omega)) (hb.mono (by first | (simp; done) | (simp; omega) | omega))
      replace hbel := hbel.trans (hst.mono hsz)
      replace hsz := hbel.size
      replace H0 := hid (H0.out.below hst hst.size)
      clear hb hst
      obtain ⟨W0, rfl⟩ : ∃ W0 : World, W0 = W1 := ⟨_, rfl⟩
      go_wp2
      go_ret
      exact ⟨rfl, hbel⟩
    · have hgi : ¬ (16 : Int) < n := by omega
      have hg16 : n ≤ 16 := by omega
      have h64 := (rim_good hok0).2.1
      have hKm := rim_good hok0
      rw [hl0.out] at h64
      have hn1 : 1 ≤ n := h64.1
      have hlp : 0 < l.length := by rw [hl0.out]; omega
      obtain ⟨r, hr⟩ : ∃ r, x % 4 = r := ⟨_, rfl⟩
      have hr4 : r < 4 := by omega
      have hmod : (x : Int) % 4 = (r : Int) := by rw [← hr]; exact (Int.natCast_emod x 4).symm
      have htmod : Int.tmod (x : Int) 4 = (r : Int) := by rw [← hr]; exact (Int.ofNat_tmod x 4).symm
      obtain ⟨m, hm⟩ : ∃ m, 1 + r = m := ⟨_, rfl⟩
      have hm1 : 1 ≤ m := by omega
      have hm4 : m ≤ 4 := by omega
      have zr : (1 : Int) + (r : Int) = (m : Int) := by omega
      have zm : IntKind.i64.wrap (m : Int) = (m : Int) := IntWalk.i64_in _ (by omega)
      have zx : IntKind.i64.wrap (x : Int) = (x : Int) := IntWalk.i64_in _ (by omega)
      have zy : IntKind.i64.wrap (y : Int) = (y : Int) := IntWalk.i64_in _ (by omega)
      have zz : IntKind.i64.wrap (z : Int) = (z : Int) := IntWalk.i64_in _ (by omega)
      obtain ⟨f, hf⟩ : ∃ f, y % n = f := ⟨_, rfl⟩
      have hfn : f < n := by rw [← hf]; exact Nat.mod_lt _ (by omega)
      have hmodf : (y : Int) % (n : Int) = (f : Int) := by rw [← hf]; exact (Int.natCast_emod y n).symm
      have htmodf : Int.tmod (y : Int) (n : Int) = (f : Int) := by rw [← hf]; exact (Int.ofNat_tmod y n).symm
      have zf : IntKind.i64.wrap (f : Int) = (f : Int) := IntWalk.i64_in _ (by omega)
      obtain ⟨q, hq⟩ : ∃ q, z % n = q := ⟨_, rfl⟩
      have hqn : q < n := by rw [← hq]; exact Nat.mod_lt _ (by omega)
      have hmodq : (z : Int) % (n : Int) = (q : Int) := by rw [← hq]; exact (Int.natCast_emod z n).symm
      have htmodq : Int.tmod (z : Int) (n : Int) = (q : Int) := by rw [← hq]; exact (Int.ofNat_tmod z n).symm
      have zq : IntKind.i64.wrap (q : Int) = (q : Int) := IntWalk.i64_in _ (by omega)
      obtain ⟨k, hk⟩ : ∃ k, 1 + q = k := ⟨_, rfl⟩
      have hk1 : 1 ≤ k := by omega
      have hkn : k ≤ n := by omega
      have zqk : (1 : Int) + (q : Int) = (k : Int) := by omega
      have zk : IntKind.i64.wrap (k : Int) = (k : Int) := IntWalk.i64_in _ (by omega)
      have hk0 : (0 : Int) ≤ k := by omega
      have hn0 : ¬ (n : Int) = 0 := by omega
      have hn00 : ¬ n = 0 := by omega
      have hE0 : Hid (decide (checkRim K l = 0) = true) := hid (decide_eq_true hok0)
      have HokE : Hid (checkRim K l = 0) := hid hok0
      have haV : Hid (leastV K l = least l) := hid (if_pos hok0)
      have hsK : Hid (leastK K l = lstart l) := hid (if_pos hok0)
      have hpV : Hid (perV K l = perL l) := hid (if_pos hok0)
      have hal : Hid ((least l).length = n) := hid (by rw [least_len, hl0.out])
      obtain ⟨N, hN⟩ : ∃ N, m * n = N := ⟨_, rfl⟩
      have hN64 : N ≤ 64 := by rw [← hN]; exact Nat.le_trans (Nat.mul_le_mul hm4 hg16) (by decide)
      have hN1 : 1 ≤ N := by rw [← hN]; exact Nat.mul_pos hm1 hn1
      have HN := hid hN
      have hxl : (repL m l).length = N := by rw [repL_len, hl0.out, hN]
      have hokX : checkRim K (repL m l) = 0 := by
        obtain ⟨h1, -, h3⟩ := hKm
        obtain ⟨K', rfl⟩ : ∃ K' : Nat, K = K' := ⟨K.toNat, by omega⟩
        exact checkRim_ok (by omega) (by omega) (by rw [hxl]; omega) (by rw [hxl]; omega) (fun v hv => h3 v (repL_mem hv))
      have hEX : Hid (decide (checkRim K (repL m l) = 0) = true) := hid (decide_eq_true hokX)
      have HokX : Hid (checkRim K (repL m l) = 0) := hid hokX
      have haX : Hid (leastV K (repL m l) = repL m (least l)) := hid (by unfold leastV; rw [if_pos hokX, repL_least hm1 hlp])
      have hsX : Hid (leastK K (repL m l) = lstart l) := hid (by unfold leastK; rw [if_pos hokX, repL_start hm1 hlp])
      have hpX : Hid (perV K (repL m l) = perL l) := hid (by unfold perV; rw [if_pos hokX, repL_per hm1 hlp])
      have hyl : (repL m (least l)).length = N := by rw [repL_len, hal.out, hN]
      have hyL := hid hyl
      obtain ⟨j, hjf, hj1, hj2⟩ := repL_find (m := m) (f := f) (k := k) (l := l) hm1 (by rw [hl0.out]; exact hfn) (by rw [hl0.out]; exact hkn)
      have hbl : ((rot l f).take k).length = k := by rw [List.length_take, rot_len, hl0.out]; omega
      have hokB : checkRim K ((rot l f).take k) = 0 := by
        obtain ⟨h1, -, h3⟩ := hKm
        obtain ⟨K', rfl⟩ : ∃ K' : Nat, K = K' := ⟨K.toNat, by omega⟩
        exact checkRim_ok (by omega) (by omega) (by rw [hbl]; omega) (by rw [hbl]; omega) (fun v hv => h3 v (rot_mem.1 (List.mem_of_mem_take hv)))
      have hfe1 : Hid (fdE K l ((rot l f).take k) = 0) := hid (by unfold fdE; rw [if_neg (by rw [hok0]; decide), if_neg (by rw [hokB]; decide), if_neg (by rw [hl0.out, hbl]; omega), hj1, if_neg (by simp)])
      have hfv1 : Hid (fdV K l ((rot l f).take k) = j) := hid (by unfold fdV; rw [if_neg (by rw [hok0]; decide), if_neg (by rw [hokB]; decide), if_neg (by rw [hl0.out, hbl]; omega), hj1]; rfl)
      have hnN : n ≤ N := by rw [← hN]; exact Nat.le_mul_of_pos_left _ hm1
      have hfe2 : Hid (fdE K (repL m l) ((rot l f).take k) = 0) := hid (by unfold fdE; rw [if_neg (by rw [hokX]; decide), if_neg (by rw [hokB]; decide), if_neg (by rw [hxl, hbl]; omega), hj2, if_neg (by simp)])
      have hfv2 : Hid (fdV K (repL m l) ((rot l f).take k) = j) := hid (by unfold fdV; rw [if_neg (by rw [hokX]; decide), if_neg (by rw [hokB]; decide), if_neg (by rw [hxl, hbl]; omega), hj2]; rfl)
      have hjfi : (j : Int) ≤ (f : Int) := by omega
      have hja : ∀ i, i < m → i * n + n ≤ 64 := fun i hi => by
        have h1 := Nat.mul_le_mul_right n (show i + 1 ≤ m by omega)
        rw [Nat.succ_mul] at h1; omega
      have Hja := hid hja
      have hqr : Hid (eqI (repL m (least l)) (repL m (least l)) = true) := hid (eqI_t.2 rfl)
      obtain ⟨p, hp⟩ : ∃ p, perL l = p := ⟨_, rfl⟩
      obtain ⟨s, hs⟩ : ∃ s, lstart l = s := ⟨_, rfl⟩
      obtain ⟨a, ha⟩ : ∃ a, least l = a := ⟨_, rfl⟩
      rw [hp] at hpV hpX
      rw [hs] at hsK hsX
      rw [ha] at haV hal haX hqr hyL
      obtain ⟨bb, hbb⟩ : ∃ bb, (rot l f).take k = bb := ⟨_, rfl⟩
      have Hbb := hid hbb
      rw [hbb] at hfe1 hfv1 hfe2 hfv2
      obtain ⟨i0, hi0, hi1, hi2, hi3⟩ := info_parts' info3
      have I0 := hid hi0; have I1 := hid hi1; have I2 := hid hi2; have I3 := hid hi3
      have hnn0 := hid (ins_nn (c := c0) H0.out hn1)
      have tss : ((s : Int) == (s : Int)) = true := by simp
      have tpp : ((p : Int) == (p : Int)) = true := by simp
      have tjj : ((j : Int) == (j : Int)) = true := by simp
      clear hf hq hk hr hm hN hxl hokX hyl hj1 hj2 hbl hokB hnN hja hp hs ha hbb hi0 hi1 hi2 hi3 hok0 h64 hKm hlp hg
      go_enter Try.func14, Try.ntmps14
      obtain ⟨W0, rfl⟩ : ∃ W0 : World, W0 = w := ⟨_, rfl⟩
      skip
      skip
      have hbel : Below W0.heap.size W0 W0 := Below.refl _ _
      have hsz := hbel.size
      go_wp2_with (fail)
      refine (fineW_any K A0 n c0 l _ (H0.out.below (by repeat' (first | with_reducible assumption | with_reducible exact Below.refl _ _ | refine Below.alloc ?_ ?_ _ | refine Below.setCell ?_ ?_ _ | refine Below.drew ?_ | refine below_drewN ?_ _ | (simp; done) | (simp; omega) | omega)) (by first | (simp; done) | (simp; omega) | omega))).mono ?_
      rw [Hf0.out]
      rintro e W1 ⟨rfl, hb⟩
      have hst : Below W0.heap.size W0 W1 := Below.trans (by repeat' (first | with_reducible assumption | with_reducible exact Below.refl _ _ | refine Below.alloc ?_ ?_ _ | refine Below.setCell ?_ ?_ _ | refine Below.drew ?_ | refine below_drewN ?_ _ | (simp; done) | (simp; omega) | omega)) (hb.mono (by first | (simp; done) | (simp; omega) | omega))
      replace hbel := hbel.trans (hst.mono hsz)
      replace hsz := hbel.size
      replace H0 := hid (H0.out.below hst hst.size)
      clear hb hst
      obtain ⟨W0, rfl⟩ : ∃ W0 : World, W0 = W1 := ⟨_, rfl⟩
      go_wp2_with (fail)
      refine (lawLeast_any K A0 n c0 l _ (H0.out.below (by repeat' (first | with_reducible assumption | with_reducible exact Below.refl _ _ | refine Below.alloc ?_ ?_ _ | refine Below.setCell ?_ ?_ _ | refine Below.drew ?_ | refine below_drewN ?_ _ | (simp; done) | (simp; omega) | omega)) (by first | (simp; done) | (simp; omega) | omega)) (by omega) hc0).mono ?_
      rw [hE0.out, haV.out, hsK.out]
      rintro e W1 ⟨Ba, ma, ca, rfl, hr, hb⟩
      have hr0 := hr.1.len
      obtain rfl : n = ma := by rw [← hr0, hal.out]
      have hr1 := hr.1
      have hca := hr.2.1
      clear hr hr0
      have hst : Below W0.heap.size W0 W1 := Below.trans (by repeat' (first | with_reducible assumption | with_reducible exact Below.refl _ _ | refine Below.alloc ?_ ?_ _ | refine Below.setCell ?_ ?_ _ | refine Below.drew ?_ | refine below_drewN ?_ _ | (simp; done) | (simp; omega) | omega)) (hb.mono (by first | (simp; done) | (simp; omega) | omega))
      replace hbel := hbel.trans (hst.mono hsz)
      replace hsz := hbel.size
      replace H0 := hid (H0.out.below hst hst.size)
      have Ha := hid hr1
      clear hr1
      clear hb hst
      obtain ⟨W0, rfl⟩ : ∃ W0 : World, W0 = W1 := ⟨_, rfl⟩
      have hnna := hid (ins_nn (c := ca) Ha.out hn1)
      go_wp2_with (fail)
      go_loopw [15, 16, 17] (fun u v i wr => ∃ e : Nat, e ≤ m ∧ i = .int .i64 (e : Int) ∧ Below W0.heap.size W0 wr ∧ Hid (wr.ownsRow W0.heap.size 3 1 u (e * n) ((repL e l).flatMap cI)) ∧ Hid (wr.ownsRow W0.heap.size 3 1 v (e * n) ((repL e a).flatMap cI)) ∧ Hid (Apart u v)) (fun _ _ i _ => m - (intOf i).toNat)
      case atStart => exact ⟨0, Nat.zero_le _, rfl, Below.refl _ _, hid (by rw [Nat.zero_mul]; exact World.ownsRow_nil _ _ _ _), hid (by rw [Nat.zero_mul]; exact World.ownsRow_nil _ _ _ _), hid (fun q hq => by cases hq)⟩
      case round =>
        obtain ⟨e, hem, rfl, hbr, hox, hoy, hap⟩ := hrel
        have hszr := hbr.size
        by_cases hlt : e < m
        · have hlti : (e : Int) < m := by omega
          have h64e := Hja.out e hlt
          have eX : (repL e l).flatMap cI ++ l.flatMap cI = (repL (e + 1) l).flatMap cI := by rw [repL_succ, List.flatMap_append]
          have eY : (repL e a).flatMap cI ++ a.flatMap cI = (repL (e + 1) a).flatMap cI := by rw [repL_succ, List.flatMap_append]
          have eN : e * n + n = (e + 1) * n := (Nat.succ_mul e n).symm
          have EX := hid eX
          have EY := hid eY
          have EN := hid eN
          clear eX eY eN
          go_wp2_with (first | (at_builtin; refine wpList_append_srcG (by rfl) _ _ 22 rfl W0.heap.size 3 i0 _ 1 8 under22 I0.out I1.out I2.out I3.out rfl (by decide) _ (e * n) ((repL e l).flatMap cI) rfl hox.out A0 n c0 (l.flatMap cI) rfl wr.heap.size (Sl.below' H0.out hbr hszr) hnn0.out (one_flatI _) (by unfold maxLen; omega) (by omega) hszr ?_; intro v4 w4 ho4 hg4 _ hob4; have hb4 : Below W0.heap.size W0 w4 := hbr.grown hg4 hszr (fun r hr => (World.ownsRow.lt hox.out r hr).1); obtain ⟨ho5, hap5⟩ := app_step0 hap.out hoy.out hg4 hob4; rw [EX.out, EN.out] at ho4; have HX4 := hid ho4; have HY4 := hid ho5; have HA4 := hid hap5; have hsz4 := hb4.size; clear ho4 ho5 hap5 hg4 hob4 hox hoy hap) | (at_builtin; refine wpList_append_srcG (by rfl) _ _ 22 rfl W0.heap.size 3 i0 _ 1 8 under22 I0.out I1.out I2.out I3.out rfl (by decide) _ (e * n) ((repL e a).flatMap cI) rfl HY4.out Ba n ca (a.flatMap cI) rfl w4.heap.size (Sl.below' Ha.out hb4 hsz4) hnna.out (one_flatI _) (by unfold maxLen; omega) (by omega) hsz4 ?_; intro v5 w5 ho5 hg5 _ hob5; have hb5 : Below W0.heap.size W0 w5 := hb4.grown hg5 hsz4 (fun r hr => (World.ownsRow.lt HY4.out r hr).1); obtain ⟨ho6, hap6⟩ := app_step0 HA4.out.symm HX4.out hg5 hob5; rw [EY.out, EN.out] at ho5; have HX5 := hid ho6; have HY5 := hid ho5; have HA5 := hid hap6.symm; clear ho5 ho6 hap6 hg5 hob5 HX4 HY4 HA4))
          exact ⟨⟨e + 1, by omega, by go_num, hb5, HX5, HY5, HA5⟩, by simp [intOf]; omega⟩
        · obtain rfl : m = e := by omega
          have hlti : ¬ (m : Int) < m := by omega
          have hox2 := hox.out
          have hoy2 := hoy.out
          rw [HN.out] at hox2 hoy2
          obtain ⟨AX, cX, rfl, hX⟩ := sl_of_owns hox2
          obtain ⟨AY, cY, rfl, hY⟩ := sl_of_owns hoy2
          have hcX := own_capN hox2
          have HX : Hid (InS wr wr.heap.size AX N (repL m l)) := hid hX
          have HY : Hid (InS wr wr.heap.size AY N (repL m a)) := hid hY
          have hbel9 := hbel.trans (hbr.mono hsz)
          replace H0 := hid (H0.out.below hbr hszr)
          clear hox hoy hox2 hoy2 hX hY hap hbel hsz Ha hnna Hja
          obtain ⟨W0, rfl⟩ : ∃ W0 : World, W0 = wr := ⟨_, rfl⟩
          have hbel := hbel9
          have hsz := hbel.size
          clear hbel9
          go_wp2_with (fail)
          refine (lawLeast_any K AX N cX (repL m l) _ (HX.out.below (by repeat' (first | with_reducible assumption | with_reducible exact Below.refl _ _ | refine Below.alloc ?_ ?_ _ | refine Below.setCell ?_ ?_ _ | refine Below.drew ?_ | refine below_drewN ?_ _ | (simp; done) | (simp; omega) | omega)) (by first | (simp; done) | (simp; omega) | omega)) (by omega) hcX).mono ?_
          rw [hEX.out, haX.out, hsX.out]
          rintro e W1 ⟨Bb, mb, cb, rfl, hr, hb⟩
          have hr0 := hr.1.len
          obtain rfl : N = mb := by rw [← hr0, hyL.out]
          have hr1 := hr.1
          clear hr hr0
          have hst : Below W0.heap.size W0 W1 := Below.trans (by repeat' (first | with_reducible assumption | with_reducible exact Below.refl _ _ | refine Below.alloc ?_ ?_ _ | refine Below.setCell ?_ ?_ _ | refine Below.drew ?_ | refine below_drewN ?_ _ | (simp; done) | (simp; omega) | omega)) (hb.mono (by first | (simp; done) | (simp; omega) | omega))
          replace hbel := hbel.trans (hst.mono hsz)
          replace hsz := hbel.size
          replace H0 := hid (H0.out.below hst hst.size)
          replace HX := hid (HX.out.below hst hst.size)
          replace HY := hid (HY.out.below hst hst.size)
          have Hb := hid hr1
          clear hr1
          clear hb hst
          obtain ⟨W0, rfl⟩ : ∃ W0 : World, W0 = W1 := ⟨_, rfl⟩
          go_wp2_with (fail)
          refine (periodF_any K A0 n c0 l _ (H0.out.below (by repeat' (first | with_reducible assumption | with_reducible exact Below.refl _ _ | refine Below.alloc ?_ ?_ _ | refine Below.setCell ?_ ?_ _ | refine Below.drew ?_ | refine below_drewN ?_ _ | (simp; done) | (simp; omega) | omega)) (by first | (simp; done) | (simp; omega) | omega)) (by omega) hc0).mono ?_
          rw [hpV.out, HokE.out]
          rintro e W1 ⟨rfl, hb⟩
          have hst : Below W0.heap.size W0 W1 := Below.trans (by repeat' (first | with_reducible assumption | with_reducible exact Below.refl _ _ | refine Below.alloc ?_ ?_ _ | refine Below.setCell ?_ ?_ _ | refine Below.drew ?_ | refine below_drewN ?_ _ | (simp; done) | (simp; omega) | omega)) (hb.mono (by first | (simp; done) | (simp; omega) | omega))
          replace hbel := hbel.trans (hst.mono hsz)
          replace hsz := hbel.size
          replace H0 := hid (H0.out.below hst hst.size)
          replace HX := hid (HX.out.below hst hst.size)
          replace HY := hid (HY.out.below hst hst.size)
          replace Hb := hid (Hb.out.below hst hst.size)
          clear hb hst
          obtain ⟨W0, rfl⟩ : ∃ W0 : World, W0 = W1 := ⟨_, rfl⟩
          go_wp2_with (fail)
          refine (periodF_any K AX N cX (repL m l) _ (HX.out.below (by repeat' (first | with_reducible assumption | with_reducible exact Below.refl _ _ | refine Below.alloc ?_ ?_ _ | refine Below.setCell ?_ ?_ _ | refine Below.drew ?_ | refine below_drewN ?_ _ | (simp; done) | (simp; omega) | omega)) (by first | (simp; done) | (simp; omega) | omega)) (by omega) hcX).mono ?_
          rw [hpX.out, HokX.out]
          rintro e W1 ⟨rfl, hb⟩
          have hst : Below W0.heap.size W0 W1 := Below.trans (by repeat' (first | with_reducible assumption | with_reducible exact Below.refl _ _ | refine Below.alloc ?_ ?_ _ | refine Below.setCell ?_ ?_ _ | refine Below.drew ?_ | refine below_drewN ?_ _ | (simp; done) | (simp; omega) | omega)) (hb.mono (by first | (simp; done) | (simp; omega) | omega))
          replace hbel := hbel.trans (hst.mono hsz)
          replace hsz := hbel.size
          replace H0 := hid (H0.out.below hst hst.size)
          replace HX := hid (HX.out.below hst hst.size)
          replace HY := hid (HY.out.below hst hst.size)
          replace Hb := hid (Hb.out.below hst hst.size)
          clear hb hst
          obtain ⟨W0, rfl⟩ : ∃ W0 : World, W0 = W1 := ⟨_, rfl⟩
          go_wp2_with (fail)
          refine Sx.wp_region_el (fun W => Below W0.heap.size W0 W) (hSb W0) [0, 1, 2, 3, 4, 5, 7, 8, 9, 10, 11, 12] 3 (by kernel_rfl) (by kernel_rfl) ((Below.refl _ _).drew) ?_
          simp only [pick, List.getElem?_toArray, List.getElem?_cons_zero, List.getElem?_cons_succ]
          (refine Sx.wpE_val (v := ?_) (by rfl) (fun W hW => ?_) ?_; rotate_left; (· skip; go_simp; with_reducible rfl); simp only [Act.put, List.setIfInBounds_toArray, List.set_cons_zero, List.set_cons_succ])
          (refine Sx.wpE_val (v := ?_) (by rfl) (fun W hW => ?_) ?_; rotate_left; (· skip; go_simp; with_reducible rfl); simp only [Act.put, List.setIfInBounds_toArray, List.set_cons_zero, List.set_cons_succ])
          (refine Sx.wpE_val (v := ?_) (by rfl) (fun W hW => ?_) ?_; rotate_left; (· skip; go_simp; with_reducible rfl); simp only [Act.put, List.setIfInBounds_toArray, List.set_cons_zero, List.set_cons_succ])
          (refine Sx.wpE_val (v := ?_) (by rfl) (fun W hW => ?_) ?_; rotate_left; (· skip; go_simp; with_reducible rfl); simp only [Act.put, List.setIfInBounds_toArray, List.set_cons_zero, List.set_cons_succ])
          (refine Sx.wpE_val (v := ?_) (by rfl) (fun W hW => ?_) ?_; rotate_left; (· skip; go_simp; with_reducible rfl); simp only [Act.put, List.setIfInBounds_toArray, List.set_cons_zero, List.set_cons_succ])
          (refine Sx.wpE_val (v := ?_) (by rfl) (fun W hW => ?_) ?_; rotate_left; (· skip; go_simp; with_reducible rfl); simp only [Act.put, List.setIfInBounds_toArray, List.set_cons_zero, List.set_cons_succ])
          (refine Sx.wpE_val (v := ?_) (by rfl) (fun W hW => ?_) ?_; rotate_left; (· skip; go_simp; with_reducible rfl); simp only [Act.put, List.setIfInBounds_toArray, List.set_cons_zero, List.set_cons_succ])
          (refine Sx.wpE_val (v := ?_) (by rfl) (fun W hW => ?_) ?_; rotate_left; (· skip; go_simp; with_reducible rfl); simp only [Act.put, List.setIfInBounds_toArray, List.set_cons_zero, List.set_cons_succ])
          (refine Sx.wpE_val (v := ?_) (by rfl) (fun W hW => ?_) ?_; rotate_left; (· skip; go_simp; with_reducible rfl); simp only [Act.put, List.setIfInBounds_toArray, List.set_cons_zero, List.set_cons_succ])
          (refine Sx.wpE_val (v := ?_) (by rfl) (fun W hW => ?_) ?_; rotate_left; (· skip; go_simp; with_reducible rfl); simp only [Act.put, List.setIfInBounds_toArray, List.set_cons_zero, List.set_cons_succ])
          (refine Sx.wpE_val (v := ?_) (by rfl) (fun W hW => ?_) ?_; rotate_left; (· skip; go_simp; with_reducible rfl); simp only [Act.put, List.setIfInBounds_toArray, List.set_cons_zero, List.set_cons_succ])
          (refine Sx.wpE_val (v := ?_) (by rfl) (fun W hW => ?_) ?_; rotate_left; (· skip; go_simp; with_reducible rfl); simp only [Act.put, List.setIfInBounds_toArray, List.set_cons_zero, List.set_cons_succ])
          simp only [Sx.wpE]
          (refine Sx.wpM_one 6 _ (by simp only [List.getElem?_toArray, List.getElem?_cons_zero, List.getElem?_cons_succ]; rfl) (by kernel_rfl) (by rfl) ?_)
          intro X1 hu1 hs1
          (go_simp; simp only [LUpon, Act.put]; try simp only [List.setIfInBounds_toArray, List.set_cons_zero, List.set_cons_succ])
          refine (turnOf_any A0 n c0 l f X1 (H0.out.below hs1 hs1.size) (by omega) (by omega)).mono ?_
          rintro e X2 ⟨vq, rfl, hoq, hb2⟩
          obtain ⟨g, cq, rfl, hgb, hgl⟩ := own_form2 hoq hn1
          have hiq : InS X2 X2.heap.size (some ⟨g, 0, none⟩) n (rot l f) := by
            obtain ⟨A', c', e', h'⟩ := sl_of_owns hoq
            cases e'; exact h'
          have hcq := own_capN hoq
          have hkq : k ≤ cq := by omega
          have hkqi : (k : Int) ≤ cq := by omega
          have hs2 : Below W0.heap.size W0 X2 := hs1.trans (hb2.mono hs1.size)
          refine ⟨_, rfl, hs2, ?_⟩
          have Hiq := hid (insTake hiq hkn)
          rw [Hbb.out] at Hiq
          clear hoq hiq hb2
          try simp only [Act.put, List.setIfInBounds_toArray, List.set_cons_zero, List.set_cons_succ]
          (refine Sx.wpM_one 13 _ (by simp only [List.getElem?_toArray, List.getElem?_cons_zero, List.getElem?_cons_succ]; rfl) (by kernel_rfl) (by rfl) ?_)
          intro X3 hu3 hs3
          (go_simp; simp only [LUpon, Act.put]; try simp only [List.setIfInBounds_toArray, List.set_cons_zero, List.set_cons_succ])
          refine ⟨hs3, ?_⟩
          have Hi3 := hid (Hiq.out.below hu3 hu3.size)
          clear Hiq
          try simp only [Act.put, List.setIfInBounds_toArray, List.set_cons_zero, List.set_cons_succ]
          refine Sx.wpM_early (hSb W0) (by kernel_rfl) [14] 0 _ _ (by kernel_rfl) ?_
          simp only [pick, List.getElem?_toArray, List.getElem?_cons_zero, List.getElem?_cons_succ]
          (refine Sx.wpE_val (v := ?_) (by rfl) (fun W hW => ?_) ?_; rotate_left; (· skip; go_simp; with_reducible rfl); simp only [Act.put, List.setIfInBounds_toArray, List.set_cons_zero, List.set_cons_succ])
          simp only [Sx.wpE]
          refine Sx.wpM_end (by kernel_rfl) ?_
          intro W1 hvz hb
          have HB3 := hid (Hi3.out.below hvz hvz.size)
          clear Hi3 hu1 hs1 hs2 hu3 hs3 hvz
          have hst : Below W0.heap.size W0 W1 := Below.trans (by repeat' (first | with_reducible assumption | with_reducible exact Below.refl _ _ | refine Below.alloc ?_ ?_ _ | refine Below.setCell ?_ ?_ _ | refine Below.drew ?_ | refine below_drewN ?_ _ | (simp; done) | (simp; omega) | omega)) (hb.mono (by first | (simp; done) | (simp; omega) | omega))
          replace hbel := hbel.trans (hst.mono hsz)
          replace hsz := hbel.size
          replace H0 := hid (H0.out.below hst hst.size)
          replace HX := hid (HX.out.below hst hst.size)
          replace HY := hid (HY.out.below hst hst.size)
          replace Hb := hid (Hb.out.below hst hst.size)
          have HBq := hid HB3.out
          clear hb hst
          obtain ⟨W0, rfl⟩ : ∃ W0 : World, W0 = W1 := ⟨_, rfl⟩
          clear HB3
          go_wp2_with (fail)
          refine (find_any K A0 (some ⟨g, 0, none⟩) n c0 k cq l bb _ (H0.out.below (by repeat' (first | with_reducible assumption | with_reducible exact Below.refl _ _ | refine Below.alloc ?_ ?_ _ | refine Below.setCell ?_ ?_ _ | refine Below.drew ?_ | refine below_drewN ?_ _ | (simp; done) | (simp; omega) | omega)) (by first | (simp; done) | (simp; omega) | omega)) (HBq.out.below (by repeat' (first | with_reducible assumption | with_reducible exact Below.refl _ _ | refine Below.alloc ?_ ?_ _ | refine Below.setCell ?_ ?_ _ | refine Below.drew ?_ | refine below_drewN ?_ _ | (simp; done) | (simp; omega) | omega)) (by first | (simp; done) | (simp; omega) | omega)) (by omega) (by omega) hc0).mono ?_
          rw [hfe1.out, hfv1.out]
          rintro e W1 ⟨rfl, hb⟩
          have hst : Below W0.heap.size W0 W1 := Below.trans (by repeat' (first | with_reducible assumption | with_reducible exact Below.refl _ _ | refine Below.alloc ?_ ?_ _ | refine Below.setCell ?_ ?_ _ | refine Below.drew ?_ | refine below_drewN ?_ _ | (simp; done) | (simp; omega) | omega)) (hb.mono (by first | (simp; done) | (simp; omega) | omega))
          replace hbel := hbel.trans (hst.mono hsz)
          replace hsz := hbel.size
          replace H0 := hid (H0.out.below hst hst.size)
          replace HX := hid (HX.out.below hst hst.size)
          replace HY := hid (HY.out.below hst hst.size)
          replace Hb := hid (Hb.out.below hst hst.size)
          replace HBq := hid (HBq.out.below hst hst.size)
          clear hb hst
          obtain ⟨W0, rfl⟩ : ∃ W0 : World, W0 = W1 := ⟨_, rfl⟩
          go_wp2_with (fail)
          refine (find_any K AX (some ⟨g, 0, none⟩) N cX k cq (repL m l) bb _ (HX.out.below (by repeat' (first | with_reducible assumption | with_reducible exact Below.refl _ _ | refine Below.alloc ?_ ?_ _ | refine Below.setCell ?_ ?_ _ | refine Below.drew ?_ | refine below_drewN ?_ _ | (simp; done) | (simp; omega) | omega)) (by first | (simp; done) | (simp; omega) | omega)) (HBq.out.below (by repeat' (first | with_reducible assumption | with_reducible exact Below.refl _ _ | refine Below.alloc ?_ ?_ _ | refine Below.setCell ?_ ?_ _ | refine Below.drew ?_ | refine below_drewN ?_ _ | (simp; done) | (simp; omega) | omega)) (by first | (simp; done) | (simp; omega) | omega)) (by omega) (by omega) hcX).mono ?_
          rw [hfe2.out, hfv2.out]
          rintro e W1 ⟨rfl, hb⟩
          have hst : Below W0.heap.size W0 W1 := Below.trans (by repeat' (first | with_reducible assumption | with_reducible exact Below.refl _ _ | refine Below.alloc ?_ ?_ _ | refine Below.setCell ?_ ?_ _ | refine Below.drew ?_ | refine below_drewN ?_ _ | (simp; done) | (simp; omega) | omega)) (hb.mono (by first | (simp; done) | (simp; omega) | omega))
          replace hbel := hbel.trans (hst.mono hsz)
          replace hsz := hbel.size
          replace H0 := hid (H0.out.below hst hst.size)
          replace HX := hid (HX.out.below hst hst.size)
          replace HY := hid (HY.out.below hst hst.size)
          replace Hb := hid (Hb.out.below hst hst.size)
          replace HBq := hid (HBq.out.below hst hst.size)
          clear hb hst
          obtain ⟨W0, rfl⟩ : ∃ W0 : World, W0 = W1 := ⟨_, rfl⟩
          go_wp2_with (fail)
          refine (ints_any _ Bb AY N cb N cY (repL m a) (repL m a) (Hb.out.below (by repeat' (first | with_reducible assumption | with_reducible exact Below.refl _ _ | refine Below.alloc ?_ ?_ _ | refine Below.setCell ?_ ?_ _ | refine Below.drew ?_ | refine below_drewN ?_ _ | (simp; done) | (simp; omega) | omega)) (by first | (simp; done) | (simp; omega) | omega)) (HY.out.below (by repeat' (first | with_reducible assumption | with_reducible exact Below.refl _ _ | refine Below.alloc ?_ ?_ _ | refine Below.setCell ?_ ?_ _ | refine Below.drew ?_ | refine below_drewN ?_ _ | (simp; done) | (simp; omega) | omega)) (by first | (simp; done) | (simp; omega) | omega)) (by omega)).mono ?_
          rw [hqr.out]
          rintro e W1 ⟨rfl, hb⟩
          have hst : Below W0.heap.size W0 W1 := Below.trans (by repeat' (first | with_reducible assumption | with_reducible exact Below.refl _ _ | refine Below.alloc ?_ ?_ _ | refine Below.setCell ?_ ?_ _ | refine Below.drew ?_ | refine below_drewN ?_ _ | (simp; done) | (simp; omega) | omega)) (hb.mono (by first | (simp; done) | (simp; omega) | omega))
          replace hbel := hbel.trans (hst.mono hsz)
          replace hsz := hbel.size
          replace H0 := hid (H0.out.below hst hst.size)
          replace HX := hid (HX.out.below hst hst.size)
          replace HY := hid (HY.out.below hst hst.size)
          replace Hb := hid (Hb.out.below hst hst.size)
          replace HBq := hid (HBq.out.below hst hst.size)
          clear hb hst
          obtain ⟨W0, rfl⟩ : ∃ W0 : World, W0 = W1 := ⟨_, rfl⟩
          go_wp2_with (fail)
          refine (works_any _).mono ?_
          rintro e W1 ⟨rfl, hb⟩
          have hst : Below W0.heap.size W0 W1 := Below.trans (by repeat' (first | with_reducible assumption | with_reducible exact Below.refl _ _ | refine Below.alloc ?_ ?_ _ | refine Below.setCell ?_ ?_ _ | refine Below.drew ?_ | refine below_drewN ?_ _ | (simp; done) | (simp; omega) | omega)) (hb.mono (by first | (simp; done) | (simp; omega) | omega))
          replace hbel := hbel.trans (hst.mono hsz)
          replace hsz := hbel.size
          replace H0 := hid (H0.out.below hst hst.size)
          replace HX := hid (HX.out.below hst hst.size)
          replace HY := hid (HY.out.below hst hst.size)
          replace Hb := hid (Hb.out.below hst hst.size)
          replace HBq := hid (HBq.out.below hst hst.size)
          clear hb hst
          obtain ⟨W0, rfl⟩ : ∃ W0 : World, W0 = W1 := ⟨_, rfl⟩
          go_wp2
          go_ret
          exact ⟨rfl, hbel⟩

section
open Go.ChangeShapes Go.WideShapes Go.ChangeAt Go.RowKit
set_option maxRecDepth 100000 in
theorem rimJoined_lifted (os : Os) (started : os.Started) (H : Type) (enc : TypeId × Value → H) :
    ReturnsInHanded {} Try.checked os 14 .any (Rows.rimJoinedSpec.pre6 enc Try.prog Try.f14 Rows.rimJoinedRow.domain false) (Rows.rimJoinedSpec.post enc Try.prog Try.f14 false true false false) := by
  refine returnsInHanded_of_change (C := Try.checked) ownKx started (by kernel_rfl) Try.func14
    (ChangeSpec.witness6 (enc := enc) (C := Try.checked) false ⟨#[], #[.int .i64 0, .slice none 0 0, .int .u8 0, .int .u8 0, .int .u8 0], []⟩ 8 (by kernel_rfl) (by kernel_rfl) (by kernel_rfl) (by kernel_rfl)) ?_
  intro W base args ds gs before hval0 hW hcnd _
  have hval : ∀ (j : Nat) t v, Try.f14.params[j]? = some t → args[j]? = some v → Value.okWide Try.prog W .any base t v := hval0
  have hW' := hW
  obtain ⟨p, q, hA0, hV, rfl, hfz, hnd⟩ := hW
  have hA : DataW.TrodAll enc Try.prog W 0 (fun _ => true) true Try.f14.params.toList args.toList ds p := hA0
  have hlt : ∀ x ∈ p, x.block < W.heap.size := fun x hx => hW'.lt x (List.mem_append_left _ hx)
  have hAll : ∀ W', Below W.heap.size W W' → DataW.TrodAll enc Try.prog W' 0 (fun b => decide (b < W.heap.size)) true Try.f14.params.toList args.toList ds p := fun W' hb => all_below laidOut hb (readable_of (by kernel_rfl)) hlt hA
  rw [Try.params14] at hA hval
  obtain ⟨v0, v1, v2, v3, v4, d0, d1, d2, d3, d4, p0, p1, p2, p3, p4, rfl, rfl, rfl, h0, h1, h2, h3, h4⟩ := trodAll_five hA
  obtain ⟨rfl, rfl⟩ := trodVars_none hV
  clear hA0 hval0
  obtain ⟨x0, rfl, rfl, rfl, wx0⟩ := open_int Try.underlying3 (hval 0 3 v0 rfl rfl) h0
  obtain ⟨A1, n1, c1, rfl⟩ := okWide_slice Try.underlying22 (hval 1 22 v1 rfl rfl)
  obtain ⟨hc1, l1, hl1, hr1⟩ := open_ins Try.underlying22 Try.underlying3 (by kernel_rfl) h1
  obtain ⟨x2, rfl, rfl, rfl, wx2⟩ := open_int Try.underlying5 (hval 2 5 v2 rfl rfl) h2
  obtain ⟨x3, rfl, rfl, rfl, wx3⟩ := open_int Try.underlying5 (hval 3 5 v3 rfl rfl) h3
  obtain ⟨x4, rfl, rfl, rfl, wx4⟩ := open_int Try.underlying5 (hval 4 5 v4 rfl rfl) h4
  obtain ⟨y2, rfl⟩ : ∃ y : Nat, x2 = y := ⟨x2.toNat, (Int.toNat_of_nonneg (wf_u8 wx2).1).symm⟩
  obtain ⟨y3, rfl⟩ : ∃ y : Nat, x3 = y := ⟨x3.toNat, (Int.toNat_of_nonneg (wf_u8 wx3).1).symm⟩
  obtain ⟨y4, rfl⟩ : ∃ y : Nat, x4 = y := ⟨x4.toNat, (Int.toNat_of_nonneg (wf_u8 wx4).1).symm⟩
  refine (rimJoined_walk W x0 A1 n1 c1 l1 y2 y3 y4 (by have := wf_u8 wx2; omega) (by have := wf_u8 wx3; omega) (by have := wf_u8 wx4; omega) hr1 hc1).mono fun e W' ⟨he, hb⟩ => ?_
  subst he
  exact ⟨_, rfl, ⟨_, _, _, [], _, [], hW', trodAll_cons_mk (shut_bool Try.underlying4 _) trodAll_mk0, hAll W' hb, rfl, hb.frame _, fun h => by cases h⟩⟩
/-- The law: whatever the input, it returns true, and the input reads as it did. -/
theorem rimJoined_holds : Rows.RimJoinedSaid :=
  OpenClaim.holds_of_wide 14 Try.f14 rfl rfl rfl rfl rfl rfl rfl ⟨rfl, rfl, rfl, rfl, rfl⟩ rfl rfl rfl rfl rfl (by kernel_rfl) Try.func14 (by kernel_rfl)
    (of_decide_eq_true (by kernel_rfl)) (by unfold Func.isWrapper; first | (rw [if_pos (by decide +kernel)]; kernel_rfl) | (rw [if_neg (by decide +kernel)]; exact ⟨rfl, rfl⟩))
    (fun os started H enc _ => rimJoined_lifted os started H enc)
end
end Go.Proofs.Ytiobmfggnacplaa

