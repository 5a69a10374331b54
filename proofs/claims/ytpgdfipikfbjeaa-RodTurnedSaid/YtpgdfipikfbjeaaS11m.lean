/- The statement RodTurned holds: whatever the arguments, the law returns true and leaves its arguments as they were. -/
import Derived.Test.YtpgdfipikfbjeaaMr
set_option linter.unusedSimpArgs false
set_option linter.unusedVariables false
namespace Go.Proofs.Ytpgdfipikfbjeaa
open Go.RowKit Go.Shelf
attribute [local go_sem] Oper.semAt_some
set_option maxRecDepth 100000 in
set_option maxHeartbeats 40000000 in
theorem rodTurned_walk (w : World) (P M : Int) (A : Option Addr) (n c : Nat) (pl : List (List Int)) (mo fr x : Int) (hmo : 0 ≤ mo ∧ mo ≤ 255) (hfr : 0 ≤ fr ∧ fr ≤ 255) (hx : 0 ≤ x ∧ x ≤ 255) (hp : LiS w w.heap.size A n pl) :
    Calls Try.prog 11 #[.agg #[.int .i64 P, .int .i64 M], .slice A n c, .int .u8 mo, .int .u8 fr, .int .u8 x] w fun e w' => e = .returned (.bool true) ∧ Below w.heap.size w w' := by
  have la := hid hp.1
  obtain ⟨W0, hWb⟩ : ∃ W0, w.alloc (.cells #[.int .i64 P, .int .i64 M] 23) = W0 := ⟨_, rfl⟩
  have bB : Blk W0 w.heap.size 23 #[.int .i64 P, .int .i64 M] := by rw [← hWb]; exact Blk.new' rfl
  have hbel : Below w.heap.size w W0 := by rw [← hWb]; exact (Below.refl _ _).alloc (Nat.le_refl _) _
  have hsz := hbel.size
  have lB := bB.lt
  have p0 := bB.cell 0
  have p1 := bB.cell 1
  have HP := hid (hp.below hbel hsz)
  clear hp
  obtain ⟨xn, rfl⟩ : ∃ k : Nat, x = k := ⟨x.toNat, by omega⟩
  obtain ⟨mn, rfl⟩ : ∃ k : Nat, mo = k := ⟨mo.toNat, by omega⟩
  obtain ⟨f, rfl⟩ : ∃ k : Nat, fr = k := ⟨fr.toNat, by omega⟩
  cases hf : fineB P M pl
  · have Hf := hid hf
    clear hf
    go_enter Try.func11, Try.ntmps11
    go_wp2_with (fail)
    refine (fineW_any A n c pl P M _ (HP.out.below (by repeat' (first | with_reducible assumption | with_reducible exact Below.refl _ _ | refine Below.alloc ?_ ?_ _ | refine Below.setCell ?_ ?_ _ | refine Below.drew ?_ | refine below_drewN ?_ _ | (simp; done) | (simp; omega) | omega)) (by first | (simp; done) | (simp; omega) | omega))).mono ?_
    rw [Hf.out]
    rintro e W1 ⟨rfl, hb⟩
    have hst : Below W0.heap.size W0 W1 := Below.trans (by repeat' (first | with_reducible assumption | with_reducible exact Below.refl _ _ | refine Below.alloc ?_ ?_ _ | refine Below.setCell ?_ ?_ _ | refine Below.drew ?_ | refine below_drewN ?_ _ | (simp; done) | (simp; omega) | omega)) (hb.mono (by first | (simp; done) | (simp; omega) | omega))
    replace hbel := hbel.trans (hst.mono hsz)
    replace hsz := hbel.size
    replace bB := bB.below hst bB.lt
    clear p0 p1 lB
    have p0 := bB.cell 0
    have p1 := bB.cell 1
    have lB := bB.lt
    try clear hWb
    replace HP := hid (HP.out.below hst hst.size)
    clear hb hst
    obtain ⟨W0, rfl⟩ : ∃ W0 : World, W0 = W1 := ⟨_, rfl⟩
    go_wp2_with (fail)
    refine (works_any _).mono ?_
    rintro e W1 ⟨rfl, hb⟩
    have hst : Below W0.heap.size W0 W1 := Below.trans (by repeat' (first | with_reducible assumption | with_reducible exact Below.refl _ _ | refine Below.alloc ?_ ?_ _ | refine Below.setCell ?_ ?_ _ | refine Below.drew ?_ | refine below_drewN ?_ _ | (simp; done) | (simp; omega) | omega)) (hb.mono (by first | (simp; done) | (simp; omega) | omega))
    replace hbel := hbel.trans (hst.mono hsz)
    replace hsz := hbel.size
    replace bB := bB.below hst bB.lt
    clear p0 p1 lB
    have p0 := bB.cell 0
    have p1 := bB.cell 1
    have lB := bB.lt
    try clear hWb
    replace HP := hid (HP.out.below hst hst.size)
    clear hb hst
    obtain ⟨W0, rfl⟩ : ∃ W0 : World, W0 = W1 := ⟨_, rfl⟩
    go_wp2
    go_ret
    exact ⟨rfl, hbel⟩
  · have Hf := hid hf
    obtain ⟨k1, k2, hc0⟩ := fine_good hf
    obtain ⟨p, m0, rfl, rfl, hp1, hp8, hm2, hpl8, hisl⟩ := plan_nat hc0
    have hn : n ≤ 8 := by rw [← la.out]; exact hpl8
    have Hc := hid hc0
    have K2 := hid k2
    have Hisl := hid hisl
    clear hf k1 k2 hc0 hisl
    obtain ⟨cc, hcc⟩ : ∃ cc, atC p m0 xn = cc := ⟨_, rfl⟩
    have hcm : cc ∈ casesL p m0 := by rw [← hcc]; exact at_mem p m0 xn
    have Hcc := hid hcc
    have hcl := (cases_isL hp8 hm2 cc hcm).2
    obtain ⟨rl, hrl⟩ : ∃ rl, resL pl cc = rl := ⟨_, rfl⟩
    have Hre := hid (resE_case hp8 hm2 Hc.out hcm)
    have Hrv := hid ((resV_case hp8 hm2 Hc.out hcm).trans hrl)
    have hrn : rl.length = n := by rw [← hrl, resL_len]; exact la.out
    have Hse : Hid (errR p m0 pl rl = 0) := hid (by rw [← hrl]; exact errR_case Hc.out cc)
    have Hte : Hid (toldE p m0 pl rl = 0) := hid (by rw [← hrl]; exact toldE_case Hc.out hcm)
    obtain ⟨tv, htv⟩ : ∃ tv, toldL p m0 pl rl = tv := ⟨_, rfl⟩
    have Htv : Hid (toldV p m0 pl rl = tv) := hid (by rw [toldV_zero Hte.out, htv])
    have Htl : Hid (tv.length ≤ 37) := hid (by rw [← htv]; exact toldL_len hp8 pl rl)
    have Hts : Hid (∀ d ∈ tv, d.length ≤ 2) := hid (fun d hd => by rw [← htv] at hd; have := (cases_isL hp8 hm2 d (told_mem.1 hd).1).2; omega)
    obtain ⟨px, hpx⟩ : ∃ l, turnL pl mn f p = l := ⟨_, rfl⟩
    have Hpx := hid hpx
    have hpxl : px.length = n := by rw [← hpx, turn_len]; exact la.out
    have hcx : checkPlan p m0 px = 0 := plan_ok hp1 hp8 hm2 (by omega) (fun r hr => by rw [← hpx] at hr; exact turn_isL r hr)
    have Kx : Hid (∀ l ∈ px, l.length ≤ 12) := hid (fun r hr => by
      rw [← hpx] at hr
      unfold turnL at hr
      obtain ⟨i, -, rfl⟩ := List.mem_map.1 hr
      exact Nat.le_trans (listed_len _ p) (by omega))
    obtain ⟨dd, hdd⟩ : ∃ d, movL cc mn p = d := ⟨_, rfl⟩
    have Hdd := hid hdd
    have hdm : dd ∈ casesL p m0 := by rw [← hdd]; exact mov_mem (by omega) hp8 hm2 hcm
    have hdl := (cases_isL hp8 hm2 dd hdm).2
    have Hcb : Hid (∀ y ∈ cc, 0 ≤ y ∧ y < 8) := hid (fun y hy => by have := cases_bd hp8 hm2 cc hcm y hy; omega)
    have Hlb : Hid (∀ l ∈ pl, ∀ y ∈ l, 0 ≤ y ∧ y < 8) := hid (fun l hl y hy => by have := isL_bd (Hisl.out l hl) y hy; omega)
    obtain ⟨rx, hrx⟩ : ∃ l, resL px dd = l := ⟨_, rfl⟩
    have hrxn : rx.length = n := by rw [← hrx, resL_len]; exact hpxl
    have Hrex := hid (resE_case hp8 hm2 hcx hdm)
    have Hrvx := hid ((resV_case hp8 hm2 hcx hdm).trans hrx)
    have Htex : Hid (toldE p m0 px rx = 0) := hid (by rw [← hrx]; exact toldE_case hcx hdm)
    obtain ⟨tx, htx⟩ : ∃ tx, toldL p m0 px rx = tx := ⟨_, rfl⟩
    have Htvx : Hid (toldV p m0 px rx = tx) := hid (by rw [toldV_zero Htex.out, htx])
    have htl : tx.length = tv.length := by rw [← htx, ← htv, ← hrl, ← hrx, ← hdd, ← hpx]; exact turn_told (by omega) hp8 hm2 Hisl.out mn f hcm
    have Hrot : Hid (∀ i, i < n → rx[i]? = rl[(i + f) % n]?) := hid (fun i hi => by
      rw [← hrx, ← hrl, ← hdd, ← hpx, ← la.out]
      exact turn_res (by omega) hp8 hm2 Hisl.out mn f hcm (by rw [la.out]; exact hi))
    have Htak : Hid (∀ i, i < n → px.take (i + 1) = px.take i ++ [movL (pl.getD ((i + f) % n) []) mn p]) := hid (fun i hi => by
      rw [List.take_add_one]
      congr 1
      rw [← hpx, turn_at (by rw [la.out]; exact hi), la.out]; rfl)
    obtain ⟨te, hte⟩ : ∃ v, tellsE p m0 pl = v := ⟨_, rfl⟩
    have htex : tellsE p m0 px = te := by
      have h1 := tellsE_or hp8 hm2 Hc.out
      have h2 := tellsE_or hp8 hm2 hcx
      have h3 := turn_tells (P := p) (M := m0) (by omega) hp8 hm2 Hisl.out mn f
      rw [hpx, ← tells_iff hp8 hm2 Hc.out, ← tells_iff hp8 hm2 hcx] at h3
      rw [← hte]
      by_cases h4 : tellsE p m0 pl = 0
      · rw [h4, h3.2 h4]
      · have h5 : ¬ tellsE p m0 px = 0 := fun h => h4 (h3.1 h)
        omega
    obtain ⟨pe, hpe⟩ : ∃ v, plainE p m0 pl = v := ⟨_, rfl⟩
    have hpex : plainE p m0 px = pe := by
      have h1 := plainE_or (P := p) (M := m0) Hc.out
      have h2 := plainE_or (P := p) (M := m0) hcx
      have h3 := turn_plain (P := p) (M := m0) (by omega) hp8 hm2 Hisl.out mn f
      rw [hpx, ← plain_iff Hc.out, ← plain_iff hcx] at h3
      rw [← hpe]
      by_cases h4 : plainE p m0 pl = 0
      · rw [h4, h3.2 h4]
      · have h5 : ¬ plainE p m0 px = 0 := fun h => h4 (h3.1 h)
        omega
    have Hte' := hid hte
    have Htex' := hid htex
    have Hpe' := hid hpe
    have Hpex' := hid hpex
    clear hcc hcm hrl htv hpx hcx hdd hdm hrx htx hte htex hpe hpex
    go_enter Try.func11, Try.ntmps11
    go_wp2_with (fail)
    refine (fineW_any A n c pl _ _ _ (HP.out.below (by repeat' (first | with_reducible assumption | with_reducible exact Below.refl _ _ | refine Below.alloc ?_ ?_ _ | refine Below.setCell ?_ ?_ _ | refine Below.drew ?_ | refine below_drewN ?_ _ | (simp; done) | (simp; omega) | omega)) (by first | (simp; done) | (simp; omega) | omega))).mono ?_
    rw [Hf.out]
    rintro e W1 ⟨rfl, hb⟩
    have hst : Below W0.heap.size W0 W1 := Below.trans (by repeat' (first | with_reducible assumption | with_reducible exact Below.refl _ _ | refine Below.alloc ?_ ?_ _ | refine Below.setCell ?_ ?_ _ | refine Below.drew ?_ | refine below_drewN ?_ _ | (simp; done) | (simp; omega) | omega)) (hb.mono (by first | (simp; done) | (simp; omega) | omega))
    replace hbel := hbel.trans (hst.mono hsz)
    replace hsz := hbel.size
    replace bB := bB.below hst bB.lt
    clear p0 p1 lB
    have p0 := bB.cell 0
    have p1 := bB.cell 1
    have lB := bB.lt
    try clear hWb
    replace HP := hid (HP.out.below hst hst.size)
    clear hb hst
    obtain ⟨W0, rfl⟩ : ∃ W0 : World, W0 = W1 := ⟨_, rfl⟩
    go_wp2_with (fail)
    go_loopw [11, 12] (fun v i wr => ∃ k : Nat, k ≤ n ∧ i = .int .i64 k ∧ Below W0.heap.size W0 wr ∧ Hid (NewLi wr W0.heap.size v (px.take k))) (fun _ i _ => n - (intOf i).toNat)
    case atStart => exact ⟨0, by omega, rfl, Below.refl _ _, hid (NewLi.nil _ _)⟩
    case round =>
      obtain ⟨k, hk, rfl, hbw, hown⟩ := hrel
      have hszw := hbw.size
      by_cases hlt : k < n
      · have hlti : (k : Int) < n := by omega
        obtain ⟨jj, hjj⟩ : ∃ j, (k + f) % n = j := ⟨_, rfl⟩
        have hjl : jj < n := by rw [← hjj]; exact Nat.mod_lt _ (by omega)
        have hjli : (jj : Int) < n := by omega
        have hti : Int.tmod ((k : Int) + (f : Int)) (n : Int) = (jj : Int) := by rw [← hjj]; exact (Int.ofNat_tmod (k + f) n).symm
        have hnz : ¬ n = 0 := by omega
        have z0 : IntKind.i64.wrap (f : Int) = (f : Int) := IntWalk.i64_in _ (by omega)
        have z1 : IntKind.i64.wrap ((k : Int) + (f : Int)) = (k : Int) + (f : Int) := IntWalk.i64_in _ (by omega)
        have z2 : IntKind.i64.wrap (mn : Int) = (mn : Int) := IntWalk.i64_in _ (by omega)
        have z3 : IntKind.i64.wrap (jj : Int) = (jj : Int) := IntWalk.i64_in _ (by omega)
        have hst := Htak.out k hlt
        rw [hjj] at hst
        have Hst := hid hst
        obtain ⟨b, off, l, A7, m7, c7, rfl, hb7, hl7, ct7, hin7⟩ := HP.out.at_ hjl
        have hgd : pl.getD jj [] = l := by rw [List.getD_eq_getElem?_getD, hl7]; rfl
        rw [hgd] at Hst
        have hm7 : m7 ≤ 12 := by have := hin7.len; have := K2.out l (List.mem_of_getElem? hl7); omega
        have Hb7 := hid (Hlb.out l (List.mem_of_getElem? hl7))
        have C7 := hid ct7
        have HIN := hid hin7
        clear hl7 ct7 hin7 hgd hst hjj
        go_wp2_with (fail)
        refine Sx.wp_region_el (fun W => Below W0.heap.size W0 W) (hSb W0) [0, 1, 2, 3, 4, 5, 6, 7, 8, 9, 10, 11, 12, 13, 14] 4 (by kernel_rfl) (by kernel_rfl) (hSb W0 _ _ hbw (Below.refl _ _).drew) ?_
        simp only [pick, List.getElem?_toArray, List.getElem?_cons_zero, List.getElem?_cons_succ]
        (refine Sx.wpE_val (v := ?_) (by rfl) (fun W hW => ?_) ?_; rotate_left; (· have f0 := (bB.below hW lB).cell 0; have f1 := (bB.below hW lB).cell 1; have f2 := (bB.below hW lB).lt; have q0 := ((bcell hW).1 b (off + jj) hb7).trans C7.out; have q1 : b < W.heap.size := Nat.lt_of_lt_of_le hb7 hW.size; go_simp; with_reducible rfl); simp only [Act.put, List.setIfInBounds_toArray, List.set_cons_zero, List.set_cons_succ])
        (refine Sx.wpE_val (v := ?_) (by rfl) (fun W hW => ?_) ?_; rotate_left; (· have f0 := (bB.below hW lB).cell 0; have f1 := (bB.below hW lB).cell 1; have f2 := (bB.below hW lB).lt; have q0 := ((bcell hW).1 b (off + jj) hb7).trans C7.out; have q1 : b < W.heap.size := Nat.lt_of_lt_of_le hb7 hW.size; go_simp; with_reducible rfl); simp only [Act.put, List.setIfInBounds_toArray, List.set_cons_zero, List.set_cons_succ])
        (refine Sx.wpE_val (v := ?_) (by rfl) (fun W hW => ?_) ?_; rotate_left; (· have f0 := (bB.below hW lB).cell 0; have f1 := (bB.below hW lB).cell 1; have f2 := (bB.below hW lB).lt; have q0 := ((bcell hW).1 b (off + jj) hb7).trans C7.out; have q1 : b < W.heap.size := Nat.lt_of_lt_of_le hb7 hW.size; go_simp; with_reducible rfl); simp only [Act.put, List.setIfInBounds_toArray, List.set_cons_zero, List.set_cons_succ])
        (refine Sx.wpE_val (v := ?_) (by rfl) (fun W hW => ?_) ?_; rotate_left; (· have f0 := (bB.below hW lB).cell 0; have f1 := (bB.below hW lB).cell 1; have f2 := (bB.below hW lB).lt; have q0 := ((bcell hW).1 b (off + jj) hb7).trans C7.out; have q1 : b < W.heap.size := Nat.lt_of_lt_of_le hb7 hW.size; go_simp; with_reducible rfl); simp only [Act.put, List.setIfInBounds_toArray, List.set_cons_zero, List.set_cons_succ])
        (refine Sx.wpE_val (v := ?_) (by rfl) (fun W hW => ?_) ?_; rotate_left; (· have f0 := (bB.below hW lB).cell 0; have f1 := (bB.below hW lB).cell 1; have f2 := (bB.below hW lB).lt; have q0 := ((bcell hW).1 b (off + jj) hb7).trans C7.out; have q1 : b < W.heap.size := Nat.lt_of_lt_of_le hb7 hW.size; go_simp; with_reducible rfl); simp only [Act.put, List.setIfInBounds_toArray, List.set_cons_zero, List.set_cons_succ])
        (refine Sx.wpE_val (v := ?_) (by rfl) (fun W hW => ?_) ?_; rotate_left; (· have f0 := (bB.below hW lB).cell 0; have f1 := (bB.below hW lB).cell 1; have f2 := (bB.below hW lB).lt; have q0 := ((bcell hW).1 b (off + jj) hb7).trans C7.out; have q1 : b < W.heap.size := Nat.lt_of_lt_of_le hb7 hW.size; go_simp; with_reducible rfl); simp only [Act.put, List.setIfInBounds_toArray, List.set_cons_zero, List.set_cons_succ])
        (refine Sx.wpE_val (v := ?_) (by rfl) (fun W hW => ?_) ?_; rotate_left; (· have f0 := (bB.below hW lB).cell 0; have f1 := (bB.below hW lB).cell 1; have f2 := (bB.below hW lB).lt; have q0 := ((bcell hW).1 b (off + jj) hb7).trans C7.out; have q1 : b < W.heap.size := Nat.lt_of_lt_of_le hb7 hW.size; go_simp; with_reducible rfl); simp only [Act.put, List.setIfInBounds_toArray, List.set_cons_zero, List.set_cons_succ])
        (refine Sx.wpE_val (v := ?_) (by rfl) (fun W hW => ?_) ?_; rotate_left; (· have f0 := (bB.below hW lB).cell 0; have f1 := (bB.below hW lB).cell 1; have f2 := (bB.below hW lB).lt; have q0 := ((bcell hW).1 b (off + jj) hb7).trans C7.out; have q1 : b < W.heap.size := Nat.lt_of_lt_of_le hb7 hW.size; go_simp; with_reducible rfl); simp only [Act.put, List.setIfInBounds_toArray, List.set_cons_zero, List.set_cons_succ])
        (refine Sx.wpE_val (v := ?_) (by rfl) (fun W hW => ?_) ?_; rotate_left; (· have f0 := (bB.below hW lB).cell 0; have f1 := (bB.below hW lB).cell 1; have f2 := (bB.below hW lB).lt; have q0 := ((bcell hW).1 b (off + jj) hb7).trans C7.out; have q1 : b < W.heap.size := Nat.lt_of_lt_of_le hb7 hW.size; go_simp; with_reducible rfl); simp only [Act.put, List.setIfInBounds_toArray, List.set_cons_zero, List.set_cons_succ])
        (refine Sx.wpE_val (v := ?_) (by rfl) (fun W hW => ?_) ?_; rotate_left; (· have f0 := (bB.below hW lB).cell 0; have f1 := (bB.below hW lB).cell 1; have f2 := (bB.below hW lB).lt; have q0 := ((bcell hW).1 b (off + jj) hb7).trans C7.out; have q1 : b < W.heap.size := Nat.lt_of_lt_of_le hb7 hW.size; go_simp; with_reducible rfl); simp only [Act.put, List.setIfInBounds_toArray, List.set_cons_zero, List.set_cons_succ])
        (refine Sx.wpE_val (v := ?_) (by rfl) (fun W hW => ?_) ?_; rotate_left; (· have f0 := (bB.below hW lB).cell 0; have f1 := (bB.below hW lB).cell 1; have f2 := (bB.below hW lB).lt; have q0 := ((bcell hW).1 b (off + jj) hb7).trans C7.out; have q1 : b < W.heap.size := Nat.lt_of_lt_of_le hb7 hW.size; go_simp; with_reducible rfl); simp only [Act.put, List.setIfInBounds_toArray, List.set_cons_zero, List.set_cons_succ])
        (refine Sx.wpE_val (v := ?_) (by rfl) (fun W hW => ?_) ?_; rotate_left; (· have f0 := (bB.below hW lB).cell 0; have f1 := (bB.below hW lB).cell 1; have f2 := (bB.below hW lB).lt; have q0 := ((bcell hW).1 b (off + jj) hb7).trans C7.out; have q1 : b < W.heap.size := Nat.lt_of_lt_of_le hb7 hW.size; go_simp; with_reducible rfl); simp only [Act.put, List.setIfInBounds_toArray, List.set_cons_zero, List.set_cons_succ])
        (refine Sx.wpE_val (v := ?_) (by rfl) (fun W hW => ?_) ?_; rotate_left; (· have f0 := (bB.below hW lB).cell 0; have f1 := (bB.below hW lB).cell 1; have f2 := (bB.below hW lB).lt; have q0 := ((bcell hW).1 b (off + jj) hb7).trans C7.out; have q1 : b < W.heap.size := Nat.lt_of_lt_of_le hb7 hW.size; go_simp; with_reducible rfl); simp only [Act.put, List.setIfInBounds_toArray, List.set_cons_zero, List.set_cons_succ])
        (refine Sx.wpE_val (v := ?_) (by rfl) (fun W hW => ?_) ?_; rotate_left; (· have f0 := (bB.below hW lB).cell 0; have f1 := (bB.below hW lB).cell 1; have f2 := (bB.below hW lB).lt; have q0 := ((bcell hW).1 b (off + jj) hb7).trans C7.out; have q1 : b < W.heap.size := Nat.lt_of_lt_of_le hb7 hW.size; go_simp; with_reducible rfl); simp only [Act.put, List.setIfInBounds_toArray, List.set_cons_zero, List.set_cons_succ])
        (refine Sx.wpE_val (v := ?_) (by rfl) (fun W hW => ?_) ?_; rotate_left; (· have f0 := (bB.below hW lB).cell 0; have f1 := (bB.below hW lB).cell 1; have f2 := (bB.below hW lB).lt; have q0 := ((bcell hW).1 b (off + jj) hb7).trans C7.out; have q1 : b < W.heap.size := Nat.lt_of_lt_of_le hb7 hW.size; go_simp; with_reducible rfl); simp only [Act.put, List.setIfInBounds_toArray, List.set_cons_zero, List.set_cons_succ])
        simp only [Sx.wpE]
        (refine Sx.wpM_one 15 _ (by simp only [List.getElem?_toArray, List.getElem?_cons_zero, List.getElem?_cons_succ]; rfl) (by kernel_rfl) (by rfl) ?_)
        intro X1 hu1 hs1
        (go_simp; simp only [LUpon, Act.put]; try simp only [List.setIfInBounds_toArray, List.set_cons_zero, List.set_cons_succ])
        have Ho1 := hid ((hown.out.below (Below.refl _ _).drew).below hu1)
        refine (moved_any A7 m7 c7 mn p l X1 (HIN.out.below hs1 hs1.size) (by omega) Hb7.out (by omega) hp8).mono ?_
        rintro e X2 ⟨vq, rfl, hoq, hb2⟩
        obtain ⟨Aq, cq, rfl, hiq⟩ := sl_of_owns hoq
        have hs2 : Below W0.heap.size W0 X2 := hs1.trans (hb2.mono hs1.size)
        refine ⟨_, rfl, hs2, ?_⟩
        have Hr := hid Ho1.out.ownLt
        have Ho2 := hid (Ho1.out.below hb2)
        have Hyq := hid (own_blk2 hoq)
        have Hiq := hid (show InS X2 X2.heap.size Aq (movL l mn p).length (movL l mn p) from hiq)
        clear Ho1 hoq hiq hb2
        try simp only [Act.put, List.setIfInBounds_toArray, List.set_cons_zero, List.set_cons_succ]
        (refine Sx.wpM_one 16 _ (by simp only [List.getElem?_toArray, List.getElem?_cons_zero, List.getElem?_cons_succ]; rfl) (by kernel_rfl) (by rfl) ?_)
        intro X3 hu3 hs3
        (go_simp; simp only [LUpon, Act.put]; try simp only [List.setIfInBounds_toArray, List.set_cons_zero, List.set_cons_succ])
        refine ⟨hs3.alloc hs3.size _, ?_⟩
        have b3 : Blk (X3.alloc (.cells #[.slice Aq (movL l mn p).length cq] 25)) X3.heap.size 25 #[.slice Aq (movL l mn p).length cq] := Blk.new' rfl
        have hal : Below X3.heap.size X3 (X3.alloc (.cells #[.slice Aq (movL l mn p).length cq] 25)) := (Below.refl _ _).alloc (Nat.le_refl _) _
        have Ho3 := hid ((Ho2.out.below hu3).below hal)
        have Hi3 := hid ((Hiq.out.below hu3 hu3.size).below hal hal.size)
        have hz3 : X2.heap.size ≤ (X3.alloc (.cells #[.slice Aq (movL l mn p).length cq] 25)).heap.size := Nat.le_trans hu3.size hal.size
        clear Ho2 Hiq hal
        generalize X3.alloc (.cells #[.slice Aq (movL l mn p).length cq] 25) = X4 at *
        generalize X3.heap.size = g3 at *
        (refine Sx.wpM_one 17 _ (by simp only [List.getElem?_toArray, List.getElem?_cons_zero, List.getElem?_cons_succ]; rfl) (by kernel_rfl) (by rfl) ?_)
        intro X5 hu5 hs5
        have ho5 := Ho3.out.below hu5
        have hi5 := Hi3.out.below hu5 hu5.size
        have b5 := b3.below hu5 b3.lt
        refine lupon_newLi _ _ rfl W0.heap.size _ (px.take k) (by rfl) ho5 g3 Aq (movL l mn p).length cq (movL l mn p) (by rfl) b5 hi5 (fun b off e => ⟨by have := (Hyq.out b off e).2; have := hu5.size; omega, fun e' => by have h1 := (Hyq.out b off e).1; have h2 := (Hr.out b e').2; omega⟩) (by rw [List.length_take]; omega) hs5.size ?_
        intro v9 w9 ho9 hg9
        have hs9 : Below W0.heap.size W0 w9 := hs5.grown hg9 hs5.size (fun r hr => (ho5.ownLt r hr).1)
        rw [← Hst.out] at ho9
        have Ho9 := hid ho9
        refine ⟨hs9, ?_⟩
        clear ho5 hi5 b5 ho9 hg9 Hyq Hr b3 hu1 hu3 hu5 hs1 hs2 hs3 hs5 Ho3 Hi3 hz3
        simp only [Act.put, List.setIfInBounds_toArray, List.set_cons_zero, List.set_cons_succ]
        refine Sx.wpM_early (hSb W0) (by kernel_rfl) [18] 0 _ _ (by kernel_rfl) ?_
        simp only [pick, List.getElem?_toArray, List.getElem?_cons_zero, List.getElem?_cons_succ]
        (refine Sx.wpE_val (v := ?_) (by rfl) (fun W hW => ?_) ?_; rotate_left; (· have f0 := (bB.below hW lB).cell 0; have f1 := (bB.below hW lB).cell 1; have f2 := (bB.below hW lB).lt; go_simp; with_reducible rfl); simp only [Act.put, List.setIfInBounds_toArray, List.set_cons_zero, List.set_cons_succ])
        simp only [Sx.wpE]
        refine Sx.wpM_end (by kernel_rfl) ?_
        intro X9 hvz hb9
        have Ho10 := hid (Ho9.out.below hvz)
        clear Ho9 hs9 hvz
        go_wp2
        exact ⟨⟨k + 1, by omega, by go_num, hb9, Ho10⟩, by simp [intOf]; omega⟩
      · obtain rfl : k = n := by omega
        have hx := hown.out
        rw [List.take_of_length_le (by omega)] at hx
        obtain ⟨A9, c9, rfl, hl9⟩ := hx.short
        rw [hpxl] at hl9 ⊢
        have HX := hid hl9
        clear hx hl9 hown hszw
        replace hbel := hbel.trans (hbw.mono hsz)
        replace hsz := hbel.size
        replace bB := bB.below hbw bB.lt
        clear p0 p1 lB
        have p0 := bB.cell 0
        have p1 := bB.cell 1
        have lB := bB.lt
        replace HP := hid (HP.out.below hbw hbw.size)
        clear hbw
        try clear hWb
        obtain ⟨W0, rfl⟩ : ∃ W0 : World, W0 = wr := ⟨_, rfl⟩
        go_wp2_with (fail)
        refine (at_any p m0 xn _ hp8 hm2 (by omega)).mono ?_
        rw [Hcc.out]
        rintro e W1 ⟨Ac, mc, cq, rfl, h1, -, hb⟩
        have hst : Below W0.heap.size W0 W1 := Below.trans (by repeat' (first | with_reducible assumption | with_reducible exact Below.refl _ _ | refine Below.alloc ?_ ?_ _ | refine Below.setCell ?_ ?_ _ | refine Below.drew ?_ | refine below_drewN ?_ _ | (simp; done) | (simp; omega) | omega)) (hb.mono (by first | (simp; done) | (simp; omega) | omega))
        replace hbel := hbel.trans (hst.mono hsz)
        replace hsz := hbel.size
        replace bB := bB.below hst bB.lt
        clear p0 p1 lB
        have p0 := bB.cell 0
        have p1 := bB.cell 1
        have lB := bB.lt
        try clear hWb
        replace HP := hid (HP.out.below hst hst.size)
        replace HX := hid (HX.out.below hst hst.size)
        have HC := hid h1
        clear h1
        clear hb hst
        obtain ⟨W0, rfl⟩ : ∃ W0 : World, W0 = W1 := ⟨_, rfl⟩
        have hmc : mc ≤ 2 := by have := HC.out.len; omega
        have z2 : IntKind.i64.wrap (mn : Int) = (mn : Int) := IntWalk.i64_in _ (by omega)
        go_wp2_with (fail)
        refine (moved_any Ac mc cq mn p cc _ (HC.out.below (by repeat' (first | with_reducible assumption | with_reducible exact Below.refl _ _ | refine Below.alloc ?_ ?_ _ | refine Below.setCell ?_ ?_ _ | refine Below.drew ?_ | refine below_drewN ?_ _ | (simp; done) | (simp; omega) | omega)) (by first | (simp; done) | (simp; omega) | omega)) (by omega) Hcb.out (by omega) hp8).mono ?_
        rw [Hdd.out]
        rintro e W1 ⟨v, rfl, h1, hb⟩
        obtain ⟨Ad, cd, rfl, h2⟩ := sl_of_owns h1
        clear h1
        have HD := hid (show InS W1 W1.heap.size Ad dd.length dd from h2)
        clear h2
        have hst : Below W0.heap.size W0 W1 := Below.trans (by repeat' (first | with_reducible assumption | with_reducible exact Below.refl _ _ | refine Below.alloc ?_ ?_ _ | refine Below.setCell ?_ ?_ _ | refine Below.drew ?_ | refine below_drewN ?_ _ | (simp; done) | (simp; omega) | omega)) (hb.mono (by first | (simp; done) | (simp; omega) | omega))
        replace hbel := hbel.trans (hst.mono hsz)
        replace hsz := hbel.size
        replace bB := bB.below hst bB.lt
        clear p0 p1 lB
        have p0 := bB.cell 0
        have p1 := bB.cell 1
        have lB := bB.lt
        try clear hWb
        replace HP := hid (HP.out.below hst hst.size)
        replace HX := hid (HX.out.below hst hst.size)
        replace HC := hid (HC.out.below hst hst.size)
        clear hb hst
        obtain ⟨W0, rfl⟩ : ∃ W0 : World, W0 = W1 := ⟨_, rfl⟩
        go_wp2_with (fail)
        refine (resultsF_any A Ac k c mc cq pl cc _ _ _ (HP.out.below (by repeat' (first | with_reducible assumption | with_reducible exact Below.refl _ _ | refine Below.alloc ?_ ?_ _ | refine Below.setCell ?_ ?_ _ | refine Below.drew ?_ | refine below_drewN ?_ _ | (simp; done) | (simp; omega) | omega)) (by first | (simp; done) | (simp; omega) | omega)) (HC.out.below (by repeat' (first | with_reducible assumption | with_reducible exact Below.refl _ _ | refine Below.alloc ?_ ?_ _ | refine Below.setCell ?_ ?_ _ | refine Below.drew ?_ | refine below_drewN ?_ _ | (simp; done) | (simp; omega) | omega)) (by first | (simp; done) | (simp; omega) | omega)) (by omega) K2.out (by have := HC.out.len; omega)).mono ?_
        rw [Hrv.out, Hre.out]
        rintro e W1 ⟨Ar, mr, cr, rfl, h1, hb⟩
        have hst : Below W0.heap.size W0 W1 := Below.trans (by repeat' (first | with_reducible assumption | with_reducible exact Below.refl _ _ | refine Below.alloc ?_ ?_ _ | refine Below.setCell ?_ ?_ _ | refine Below.drew ?_ | refine below_drewN ?_ _ | (simp; done) | (simp; omega) | omega)) (hb.mono (by first | (simp; done) | (simp; omega) | omega))
        replace hbel := hbel.trans (hst.mono hsz)
        replace hsz := hbel.size
        replace bB := bB.below hst bB.lt
        clear p0 p1 lB
        have p0 := bB.cell 0
        have p1 := bB.cell 1
        have lB := bB.lt
        try clear hWb
        replace HP := hid (HP.out.below hst hst.size)
        replace HX := hid (HX.out.below hst hst.size)
        replace HC := hid (HC.out.below hst hst.size)
        replace HD := hid (HD.out.below hst hst.size)
        have HR := hid h1
        clear h1
        clear hb hst
        obtain ⟨W0, rfl⟩ : ∃ W0 : World, W0 = W1 := ⟨_, rfl⟩
        go_wp2_with (fail)
        refine (resultsF_any A9 Ad k c9 dd.length cd px dd _ _ _ (HX.out.below (by repeat' (first | with_reducible assumption | with_reducible exact Below.refl _ _ | refine Below.alloc ?_ ?_ _ | refine Below.setCell ?_ ?_ _ | refine Below.drew ?_ | refine below_drewN ?_ _ | (simp; done) | (simp; omega) | omega)) (by first | (simp; done) | (simp; omega) | omega)) (HD.out.below (by repeat' (first | with_reducible assumption | with_reducible exact Below.refl _ _ | refine Below.alloc ?_ ?_ _ | refine Below.setCell ?_ ?_ _ | refine Below.drew ?_ | refine below_drewN ?_ _ | (simp; done) | (simp; omega) | omega)) (by first | (simp; done) | (simp; omega) | omega)) (by omega) Kx.out (by omega)).mono ?_
        rw [Hrvx.out, Hrex.out]
        rintro e W1 ⟨As, ms, cs, rfl, h1, hb⟩
        have hst : Below W0.heap.size W0 W1 := Below.trans (by repeat' (first | with_reducible assumption | with_reducible exact Below.refl _ _ | refine Below.alloc ?_ ?_ _ | refine Below.setCell ?_ ?_ _ | refine Below.drew ?_ | refine below_drewN ?_ _ | (simp; done) | (simp; omega) | omega)) (hb.mono (by first | (simp; done) | (simp; omega) | omega))
        replace hbel := hbel.trans (hst.mono hsz)
        replace hsz := hbel.size
        replace bB := bB.below hst bB.lt
        clear p0 p1 lB
        have p0 := bB.cell 0
        have p1 := bB.cell 1
        have lB := bB.lt
        try clear hWb
        replace HP := hid (HP.out.below hst hst.size)
        replace HX := hid (HX.out.below hst hst.size)
        replace HC := hid (HC.out.below hst hst.size)
        replace HD := hid (HD.out.below hst hst.size)
        replace HR := hid (HR.out.below hst hst.size)
        have HS := hid h1
        clear h1
        clear hb hst
        obtain ⟨W0, rfl⟩ : ∃ W0 : World, W0 = W1 := ⟨_, rfl⟩
        clear HC
        clear HD
        obtain rfl : mr = k := by have := HR.out.len; omega
        obtain rfl : ms = mr := by have := HS.out.len; omega
        go_wp2_with (fail)
        refine (toldF_any A Ar ms c ms cr pl rl _ _ _ (HP.out.below (by repeat' (first | with_reducible assumption | with_reducible exact Below.refl _ _ | refine Below.alloc ?_ ?_ _ | refine Below.setCell ?_ ?_ _ | refine Below.drew ?_ | refine below_drewN ?_ _ | (simp; done) | (simp; omega) | omega)) (by first | (simp; done) | (simp; omega) | omega)) (HR.out.below (by repeat' (first | with_reducible assumption | with_reducible exact Below.refl _ _ | refine Below.alloc ?_ ?_ _ | refine Below.setCell ?_ ?_ _ | refine Below.drew ?_ | refine below_drewN ?_ _ | (simp; done) | (simp; omega) | omega)) (by first | (simp; done) | (simp; omega) | omega)) (by omega) K2.out).mono ?_
        rw [Htv.out, Hte.out]
        rintro e W1 ⟨At, mt, ct, rfl, h1, hb⟩
        have hmt := h1.1.1
        clear h1
        have hst : Below W0.heap.size W0 W1 := Below.trans (by repeat' (first | with_reducible assumption | with_reducible exact Below.refl _ _ | refine Below.alloc ?_ ?_ _ | refine Below.setCell ?_ ?_ _ | refine Below.drew ?_ | refine below_drewN ?_ _ | (simp; done) | (simp; omega) | omega)) (hb.mono (by first | (simp; done) | (simp; omega) | omega))
        replace hbel := hbel.trans (hst.mono hsz)
        replace hsz := hbel.size
        replace bB := bB.below hst bB.lt
        clear p0 p1 lB
        have p0 := bB.cell 0
        have p1 := bB.cell 1
        have lB := bB.lt
        try clear hWb
        replace HP := hid (HP.out.below hst hst.size)
        replace HX := hid (HX.out.below hst hst.size)
        replace HR := hid (HR.out.below hst hst.size)
        replace HS := hid (HS.out.below hst hst.size)
        clear hb hst
        obtain ⟨W0, rfl⟩ : ∃ W0 : World, W0 = W1 := ⟨_, rfl⟩
        go_wp2_with (fail)
        refine (toldF_any A9 As ms c9 ms cs px rx _ _ _ (HX.out.below (by repeat' (first | with_reducible assumption | with_reducible exact Below.refl _ _ | refine Below.alloc ?_ ?_ _ | refine Below.setCell ?_ ?_ _ | refine Below.drew ?_ | refine below_drewN ?_ _ | (simp; done) | (simp; omega) | omega)) (by first | (simp; done) | (simp; omega) | omega)) (HS.out.below (by repeat' (first | with_reducible assumption | with_reducible exact Below.refl _ _ | refine Below.alloc ?_ ?_ _ | refine Below.setCell ?_ ?_ _ | refine Below.drew ?_ | refine below_drewN ?_ _ | (simp; done) | (simp; omega) | omega)) (by first | (simp; done) | (simp; omega) | omega)) (by omega) Kx.out).mono ?_
        rw [Htvx.out, Htex.out]
        rintro e W1 ⟨Au, mu, cu, rfl, h1, hb⟩
        have hmu := h1.1.1
        clear h1
        have hst : Below W0.heap.size W0 W1 := Below.trans (by repeat' (first | with_reducible assumption | with_reducible exact Below.refl _ _ | refine Below.alloc ?_ ?_ _ | refine Below.setCell ?_ ?_ _ | refine Below.drew ?_ | refine below_drewN ?_ _ | (simp; done) | (simp; omega) | omega)) (hb.mono (by first | (simp; done) | (simp; omega) | omega))
        replace hbel := hbel.trans (hst.mono hsz)
        replace hsz := hbel.size
        replace bB := bB.below hst bB.lt
        clear p0 p1 lB
        have p0 := bB.cell 0
        have p1 := bB.cell 1
        have lB := bB.lt
        try clear hWb
        replace HP := hid (HP.out.below hst hst.size)
        replace HX := hid (HX.out.below hst hst.size)
        replace HR := hid (HR.out.below hst hst.size)
        replace HS := hid (HS.out.below hst hst.size)
        clear hb hst
        obtain ⟨W0, rfl⟩ : ∃ W0 : World, W0 = W1 := ⟨_, rfl⟩
        obtain rfl : mu = mt := by omega
        clear hmt hmu
        go_wp2_with (fail)
        go_loopw [23] (fun i wr => ∃ q : Nat, q ≤ ms ∧ i = .int .i64 q ∧ Below W0.heap.size W0 wr) (fun i _ => ms - (intOf i).toNat)
        case atStart => exact ⟨0, by omega, rfl, Below.refl _ _⟩
        case round =>
          obtain ⟨q, hq, rfl, hbw⟩ := hrel
          have hszw := hbw.size
          by_cases hlt : q < ms
          · have hlti : (q : Int) < ms := by omega
            obtain ⟨jj, hjj⟩ : ∃ j, (q + f) % ms = j := ⟨_, rfl⟩
            have hjl : jj < ms := by rw [← hjj]; exact Nat.mod_lt _ (by omega)
            have hjli : (jj : Int) < ms := by omega
            have hti : Int.tmod ((q : Int) + (f : Int)) (ms : Int) = (jj : Int) := by rw [← hjj]; exact (Int.ofNat_tmod (q + f) ms).symm
            have hnz : ¬ ms = 0 := by omega
            have z0 : IntKind.i64.wrap (f : Int) = (f : Int) := IntWalk.i64_in _ (by omega)
            have z1 : IntKind.i64.wrap ((q : Int) + (f : Int)) = (q : Int) + (f : Int) := IntWalk.i64_in _ (by omega)
            have z3 : IntKind.i64.wrap (jj : Int) = (jj : Int) := IntWalk.i64_in _ (by omega)
            obtain ⟨b1, o1, y1, rfl, hb1, hm1, d1⟩ := HS.out.at_ hlt
            obtain ⟨b2, o2, y2, rfl, hb2, hm2', d2⟩ := HR.out.at_ hjl
            have hrt := Hrot.out q hlt
            rw [hjj, hm1, hm2'] at hrt
            obtain rfl : y1 = y2 := Option.some.inj hrt
            have D1 := hid ((hbw.cell (p := ⟨b1, o1 + q, none⟩) hb1).trans d1)
            have D2 := hid ((hbw.cell (p := ⟨b2, o2 + jj, none⟩) hb2).trans d2)
            have hb1w : b1 < wr.heap.size := Nat.lt_of_lt_of_le hb1 hszw
            have hb2w : b2 < wr.heap.size := Nat.lt_of_lt_of_le hb2 hszw
            clear hm1 hm2' hrt d1 d2 hjj
            go_wp2_with (fail)
            refine wp_region_hd_all (fun W => Below wr.heap.size wr W) (by kernel_rfl) (by kernel_rfl) ((Below.refl _ _).drew) ?_
            iterate 15 (refine wpHd_val (v := ?_) (by rfl) (fun W hW => ?_) ?_; rotate_left; (· have q1 := ((bcell hW).1 b1 (o1 + q) hb1w).trans D1.out; have q2 := ((bcell hW).1 b2 (o2 + jj) hb2w).trans D2.out; have q3 : b1 < W.heap.size := Nat.lt_of_lt_of_le hb1w hW.size; have q4 : b2 < W.heap.size := Nat.lt_of_lt_of_le hb2w hW.size; go_simp; with_reducible rfl); simp only [Act.put, List.setIfInBounds_toArray, List.set_cons_zero, List.set_cons_succ])
            refine wpHd_nil ?_
            intro W1 hb9
            go_wp2
            exact ⟨⟨q + 1, by omega, by go_num, hbw.trans (hb9.mono hszw)⟩, by simp [intOf]; omega⟩
          · obtain rfl : q = ms := by omega
            clear hszw
            replace hbel := hbel.trans (hbw.mono hsz)
            replace hsz := hbel.size
            replace bB := bB.below hbw bB.lt
            clear p0 p1 lB
            have p0 := bB.cell 0
            have p1 := bB.cell 1
            have lB := bB.lt
            replace HP := hid (HP.out.below hbw hbw.size)
            replace HX := hid (HX.out.below hbw hbw.size)
            replace HR := hid (HR.out.below hbw hbw.size)
            replace HS := hid (HS.out.below hbw hbw.size)
            clear hbw
            try clear hWb
            obtain ⟨W0, rfl⟩ : ∃ W0 : World, W0 = wr := ⟨_, rfl⟩
            go_wp2_with (fail)
            refine wp_region_hd_all (fun W => Below W0.heap.size W0 W) (by kernel_rfl) (by kernel_rfl) ((Below.refl _ _).drew) ?_
            (refine wpHd_val (v := ?_) (by rfl) (fun W hW => ?_) ?_; rotate_left; (· obtain ⟨hcW, hfW⟩ := bcell hW; go_simp; with_reducible rfl); simp only [Act.put, List.setIfInBounds_toArray, List.set_cons_zero, List.set_cons_succ])
            (refine wpHd_val (v := ?_) (by rfl) (fun W hW => ?_) ?_; rotate_left; (· obtain ⟨hcW, hfW⟩ := bcell hW; go_simp; with_reducible rfl); simp only [Act.put, List.setIfInBounds_toArray, List.set_cons_zero, List.set_cons_succ])
            (refine wpHd_callB (v := ?_) (f := ?_) (args := ?_) (by rfl) (fun W hW => ?_) (fun W hW => ?_) ?_; rotate_left 3; (· have := checkTells_any A q c pl p m0 W (HP.out.below hW hW.size) (by omega) K2.out; rw [Hte'.out] at this; exact this); (· obtain ⟨hcW, hfW⟩ := bcell hW; go_simp); simp only [Act.put, List.setIfInBounds_toArray, List.set_cons_zero, List.set_cons_succ])
            (refine wpHd_val (v := ?_) (by rfl) (fun W hW => ?_) ?_; rotate_left; (· obtain ⟨hcW, hfW⟩ := bcell hW; go_simp; with_reducible rfl); simp only [Act.put, List.setIfInBounds_toArray, List.set_cons_zero, List.set_cons_succ])
            (refine wpHd_val (v := ?_) (by rfl) (fun W hW => ?_) ?_; rotate_left; (· obtain ⟨hcW, hfW⟩ := bcell hW; go_simp; with_reducible rfl); simp only [Act.put, List.setIfInBounds_toArray, List.set_cons_zero, List.set_cons_succ])
            (refine wpHd_callB (v := ?_) (f := ?_) (args := ?_) (by rfl) (fun W hW => ?_) (fun W hW => ?_) ?_; rotate_left 3; (· have := checkTells_any A9 q c9 px p m0 W (HX.out.below hW hW.size) (by omega) Kx.out; rw [Htex'.out] at this; exact this); (· obtain ⟨hcW, hfW⟩ := bcell hW; go_simp); simp only [Act.put, List.setIfInBounds_toArray, List.set_cons_zero, List.set_cons_succ])
            (refine wpHd_val (v := ?_) (by rfl) (fun W hW => ?_) ?_; rotate_left; (· obtain ⟨hcW, hfW⟩ := bcell hW; go_simp; with_reducible rfl); simp only [Act.put, List.setIfInBounds_toArray, List.set_cons_zero, List.set_cons_succ])
            (refine wpHd_val (v := ?_) (by rfl) (fun W hW => ?_) ?_; rotate_left; (· obtain ⟨hcW, hfW⟩ := bcell hW; go_simp; with_reducible rfl); simp only [Act.put, List.setIfInBounds_toArray, List.set_cons_zero, List.set_cons_succ])
            (refine wpHd_val (v := ?_) (by rfl) (fun W hW => ?_) ?_; rotate_left; (· obtain ⟨hcW, hfW⟩ := bcell hW; go_simp; with_reducible rfl); simp only [Act.put, List.setIfInBounds_toArray, List.set_cons_zero, List.set_cons_succ])
            (refine wpHd_val (v := ?_) (by rfl) (fun W hW => ?_) ?_; rotate_left; (· obtain ⟨hcW, hfW⟩ := bcell hW; go_simp; with_reducible rfl); simp only [Act.put, List.setIfInBounds_toArray, List.set_cons_zero, List.set_cons_succ])
            (refine wpHd_callB (v := ?_) (f := ?_) (args := ?_) (by rfl) (fun W hW => ?_) (fun W hW => ?_) ?_; rotate_left 3; (· have := checkPlain_any A q c pl p m0 W (HP.out.below hW hW.size) (by omega) K2.out; rw [Hpe'.out] at this; exact this); (· obtain ⟨hcW, hfW⟩ := bcell hW; go_simp); simp only [Act.put, List.setIfInBounds_toArray, List.set_cons_zero, List.set_cons_succ])
            (refine wpHd_val (v := ?_) (by rfl) (fun W hW => ?_) ?_; rotate_left; (· obtain ⟨hcW, hfW⟩ := bcell hW; go_simp; with_reducible rfl); simp only [Act.put, List.setIfInBounds_toArray, List.set_cons_zero, List.set_cons_succ])
            (refine wpHd_val (v := ?_) (by rfl) (fun W hW => ?_) ?_; rotate_left; (· obtain ⟨hcW, hfW⟩ := bcell hW; go_simp; with_reducible rfl); simp only [Act.put, List.setIfInBounds_toArray, List.set_cons_zero, List.set_cons_succ])
            (refine wpHd_callB (v := ?_) (f := ?_) (args := ?_) (by rfl) (fun W hW => ?_) (fun W hW => ?_) ?_; rotate_left 3; (· have := checkPlain_any A9 q c9 px p m0 W (HX.out.below hW hW.size) (by omega) Kx.out; rw [Hpex'.out] at this; exact this); (· obtain ⟨hcW, hfW⟩ := bcell hW; go_simp); simp only [Act.put, List.setIfInBounds_toArray, List.set_cons_zero, List.set_cons_succ])
            (refine wpHd_val (v := ?_) (by rfl) (fun W hW => ?_) ?_; rotate_left; (· obtain ⟨hcW, hfW⟩ := bcell hW; go_simp; with_reducible rfl); simp only [Act.put, List.setIfInBounds_toArray, List.set_cons_zero, List.set_cons_succ])
            (refine wpHd_val (v := ?_) (by rfl) (fun W hW => ?_) ?_; rotate_left; (· obtain ⟨hcW, hfW⟩ := bcell hW; go_simp; with_reducible rfl); simp only [Act.put, List.setIfInBounds_toArray, List.set_cons_zero, List.set_cons_succ])
            (refine wpHd_val (v := ?_) (by rfl) (fun W hW => ?_) ?_; rotate_left; (· obtain ⟨hcW, hfW⟩ := bcell hW; go_simp; with_reducible rfl); simp only [Act.put, List.setIfInBounds_toArray, List.set_cons_zero, List.set_cons_succ])
            (refine wpHd_callB (by rfl) (fun W hW => (works_any W)) (fun W hW => ?_) ?_; (· obtain ⟨hcW, hfW⟩ := bcell hW; go_simp); simp only [Act.put, List.setIfInBounds_toArray, List.set_cons_zero, List.set_cons_succ])
            (refine wpHd_val (v := ?_) (by rfl) (fun W hW => ?_) ?_; rotate_left; (· obtain ⟨hcW, hfW⟩ := bcell hW; go_simp; with_reducible rfl); simp only [Act.put, List.setIfInBounds_toArray, List.set_cons_zero, List.set_cons_succ])
            (refine wpHd_val (v := ?_) (by rfl) (fun W hW => ?_) ?_; rotate_left; (· obtain ⟨hcW, hfW⟩ := bcell hW; go_simp; with_reducible rfl); simp only [Act.put, List.setIfInBounds_toArray, List.set_cons_zero, List.set_cons_succ])
            refine wpHd_nil ?_
            intro W1 hb
            replace hbel := hbel.trans (hb.mono hsz)
            replace hsz := hbel.size
            replace bB := bB.below hb bB.lt
            clear p0 p1 lB
            have p0 := bB.cell 0
            have p1 := bB.cell 1
            have lB := bB.lt
            replace HP := hid (HP.out.below hb hb.size)
            replace HX := hid (HX.out.below hb hb.size)
            replace HR := hid (HR.out.below hb hb.size)
            replace HS := hid (HS.out.below hb hb.size)
            clear hb
            try clear hWb
            obtain ⟨W0, rfl⟩ : ∃ W0 : World, W0 = W1 := ⟨_, rfl⟩
            go_wp2
            go_ret
            exact ⟨rfl, hbel⟩

section
open Go.ChangeShapes Go.WideShapes Go.ChangeAt Go.RowKit
set_option maxRecDepth 100000 in
theorem rodTurned_lifted (os : Os) (started : os.Started) (H : Type) (enc : TypeId × Value → H) :
    ReturnsInHanded {} Try.checked os 11 .any (Rows.rodTurnedSpec.pre6 enc Try.prog Try.f11 Rows.rodTurnedRow.domain false) (Rows.rodTurnedSpec.post enc Try.prog Try.f11 false true false false) := by
  refine returnsInHanded_of_change (C := Try.checked) ownKx started (by kernel_rfl) Try.func11
    (ChangeSpec.witness6 (enc := enc) (C := Try.checked) false ⟨#[], #[.agg #[.int .i64 0, .int .i64 0], .slice none 0 0, .int .u8 0, .int .u8 0, .int .u8 0], []⟩ 8 (by kernel_rfl) (by kernel_rfl) (by kernel_rfl) (by kernel_rfl)) ?_
  intro W base args ds gs before hval0 hW hcnd _
  have hval : ∀ (j : Nat) t v, Try.f11.params[j]? = some t → args[j]? = some v → Value.okWide Try.prog W .any base t v := hval0
  have hW' := hW
  obtain ⟨p, q, hA0, hV, rfl, hfz, hnd⟩ := hW
  have hA : DataW.TrodAll enc Try.prog W 0 (fun _ => true) true Try.f11.params.toList args.toList ds p := hA0
  have hlt : ∀ x ∈ p, x.block < W.heap.size := fun x hx => hW'.lt x (List.mem_append_left _ hx)
  have hAll : ∀ W', Below W.heap.size W W' → DataW.TrodAll enc Try.prog W' 0 (fun b => decide (b < W.heap.size)) true Try.f11.params.toList args.toList ds p := fun W' hb => all_below laidOut hb (readable_of (by kernel_rfl)) hlt hA
  rw [Try.params11] at hA hval
  obtain ⟨v0, v1, v2, v3, v4, d0, d1, d2, d3, d4, p0, p1, p2, p3, p4, rfl, rfl, rfl, h0, h1, h2, h3, h4⟩ := trodAll_five hA
  obtain ⟨rfl, rfl⟩ := trodVars_none hV
  clear hA0 hval0
  obtain ⟨x0, rfl⟩ := open_book (hval 0 23 v0 rfl rfl) h0
  obtain ⟨A1, n1, c1, rfl⟩ := okWide_slice Try.underlying24 (hval 1 24 v1 rfl rfl)
  obtain ⟨hc1, l1, hl1, hr1⟩ := open_lis h1
  obtain ⟨x2, rfl, rfl, rfl, wx2⟩ := open_int Try.underlying5 (hval 2 5 v2 rfl rfl) h2
  obtain ⟨x3, rfl, rfl, rfl, wx3⟩ := open_int Try.underlying5 (hval 3 5 v3 rfl rfl) h3
  obtain ⟨x4, rfl, rfl, rfl, wx4⟩ := open_int Try.underlying5 (hval 4 5 v4 rfl rfl) h4
  refine (rodTurned_walk W x0.P x0.M A1 n1 c1 l1 x2 x3 x4 (u8_bd wx2) (u8_bd wx3) (u8_bd wx4) hr1).mono fun e W' ⟨he, hb⟩ => ?_
  subst he
  exact ⟨_, rfl, ⟨_, _, _, [], _, [], hW', trodAll_cons_mk (shut_bool Try.underlying4 _) trodAll_mk0, hAll W' hb, rfl, hb.frame _, fun h => by cases h⟩⟩
/-- The law: whatever the input, it returns true, and the input reads as it did. -/
theorem rodTurned_holds : Rows.RodTurnedSaid :=
  OpenClaim.holds_of_wide 11 Try.f11 rfl rfl rfl rfl rfl rfl rfl ⟨rfl, rfl, rfl, rfl, rfl⟩ rfl rfl rfl rfl rfl (by kernel_rfl) Try.func11 (by kernel_rfl)
    (of_decide_eq_true (by kernel_rfl)) (by unfold Func.isWrapper; first | (rw [if_pos (by decide +kernel)]; kernel_rfl) | (rw [if_neg (by decide +kernel)]; exact ⟨rfl, rfl⟩))
    (fun os started H enc _ => rodTurned_lifted os started H enc)
end
end Go.Proofs.Ytpgdfipikfbjeaa

