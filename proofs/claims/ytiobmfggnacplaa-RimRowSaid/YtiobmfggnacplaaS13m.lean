/- The statement RimRow holds: whatever the arguments, the law returns true and leaves its arguments as they were. -/
import Derived.Test.YtiobmfggnacplaaMm
import Derived.Test.YtiobmfggnacplaaMo
import Derived.Test.YtiobmfggnacplaaMp
set_option linter.unusedSimpArgs false
set_option linter.unusedVariables false
namespace Go.Proofs.Ytiobmfggnacplaa
open Go.RowKit Go.Shelf
attribute [local go_sem] Oper.semAt_some
set_option maxRecDepth 100000 in
set_option maxHeartbeats 40000000 in
theorem rimRow_walk (w : World) (x y : Nat) (A0 : Option Addr) (n c0 : Nat) (l : List Int) (z : Nat) (A1 : Option Addr) (n1 c1 : Nat) (by_ : List Nat) (hx : x < 256) (hy : y < 256) (hz : z < 256) (h0 : InS w w.heap.size A0 n l) (hc0 : n ≤ c0) (h1 : U8S w w.heap.size A1 n1 by_) (hby : ∀ z ∈ by_, z < 256) :
    Calls Try.prog 13 #[.int .u8 (x : Int), .int .u8 (y : Int), .slice A0 n c0, .int .u8 (z : Int), .slice A1 n1 c1] w fun e w' => e = .returned (.bool true) ∧ Below w.heap.size w w' := by
  have H0 := hid h0
  have hl0 := hid h0.len
  have H1 := hid h1
  have Hby := hid hby
  clear h0 h1 hby
  have HKc := fun w => kindsF_any x w hx
  obtain ⟨k, hk⟩ : ∃ k, 1 + x % 4 = k := ⟨_, rfl⟩
  rw [hk] at HKc
  have hk1 : 1 ≤ k := by omega
  have hk4 : k ≤ 4 := by omega
  obtain ⟨r, hr⟩ : ∃ r, y % 6 = r := ⟨_, rfl⟩
  have hmod : (y : Int) % 6 = (r : Int) := by rw [← hr]; exact (Int.natCast_emod y 6).symm
  have htmod : Int.tmod (y : Int) 6 = (r : Int) := by rw [← hr]; exact (Int.ofNat_tmod y 6).symm
  have zy : IntKind.i64.wrap (y : Int) = (y : Int) := IntWalk.i64_in _ (by omega)
  obtain ⟨t, ht⟩ : ∃ t, 1 + r = t := ⟨_, rfl⟩
  have hr6 : r < 6 := by omega
  have ht1 : 1 ≤ t := by omega
  have ht6 : t ≤ 6 := by omega
  have zr : (1 : Int) + (r : Int) = (t : Int) := by omega
  have zt : IntKind.i64.wrap (t : Int) = (t : Int) := IntWalk.i64_in _ (by omega)
  clear hk hr ht
  by_cases hg : 80 < n
  · have Hg := hid (decide_eq_true hg)
    clear hg
    go_enter Try.func13, Try.ntmps13
    obtain ⟨W0, rfl⟩ : ∃ W0 : World, W0 = w := ⟨_, rfl⟩
    skip
    skip
    have hbel : Below W0.heap.size W0 W0 := Below.refl _ _
    have hsz := hbel.size
    go_wp2_with (fail)
    refine (HKc _).mono ?_
    rintro e W1 ⟨rfl, rfl⟩
    go_wp2_with (fail)
    refine (great_any A0 n c0 _).mono ?_
    rw [Hg.out]
    rintro e W1 ⟨rfl, hb⟩
    have hst : Below W0.heap.size W0 W1 := Below.trans (by repeat' (first | with_reducible assumption | with_reducible exact Below.refl _ _ | refine Below.alloc ?_ ?_ _ | refine Below.setCell ?_ ?_ _ | refine Below.drew ?_ | refine below_drewN ?_ _ | (simp; done) | (simp; omega) | omega)) (hb.mono (by first | (simp; done) | (simp; omega) | omega))
    replace hbel := hbel.trans (hst.mono hsz)
    replace hsz := hbel.size
    replace H0 := hid (H0.out.below hst hst.size)
    replace H1 := hid (H1.out.below hst hst.size)
    clear hb hst
    obtain ⟨W0, rfl⟩ : ∃ W0 : World, W0 = W1 := ⟨_, rfl⟩
    go_wp2_with (fail)
    refine (works_any _).mono ?_
    rintro e W1 ⟨rfl, hb⟩
    have hst : Below W0.heap.size W0 W1 := Below.trans (by repeat' (first | with_reducible assumption | with_reducible exact Below.refl _ _ | refine Below.alloc ?_ ?_ _ | refine Below.setCell ?_ ?_ _ | refine Below.drew ?_ | refine below_drewN ?_ _ | (simp; done) | (simp; omega) | omega)) (hb.mono (by first | (simp; done) | (simp; omega) | omega))
    replace hbel := hbel.trans (hst.mono hsz)
    replace hsz := hbel.size
    replace H0 := hid (H0.out.below hst hst.size)
    replace H1 := hid (H1.out.below hst hst.size)
    clear hb hst
    obtain ⟨W0, rfl⟩ : ∃ W0 : World, W0 = W1 := ⟨_, rfl⟩
    go_wp2
    go_ret
    exact ⟨rfl, hbel⟩
  · have Hg := hid (decide_eq_false hg)
    have hn80 : n ≤ 80 := by omega
    clear hg
    by_cases hg1 : 30 < n1
    · have hgi : (30 : Int) < n1 := by omega
      go_enter Try.func13, Try.ntmps13
      obtain ⟨W0, rfl⟩ : ∃ W0 : World, W0 = w := ⟨_, rfl⟩
      skip
      skip
      have hbel : Below W0.heap.size W0 W0 := Below.refl _ _
      have hsz := hbel.size
      go_wp2_with (fail)
      refine (HKc _).mono ?_
      rintro e W1 ⟨rfl, rfl⟩
      go_wp2_with (fail)
      refine (great_any A0 n c0 _).mono ?_
      rw [Hg.out]
      rintro e W1 ⟨rfl, hb⟩
      have hst : Below W0.heap.size W0 W1 := Below.trans (by repeat' (first | with_reducible assumption | with_reducible exact Below.refl _ _ | refine Below.alloc ?_ ?_ _ | refine Below.setCell ?_ ?_ _ | refine Below.drew ?_ | refine below_drewN ?_ _ | (simp; done) | (simp; omega) | omega)) (hb.mono (by first | (simp; done) | (simp; omega) | omega))
      replace hbel := hbel.trans (hst.mono hsz)
      replace hsz := hbel.size
      replace H0 := hid (H0.out.below hst hst.size)
      replace H1 := hid (H1.out.below hst hst.size)
      clear hb hst
      obtain ⟨W0, rfl⟩ : ∃ W0 : World, W0 = W1 := ⟨_, rfl⟩
      go_wp2_with (fail)
      refine (works_any _).mono ?_
      rintro e W1 ⟨rfl, hb⟩
      have hst : Below W0.heap.size W0 W1 := Below.trans (by repeat' (first | with_reducible assumption | with_reducible exact Below.refl _ _ | refine Below.alloc ?_ ?_ _ | refine Below.setCell ?_ ?_ _ | refine Below.drew ?_ | refine below_drewN ?_ _ | (simp; done) | (simp; omega) | omega)) (hb.mono (by first | (simp; done) | (simp; omega) | omega))
      replace hbel := hbel.trans (hst.mono hsz)
      replace hsz := hbel.size
      replace H0 := hid (H0.out.below hst hst.size)
      replace H1 := hid (H1.out.below hst hst.size)
      clear hb hst
      obtain ⟨W0, rfl⟩ : ∃ W0 : World, W0 = W1 := ⟨_, rfl⟩
      go_wp2
      go_ret
      exact ⟨rfl, hbel⟩
    · have hgi : ¬ (30 : Int) < n1 := by omega
      have hn30 : n1 ≤ 30 := by omega
      clear hg1
      obtain ⟨N, hN⟩ : ∃ N, k ^ t = N := ⟨_, rfl⟩
      have hpw : Hid ((k : Int) ^ t = (N : Int)) := hid (by rw [← hN, Int.natCast_pow])
      have hN1 : 1 ≤ N := by rw [← hN]; exact Nat.pow_pos hk1
      by_cases hbig : 64 < N
      · have hbi : (64 : Int) < (N : Int) := by omega
        have heE0 : rowE k t = 6 := by
          unfold rowE
          have h6 : ((k : Int) ^ (t : Int).toNat) = ((k ^ t : Nat) : Int) := by rw [Int.toNat_natCast, Int.natCast_pow]
          rw [if_neg (by omega), if_pos (by rw [h6, hN]; omega)]
        have heE := hid heE0
        have heV : Hid (rowV k t = []) := hid (by unfold rowV; rw [heE0, if_neg (by decide)])
        clear heE0 hN
        go_enter Try.func13, Try.ntmps13
        obtain ⟨W0, rfl⟩ : ∃ W0 : World, W0 = w := ⟨_, rfl⟩
        skip
        skip
        have hbel : Below W0.heap.size W0 W0 := Below.refl _ _
        have hsz := hbel.size
        go_wp2_with (fail)
        refine (HKc _).mono ?_
        rintro e W1 ⟨rfl, rfl⟩
        go_wp2_with (fail)
        refine (great_any A0 n c0 _).mono ?_
        rw [Hg.out]
        rintro e W1 ⟨rfl, hb⟩
        have hst : Below W0.heap.size W0 W1 := Below.trans (by repeat' (first | with_reducible assumption | with_reducible exact Below.refl _ _ | refine Below.alloc ?_ ?_ _ | refine Below.setCell ?_ ?_ _ | refine Below.drew ?_ | refine below_drewN ?_ _ | (simp; done) | (simp; omega) | omega)) (hb.mono (by first | (simp; done) | (simp; omega) | omega))
        replace hbel := hbel.trans (hst.mono hsz)
        replace hsz := hbel.size
        replace H0 := hid (H0.out.below hst hst.size)
        replace H1 := hid (H1.out.below hst hst.size)
        clear hb hst
        obtain ⟨W0, rfl⟩ : ∃ W0 : World, W0 = W1 := ⟨_, rfl⟩
        go_wp2_with (fail)
        refine (row_any (k : Int) (t : Int) _).mono ?_
        rw [heE.out, heV.out]
        rintro e W1 ⟨Ao, co, rfl, hr, hb⟩
        clear hr
        have hst : Below W0.heap.size W0 W1 := Below.trans (by repeat' (first | with_reducible assumption | with_reducible exact Below.refl _ _ | refine Below.alloc ?_ ?_ _ | refine Below.setCell ?_ ?_ _ | refine Below.drew ?_ | refine below_drewN ?_ _ | (simp; done) | (simp; omega) | omega)) (hb.mono (by first | (simp; done) | (simp; omega) | omega))
        replace hbel := hbel.trans (hst.mono hsz)
        replace hsz := hbel.size
        replace H0 := hid (H0.out.below hst hst.size)
        replace H1 := hid (H1.out.below hst hst.size)
        clear hb hst
        obtain ⟨W0, rfl⟩ : ∃ W0 : World, W0 = W1 := ⟨_, rfl⟩
        go_wp2_with (fail)
        refine (refPower_any (k : Int) t _ (by omega) (by omega) (by omega)).mono ?_
        rw [hpw.out]
        rintro e W1 ⟨rfl, hb⟩
        have hst : Below W0.heap.size W0 W1 := Below.trans (by repeat' (first | with_reducible assumption | with_reducible exact Below.refl _ _ | refine Below.alloc ?_ ?_ _ | refine Below.setCell ?_ ?_ _ | refine Below.drew ?_ | refine below_drewN ?_ _ | (simp; done) | (simp; omega) | omega)) (hb.mono (by first | (simp; done) | (simp; omega) | omega))
        replace hbel := hbel.trans (hst.mono hsz)
        replace hsz := hbel.size
        replace H0 := hid (H0.out.below hst hst.size)
        replace H1 := hid (H1.out.below hst hst.size)
        clear hb hst
        obtain ⟨W0, rfl⟩ : ∃ W0 : World, W0 = W1 := ⟨_, rfl⟩
        go_wp2_with (fail)
        refine (works_any _).mono ?_
        rintro e W1 ⟨rfl, hb⟩
        have hst : Below W0.heap.size W0 W1 := Below.trans (by repeat' (first | with_reducible assumption | with_reducible exact Below.refl _ _ | refine Below.alloc ?_ ?_ _ | refine Below.setCell ?_ ?_ _ | refine Below.drew ?_ | refine below_drewN ?_ _ | (simp; done) | (simp; omega) | omega)) (hb.mono (by first | (simp; done) | (simp; omega) | omega))
        replace hbel := hbel.trans (hst.mono hsz)
        replace hsz := hbel.size
        replace H0 := hid (H0.out.below hst hst.size)
        replace H1 := hid (H1.out.below hst hst.size)
        clear hb hst
        obtain ⟨W0, rfl⟩ : ∃ W0 : World, W0 = W1 := ⟨_, rfl⟩
        go_wp2
        go_ret
        exact ⟨rfl, hbel⟩
      · have hbi : ¬ (64 : Int) < (N : Int) := by omega
        have hN64 : N ≤ 64 := by omega
        have q1 : 1 ≤ k ∧ k ≤ 4 := ⟨hk1, hk4⟩
        have q2 : 1 ≤ t ∧ t ≤ 6 := ⟨ht1, ht6⟩
        have q3 : k ^ t ≤ 64 := by omega
        have heE0 := rowE_zero hk1 hk4 ht1 ht6 q3
        have heE := hid heE0
        have hrow := row_row q1 q2 q3
        have holn := row_len q1 q2 q3
        have hno := fun a (h : chkR k t a = 0) => no_less h
        have heV0 : rowV k t = rowF t (wdsL k t) := by unfold rowV; rw [heE0, if_pos rfl, Int.toNat_natCast, Int.toNat_natCast]
        obtain ⟨o, ho⟩ : ∃ o, rowF t (wdsL k t) = o := ⟨_, rfl⟩
        rw [ho] at hrow holn hno heV0
        rw [hN] at holn
        have heV := hid heV0
        have Hrow := hid hrow
        have Hol := hid holn
        have hok := (chkR_info hrow).2.2.2.2.1
        obtain ⟨u, hu⟩ : ∃ u, z % N = u := ⟨_, rfl⟩
        have huN : u < N := by rw [← hu]; exact Nat.mod_lt _ (by omega)
        have hmodu : (z : Int) % (N : Int) = (u : Int) := by rw [← hu]; exact (Int.natCast_emod z N).symm
        have htmodu : Int.tmod (z : Int) (N : Int) = (u : Int) := by rw [← hu]; exact (Int.ofNat_tmod z N).symm
        have zz : IntKind.i64.wrap (z : Int) = (z : Int) := IntWalk.i64_in _ (by omega)
        have hNz : ¬ (N : Int) = 0 := by omega
        have hNz0 : ¬ N = 0 := by omega
        have htE0 : turnE k o u = 0 := by unfold turnE; rw [if_neg (by rw [hok]; decide), if_neg (by rw [holn]; omega)]
        have htE := hid htE0
        have htV : Hid (turnV k o u = rot o u) := hid (by unfold turnV; rw [htE0, if_pos rfl]; rfl)
        have htl : Hid ((rot o u).length = N) := hid (by rw [rot_len, holn])
        have Htr : Hid (chkR k t (rot o u) = 0) := hid (chkR_rot hrow (by rw [holn]; omega))
        have HgN : Hid (decide (80 < N) = false) := hid (decide_eq_false (by omega))
        obtain ⟨e, he⟩ : ∃ e, chkR k t l = e := ⟨_, rfl⟩
        have He := hid he
        have hbl : e = 0 → bef (least l) o = false ∧ 1 ≤ n := fun e0 => by
          have h7 := he.trans e0
          have h8 := (rim_good (chkR_info h7).2.2.2.2.1).2.1
          rw [hl0.out] at h8
          have h9 := lstart_lt (l := l) (by rw [hl0.out]; omega)
          exact ⟨hno _ (chkR_rot h7 (by omega)), h8.1⟩
        have Hbl := hid hbl
        have hgl : (givR k t by_).length = t := givR_len _ _ _
        have Hgl := hid hgl
        have hgin := givR_ok (t := t) (by_ := by_) hk1
        have hokg : checkRim k (givR k t by_) = 0 := checkRim_ok (by omega) (by omega) (by omega) (by omega) hgin
        have Hokg := hid hokg
        have Hok := hid hok
        have hhas := fun hL => row_has (g := givR k t by_) hrow hgl hgin hL
        rw [holn] at hhas
        have Hhas := hid hhas
        obtain ⟨gv, hgv⟩ : ∃ gv, givR k t by_ = gv := ⟨_, rfl⟩
        have Hgv := hid hgv
        rw [hgv] at Hgl Hokg Hhas
        clear hok htE0 he hbl hgl hgin hokg hhas hgv hno hrow holn heV0 ho heE0 q1 q2 q3 hN hu hbig
        by_cases hLN : t ≤ N
        · have hLNi : (t : Int) ≤ N := by omega
          obtain ⟨f, hfN, hf1, hf2⟩ := Hhas.out hLN
          have hfe : Hid (fdE k o gv = 0) := hid (by unfold fdE; rw [if_neg (by rw [Hok.out]; decide), if_neg (by rw [Hokg.out]; decide), if_neg (by rw [Hol.out, Hgl.out]; omega), hf1, if_neg (by simp)])
          have hfv : Hid (fdV k o gv = f) := hid (by unfold fdV; rw [if_neg (by rw [Hok.out]; decide), if_neg (by rw [Hokg.out]; decide), if_neg (by rw [Hol.out, Hgl.out]; omega), hf1]; rfl)
          have hqr : Hid (eqI ((rot o f).take t) gv = true) := hid (eqI_t.2 hf2)
          have hfNi : (f : Int) < N := by omega
          have hf0 : ¬ (f : Int) < 0 := by omega
          have ht0 : (0 : Int) ≤ t := by omega
          have hLNn := hLN
          clear hf1 hf2 Hhas hLN
          by_cases he0 : e = 0
          · have te0 : (e != 0) = false := by rw [he0]; rfl
            obtain ⟨hb0, hn1'⟩ := Hbl.out he0
            have Hb0 := hid hb0
            clear he0 hb0
            go_enter Try.func13, Try.ntmps13
            obtain ⟨W0, rfl⟩ : ∃ W0 : World, W0 = w := ⟨_, rfl⟩
            skip
            skip
            have hbel : Below W0.heap.size W0 W0 := Below.refl _ _
            have hsz := hbel.size
            go_wp2_with (fail)
            refine (HKc _).mono ?_
            rintro e W1 ⟨rfl, rfl⟩
            go_wp2_with (fail)
            refine (great_any A0 n c0 _).mono ?_
            rw [Hg.out]
            rintro e W1 ⟨rfl, hb⟩
            have hst : Below W0.heap.size W0 W1 := Below.trans (by repeat' (first | with_reducible assumption | with_reducible exact Below.refl _ _ | refine Below.alloc ?_ ?_ _ | refine Below.setCell ?_ ?_ _ | refine Below.drew ?_ | refine below_drewN ?_ _ | (simp; done) | (simp; omega) | omega)) (hb.mono (by first | (simp; done) | (simp; omega) | omega))
            replace hbel := hbel.trans (hst.mono hsz)
            replace hsz := hbel.size
            replace H0 := hid (H0.out.below hst hst.size)
            replace H1 := hid (H1.out.below hst hst.size)
            clear hb hst
            obtain ⟨W0, rfl⟩ : ∃ W0 : World, W0 = W1 := ⟨_, rfl⟩
            go_wp2_with (fail)
            refine (row_any (k : Int) (t : Int) _).mono ?_
            rw [heE.out, heV.out, Hol.out]
            rintro e W1 ⟨Ao, co, rfl, hr, hb⟩
            have hr1 := hr.1
            have hco := hr.2.1
            clear hr
            have hst : Below W0.heap.size W0 W1 := Below.trans (by repeat' (first | with_reducible assumption | with_reducible exact Below.refl _ _ | refine Below.alloc ?_ ?_ _ | refine Below.setCell ?_ ?_ _ | refine Below.drew ?_ | refine below_drewN ?_ _ | (simp; done) | (simp; omega) | omega)) (hb.mono (by first | (simp; done) | (simp; omega) | omega))
            replace hbel := hbel.trans (hst.mono hsz)
            replace hsz := hbel.size
            replace H0 := hid (H0.out.below hst hst.size)
            replace H1 := hid (H1.out.below hst hst.size)
            have Ho := hid hr1
            clear hr1
            clear hb hst
            obtain ⟨W0, rfl⟩ : ∃ W0 : World, W0 = W1 := ⟨_, rfl⟩
            go_wp2_with (fail)
            refine (refPower_any (k : Int) t _ (by omega) (by omega) (by omega)).mono ?_
            rw [hpw.out]
            rintro e W1 ⟨rfl, hb⟩
            have hst : Below W0.heap.size W0 W1 := Below.trans (by repeat' (first | with_reducible assumption | with_reducible exact Below.refl _ _ | refine Below.alloc ?_ ?_ _ | refine Below.setCell ?_ ?_ _ | refine Below.drew ?_ | refine below_drewN ?_ _ | (simp; done) | (simp; omega) | omega)) (hb.mono (by first | (simp; done) | (simp; omega) | omega))
            replace hbel := hbel.trans (hst.mono hsz)
            replace hsz := hbel.size
            replace H0 := hid (H0.out.below hst hst.size)
            replace H1 := hid (H1.out.below hst hst.size)
            replace Ho := hid (Ho.out.below hst hst.size)
            clear hb hst
            obtain ⟨W0, rfl⟩ : ∃ W0 : World, W0 = W1 := ⟨_, rfl⟩
            go_wp2_with (fail)
            refine (great_any Ao N co _).mono ?_
            rw [HgN.out]
            rintro e W1 ⟨rfl, hb⟩
            have hst : Below W0.heap.size W0 W1 := Below.trans (by repeat' (first | with_reducible assumption | with_reducible exact Below.refl _ _ | refine Below.alloc ?_ ?_ _ | refine Below.setCell ?_ ?_ _ | refine Below.drew ?_ | refine below_drewN ?_ _ | (simp; done) | (simp; omega) | omega)) (hb.mono (by first | (simp; done) | (simp; omega) | omega))
            replace hbel := hbel.trans (hst.mono hsz)
            replace hsz := hbel.size
            replace H0 := hid (H0.out.below hst hst.size)
            replace H1 := hid (H1.out.below hst hst.size)
            replace Ho := hid (Ho.out.below hst hst.size)
            clear hb hst
            obtain ⟨W0, rfl⟩ : ∃ W0 : World, W0 = W1 := ⟨_, rfl⟩
            go_wp2_with (fail)
            refine (checkRow_any (k : Int) (t : Int) Ao N co o _ (Ho.out.below (by repeat' (first | with_reducible assumption | with_reducible exact Below.refl _ _ | refine Below.alloc ?_ ?_ _ | refine Below.setCell ?_ ?_ _ | refine Below.drew ?_ | refine below_drewN ?_ _ | (simp; done) | (simp; omega) | omega)) (by first | (simp; done) | (simp; omega) | omega)) (by omega) hco).mono ?_
            rw [Hrow.out]
            rintro e W1 ⟨rfl, hb⟩
            have hst : Below W0.heap.size W0 W1 := Below.trans (by repeat' (first | with_reducible assumption | with_reducible exact Below.refl _ _ | refine Below.alloc ?_ ?_ _ | refine Below.setCell ?_ ?_ _ | refine Below.drew ?_ | refine below_drewN ?_ _ | (simp; done) | (simp; omega) | omega)) (hb.mono (by first | (simp; done) | (simp; omega) | omega))
            replace hbel := hbel.trans (hst.mono hsz)
            replace hsz := hbel.size
            replace H0 := hid (H0.out.below hst hst.size)
            replace H1 := hid (H1.out.below hst hst.size)
            replace Ho := hid (Ho.out.below hst hst.size)
            clear hb hst
            obtain ⟨W0, rfl⟩ : ∃ W0 : World, W0 = W1 := ⟨_, rfl⟩
            go_wp2_with (fail)
            refine (refCheckRow_any (k : Int) (t : Int) Ao N co o _ (Ho.out.below (by repeat' (first | with_reducible assumption | with_reducible exact Below.refl _ _ | refine Below.alloc ?_ ?_ _ | refine Below.setCell ?_ ?_ _ | refine Below.drew ?_ | refine below_drewN ?_ _ | (simp; done) | (simp; omega) | omega)) (by first | (simp; done) | (simp; omega) | omega)) (by omega)).mono ?_
            rw [Hrow.out]
            rintro e W1 ⟨rfl, hb⟩
            have hst : Below W0.heap.size W0 W1 := Below.trans (by repeat' (first | with_reducible assumption | with_reducible exact Below.refl _ _ | refine Below.alloc ?_ ?_ _ | refine Below.setCell ?_ ?_ _ | refine Below.drew ?_ | refine below_drewN ?_ _ | (simp; done) | (simp; omega) | omega)) (hb.mono (by first | (simp; done) | (simp; omega) | omega))
            replace hbel := hbel.trans (hst.mono hsz)
            replace hsz := hbel.size
            replace H0 := hid (H0.out.below hst hst.size)
            replace H1 := hid (H1.out.below hst hst.size)
            replace Ho := hid (Ho.out.below hst hst.size)
            clear hb hst
            obtain ⟨W0, rfl⟩ : ∃ W0 : World, W0 = W1 := ⟨_, rfl⟩
            go_wp2_with (fail)
            refine (turn_any (k : Int) Ao N co o (u : Int) _ (Ho.out.below (by repeat' (first | with_reducible assumption | with_reducible exact Below.refl _ _ | refine Below.alloc ?_ ?_ _ | refine Below.setCell ?_ ?_ _ | refine Below.drew ?_ | refine below_drewN ?_ _ | (simp; done) | (simp; omega) | omega)) (by first | (simp; done) | (simp; omega) | omega)) (by omega) hco).mono ?_
            rw [htE.out, htV.out]
            rintro e W1 ⟨Bt, mt, ct, rfl, hr, hb⟩
            have hr0 := hr.1.len
            obtain rfl : N = mt := by rw [← hr0, htl.out]
            have hr1 := hr.1
            have hct := hr.2.1
            clear hr hr0
            have hst : Below W0.heap.size W0 W1 := Below.trans (by repeat' (first | with_reducible assumption | with_reducible exact Below.refl _ _ | refine Below.alloc ?_ ?_ _ | refine Below.setCell ?_ ?_ _ | refine Below.drew ?_ | refine below_drewN ?_ _ | (simp; done) | (simp; omega) | omega)) (hb.mono (by first | (simp; done) | (simp; omega) | omega))
            replace hbel := hbel.trans (hst.mono hsz)
            replace hsz := hbel.size
            replace H0 := hid (H0.out.below hst hst.size)
            replace H1 := hid (H1.out.below hst hst.size)
            replace Ho := hid (Ho.out.below hst hst.size)
            have Ht := hid hr1
            clear hr1
            clear hb hst
            obtain ⟨W0, rfl⟩ : ∃ W0 : World, W0 = W1 := ⟨_, rfl⟩
            go_wp2_with (fail)
            refine (great_any Bt N ct _).mono ?_
            rw [HgN.out]
            rintro e W1 ⟨rfl, hb⟩
            have hst : Below W0.heap.size W0 W1 := Below.trans (by repeat' (first | with_reducible assumption | with_reducible exact Below.refl _ _ | refine Below.alloc ?_ ?_ _ | refine Below.setCell ?_ ?_ _ | refine Below.drew ?_ | refine below_drewN ?_ _ | (simp; done) | (simp; omega) | omega)) (hb.mono (by first | (simp; done) | (simp; omega) | omega))
            replace hbel := hbel.trans (hst.mono hsz)
            replace hsz := hbel.size
            replace H0 := hid (H0.out.below hst hst.size)
            replace H1 := hid (H1.out.below hst hst.size)
            replace Ho := hid (Ho.out.below hst hst.size)
            replace Ht := hid (Ht.out.below hst hst.size)
            clear hb hst
            obtain ⟨W0, rfl⟩ : ∃ W0 : World, W0 = W1 := ⟨_, rfl⟩
            go_wp2_with (fail)
            refine (checkRow_any (k : Int) (t : Int) Bt N ct (rot o u) _ (Ht.out.below (by repeat' (first | with_reducible assumption | with_reducible exact Below.refl _ _ | refine Below.alloc ?_ ?_ _ | refine Below.setCell ?_ ?_ _ | refine Below.drew ?_ | refine below_drewN ?_ _ | (simp; done) | (simp; omega) | omega)) (by first | (simp; done) | (simp; omega) | omega)) (by omega) hct).mono ?_
            rw [Htr.out]
            rintro e W1 ⟨rfl, hb⟩
            have hst : Below W0.heap.size W0 W1 := Below.trans (by repeat' (first | with_reducible assumption | with_reducible exact Below.refl _ _ | refine Below.alloc ?_ ?_ _ | refine Below.setCell ?_ ?_ _ | refine Below.drew ?_ | refine below_drewN ?_ _ | (simp; done) | (simp; omega) | omega)) (hb.mono (by first | (simp; done) | (simp; omega) | omega))
            replace hbel := hbel.trans (hst.mono hsz)
            replace hsz := hbel.size
            replace H0 := hid (H0.out.below hst hst.size)
            replace H1 := hid (H1.out.below hst hst.size)
            replace Ho := hid (Ho.out.below hst hst.size)
            replace Ht := hid (Ht.out.below hst hst.size)
            clear hb hst
            obtain ⟨W0, rfl⟩ : ∃ W0 : World, W0 = W1 := ⟨_, rfl⟩
            clear Ht
            go_wp2_with (fail)
            refine (given_any A1 n1 c1 k t by_ _ (H1.out.below (by repeat' (first | with_reducible assumption | with_reducible exact Below.refl _ _ | refine Below.alloc ?_ ?_ _ | refine Below.setCell ?_ ?_ _ | refine Below.drew ?_ | refine below_drewN ?_ _ | (simp; done) | (simp; omega) | omega)) (by first | (simp; done) | (simp; omega) | omega)) (by omega) hk1 hk4 (by omega) Hby.out).mono ?_
            rw [Hgv.out]
            rintro e W1 ⟨v2, rfl, ho, hb⟩
            obtain ⟨Ag, cg, rfl, hg2⟩ := sl_of_owns ho
            have hg3 : InS W1 W1.heap.size Ag t gv := hg2
            clear ho hg2
            have hst : Below W0.heap.size W0 W1 := Below.trans (by repeat' (first | with_reducible assumption | with_reducible exact Below.refl _ _ | refine Below.alloc ?_ ?_ _ | refine Below.setCell ?_ ?_ _ | refine Below.drew ?_ | refine below_drewN ?_ _ | (simp; done) | (simp; omega) | omega)) (hb.mono (by first | (simp; done) | (simp; omega) | omega))
            replace hbel := hbel.trans (hst.mono hsz)
            replace hsz := hbel.size
            replace H0 := hid (H0.out.below hst hst.size)
            replace H1 := hid (H1.out.below hst hst.size)
            replace Ho := hid (Ho.out.below hst hst.size)
            have HG := hid hg3
            clear hg3
            clear hb hst
            obtain ⟨W0, rfl⟩ : ∃ W0 : World, W0 = W1 := ⟨_, rfl⟩
            go_wp2_with (fail)
            refine (find_any (k : Int) Ao Ag N co t cg o gv _ (Ho.out.below (by repeat' (first | with_reducible assumption | with_reducible exact Below.refl _ _ | refine Below.alloc ?_ ?_ _ | refine Below.setCell ?_ ?_ _ | refine Below.drew ?_ | refine below_drewN ?_ _ | (simp; done) | (simp; omega) | omega)) (by first | (simp; done) | (simp; omega) | omega)) (HG.out.below (by repeat' (first | with_reducible assumption | with_reducible exact Below.refl _ _ | refine Below.alloc ?_ ?_ _ | refine Below.setCell ?_ ?_ _ | refine Below.drew ?_ | refine below_drewN ?_ _ | (simp; done) | (simp; omega) | omega)) (by first | (simp; done) | (simp; omega) | omega)) (by omega) (by omega) hco).mono ?_
            rw [hfe.out, hfv.out]
            rintro e W1 ⟨rfl, hb⟩
            have hst : Below W0.heap.size W0 W1 := Below.trans (by repeat' (first | with_reducible assumption | with_reducible exact Below.refl _ _ | refine Below.alloc ?_ ?_ _ | refine Below.setCell ?_ ?_ _ | refine Below.drew ?_ | refine below_drewN ?_ _ | (simp; done) | (simp; omega) | omega)) (hb.mono (by first | (simp; done) | (simp; omega) | omega))
            replace hbel := hbel.trans (hst.mono hsz)
            replace hsz := hbel.size
            replace H0 := hid (H0.out.below hst hst.size)
            replace H1 := hid (H1.out.below hst hst.size)
            replace Ho := hid (Ho.out.below hst hst.size)
            replace HG := hid (HG.out.below hst hst.size)
            clear hb hst
            obtain ⟨W0, rfl⟩ : ∃ W0 : World, W0 = W1 := ⟨_, rfl⟩
            go_wp2_with (fail)
            refine (turnOf_any Ao N co o f _ (Ho.out.below (by repeat' (first | with_reducible assumption | with_reducible exact Below.refl _ _ | refine Below.alloc ?_ ?_ _ | refine Below.setCell ?_ ?_ _ | refine Below.drew ?_ | refine below_drewN ?_ _ | (simp; done) | (simp; omega) | omega)) (by first | (simp; done) | (simp; omega) | omega)) (by omega) (by omega)).mono ?_
            rintro e W1 ⟨vq, rfl, ho, hb⟩
            obtain ⟨gq, cq, rfl, -, -⟩ := own_form2 ho hN1
            have hq2 : InS W1 W1.heap.size (some ⟨gq, 0, none⟩) N (rot o f) := by obtain ⟨A', c', e', h'⟩ := sl_of_owns ho; cases e'; exact h'
            have hq3 := insTake hq2 hLNn
            have hcq := own_capN ho
            have htq : t ≤ cq := by omega
            have htqi : (t : Int) ≤ cq := by omega
            clear ho hq2
            have hst : Below W0.heap.size W0 W1 := Below.trans (by repeat' (first | with_reducible assumption | with_reducible exact Below.refl _ _ | refine Below.alloc ?_ ?_ _ | refine Below.setCell ?_ ?_ _ | refine Below.drew ?_ | refine below_drewN ?_ _ | (simp; done) | (simp; omega) | omega)) (hb.mono (by first | (simp; done) | (simp; omega) | omega))
            replace hbel := hbel.trans (hst.mono hsz)
            replace hsz := hbel.size
            replace H0 := hid (H0.out.below hst hst.size)
            replace H1 := hid (H1.out.below hst hst.size)
            replace Ho := hid (Ho.out.below hst hst.size)
            replace HG := hid (HG.out.below hst hst.size)
            have HQ := hid hq3
            clear hq3
            clear hb hst
            obtain ⟨W0, rfl⟩ : ∃ W0 : World, W0 = W1 := ⟨_, rfl⟩
            go_wp2_with (fail)
            refine (ints_any _ (some ⟨gq, 0, none⟩) Ag t cq t cg ((rot o f).take t) gv (HQ.out.below (by repeat' (first | with_reducible assumption | with_reducible exact Below.refl _ _ | refine Below.alloc ?_ ?_ _ | refine Below.setCell ?_ ?_ _ | refine Below.drew ?_ | refine below_drewN ?_ _ | (simp; done) | (simp; omega) | omega)) (by first | (simp; done) | (simp; omega) | omega)) (HG.out.below (by repeat' (first | with_reducible assumption | with_reducible exact Below.refl _ _ | refine Below.alloc ?_ ?_ _ | refine Below.setCell ?_ ?_ _ | refine Below.drew ?_ | refine below_drewN ?_ _ | (simp; done) | (simp; omega) | omega)) (by first | (simp; done) | (simp; omega) | omega)) (by omega)).mono ?_
            rw [hqr.out]
            rintro e W1 ⟨rfl, hb⟩
            have hst : Below W0.heap.size W0 W1 := Below.trans (by repeat' (first | with_reducible assumption | with_reducible exact Below.refl _ _ | refine Below.alloc ?_ ?_ _ | refine Below.setCell ?_ ?_ _ | refine Below.drew ?_ | refine below_drewN ?_ _ | (simp; done) | (simp; omega) | omega)) (hb.mono (by first | (simp; done) | (simp; omega) | omega))
            replace hbel := hbel.trans (hst.mono hsz)
            replace hsz := hbel.size
            replace H0 := hid (H0.out.below hst hst.size)
            replace H1 := hid (H1.out.below hst hst.size)
            replace Ho := hid (Ho.out.below hst hst.size)
            replace HG := hid (HG.out.below hst hst.size)
            replace HQ := hid (HQ.out.below hst hst.size)
            clear hb hst
            obtain ⟨W0, rfl⟩ : ∃ W0 : World, W0 = W1 := ⟨_, rfl⟩
            clear HQ
            clear HG
            go_wp2_with (fail)
            refine (checkRow_any (k : Int) (t : Int) A0 n c0 l _ (H0.out.below (by repeat' (first | with_reducible assumption | with_reducible exact Below.refl _ _ | refine Below.alloc ?_ ?_ _ | refine Below.setCell ?_ ?_ _ | refine Below.drew ?_ | refine below_drewN ?_ _ | (simp; done) | (simp; omega) | omega)) (by first | (simp; done) | (simp; omega) | omega)) (by omega) hc0).mono ?_
            rw [He.out]
            rintro e W1 ⟨rfl, hb⟩
            have hst : Below W0.heap.size W0 W1 := Below.trans (by repeat' (first | with_reducible assumption | with_reducible exact Below.refl _ _ | refine Below.alloc ?_ ?_ _ | refine Below.setCell ?_ ?_ _ | refine Below.drew ?_ | refine below_drewN ?_ _ | (simp; done) | (simp; omega) | omega)) (hb.mono (by first | (simp; done) | (simp; omega) | omega))
            replace hbel := hbel.trans (hst.mono hsz)
            replace hsz := hbel.size
            replace H0 := hid (H0.out.below hst hst.size)
            replace H1 := hid (H1.out.below hst hst.size)
            replace Ho := hid (Ho.out.below hst hst.size)
            clear hb hst
            obtain ⟨W0, rfl⟩ : ∃ W0 : World, W0 = W1 := ⟨_, rfl⟩
            go_wp2_with (fail)
            refine (refCheckRow_any (k : Int) (t : Int) A0 n c0 l _ (H0.out.below (by repeat' (first | with_reducible assumption | with_reducible exact Below.refl _ _ | refine Below.alloc ?_ ?_ _ | refine Below.setCell ?_ ?_ _ | refine Below.drew ?_ | refine below_drewN ?_ _ | (simp; done) | (simp; omega) | omega)) (by first | (simp; done) | (simp; omega) | omega)) (by omega)).mono ?_
            rw [He.out]
            rintro e W1 ⟨rfl, hb⟩
            have hst : Below W0.heap.size W0 W1 := Below.trans (by repeat' (first | with_reducible assumption | with_reducible exact Below.refl _ _ | refine Below.alloc ?_ ?_ _ | refine Below.setCell ?_ ?_ _ | refine Below.drew ?_ | refine below_drewN ?_ _ | (simp; done) | (simp; omega) | omega)) (hb.mono (by first | (simp; done) | (simp; omega) | omega))
            replace hbel := hbel.trans (hst.mono hsz)
            replace hsz := hbel.size
            replace H0 := hid (H0.out.below hst hst.size)
            replace H1 := hid (H1.out.below hst hst.size)
            replace Ho := hid (Ho.out.below hst hst.size)
            clear hb hst
            obtain ⟨W0, rfl⟩ : ∃ W0 : World, W0 = W1 := ⟨_, rfl⟩
            go_wp2_with (fail)
            refine (leastOf_any A0 n c0 l _ (H0.out.below (by repeat' (first | with_reducible assumption | with_reducible exact Below.refl _ _ | refine Below.alloc ?_ ?_ _ | refine Below.setCell ?_ ?_ _ | refine Below.drew ?_ | refine below_drewN ?_ _ | (simp; done) | (simp; omega) | omega)) (by first | (simp; done) | (simp; omega) | omega)) (by omega) hn1').mono ?_
            rintro e W1 ⟨A7, c7, rfl, hr7, hb⟩
            have hst : Below W0.heap.size W0 W1 := Below.trans (by repeat' (first | with_reducible assumption | with_reducible exact Below.refl _ _ | refine Below.alloc ?_ ?_ _ | refine Below.setCell ?_ ?_ _ | refine Below.drew ?_ | refine below_drewN ?_ _ | (simp; done) | (simp; omega) | omega)) (hb.mono (by first | (simp; done) | (simp; omega) | omega))
            replace hbel := hbel.trans (hst.mono hsz)
            replace hsz := hbel.size
            replace H0 := hid (H0.out.below hst hst.size)
            replace H1 := hid (H1.out.below hst hst.size)
            replace Ho := hid (Ho.out.below hst hst.size)
            have H7 := hid hr7
            clear hr7
            clear hb hst
            obtain ⟨W0, rfl⟩ : ∃ W0 : World, W0 = W1 := ⟨_, rfl⟩
            go_wp2_with (fail)
            refine (before_any _ A7 Ao n c7 N co (least l) o (H7.out.below (by repeat' (first | with_reducible assumption | with_reducible exact Below.refl _ _ | refine Below.alloc ?_ ?_ _ | refine Below.setCell ?_ ?_ _ | refine Below.drew ?_ | refine below_drewN ?_ _ | (simp; done) | (simp; omega) | omega)) (by first | (simp; done) | (simp; omega) | omega)) (Ho.out.below (by repeat' (first | with_reducible assumption | with_reducible exact Below.refl _ _ | refine Below.alloc ?_ ?_ _ | refine Below.setCell ?_ ?_ _ | refine Below.drew ?_ | refine below_drewN ?_ _ | (simp; done) | (simp; omega) | omega)) (by first | (simp; done) | (simp; omega) | omega)) (by omega) (by omega)).mono ?_
            rw [Hb0.out]
            rintro e W1 ⟨rfl, hb⟩
            have hst : Below W0.heap.size W0 W1 := Below.trans (by repeat' (first | with_reducible assumption | with_reducible exact Below.refl _ _ | refine Below.alloc ?_ ?_ _ | refine Below.setCell ?_ ?_ _ | refine Below.drew ?_ | refine below_drewN ?_ _ | (simp; done) | (simp; omega) | omega)) (hb.mono (by first | (simp; done) | (simp; omega) | omega))
            replace hbel := hbel.trans (hst.mono hsz)
            replace hsz := hbel.size
            replace H0 := hid (H0.out.below hst hst.size)
            replace H1 := hid (H1.out.below hst hst.size)
            replace Ho := hid (Ho.out.below hst hst.size)
            replace H7 := hid (H7.out.below hst hst.size)
            clear hb hst
            obtain ⟨W0, rfl⟩ : ∃ W0 : World, W0 = W1 := ⟨_, rfl⟩
            go_wp2_with (fail)
            refine (works_any _).mono ?_
            rintro e W1 ⟨rfl, hb⟩
            have hst : Below W0.heap.size W0 W1 := Below.trans (by repeat' (first | with_reducible assumption | with_reducible exact Below.refl _ _ | refine Below.alloc ?_ ?_ _ | refine Below.setCell ?_ ?_ _ | refine Below.drew ?_ | refine below_drewN ?_ _ | (simp; done) | (simp; omega) | omega)) (hb.mono (by first | (simp; done) | (simp; omega) | omega))
            replace hbel := hbel.trans (hst.mono hsz)
            replace hsz := hbel.size
            replace H0 := hid (H0.out.below hst hst.size)
            replace H1 := hid (H1.out.below hst hst.size)
            replace Ho := hid (Ho.out.below hst hst.size)
            replace H7 := hid (H7.out.below hst hst.size)
            clear hb hst
            obtain ⟨W0, rfl⟩ : ∃ W0 : World, W0 = W1 := ⟨_, rfl⟩
            go_wp2
            go_ret
            exact ⟨rfl, hbel⟩
          · have te0 : (e != 0) = true := by simp [he0]
            clear he0
            go_enter Try.func13, Try.ntmps13
            obtain ⟨W0, rfl⟩ : ∃ W0 : World, W0 = w := ⟨_, rfl⟩
            skip
            skip
            have hbel : Below W0.heap.size W0 W0 := Below.refl _ _
            have hsz := hbel.size
            go_wp2_with (fail)
            refine (HKc _).mono ?_
            rintro e W1 ⟨rfl, rfl⟩
            go_wp2_with (fail)
            refine (great_any A0 n c0 _).mono ?_
            rw [Hg.out]
            rintro e W1 ⟨rfl, hb⟩
            have hst : Below W0.heap.size W0 W1 := Below.trans (by repeat' (first | with_reducible assumption | with_reducible exact Below.refl _ _ | refine Below.alloc ?_ ?_ _ | refine Below.setCell ?_ ?_ _ | refine Below.drew ?_ | refine below_drewN ?_ _ | (simp; done) | (simp; omega) | omega)) (hb.mono (by first | (simp; done) | (simp; omega) | omega))
            replace hbel := hbel.trans (hst.mono hsz)
            replace hsz := hbel.size
            replace H0 := hid (H0.out.below hst hst.size)
            replace H1 := hid (H1.out.below hst hst.size)
            clear hb hst
            obtain ⟨W0, rfl⟩ : ∃ W0 : World, W0 = W1 := ⟨_, rfl⟩
            go_wp2_with (fail)
            refine (row_any (k : Int) (t : Int) _).mono ?_
            rw [heE.out, heV.out, Hol.out]
            rintro e W1 ⟨Ao, co, rfl, hr, hb⟩
            have hr1 := hr.1
            have hco := hr.2.1
            clear hr
            have hst : Below W0.heap.size W0 W1 := Below.trans (by repeat' (first | with_reducible assumption | with_reducible exact Below.refl _ _ | refine Below.alloc ?_ ?_ _ | refine Below.setCell ?_ ?_ _ | refine Below.drew ?_ | refine below_drewN ?_ _ | (simp; done) | (simp; omega) | omega)) (hb.mono (by first | (simp; done) | (simp; omega) | omega))
            replace hbel := hbel.trans (hst.mono hsz)
            replace hsz := hbel.size
            replace H0 := hid (H0.out.below hst hst.size)
            replace H1 := hid (H1.out.below hst hst.size)
            have Ho := hid hr1
            clear hr1
            clear hb hst
            obtain ⟨W0, rfl⟩ : ∃ W0 : World, W0 = W1 := ⟨_, rfl⟩
            go_wp2_with (fail)
            refine (refPower_any (k : Int) t _ (by omega) (by omega) (by omega)).mono ?_
            rw [hpw.out]
            rintro e W1 ⟨rfl, hb⟩
            have hst : Below W0.heap.size W0 W1 := Below.trans (by repeat' (first | with_reducible assumption | with_reducible exact Below.refl _ _ | refine Below.alloc ?_ ?_ _ | refine Below.setCell ?_ ?_ _ | refine Below.drew ?_ | refine below_drewN ?_ _ | (simp; done) | (simp; omega) | omega)) (hb.mono (by first | (simp; done) | (simp; omega) | omega))
            replace hbel := hbel.trans (hst.mono hsz)
            replace hsz := hbel.size
            replace H0 := hid (H0.out.below hst hst.size)
            replace H1 := hid (H1.out.below hst hst.size)
            replace Ho := hid (Ho.out.below hst hst.size)
            clear hb hst
            obtain ⟨W0, rfl⟩ : ∃ W0 : World, W0 = W1 := ⟨_, rfl⟩
            go_wp2_with (fail)
            refine (great_any Ao N co _).mono ?_
            rw [HgN.out]
            rintro e W1 ⟨rfl, hb⟩
            have hst : Below W0.heap.size W0 W1 := Below.trans (by repeat' (first | with_reducible assumption | with_reducible exact Below.refl _ _ | refine Below.alloc ?_ ?_ _ | refine Below.setCell ?_ ?_ _ | refine Below.drew ?_ | refine below_drewN ?_ _ | (simp; done) | (simp; omega) | omega)) (hb.mono (by first | (simp; done) | (simp; omega) | omega))
            replace hbel := hbel.trans (hst.mono hsz)
            replace hsz := hbel.size
            replace H0 := hid (H0.out.below hst hst.size)
            replace H1 := hid (H1.out.below hst hst.size)
            replace Ho := hid (Ho.out.below hst hst.size)
            clear hb hst
            obtain ⟨W0, rfl⟩ : ∃ W0 : World, W0 = W1 := ⟨_, rfl⟩
            go_wp2_with (fail)
            refine (checkRow_any (k : Int) (t : Int) Ao N co o _ (Ho.out.below (by repeat' (first | with_reducible assumption | with_reducible exact Below.refl _ _ | refine Below.alloc ?_ ?_ _ | refine Below.setCell ?_ ?_ _ | refine Below.drew ?_ | refine below_drewN ?_ _ | (simp; done) | (simp; omega) | omega)) (by first | (simp; done) | (simp; omega) | omega)) (by omega) hco).mono ?_
            rw [Hrow.out]
            rintro e W1 ⟨rfl, hb⟩
            have hst : Below W0.heap.size W0 W1 := Below.trans (by repeat' (first | with_reducible assumption | with_reducible exact Below.refl _ _ | refine Below.alloc ?_ ?_ _ | refine Below.setCell ?_ ?_ _ | refine Below.drew ?_ | refine below_drewN ?_ _ | (simp; done) | (simp; omega) | omega)) (hb.mono (by first | (simp; done) | (simp; omega) | omega))
            replace hbel := hbel.trans (hst.mono hsz)
            replace hsz := hbel.size
            replace H0 := hid (H0.out.below hst hst.size)
            replace H1 := hid (H1.out.below hst hst.size)
            replace Ho := hid (Ho.out.below hst hst.size)
            clear hb hst
            obtain ⟨W0, rfl⟩ : ∃ W0 : World, W0 = W1 := ⟨_, rfl⟩
            go_wp2_with (fail)
            refine (refCheckRow_any (k : Int) (t : Int) Ao N co o _ (Ho.out.below (by repeat' (first | with_reducible assumption | with_reducible exact Below.refl _ _ | refine Below.alloc ?_ ?_ _ | refine Below.setCell ?_ ?_ _ | refine Below.drew ?_ | refine below_drewN ?_ _ | (simp; done) | (simp; omega) | omega)) (by first | (simp; done) | (simp; omega) | omega)) (by omega)).mono ?_
            rw [Hrow.out]
            rintro e W1 ⟨rfl, hb⟩
            have hst : Below W0.heap.size W0 W1 := Below.trans (by repeat' (first | with_reducible assumption | with_reducible exact Below.refl _ _ | refine Below.alloc ?_ ?_ _ | refine Below.setCell ?_ ?_ _ | refine Below.drew ?_ | refine below_drewN ?_ _ | (simp; done) | (simp; omega) | omega)) (hb.mono (by first | (simp; done) | (simp; omega) | omega))
            replace hbel := hbel.trans (hst.mono hsz)
            replace hsz := hbel.size
            replace H0 := hid (H0.out.below hst hst.size)
            replace H1 := hid (H1.out.below hst hst.size)
            replace Ho := hid (Ho.out.below hst hst.size)
            clear hb hst
            obtain ⟨W0, rfl⟩ : ∃ W0 : World, W0 = W1 := ⟨_, rfl⟩
            go_wp2_with (fail)
            refine (turn_any (k : Int) Ao N co o (u : Int) _ (Ho.out.below (by repeat' (first | with_reducible assumption | with_reducible exact Below.refl _ _ | refine Below.alloc ?_ ?_ _ | refine Below.setCell ?_ ?_ _ | refine Below.drew ?_ | refine below_drewN ?_ _ | (simp; done) | (simp; omega) | omega)) (by first | (simp; done) | (simp; omega) | omega)) (by omega) hco).mono ?_
            rw [htE.out, htV.out]
            rintro e W1 ⟨Bt, mt, ct, rfl, hr, hb⟩
            have hr0 := hr.1.len
            obtain rfl : N = mt := by rw [← hr0, htl.out]
            have hr1 := hr.1
            have hct := hr.2.1
            clear hr hr0
            have hst : Below W0.heap.size W0 W1 := Below.trans (by repeat' (first | with_reducible assumption | with_reducible exact Below.refl _ _ | refine Below.alloc ?_ ?_ _ | refine Below.setCell ?_ ?_ _ | refine Below.drew ?_ | refine below_drewN ?_ _ | (simp; done) | (simp; omega) | omega)) (hb.mono (by first | (simp; done) | (simp; omega) | omega))
            replace hbel := hbel.trans (hst.mono hsz)
            replace hsz := hbel.size
            replace H0 := hid (H0.out.below hst hst.size)
            replace H1 := hid (H1.out.below hst hst.size)
            replace Ho := hid (Ho.out.below hst hst.size)
            have Ht := hid hr1
            clear hr1
            clear hb hst
            obtain ⟨W0, rfl⟩ : ∃ W0 : World, W0 = W1 := ⟨_, rfl⟩
            go_wp2_with (fail)
            refine (great_any Bt N ct _).mono ?_
            rw [HgN.out]
            rintro e W1 ⟨rfl, hb⟩
            have hst : Below W0.heap.size W0 W1 := Below.trans (by repeat' (first | with_reducible assumption | with_reducible exact Below.refl _ _ | refine Below.alloc ?_ ?_ _ | refine Below.setCell ?_ ?_ _ | refine Below.drew ?_ | refine below_drewN ?_ _ | (simp; done) | (simp; omega) | omega)) (hb.mono (by first | (simp; done) | (simp; omega) | omega))
            replace hbel := hbel.trans (hst.mono hsz)
            replace hsz := hbel.size
            replace H0 := hid (H0.out.below hst hst.size)
            replace H1 := hid (H1.out.below hst hst.size)
            replace Ho := hid (Ho.out.below hst hst.size)
            replace Ht := hid (Ht.out.below hst hst.size)
            clear hb hst
            obtain ⟨W0, rfl⟩ : ∃ W0 : World, W0 = W1 := ⟨_, rfl⟩
            go_wp2_with (fail)
            refine (checkRow_any (k : Int) (t : Int) Bt N ct (rot o u) _ (Ht.out.below (by repeat' (first | with_reducible assumption | with_reducible exact Below.refl _ _ | refine Below.alloc ?_ ?_ _ | refine Below.setCell ?_ ?_ _ | refine Below.drew ?_ | refine below_drewN ?_ _ | (simp; done) | (simp; omega) | omega)) (by first | (simp; done) | (simp; omega) | omega)) (by omega) hct).mono ?_
            rw [Htr.out]
            rintro e W1 ⟨rfl, hb⟩
            have hst : Below W0.heap.size W0 W1 := Below.trans (by repeat' (first | with_reducible assumption | with_reducible exact Below.refl _ _ | refine Below.alloc ?_ ?_ _ | refine Below.setCell ?_ ?_ _ | refine Below.drew ?_ | refine below_drewN ?_ _ | (simp; done) | (simp; omega) | omega)) (hb.mono (by first | (simp; done) | (simp; omega) | omega))
            replace hbel := hbel.trans (hst.mono hsz)
            replace hsz := hbel.size
            replace H0 := hid (H0.out.below hst hst.size)
            replace H1 := hid (H1.out.below hst hst.size)
            replace Ho := hid (Ho.out.below hst hst.size)
            replace Ht := hid (Ht.out.below hst hst.size)
            clear hb hst
            obtain ⟨W0, rfl⟩ : ∃ W0 : World, W0 = W1 := ⟨_, rfl⟩
            clear Ht
            go_wp2_with (fail)
            refine (given_any A1 n1 c1 k t by_ _ (H1.out.below (by repeat' (first | with_reducible assumption | with_reducible exact Below.refl _ _ | refine Below.alloc ?_ ?_ _ | refine Below.setCell ?_ ?_ _ | refine Below.drew ?_ | refine below_drewN ?_ _ | (simp; done) | (simp; omega) | omega)) (by first | (simp; done) | (simp; omega) | omega)) (by omega) hk1 hk4 (by omega) Hby.out).mono ?_
            rw [Hgv.out]
            rintro e W1 ⟨v2, rfl, ho, hb⟩
            obtain ⟨Ag, cg, rfl, hg2⟩ := sl_of_owns ho
            have hg3 : InS W1 W1.heap.size Ag t gv := hg2
            clear ho hg2
            have hst : Below W0.heap.size W0 W1 := Below.trans (by repeat' (first | with_reducible assumption | with_reducible exact Below.refl _ _ | refine Below.alloc ?_ ?_ _ | refine Below.setCell ?_ ?_ _ | refine Below.drew ?_ | refine below_drewN ?_ _ | (simp; done) | (simp; omega) | omega)) (hb.mono (by first | (simp; done) | (simp; omega) | omega))
            replace hbel := hbel.trans (hst.mono hsz)
            replace hsz := hbel.size
            replace H0 := hid (H0.out.below hst hst.size)
            replace H1 := hid (H1.out.below hst hst.size)
            replace Ho := hid (Ho.out.below hst hst.size)
            have HG := hid hg3
            clear hg3
            clear hb hst
            obtain ⟨W0, rfl⟩ : ∃ W0 : World, W0 = W1 := ⟨_, rfl⟩
            go_wp2_with (fail)
            refine (find_any (k : Int) Ao Ag N co t cg o gv _ (Ho.out.below (by repeat' (first | with_reducible assumption | with_reducible exact Below.refl _ _ | refine Below.alloc ?_ ?_ _ | refine Below.setCell ?_ ?_ _ | refine Below.drew ?_ | refine below_drewN ?_ _ | (simp; done) | (simp; omega) | omega)) (by first | (simp; done) | (simp; omega) | omega)) (HG.out.below (by repeat' (first | with_reducible assumption | with_reducible exact Below.refl _ _ | refine Below.alloc ?_ ?_ _ | refine Below.setCell ?_ ?_ _ | refine Below.drew ?_ | refine below_drewN ?_ _ | (simp; done) | (simp; omega) | omega)) (by first | (simp; done) | (simp; omega) | omega)) (by omega) (by omega) hco).mono ?_
            rw [hfe.out, hfv.out]
            rintro e W1 ⟨rfl, hb⟩
            have hst : Below W0.heap.size W0 W1 := Below.trans (by repeat' (first | with_reducible assumption | with_reducible exact Below.refl _ _ | refine Below.alloc ?_ ?_ _ | refine Below.setCell ?_ ?_ _ | refine Below.drew ?_ | refine below_drewN ?_ _ | (simp; done) | (simp; omega) | omega)) (hb.mono (by first | (simp; done) | (simp; omega) | omega))
            replace hbel := hbel.trans (hst.mono hsz)
            replace hsz := hbel.size
            replace H0 := hid (H0.out.below hst hst.size)
            replace H1 := hid (H1.out.below hst hst.size)
            replace Ho := hid (Ho.out.below hst hst.size)
            replace HG := hid (HG.out.below hst hst.size)
            clear hb hst
            obtain ⟨W0, rfl⟩ : ∃ W0 : World, W0 = W1 := ⟨_, rfl⟩
            go_wp2_with (fail)
            refine (turnOf_any Ao N co o f _ (Ho.out.below (by repeat' (first | with_reducible assumption | with_reducible exact Below.refl _ _ | refine Below.alloc ?_ ?_ _ | refine Below.setCell ?_ ?_ _ | refine Below.drew ?_ | refine below_drewN ?_ _ | (simp; done) | (simp; omega) | omega)) (by first | (simp; done) | (simp; omega) | omega)) (by omega) (by omega)).mono ?_
            rintro e W1 ⟨vq, rfl, ho, hb⟩
            obtain ⟨gq, cq, rfl, -, -⟩ := own_form2 ho hN1
            have hq2 : InS W1 W1.heap.size (some ⟨gq, 0, none⟩) N (rot o f) := by obtain ⟨A', c', e', h'⟩ := sl_of_owns ho; cases e'; exact h'
            have hq3 := insTake hq2 hLNn
            have hcq := own_capN ho
            have htq : t ≤ cq := by omega
            have htqi : (t : Int) ≤ cq := by omega
            clear ho hq2
            have hst : Below W0.heap.size W0 W1 := Below.trans (by repeat' (first | with_reducible assumption | with_reducible exact Below.refl _ _ | refine Below.alloc ?_ ?_ _ | refine Below.setCell ?_ ?_ _ | refine Below.drew ?_ | refine below_drewN ?_ _ | (simp; done) | (simp; omega) | omega)) (hb.mono (by first | (simp; done) | (simp; omega) | omega))
            replace hbel := hbel.trans (hst.mono hsz)
            replace hsz := hbel.size
            replace H0 := hid (H0.out.below hst hst.size)
            replace H1 := hid (H1.out.below hst hst.size)
            replace Ho := hid (Ho.out.below hst hst.size)
            replace HG := hid (HG.out.below hst hst.size)
            have HQ := hid hq3
            clear hq3
            clear hb hst
            obtain ⟨W0, rfl⟩ : ∃ W0 : World, W0 = W1 := ⟨_, rfl⟩
            go_wp2_with (fail)
            refine (ints_any _ (some ⟨gq, 0, none⟩) Ag t cq t cg ((rot o f).take t) gv (HQ.out.below (by repeat' (first | with_reducible assumption | with_reducible exact Below.refl _ _ | refine Below.alloc ?_ ?_ _ | refine Below.setCell ?_ ?_ _ | refine Below.drew ?_ | refine below_drewN ?_ _ | (simp; done) | (simp; omega) | omega)) (by first | (simp; done) | (simp; omega) | omega)) (HG.out.below (by repeat' (first | with_reducible assumption | with_reducible exact Below.refl _ _ | refine Below.alloc ?_ ?_ _ | refine Below.setCell ?_ ?_ _ | refine Below.drew ?_ | refine below_drewN ?_ _ | (simp; done) | (simp; omega) | omega)) (by first | (simp; done) | (simp; omega) | omega)) (by omega)).mono ?_
            rw [hqr.out]
            rintro e W1 ⟨rfl, hb⟩
            have hst : Below W0.heap.size W0 W1 := Below.trans (by repeat' (first | with_reducible assumption | with_reducible exact Below.refl _ _ | refine Below.alloc ?_ ?_ _ | refine Below.setCell ?_ ?_ _ | refine Below.drew ?_ | refine below_drewN ?_ _ | (simp; done) | (simp; omega) | omega)) (hb.mono (by first | (simp; done) | (simp; omega) | omega))
            replace hbel := hbel.trans (hst.mono hsz)
            replace hsz := hbel.size
            replace H0 := hid (H0.out.below hst hst.size)
            replace H1 := hid (H1.out.below hst hst.size)
            replace Ho := hid (Ho.out.below hst hst.size)
            replace HG := hid (HG.out.below hst hst.size)
            replace HQ := hid (HQ.out.below hst hst.size)
            clear hb hst
            obtain ⟨W0, rfl⟩ : ∃ W0 : World, W0 = W1 := ⟨_, rfl⟩
            clear HQ
            clear HG
            go_wp2_with (fail)
            refine (checkRow_any (k : Int) (t : Int) A0 n c0 l _ (H0.out.below (by repeat' (first | with_reducible assumption | with_reducible exact Below.refl _ _ | refine Below.alloc ?_ ?_ _ | refine Below.setCell ?_ ?_ _ | refine Below.drew ?_ | refine below_drewN ?_ _ | (simp; done) | (simp; omega) | omega)) (by first | (simp; done) | (simp; omega) | omega)) (by omega) hc0).mono ?_
            rw [He.out]
            rintro e W1 ⟨rfl, hb⟩
            have hst : Below W0.heap.size W0 W1 := Below.trans (by repeat' (first | with_reducible assumption | with_reducible exact Below.refl _ _ | refine Below.alloc ?_ ?_ _ | refine Below.setCell ?_ ?_ _ | refine Below.drew ?_ | refine below_drewN ?_ _ | (simp; done) | (simp; omega) | omega)) (hb.mono (by first | (simp; done) | (simp; omega) | omega))
            replace hbel := hbel.trans (hst.mono hsz)
            replace hsz := hbel.size
            replace H0 := hid (H0.out.below hst hst.size)
            replace H1 := hid (H1.out.below hst hst.size)
            replace Ho := hid (Ho.out.below hst hst.size)
            clear hb hst
            obtain ⟨W0, rfl⟩ : ∃ W0 : World, W0 = W1 := ⟨_, rfl⟩
            go_wp2_with (fail)
            refine (works_any _).mono ?_
            rintro e W1 ⟨rfl, hb⟩
            have hst : Below W0.heap.size W0 W1 := Below.trans (by repeat' (first | with_reducible assumption | with_reducible exact Below.refl _ _ | refine Below.alloc ?_ ?_ _ | refine Below.setCell ?_ ?_ _ | refine Below.drew ?_ | refine below_drewN ?_ _ | (simp; done) | (simp; omega) | omega)) (hb.mono (by first | (simp; done) | (simp; omega) | omega))
            replace hbel := hbel.trans (hst.mono hsz)
            replace hsz := hbel.size
            replace H0 := hid (H0.out.below hst hst.size)
            replace H1 := hid (H1.out.below hst hst.size)
            replace Ho := hid (Ho.out.below hst hst.size)
            clear hb hst
            obtain ⟨W0, rfl⟩ : ∃ W0 : World, W0 = W1 := ⟨_, rfl⟩
            go_wp2
            go_ret
            exact ⟨rfl, hbel⟩
        · have hLNi : ¬ (t : Int) ≤ N := by omega
          clear hLN Hhas
          by_cases he0 : e = 0
          · have te0 : (e != 0) = false := by rw [he0]; rfl
            obtain ⟨hb0, hn1'⟩ := Hbl.out he0
            have Hb0 := hid hb0
            clear he0 hb0
            go_enter Try.func13, Try.ntmps13
            obtain ⟨W0, rfl⟩ : ∃ W0 : World, W0 = w := ⟨_, rfl⟩
            skip
            skip
            have hbel : Below W0.heap.size W0 W0 := Below.refl _ _
            have hsz := hbel.size
            go_wp2_with (fail)
            refine (HKc _).mono ?_
            rintro e W1 ⟨rfl, rfl⟩
            go_wp2_with (fail)
            refine (great_any A0 n c0 _).mono ?_
            rw [Hg.out]
            rintro e W1 ⟨rfl, hb⟩
            have hst : Below W0.heap.size W0 W1 := Below.trans (by repeat' (first | with_reducible assumption | with_reducible exact Below.refl _ _ | refine Below.alloc ?_ ?_ _ | refine Below.setCell ?_ ?_ _ | refine Below.drew ?_ | refine below_drewN ?_ _ | (simp; done) | (simp; omega) | omega)) (hb.mono (by first | (simp; done) | (simp; omega) | omega))
            replace hbel := hbel.trans (hst.mono hsz)
            replace hsz := hbel.size
            replace H0 := hid (H0.out.below hst hst.size)
            replace H1 := hid (H1.out.below hst hst.size)
            clear hb hst
            obtain ⟨W0, rfl⟩ : ∃ W0 : World, W0 = W1 := ⟨_, rfl⟩
            go_wp2_with (fail)
            refine (row_any (k : Int) (t : Int) _).mono ?_
            rw [heE.out, heV.out, Hol.out]
            rintro e W1 ⟨Ao, co, rfl, hr, hb⟩
            have hr1 := hr.1
            have hco := hr.2.1
            clear hr
            have hst : Below W0.heap.size W0 W1 := Below.trans (by repeat' (first | with_reducible assumption | with_reducible exact Below.refl _ _ | refine Below.alloc ?_ ?_ _ | refine Below.setCell ?_ ?_ _ | refine Below.drew ?_ | refine below_drewN ?_ _ | (simp; done) | (simp; omega) | omega)) (hb.mono (by first | (simp; done) | (simp; omega) | omega))
            replace hbel := hbel.trans (hst.mono hsz)
            replace hsz := hbel.size
            replace H0 := hid (H0.out.below hst hst.size)
            replace H1 := hid (H1.out.below hst hst.size)
            have Ho := hid hr1
            clear hr1
            clear hb hst
            obtain ⟨W0, rfl⟩ : ∃ W0 : World, W0 = W1 := ⟨_, rfl⟩
            go_wp2_with (fail)
            refine (refPower_any (k : Int) t _ (by omega) (by omega) (by omega)).mono ?_
            rw [hpw.out]
            rintro e W1 ⟨rfl, hb⟩
            have hst : Below W0.heap.size W0 W1 := Below.trans (by repeat' (first | with_reducible assumption | with_reducible exact Below.refl _ _ | refine Below.alloc ?_ ?_ _ | refine Below.setCell ?_ ?_ _ | refine Below.drew ?_ | refine below_drewN ?_ _ | (simp; done) | (simp; omega) | omega)) (hb.mono (by first | (simp; done) | (simp; omega) | omega))
            replace hbel := hbel.trans (hst.mono hsz)
            replace hsz := hbel.size
            replace H0 := hid (H0.out.below hst hst.size)
            replace H1 := hid (H1.out.below hst hst.size)
            replace Ho := hid (Ho.out.below hst hst.size)
            clear hb hst
            obtain ⟨W0, rfl⟩ : ∃ W0 : World, W0 = W1 := ⟨_, rfl⟩
            go_wp2_with (fail)
            refine (great_any Ao N co _).mono ?_
            rw [HgN.out]
            rintro e W1 ⟨rfl, hb⟩
            have hst : Below W0.heap.size W0 W1 := Below.trans (by repeat' (first | with_reducible assumption | with_reducible exact Below.refl _ _ | refine Below.alloc ?_ ?_ _ | refine Below.setCell ?_ ?_ _ | refine Below.drew ?_ | refine below_drewN ?_ _ | (simp; done) | (simp; omega) | omega)) (hb.mono (by first | (simp; done) | (simp; omega) | omega))
            replace hbel := hbel.trans (hst.mono hsz)
            replace hsz := hbel.size
            replace H0 := hid (H0.out.below hst hst.size)
            replace H1 := hid (H1.out.below hst hst.size)
            replace Ho := hid (Ho.out.below hst hst.size)
            clear hb hst
            obtain ⟨W0, rfl⟩ : ∃ W0 : World, W0 = W1 := ⟨_, rfl⟩
            go_wp2_with (fail)
            refine (checkRow_any (k : Int) (t : Int) Ao N co o _ (Ho.out.below (by repeat' (first | with_reducible assumption | with_reducible exact Below.refl _ _ | refine Below.alloc ?_ ?_ _ | refine Below.setCell ?_ ?_ _ | refine Below.drew ?_ | refine below_drewN ?_ _ | (simp; done) | (simp; omega) | omega)) (by first | (simp; done) | (simp; omega) | omega)) (by omega) hco).mono ?_
            rw [Hrow.out]
            rintro e W1 ⟨rfl, hb⟩
            have hst : Below W0.heap.size W0 W1 := Below.trans (by repeat' (first | with_reducible assumption | with_reducible exact Below.refl _ _ | refine Below.alloc ?_ ?_ _ | refine Below.setCell ?_ ?_ _ | refine Below.drew ?_ | refine below_drewN ?_ _ | (simp; done) | (simp; omega) | omega)) (hb.mono (by first | (simp; done) | (simp; omega) | omega))
            replace hbel := hbel.trans (hst.mono hsz)
            replace hsz := hbel.size
            replace H0 := hid (H0.out.below hst hst.size)
            replace H1 := hid (H1.out.below hst hst.size)
            replace Ho := hid (Ho.out.below hst hst.size)
            clear hb hst
            obtain ⟨W0, rfl⟩ : ∃ W0 : World, W0 = W1 := ⟨_, rfl⟩
            go_wp2_with (fail)
            refine (refCheckRow_any (k : Int) (t : Int) Ao N co o _ (Ho.out.below (by repeat' (first | with_reducible assumption | with_reducible exact Below.refl _ _ | refine Below.alloc ?_ ?_ _ | refine Below.setCell ?_ ?_ _ | refine Below.drew ?_ | refine below_drewN ?_ _ | (simp; done) | (simp; omega) | omega)) (by first | (simp; done) | (simp; omega) | omega)) (by omega)).mono ?_
            rw [Hrow.out]
            rintro e W1 ⟨rfl, hb⟩
            have hst : Below W0.heap.size W0 W1 := Below.trans (by repeat' (first | with_reducible assumption | with_reducible exact Below.refl _ _ | refine Below.alloc ?_ ?_ _ | refine Below.setCell ?_ ?_ _ | refine Below.drew ?_ | refine below_drewN ?_ _ | (simp; done) | (simp; omega) | omega)) (hb.mono (by first | (simp; done) | (simp; omega) | omega))
            replace hbel := hbel.trans (hst.mono hsz)
            replace hsz := hbel.size
            replace H0 := hid (H0.out.below hst hst.size)
            replace H1 := hid (H1.out.below hst hst.size)
            replace Ho := hid (Ho.out.below hst hst.size)
            clear hb hst
            obtain ⟨W0, rfl⟩ : ∃ W0 : World, W0 = W1 := ⟨_, rfl⟩
            go_wp2_with (fail)
            refine (turn_any (k : Int) Ao N co o (u : Int) _ (Ho.out.below (by repeat' (first | with_reducible assumption | with_reducible exact Below.refl _ _ | refine Below.alloc ?_ ?_ _ | refine Below.setCell ?_ ?_ _ | refine Below.drew ?_ | refine below_drewN ?_ _ | (simp; done) | (simp; omega) | omega)) (by first | (simp; done) | (simp; omega) | omega)) (by omega) hco).mono ?_
            rw [htE.out, htV.out]
            rintro e W1 ⟨Bt, mt, ct, rfl, hr, hb⟩
            have hr0 := hr.1.len
            obtain rfl : N = mt := by rw [← hr0, htl.out]
            have hr1 := hr.1
            have hct := hr.2.1
            clear hr hr0
            have hst : Below W0.heap.size W0 W1 := Below.trans (by repeat' (first | with_reducible assumption | with_reducible exact Below.refl _ _ | refine Below.alloc ?_ ?_ _ | refine Below.setCell ?_ ?_ _ | refine Below.drew ?_ | refine below_drewN ?_ _ | (simp; done) | (simp; omega) | omega)) (hb.mono (by first | (simp; done) | (simp; omega) | omega))
            replace hbel := hbel.trans (hst.mono hsz)
            replace hsz := hbel.size
            replace H0 := hid (H0.out.below hst hst.size)
            replace H1 := hid (H1.out.below hst hst.size)
            replace Ho := hid (Ho.out.below hst hst.size)
            have Ht := hid hr1
            clear hr1
            clear hb hst
            obtain ⟨W0, rfl⟩ : ∃ W0 : World, W0 = W1 := ⟨_, rfl⟩
            go_wp2_with (fail)
            refine (great_any Bt N ct _).mono ?_
            rw [HgN.out]
            rintro e W1 ⟨rfl, hb⟩
            have hst : Below W0.heap.size W0 W1 := Below.trans (by repeat' (first | with_reducible assumption | with_reducible exact Below.refl _ _ | refine Below.alloc ?_ ?_ _ | refine Below.setCell ?_ ?_ _ | refine Below.drew ?_ | refine below_drewN ?_ _ | (simp; done) | (simp; omega) | omega)) (hb.mono (by first | (simp; done) | (simp; omega) | omega))
            replace hbel := hbel.trans (hst.mono hsz)
            replace hsz := hbel.size
            replace H0 := hid (H0.out.below hst hst.size)
            replace H1 := hid (H1.out.below hst hst.size)
            replace Ho := hid (Ho.out.below hst hst.size)
            replace Ht := hid (Ht.out.below hst hst.size)
            clear hb hst
            obtain ⟨W0, rfl⟩ : ∃ W0 : World, W0 = W1 := ⟨_, rfl⟩
            go_wp2_with (fail)
            refine (checkRow_any (k : Int) (t : Int) Bt N ct (rot o u) _ (Ht.out.below (by repeat' (first | with_reducible assumption | with_reducible exact Below.refl _ _ | refine Below.alloc ?_ ?_ _ | refine Below.setCell ?_ ?_ _ | refine Below.drew ?_ | refine below_drewN ?_ _ | (simp; done) | (simp; omega) | omega)) (by first | (simp; done) | (simp; omega) | omega)) (by omega) hct).mono ?_
            rw [Htr.out]
            rintro e W1 ⟨rfl, hb⟩
            have hst : Below W0.heap.size W0 W1 := Below.trans (by repeat' (first | with_reducible assumption | with_reducible exact Below.refl _ _ | refine Below.alloc ?_ ?_ _ | refine Below.setCell ?_ ?_ _ | refine Below.drew ?_ | refine below_drewN ?_ _ | (simp; done) | (simp; omega) | omega)) (hb.mono (by first | (simp; done) | (simp; omega) | omega))
            replace hbel := hbel.trans (hst.mono hsz)
            replace hsz := hbel.size
            replace H0 := hid (H0.out.below hst hst.size)
            replace H1 := hid (H1.out.below hst hst.size)
            replace Ho := hid (Ho.out.below hst hst.size)
            replace Ht := hid (Ht.out.below hst hst.size)
            clear hb hst
            obtain ⟨W0, rfl⟩ : ∃ W0 : World, W0 = W1 := ⟨_, rfl⟩
            clear Ht
            go_wp2_with (fail)
            refine (checkRow_any (k : Int) (t : Int) A0 n c0 l _ (H0.out.below (by repeat' (first | with_reducible assumption | with_reducible exact Below.refl _ _ | refine Below.alloc ?_ ?_ _ | refine Below.setCell ?_ ?_ _ | refine Below.drew ?_ | refine below_drewN ?_ _ | (simp; done) | (simp; omega) | omega)) (by first | (simp; done) | (simp; omega) | omega)) (by omega) hc0).mono ?_
            rw [He.out]
            rintro e W1 ⟨rfl, hb⟩
            have hst : Below W0.heap.size W0 W1 := Below.trans (by repeat' (first | with_reducible assumption | with_reducible exact Below.refl _ _ | refine Below.alloc ?_ ?_ _ | refine Below.setCell ?_ ?_ _ | refine Below.drew ?_ | refine below_drewN ?_ _ | (simp; done) | (simp; omega) | omega)) (hb.mono (by first | (simp; done) | (simp; omega) | omega))
            replace hbel := hbel.trans (hst.mono hsz)
            replace hsz := hbel.size
            replace H0 := hid (H0.out.below hst hst.size)
            replace H1 := hid (H1.out.below hst hst.size)
            replace Ho := hid (Ho.out.below hst hst.size)
            clear hb hst
            obtain ⟨W0, rfl⟩ : ∃ W0 : World, W0 = W1 := ⟨_, rfl⟩
            go_wp2_with (fail)
            refine (refCheckRow_any (k : Int) (t : Int) A0 n c0 l _ (H0.out.below (by repeat' (first | with_reducible assumption | with_reducible exact Below.refl _ _ | refine Below.alloc ?_ ?_ _ | refine Below.setCell ?_ ?_ _ | refine Below.drew ?_ | refine below_drewN ?_ _ | (simp; done) | (simp; omega) | omega)) (by first | (simp; done) | (simp; omega) | omega)) (by omega)).mono ?_
            rw [He.out]
            rintro e W1 ⟨rfl, hb⟩
            have hst : Below W0.heap.size W0 W1 := Below.trans (by repeat' (first | with_reducible assumption | with_reducible exact Below.refl _ _ | refine Below.alloc ?_ ?_ _ | refine Below.setCell ?_ ?_ _ | refine Below.drew ?_ | refine below_drewN ?_ _ | (simp; done) | (simp; omega) | omega)) (hb.mono (by first | (simp; done) | (simp; omega) | omega))
            replace hbel := hbel.trans (hst.mono hsz)
            replace hsz := hbel.size
            replace H0 := hid (H0.out.below hst hst.size)
            replace H1 := hid (H1.out.below hst hst.size)
            replace Ho := hid (Ho.out.below hst hst.size)
            clear hb hst
            obtain ⟨W0, rfl⟩ : ∃ W0 : World, W0 = W1 := ⟨_, rfl⟩
            go_wp2_with (fail)
            refine (leastOf_any A0 n c0 l _ (H0.out.below (by repeat' (first | with_reducible assumption | with_reducible exact Below.refl _ _ | refine Below.alloc ?_ ?_ _ | refine Below.setCell ?_ ?_ _ | refine Below.drew ?_ | refine below_drewN ?_ _ | (simp; done) | (simp; omega) | omega)) (by first | (simp; done) | (simp; omega) | omega)) (by omega) hn1').mono ?_
            rintro e W1 ⟨A7, c7, rfl, hr7, hb⟩
            have hst : Below W0.heap.size W0 W1 := Below.trans (by repeat' (first | with_reducible assumption | with_reducible exact Below.refl _ _ | refine Below.alloc ?_ ?_ _ | refine Below.setCell ?_ ?_ _ | refine Below.drew ?_ | refine below_drewN ?_ _ | (simp; done) | (simp; omega) | omega)) (hb.mono (by first | (simp; done) | (simp; omega) | omega))
            replace hbel := hbel.trans (hst.mono hsz)
            replace hsz := hbel.size
            replace H0 := hid (H0.out.below hst hst.size)
            replace H1 := hid (H1.out.below hst hst.size)
            replace Ho := hid (Ho.out.below hst hst.size)
            have H7 := hid hr7
            clear hr7
            clear hb hst
            obtain ⟨W0, rfl⟩ : ∃ W0 : World, W0 = W1 := ⟨_, rfl⟩
            go_wp2_with (fail)
            refine (before_any _ A7 Ao n c7 N co (least l) o (H7.out.below (by repeat' (first | with_reducible assumption | with_reducible exact Below.refl _ _ | refine Below.alloc ?_ ?_ _ | refine Below.setCell ?_ ?_ _ | refine Below.drew ?_ | refine below_drewN ?_ _ | (simp; done) | (simp; omega) | omega)) (by first | (simp; done) | (simp; omega) | omega)) (Ho.out.below (by repeat' (first | with_reducible assumption | with_reducible exact Below.refl _ _ | refine Below.alloc ?_ ?_ _ | refine Below.setCell ?_ ?_ _ | refine Below.drew ?_ | refine below_drewN ?_ _ | (simp; done) | (simp; omega) | omega)) (by first | (simp; done) | (simp; omega) | omega)) (by omega) (by omega)).mono ?_
            rw [Hb0.out]
            rintro e W1 ⟨rfl, hb⟩
            have hst : Below W0.heap.size W0 W1 := Below.trans (by repeat' (first | with_reducible assumption | with_reducible exact Below.refl _ _ | refine Below.alloc ?_ ?_ _ | refine Below.setCell ?_ ?_ _ | refine Below.drew ?_ | refine below_drewN ?_ _ | (simp; done) | (simp; omega) | omega)) (hb.mono (by first | (simp; done) | (simp; omega) | omega))
            replace hbel := hbel.trans (hst.mono hsz)
            replace hsz := hbel.size
            replace H0 := hid (H0.out.below hst hst.size)
            replace H1 := hid (H1.out.below hst hst.size)
            replace Ho := hid (Ho.out.below hst hst.size)
            replace H7 := hid (H7.out.below hst hst.size)
            clear hb hst
            obtain ⟨W0, rfl⟩ : ∃ W0 : World, W0 = W1 := ⟨_, rfl⟩
            go_wp2_with (fail)
            refine (works_any _).mono ?_
            rintro e W1 ⟨rfl, hb⟩
            have hst : Below W0.heap.size W0 W1 := Below.trans (by repeat' (first | with_reducible assumption | with_reducible exact Below.refl _ _ | refine Below.alloc ?_ ?_ _ | refine Below.setCell ?_ ?_ _ | refine Below.drew ?_ | refine below_drewN ?_ _ | (simp; done) | (simp; omega) | omega)) (hb.mono (by first | (simp; done) | (simp; omega) | omega))
            replace hbel := hbel.trans (hst.mono hsz)
            replace hsz := hbel.size
            replace H0 := hid (H0.out.below hst hst.size)
            replace H1 := hid (H1.out.below hst hst.size)
            replace Ho := hid (Ho.out.below hst hst.size)
            replace H7 := hid (H7.out.below hst hst.size)
            clear hb hst
            obtain ⟨W0, rfl⟩ : ∃ W0 : World, W0 = W1 := ⟨_, rfl⟩
            go_wp2
            go_ret
            exact ⟨rfl, hbel⟩
          · have te0 : (e != 0) = true := by simp [he0]
            clear he0
            go_enter Try.func13, Try.ntmps13
            obtain ⟨W0, rfl⟩ : ∃ W0 : World, W0 = w := ⟨_, rfl⟩
            skip
            skip
            have hbel : Below W0.heap.size W0 W0 := Below.refl _ _
            have hsz := hbel.size
            go_wp2_with (fail)
            refine (HKc _).mono ?_
            rintro e W1 ⟨rfl, rfl⟩
            go_wp2_with (fail)
            refine (great_any A0 n c0 _).mono ?_
            rw [Hg.out]
            rintro e W1 ⟨rfl, hb⟩
            have hst : Below W0.heap.size W0 W1 := Below.trans (by repeat' (first | with_reducible assumption | with_reducible exact Below.refl _ _ | refine Below.alloc ?_ ?_ _ | refine Below.setCell ?_ ?_ _ | refine Below.drew ?_ | refine below_drewN ?_ _ | (simp; done) | (simp; omega) | omega)) (hb.mono (by first | (simp; done) | (simp; omega) | omega))
            replace hbel := hbel.trans (hst.mono hsz)
            replace hsz := hbel.size
            replace H0 := hid (H0.out.below hst hst.size)
            replace H1 := hid (H1.out.below hst hst.size)
            clear hb hst
            obtain ⟨W0, rfl⟩ : ∃ W0 : World, W0 = W1 := ⟨_, rfl⟩
            go_wp2_with (fail)
            refine (row_any (k : Int) (t : Int) _).mono ?_
            rw [heE.out, heV.out, Hol.out]
            rintro e W1 ⟨Ao, co, rfl, hr, hb⟩
            have hr1 := hr.1
            have hco := hr.2.1
            clear hr
            have hst : Below W0.heap.size W0 W1 := Below.trans (by repeat' (first | with_reducible assumption | with_reducible exact Below.refl _ _ | refine Below.alloc ?_ ?_ _ | refine Below.setCell ?_ ?_ _ | refine Below.drew ?_ | refine below_drewN ?_ _ | (simp; done) | (simp; omega) | omega)) (hb.mono (by first | (simp; done) | (simp; omega) | omega))
            replace hbel := hbel.trans (hst.mono hsz)
            replace hsz := hbel.size
            replace H0 := hid (H0.out.below hst hst.size)
            replace H1 := hid (H1.out.below hst hst.size)
            have Ho := hid hr1
            clear hr1
            clear hb hst
            obtain ⟨W0, rfl⟩ : ∃ W0 : World, W0 = W1 := ⟨_, rfl⟩
            go_wp2_with (fail)
            refine (refPower_any (k : Int) t _ (by omega) (by omega) (by omega)).mono ?_
            rw [hpw.out]
            rintro e W1 ⟨rfl, hb⟩
            have hst : Below W0.heap.size W0 W1 := Below.trans (by repeat' (first | with_reducible assumption | with_reducible exact Below.refl _ _ | refine Below.alloc ?_ ?_ _ | refine Below.setCell ?_ ?_ _ | refine Below.drew ?_ | refine below_drewN ?_ _ | (simp; done) | (simp; omega) | omega)) (hb.mono (by first | (simp; done) | (simp; omega) | omega))
            replace hbel := hbel.trans (hst.mono hsz)
            replace hsz := hbel.size
            replace H0 := hid (H0.out.below hst hst.size)
            replace H1 := hid (H1.out.below hst hst.size)
            replace Ho := hid (Ho.out.below hst hst.size)
            clear hb hst
            obtain ⟨W0, rfl⟩ : ∃ W0 : World, W0 = W1 := ⟨_, rfl⟩
            go_wp2_with (fail)
            refine (great_any Ao N co _).mono ?_
            rw [HgN.out]
            rintro e W1 ⟨rfl, hb⟩
            have hst : Below W0.heap.size W0 W1 := Below.trans (by repeat' (first | with_reducible assumption | with_reducible exact Below.refl _ _ | refine Below.alloc ?_ ?_ _ | refine Below.setCell ?_ ?_ _ | refine Below.drew ?_ | refine below_drewN ?_ _ | (simp; done) | (simp; omega) | omega)) (hb.mono (by first | (simp; done) | (simp; omega) | omega))
            replace hbel := hbel.trans (hst.mono hsz)
            replace hsz := hbel.size
            replace H0 := hid (H0.out.below hst hst.size)
            replace H1 := hid (H1.out.below hst hst.size)
            replace Ho := hid (Ho.out.below hst hst.size)
            clear hb hst
            obtain ⟨W0, rfl⟩ : ∃ W0 : World, W0 = W1 := ⟨_, rfl⟩
            go_wp2_with (fail)
            refine (checkRow_any (k : Int) (t : Int) Ao N co o _ (Ho.out.below (by repeat' (first | with_reducible assumption | with_reducible exact Below.refl _ _ | refine Below.alloc ?_ ?_ _ | refine Below.setCell ?_ ?_ _ | refine Below.drew ?_ | refine below_drewN ?_ _ | (simp; done) | (simp; omega) | omega)) (by first | (simp; done) | (simp; omega) | omega)) (by omega) hco).mono ?_
            rw [Hrow.out]
            rintro e W1 ⟨rfl, hb⟩
            have hst : Below W0.heap.size W0 W1 := Below.trans (by repeat' (first | with_reducible assumption | with_reducible exact Below.refl _ _ | refine Below.alloc ?_ ?_ _ | refine Below.setCell ?_ ?_ _ | refine Below.drew ?_ | refine below_drewN ?_ _ | (simp; done) | (simp; omega) | omega)) (hb.mono (by first | (simp; done) | (simp; omega) | omega))
            replace hbel := hbel.trans (hst.mono hsz)
            replace hsz := hbel.size
            replace H0 := hid (H0.out.below hst hst.size)
            replace H1 := hid (H1.out.below hst hst.size)
            replace Ho := hid (Ho.out.below hst hst.size)
            clear hb hst
            obtain ⟨W0, rfl⟩ : ∃ W0 : World, W0 = W1 := ⟨_, rfl⟩
            go_wp2_with (fail)
            refine (refCheckRow_any (k : Int) (t : Int) Ao N co o _ (Ho.out.below (by repeat' (first | with_reducible assumption | with_reducible exact Below.refl _ _ | refine Below.alloc ?_ ?_ _ | refine Below.setCell ?_ ?_ _ | refine Below.drew ?_ | refine below_drewN ?_ _ | (simp; done) | (simp; omega) | omega)) (by first | (simp; done) | (simp; omega) | omega)) (by omega)).mono ?_
            rw [Hrow.out]
            rintro e W1 ⟨rfl, hb⟩
            have hst : Below W0.heap.size W0 W1 := Below.trans (by repeat' (first | with_reducible assumption | with_reducible exact Below.refl _ _ | refine Below.alloc ?_ ?_ _ | refine Below.setCell ?_ ?_ _ | refine Below.drew ?_ | refine below_drewN ?_ _ | (simp; done) | (simp; omega) | omega)) (hb.mono (by first | (simp; done) | (simp; omega) | omega))
            replace hbel := hbel.trans (hst.mono hsz)
            replace hsz := hbel.size
            replace H0 := hid (H0.out.below hst hst.size)
            replace H1 := hid (H1.out.below hst hst.size)
            replace Ho := hid (Ho.out.below hst hst.size)
            clear hb hst
            obtain ⟨W0, rfl⟩ : ∃ W0 : World, W0 = W1 := ⟨_, rfl⟩
            go_wp2_with (fail)
            refine (turn_any (k : Int) Ao N co o (u : Int) _ (Ho.out.below (by repeat' (first | with_reducible assumption | with_reducible exact Below.refl _ _ | refine Below.alloc ?_ ?_ _ | refine Below.setCell ?_ ?_ _ | refine Below.drew ?_ | refine below_drewN ?_ _ | (simp; done) | (simp; omega) | omega)) (by first | (simp; done) | (simp; omega) | omega)) (by omega) hco).mono ?_
            rw [htE.out, htV.out]
            rintro e W1 ⟨Bt, mt, ct, rfl, hr, hb⟩
            have hr0 := hr.1.len
            obtain rfl : N = mt := by rw [← hr0, htl.out]
            have hr1 := hr.1
            have hct := hr.2.1
            clear hr hr0
            have hst : Below W0.heap.size W0 W1 := Below.trans (by repeat' (first | with_reducible assumption | with_reducible exact Below.refl _ _ | refine Below.alloc ?_ ?_ _ | refine Below.setCell ?_ ?_ _ | refine Below.drew ?_ | refine below_drewN ?_ _ | (simp; done) | (simp; omega) | omega)) (hb.mono (by first | (simp; done) | (simp; omega) | omega))
            replace hbel := hbel.trans (hst.mono hsz)
            replace hsz := hbel.size
            replace H0 := hid (H0.out.below hst hst.size)
            replace H1 := hid (H1.out.below hst hst.size)
            replace Ho := hid (Ho.out.below hst hst.size)
            have Ht := hid hr1
            clear hr1
            clear hb hst
            obtain ⟨W0, rfl⟩ : ∃ W0 : World, W0 = W1 := ⟨_, rfl⟩
            go_wp2_with (fail)
            refine (great_any Bt N ct _).mono ?_
            rw [HgN.out]
            rintro e W1 ⟨rfl, hb⟩
            have hst : Below W0.heap.size W0 W1 := Below.trans (by repeat' (first | with_reducible assumption | with_reducible exact Below.refl _ _ | refine Below.alloc ?_ ?_ _ | refine Below.setCell ?_ ?_ _ | refine Below.drew ?_ | refine below_drewN ?_ _ | (simp; done) | (simp; omega) | omega)) (hb.mono (by first | (simp; done) | (simp; omega) | omega))
            replace hbel := hbel.trans (hst.mono hsz)
            replace hsz := hbel.size
            replace H0 := hid (H0.out.below hst hst.size)
            replace H1 := hid (H1.out.below hst hst.size)
            replace Ho := hid (Ho.out.below hst hst.size)
            replace Ht := hid (Ht.out.below hst hst.size)
            clear hb hst
            obtain ⟨W0, rfl⟩ : ∃ W0 : World, W0 = W1 := ⟨_, rfl⟩
            go_wp2_with (fail)
            refine (checkRow_any (k : Int) (t : Int) Bt N ct (rot o u) _ (Ht.out.below (by repeat' (first | with_reducible assumption | with_reducible exact Below.refl _ _ | refine Below.alloc ?_ ?_ _ | refine Below.setCell ?_ ?_ _ | refine Below.drew ?_ | refine below_drewN ?_ _ | (simp; done) | (simp; omega) | omega)) (by first | (simp; done) | (simp; omega) | omega)) (by omega) hct).mono ?_
            rw [Htr.out]
            rintro e W1 ⟨rfl, hb⟩
            have hst : Below W0.heap.size W0 W1 := Below.trans (by repeat' (first | with_reducible assumption | with_reducible exact Below.refl _ _ | refine Below.alloc ?_ ?_ _ | refine Below.setCell ?_ ?_ _ | refine Below.drew ?_ | refine below_drewN ?_ _ | (simp; done) | (simp; omega) | omega)) (hb.mono (by first | (simp; done) | (simp; omega) | omega))
            replace hbel := hbel.trans (hst.mono hsz)
            replace hsz := hbel.size
            replace H0 := hid (H0.out.below hst hst.size)
            replace H1 := hid (H1.out.below hst hst.size)
            replace Ho := hid (Ho.out.below hst hst.size)
            replace Ht := hid (Ht.out.below hst hst.size)
            clear hb hst
            obtain ⟨W0, rfl⟩ : ∃ W0 : World, W0 = W1 := ⟨_, rfl⟩
            clear Ht
            go_wp2_with (fail)
            refine (checkRow_any (k : Int) (t : Int) A0 n c0 l _ (H0.out.below (by repeat' (first | with_reducible assumption | with_reducible exact Below.refl _ _ | refine Below.alloc ?_ ?_ _ | refine Below.setCell ?_ ?_ _ | refine Below.drew ?_ | refine below_drewN ?_ _ | (simp; done) | (simp; omega) | omega)) (by first | (simp; done) | (simp; omega) | omega)) (by omega) hc0).mono ?_
            rw [He.out]
            rintro e W1 ⟨rfl, hb⟩
            have hst : Below W0.heap.size W0 W1 := Below.trans (by repeat' (first | with_reducible assumption | with_reducible exact Below.refl _ _ | refine Below.alloc ?_ ?_ _ | refine Below.setCell ?_ ?_ _ | refine Below.drew ?_ | refine below_drewN ?_ _ | (simp; done) | (simp; omega) | omega)) (hb.mono (by first | (simp; done) | (simp; omega) | omega))
            replace hbel := hbel.trans (hst.mono hsz)
            replace hsz := hbel.size
            replace H0 := hid (H0.out.below hst hst.size)
            replace H1 := hid (H1.out.below hst hst.size)
            replace Ho := hid (Ho.out.below hst hst.size)
            clear hb hst
            obtain ⟨W0, rfl⟩ : ∃ W0 : World, W0 = W1 := ⟨_, rfl⟩
            go_wp2_with (fail)
            refine (works_any _).mono ?_
            rintro e W1 ⟨rfl, hb⟩
            have hst : Below W0.heap.size W0 W1 := Below.trans (by repeat' (first | with_reducible assumption | with_reducible exact Below.refl _ _ | refine Below.alloc ?_ ?_ _ | refine Below.setCell ?_ ?_ _ | refine Below.drew ?_ | refine below_drewN ?_ _ | (simp; done) | (simp; omega) | omega)) (hb.mono (by first | (simp; done) | (simp; omega) | omega))
            replace hbel := hbel.trans (hst.mono hsz)
            replace hsz := hbel.size
            replace H0 := hid (H0.out.below hst hst.size)
            replace H1 := hid (H1.out.below hst hst.size)
            replace Ho := hid (Ho.out.below hst hst.size)
            clear hb hst
            obtain ⟨W0, rfl⟩ : ∃ W0 : World, W0 = W1 := ⟨_, rfl⟩
            go_wp2
            go_ret
            exact ⟨rfl, hbel⟩

section
open Go.ChangeShapes Go.WideShapes Go.ChangeAt Go.RowKit
set_option maxRecDepth 100000 in
theorem rimRow_lifted (os : Os) (started : os.Started) (H : Type) (enc : TypeId × Value → H) :
    ReturnsInHanded {} Try.checked os 13 .any (Rows.rimRowSpec.pre6 enc Try.prog Try.f13 Rows.rimRowRow.domain false) (Rows.rimRowSpec.post enc Try.prog Try.f13 false true false false) := by
  refine returnsInHanded_of_change (C := Try.checked) ownKx started (by kernel_rfl) Try.func13
    (ChangeSpec.witness6 (enc := enc) (C := Try.checked) false ⟨#[], #[.int .u8 0, .int .u8 0, .slice none 0 0, .int .u8 0, .slice none 0 0], []⟩ 8 (by kernel_rfl) (by kernel_rfl) (by kernel_rfl) (by kernel_rfl)) ?_
  intro W base args ds gs before hval0 hW hcnd _
  have hval : ∀ (j : Nat) t v, Try.f13.params[j]? = some t → args[j]? = some v → Value.okWide Try.prog W .any base t v := hval0
  have hW' := hW
  obtain ⟨p, q, hA0, hV, rfl, hfz, hnd⟩ := hW
  have hA : DataW.TrodAll enc Try.prog W 0 (fun _ => true) true Try.f13.params.toList args.toList ds p := hA0
  have hlt : ∀ x ∈ p, x.block < W.heap.size := fun x hx => hW'.lt x (List.mem_append_left _ hx)
  have hAll : ∀ W', Below W.heap.size W W' → DataW.TrodAll enc Try.prog W' 0 (fun b => decide (b < W.heap.size)) true Try.f13.params.toList args.toList ds p := fun W' hb => all_below laidOut hb (readable_of (by kernel_rfl)) hlt hA
  rw [Try.params13] at hA hval
  obtain ⟨v0, v1, v2, v3, v4, d0, d1, d2, d3, d4, p0, p1, p2, p3, p4, rfl, rfl, rfl, h0, h1, h2, h3, h4⟩ := trodAll_five hA
  obtain ⟨rfl, rfl⟩ := trodVars_none hV
  clear hA0 hval0
  obtain ⟨x0, rfl, rfl, rfl, wx0⟩ := open_int Try.underlying5 (hval 0 5 v0 rfl rfl) h0
  obtain ⟨x1, rfl, rfl, rfl, wx1⟩ := open_int Try.underlying5 (hval 1 5 v1 rfl rfl) h1
  obtain ⟨A2, n2, c2, rfl⟩ := okWide_slice Try.underlying22 (hval 2 22 v2 rfl rfl)
  obtain ⟨hc2, l2, hl2, hr2⟩ := open_ins Try.underlying22 Try.underlying3 (by kernel_rfl) h2
  obtain ⟨x3, rfl, rfl, rfl, wx3⟩ := open_int Try.underlying5 (hval 3 5 v3 rfl rfl) h3
  obtain ⟨A4, n4, c4, rfl⟩ := okWide_slice Try.underlying59 (hval 4 59 v4 rfl rfl)
  obtain ⟨hc4, l4, hl4, hr4, hu4⟩ := open_u8s h4
  obtain ⟨y0, rfl⟩ : ∃ y : Nat, x0 = y := ⟨x0.toNat, (Int.toNat_of_nonneg (wf_u8 wx0).1).symm⟩
  obtain ⟨y1, rfl⟩ : ∃ y : Nat, x1 = y := ⟨x1.toNat, (Int.toNat_of_nonneg (wf_u8 wx1).1).symm⟩
  obtain ⟨y3, rfl⟩ : ∃ y : Nat, x3 = y := ⟨x3.toNat, (Int.toNat_of_nonneg (wf_u8 wx3).1).symm⟩
  refine (rimRow_walk W y0 y1 A2 n2 c2 l2 y3 A4 n4 c4 l4 (by have := wf_u8 wx0; omega) (by have := wf_u8 wx1; omega) (by have := wf_u8 wx3; omega) hr2 hc2 hr4 hu4).mono fun e W' ⟨he, hb⟩ => ?_
  subst he
  exact ⟨_, rfl, ⟨_, _, _, [], _, [], hW', trodAll_cons_mk (shut_bool Try.underlying4 _) trodAll_mk0, hAll W' hb, rfl, hb.frame _, fun h => by cases h⟩⟩
/-- The law: whatever the input, it returns true, and the input reads as it did. -/
theorem rimRow_holds : Rows.RimRowSaid :=
  OpenClaim.holds_of_wide 13 Try.f13 rfl rfl rfl rfl rfl rfl rfl ⟨rfl, rfl, rfl, rfl, rfl⟩ rfl rfl rfl rfl rfl (by kernel_rfl) Try.func13 (by kernel_rfl)
    (of_decide_eq_true (by kernel_rfl)) (by unfold Func.isWrapper; first | (rw [if_pos (by decide +kernel)]; kernel_rfl) | (rw [if_neg (by decide +kernel)]; exact ⟨rfl, rfl⟩))
    (fun os started H enc _ => rimRow_lifted os started H enc)
end
end Go.Proofs.Ytiobmfggnacplaa

