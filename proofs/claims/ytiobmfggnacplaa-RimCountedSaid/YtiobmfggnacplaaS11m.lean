/- The statement RimCounted holds: whatever the arguments, the law returns true and leaves its arguments as they were. -/
import Derived.Test.YtiobmfggnacplaaMm
set_option linter.unusedSimpArgs false
set_option linter.unusedVariables false
namespace Go.Proofs.Ytiobmfggnacplaa
open Go.RowKit Go.Shelf
attribute [local go_sem] Oper.semAt_some
def sumR (K t : Nat) : Nat → Int
  | 0 => 0
  | d + 1 => if d ≠ 0 ∧ t % d = 0 then sumR K t d + d * so K d else sumR K t d
theorem sumR_facts : ∀ (K : Fin 5) (t : Fin 13), 1 ≤ K.1 → 1 ≤ t.1 → sumR K.1 t.1 (t.1 + 1) = (K.1 : Int) ^ t.1 ∧ (2 ≤ K.1 → 2 ≤ t.1 → cntT (K.1 - 1) t.1 (t.1 + 1) < cntT K.1 t.1 (t.1 + 1) ∧ cntT K.1 (t.1 - 1) (t.1 - 1 + 1) ≤ cntT K.1 t.1 (t.1 + 1)) ∧ ∀ d : Fin 14, 0 ≤ sumR K.1 t.1 d.1 ∧ sumR K.1 t.1 d.1 ≤ 300000000 ∧ 0 ≤ cntT K.1 t.1 d.1 ∧ cntT K.1 t.1 d.1 ≤ 300000000 := by decide +kernel
set_option maxRecDepth 100000 in
set_option maxHeartbeats 40000000 in
theorem rimCounted_walk (w : World) (x y : Nat) (hx : x < 256) (hy : y < 256) :
    Calls Try.prog 11 #[.int .u8 (x : Int), .int .u8 (y : Int)] w fun e w' => e = .returned (.bool true) ∧ Below w.heap.size w w' := by
  have HKc := fun w => kindsF_any x w hx
  obtain ⟨k, hk⟩ : ∃ k, 1 + x % 4 = k := ⟨_, rfl⟩
  rw [hk] at HKc
  have hk1 : 1 ≤ k := by omega
  have hk4 : k ≤ 4 := by omega
  obtain ⟨r, hr⟩ : ∃ r, y % 12 = r := ⟨_, rfl⟩
  have hr12 : r < 12 := by omega
  have hmod : (y : Int) % 12 = (r : Int) := by rw [← hr]; exact (Int.natCast_emod y 12).symm
  have htmod : Int.tmod (y : Int) 12 = (r : Int) := by rw [← hr]; exact (Int.ofNat_tmod y 12).symm
  have zy : IntKind.i64.wrap (y : Int) = (y : Int) := IntWalk.i64_in _ (by omega)
  obtain ⟨n, hn⟩ : ∃ n, 1 + r = n := ⟨_, rfl⟩
  have hn1 : 1 ≤ n := by omega
  have hn12 : n ≤ 12 := by omega
  have zr : (1 : Int) + (r : Int) = (n : Int) := by omega
  have zn : IntKind.i64.wrap (n : Int) = (n : Int) := IntWalk.i64_in _ (by omega)
  clear hk hr hn
  obtain ⟨f1, f2, f3⟩ := sumR_facts ⟨k, by omega⟩ ⟨n, by omega⟩ hk1 hn1
  simp only at f1 f2 f3
  have F3 := hid f3
  have hE : ∀ d : Nat, 1 ≤ d → d ≤ 12 → cntE k d = 0 := fun d h1 h2 => by unfold cntE; rw [if_neg (by omega), if_neg (by omega)]
  have hsE := hid hE
  have hsV : Hid (∀ d : Nat, 1 ≤ d → d ≤ 12 → singV k d = so k d) := hid (fun d h1 h2 => by unfold singV; rw [hE d h1 h2, if_pos rfl]; rfl)
  have hcV : Hid (countV k n = cntT k n (n + 1)) := hid (by unfold countV; rw [hE n hn1 hn12, if_pos rfl]; rfl)
  obtain ⟨c, hc⟩ : ∃ c, cntT k n (n + 1) = c := ⟨_, rfl⟩
  obtain ⟨p, hp⟩ : ∃ p, (k : Int) ^ n = p := ⟨_, rfl⟩
  have HPw := hid (fun v => refPower_any (k : Int) n v (by omega) (by omega) hn12)
  rw [hp] at HPw f1
  rw [hc] at hcV f2
  have HC := hid hc
  have HF1 := hid f1
  have hcE : Hid (cntE k n = 0) := hid (hE n hn1 hn12)
  clear hE hc hp f1 f3
  go_enter Try.func11, Try.ntmps11
  obtain ⟨W0, rfl⟩ : ∃ W0 : World, W0 = w := ⟨_, rfl⟩
  skip
  skip
  have hbel : Below W0.heap.size W0 W0 := Below.refl _ _
  have hsz := hbel.size
  go_wp2_with (fail)
  refine (HKc _).mono ?_
  rintro e W1 ⟨rfl, rfl⟩
  go_wp2_with (fail)
  go_loopw [7, 8, 9] (fun a b i wr => ∃ d : Nat, 1 ≤ d ∧ d ≤ n + 1 ∧ i = .int .i64 (d : Int) ∧ a = .int .i64 (sumR k n d) ∧ b = .int .i64 (cntT k n d) ∧ Below W0.heap.size W0 wr) (fun _ _ i _ => n + 1 - (intOf i).toNat)
  case atStart => exact ⟨1, by omega, by omega, rfl, by simp [sumR], by simp [cntT], Below.refl _ _⟩
  case round =>
    obtain ⟨d, hd1, hd2, rfl, rfl, rfl, hbw⟩ := hrel
    have hszw := hbw.size
    obtain ⟨g1, g2, g3, g4⟩ := F3.out ⟨d, by omega⟩
    simp only at g1 g2 g3 g4
    obtain ⟨s, hs⟩ : ∃ s, sumR k n d = s := ⟨_, rfl⟩
    obtain ⟨t, ht⟩ : ∃ t, cntT k n d = t := ⟨_, rfl⟩
    have HS := hid hs
    have HT := hid ht
    rw [hs] at g1 g2 ⊢
    rw [ht] at g3 g4 ⊢
    clear hs ht
    by_cases hlt : d ≤ n
    · have hlti : (d : Int) ≤ n := by omega
      obtain ⟨q, hq⟩ : ∃ q, n % d = q := ⟨_, rfl⟩
      have z1 : Int.tmod (n : Int) (d : Int) = (q : Int) := by rw [← hq]; exact (Int.ofNat_tmod n d).symm
      have z1' : (n : Int) % (d : Int) = (q : Int) := by rw [← hq]; exact (Int.natCast_emod n d).symm
      have hd0 : ¬ (d : Int) = 0 := by omega
      by_cases h0 : q = 0
      · obtain ⟨-, e2, e3, e4, -⟩ := so_facts ⟨k, by omega⟩ ⟨d, by omega⟩
        simp only at e2 e3 e4
        have hs2 : Hid (sumR k n (d + 1) = s + d * so k d) := hid (by rw [sumR, if_pos ⟨by omega, by rw [hq, h0]⟩, HS.out])
        have ht2 : Hid (cntT k n (d + 1) = t + so k d) := hid (by rw [cntT, if_pos ⟨by omega, by rw [hq, h0]⟩, HT.out])
        have HSV := hid (hsV.out d hd1 (by omega))
        have HSE := hid (hsE.out d hd1 (by omega))
        obtain ⟨v, hv⟩ : ∃ v, so k d = v := ⟨_, rfl⟩
        rw [hv] at e2 e3 e4 hs2 ht2 HSV
        obtain ⟨u, hu⟩ : ∃ u, (d : Int) * v = u := ⟨_, rfl⟩
        have hu0 : 0 ≤ u := by rw [← hu]; exact Int.mul_nonneg (by omega) e2
        rw [hu] at e4 hs2
        have zu : IntKind.i64.wrap u = u := IntWalk.i64_in _ (by omega)
        have zsu : IntKind.i64.wrap (s + u) = s + u := IntWalk.i64_in _ (by omega)
        have ztv : IntKind.i64.wrap (t + v) = t + v := IntWalk.i64_in _ (by omega)
        have tq : ((q : Int) != 0) = false := by rw [h0]; rfl
        have tv0 : ¬ v < 0 := by omega
        have tv1 : ¬ (20000000 : Int) < v := by omega
        clear hv hq h0
        go_wp2_with (go_at_call 38; refine (single_any (k : Int) (d : Int) _).mono ?_; rw [HSV.out, HSE.out]; rintro e W1 ⟨rfl, hb⟩)
        exact ⟨⟨d + 1, by omega, by omega, by go_num, by rw [hs2.out], by rw [ht2.out], hbw.trans (hb.mono hszw)⟩, by simp [intOf]; omega⟩
      · have hs2 : Hid (sumR k n (d + 1) = s) := hid (by rw [sumR, if_neg (by rintro ⟨-, h⟩; omega), HS.out])
        have ht2 : Hid (cntT k n (d + 1) = t) := hid (by rw [cntT, if_neg (by rintro ⟨-, h⟩; omega), HT.out])
        have tq : ((q : Int) != 0) = true := by simp; omega
        clear hq h0
        go_wp2
        exact ⟨⟨d + 1, by omega, by omega, by go_num, by rw [hs2.out], by rw [ht2.out], hbw⟩, by simp [intOf]; omega⟩
    · obtain rfl : d = n + 1 := by omega
      have hlti2 : ¬ ((n + 1 : Nat) : Int) ≤ n := by omega
      have hlti : ¬ ((n : Int) + 1) ≤ n := by omega
      have hsp : s = p := by rw [← HS.out, HF1.out]
      have htc : t = c := by rw [← HT.out, HC.out]
      subst hsp
      subst htc
      have hbel2 := hbel.trans (hbw.mono hsz)
      by_cases h1 : k = 1
      · have tk : ((k : Int) == 1) = true := by rw [h1]; rfl
        clear h1
        go_wp2_with (first | (go_at_call 36; refine (count_any (k : Int) (n : Int) _).mono ?_; rw [hcV.out, hcE.out]; rintro e W1 ⟨rfl, hb⟩; have hb1 := hbel2.trans (hb.mono hbel2.size)) | (go_at_call 52; refine (HPw.out _).mono ?_; rintro e W2 ⟨rfl, hb⟩; have hb2 := hb1.trans (hb.mono hb1.size)) | (go_at_call 18; refine (works_any _).mono ?_; rintro e W3 ⟨rfl, hb⟩; have hb3 := hb2.trans (hb.mono hb2.size)))
        go_ret
        exact ⟨rfl, hb3⟩
      · have tk : ((k : Int) == 1) = false := by simp; omega
        by_cases h2 : n = 1
        · have tn : ((n : Int) == 1) = true := by rw [h2]; rfl
          clear h1 h2
          go_wp2_with (first | (go_at_call 36; refine (count_any (k : Int) (n : Int) _).mono ?_; rw [hcV.out, hcE.out]; rintro e W1 ⟨rfl, hb⟩; have hb1 := hbel2.trans (hb.mono hbel2.size)) | (go_at_call 52; refine (HPw.out _).mono ?_; rintro e W2 ⟨rfl, hb⟩; have hb2 := hb1.trans (hb.mono hb1.size)) | (go_at_call 18; refine (works_any _).mono ?_; rintro e W3 ⟨rfl, hb⟩; have hb3 := hb2.trans (hb.mono hb2.size)))
          go_ret
          exact ⟨rfl, hb3⟩
        · have tn : ((n : Int) == 1) = false := by simp; omega
          obtain ⟨q1, q2⟩ := f2 (by omega) (by omega)
          have zk1 : IntKind.i64.wrap ((k : Int) - 1) = ((k - 1 : Nat) : Int) := by rw [show (k : Int) - 1 = ((k - 1 : Nat) : Int) by omega]; exact IntWalk.i64_in _ (by omega)
          have zn1 : IntKind.i64.wrap ((n : Int) - 1) = ((n - 1 : Nat) : Int) := by rw [show (n : Int) - 1 = ((n - 1 : Nat) : Int) by omega]; exact IntWalk.i64_in _ (by omega)
          obtain ⟨k', hk'⟩ : ∃ k', k - 1 = k' := ⟨_, rfl⟩
          obtain ⟨n', hn'⟩ : ∃ n', n - 1 = n' := ⟨_, rfl⟩
          have hE2 : Hid (cntE k' n = 0) := hid (by unfold cntE; rw [if_neg (by omega), if_neg (by omega)])
          have hE3 : Hid (cntE k n' = 0) := hid (by unfold cntE; rw [if_neg (by omega), if_neg (by omega)])
          have hV2 : Hid (countV k' n = cntT k' n (n + 1)) := hid (by unfold countV; rw [hE2.out, if_pos rfl]; rfl)
          have hV3 : Hid (countV k n' = cntT k n' (n' + 1)) := hid (by unfold countV; rw [hE3.out, if_pos rfl]; rfl)
          rw [hk'] at zk1 q1
          rw [hn'] at zn1 q2
          obtain ⟨c2, hc2⟩ : ∃ c2, cntT k' n (n + 1) = c2 := ⟨_, rfl⟩
          obtain ⟨c3, hc3⟩ : ∃ c3, cntT k n' (n' + 1) = c3 := ⟨_, rfl⟩
          rw [hc2] at hV2 q1
          rw [hc3] at hV3 q2
          clear h1 h2 hk' hn' hc2 hc3
          go_wp2_with (fail)
          refine (count_any (k : Int) (n : Int) _).mono ?_
          rw [hcV.out, hcE.out]
          rintro e W1 ⟨rfl, hb⟩
          have hb1 := hbel2.trans (hb.mono hbel2.size)
          go_wp2_with (fail)
          refine (HPw.out _).mono ?_
          rintro e W2 ⟨rfl, hb⟩
          have hb2 := hb1.trans (hb.mono hb1.size)
          go_wp2_with (fail)
          refine (count_any (k' : Int) (n : Int) _).mono ?_
          rw [hV2.out, hE2.out]
          rintro e W3 ⟨rfl, hb⟩
          have hb3 := hb2.trans (hb.mono hb2.size)
          go_wp2_with (fail)
          refine (count_any (k : Int) (n' : Int) _).mono ?_
          rw [hV3.out, hE3.out]
          rintro e W4 ⟨rfl, hb⟩
          have hb4 := hb3.trans (hb.mono hb3.size)
          go_wp2_with (fail)
          refine (works_any _).mono ?_
          rintro e W5 ⟨rfl, hb⟩
          have hb5 := hb4.trans (hb.mono hb4.size)
          go_wp2
          go_ret
          exact ⟨rfl, hb5⟩

section
open Go.ChangeShapes Go.WideShapes Go.ChangeAt Go.RowKit
set_option maxRecDepth 100000 in
theorem rimCounted_lifted (os : Os) (started : os.Started) (H : Type) (enc : TypeId × Value → H) :
    ReturnsInHanded {} Try.checked os 11 .any (Rows.rimCountedSpec.pre6 enc Try.prog Try.f11 Rows.rimCountedRow.domain false) (Rows.rimCountedSpec.post enc Try.prog Try.f11 false true false false) := by
  refine returnsInHanded_of_change (C := Try.checked) ownKx started (by kernel_rfl) Try.func11
    (ChangeSpec.witness6 (enc := enc) (C := Try.checked) false ⟨#[], #[.int .u8 0, .int .u8 0], []⟩ 8 (by kernel_rfl) (by kernel_rfl) (by kernel_rfl) (by kernel_rfl)) ?_
  intro W base args ds gs before hval0 hW hcnd _
  have hval : ∀ (j : Nat) t v, Try.f11.params[j]? = some t → args[j]? = some v → Value.okWide Try.prog W .any base t v := hval0
  have hW' := hW
  obtain ⟨p, q, hA0, hV, rfl, hfz, hnd⟩ := hW
  have hA : DataW.TrodAll enc Try.prog W 0 (fun _ => true) true Try.f11.params.toList args.toList ds p := hA0
  have hlt : ∀ x ∈ p, x.block < W.heap.size := fun x hx => hW'.lt x (List.mem_append_left _ hx)
  have hAll : ∀ W', Below W.heap.size W W' → DataW.TrodAll enc Try.prog W' 0 (fun b => decide (b < W.heap.size)) true Try.f11.params.toList args.toList ds p := fun W' hb => all_below laidOut hb (readable_of (by kernel_rfl)) hlt hA
  rw [Try.params11] at hA hval
  obtain ⟨v0, v1, d0, d1, p0, p1, rfl, rfl, rfl, h0, h1⟩ := trodAll_two hA
  obtain ⟨rfl, rfl⟩ := trodVars_none hV
  clear hA0 hval0
  obtain ⟨x0, rfl, rfl, rfl, wx0⟩ := open_int Try.underlying5 (hval 0 5 v0 rfl rfl) h0
  obtain ⟨x1, rfl, rfl, rfl, wx1⟩ := open_int Try.underlying5 (hval 1 5 v1 rfl rfl) h1
  obtain ⟨y0, rfl⟩ : ∃ y : Nat, x0 = y := ⟨x0.toNat, (Int.toNat_of_nonneg (wf_u8 wx0).1).symm⟩
  obtain ⟨y1, rfl⟩ : ∃ y : Nat, x1 = y := ⟨x1.toNat, (Int.toNat_of_nonneg (wf_u8 wx1).1).symm⟩
  refine (rimCounted_walk W y0 y1 (by have := wf_u8 wx0; omega) (by have := wf_u8 wx1; omega)).mono fun e W' ⟨he, hb⟩ => ?_
  subst he
  exact ⟨_, rfl, ⟨_, _, _, [], _, [], hW', trodAll_cons_mk (shut_bool Try.underlying4 _) trodAll_mk0, hAll W' hb, rfl, hb.frame _, fun h => by cases h⟩⟩
/-- The law: whatever the input, it returns true, and the input reads as it did. -/
theorem rimCounted_holds : Rows.RimCountedSaid :=
  OpenClaim.holds_of_wide 11 Try.f11 rfl rfl rfl rfl rfl rfl rfl ⟨rfl, rfl, rfl, rfl, rfl⟩ rfl rfl rfl rfl rfl (by kernel_rfl) Try.func11 (by kernel_rfl)
    (of_decide_eq_true (by kernel_rfl)) (by unfold Func.isWrapper; first | (rw [if_pos (by decide +kernel)]; kernel_rfl) | (rw [if_neg (by decide +kernel)]; exact ⟨rfl, rfl⟩))
    (fun os started H enc _ => rimCounted_lifted os started H enc)
end
end Go.Proofs.Ytiobmfggnacplaa

