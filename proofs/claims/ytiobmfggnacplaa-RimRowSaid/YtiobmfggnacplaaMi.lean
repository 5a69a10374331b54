/- Texts of the proof, laid together by program. -/
import Derived.Test.YtiobmfggnacplaaMh
import Derived.Test.YtiobmfggnacplaaMg
import Derived.Maps.OwnIn
import Derived.Maps.OwnSet
import Derived.Maps.OwnOps
import Derived.DeepKeys4
import Derived.Test.YtiobmfggnacplaaMa
import Derived.Test.YtiobmfggnacplaaMe
set_option linter.unusedSimpArgs false
set_option linter.unusedVariables false
/- Walks: the reference's CheckWords, walked. -/
namespace Go.Proofs.Ytiobmfggnacplaa
open Go.RowKit
attribute [local go_sem] Oper.semAt_some
set_option maxRecDepth 10000 in
set_option maxHeartbeats 4000000 in
theorem refCheckWords_any (K : Int) (A B : Option Addr) (n c m d : Nat) (l cs : List Int) (w : World) (hl : InS w w.heap.size A n l) (hcs : InS w w.heap.size B m cs) (hn : n ≤ 90) (hm : m ≤ 90) (hc : n ≤ c) :
    Calls Try.prog 35 #[.int .i64 K, .slice A n c, .slice B m d] w fun e w' => e = .returned (.int .i64 (cutE K l cs)) ∧ Below w.heap.size w w' := by
  have HL := hid hl
  have HC := hid hcs
  have Hll := hid hl.len
  have Hcl := hid hcs.len
  by_cases hbad : checkRim K l ≠ 0
  · obtain ⟨E, hE⟩ : ∃ E, checkRim K l = E := ⟨_, rfl⟩
    have HE := hid hE
    have he : Hid (cutE K l cs = E) := hid (by unfold cutE; rw [if_pos hbad, hE])
    rw [hE] at hbad
    have t1 : (E != 0) = true := by simpa using hbad
    clear hE hbad hl hcs
    go_enter Try.func35, Try.ntmps35
    go_wp2_with (go_at_call 26; refine (refCheckRim_any K A n c l _ HL.out (by omega)).mono ?_; rw [HE.out]; rintro e W1 ⟨rfl, rfl⟩)
    refine bodyPost_ret (v := .int .i64 E) (by first | (simp [results, Try.results35, go_sem]; done) | (simp [results, Try.results35, go_sem, *]; done) | (simp [results, Try.results35, go_sem, World.cell?_setCell_same', *]; done) | (simp [results, Try.results35, go_sem]; first | exact ⟨rfl, rfl⟩ | rfl)) rfl ⟨by rw [he.out], Below.refl _ _⟩
  · have hok : checkRim K l = 0 := by omega
    have HE := hid hok
    have h64 := (rim_good hok).2.1
    rw [Hll.out] at h64
    obtain ⟨b, off, hA, lb, -⟩ := hl.2 (by omega)
    subst hA
    clear hbad hok hl
    by_cases h0 : m = 0
    · subst h0
      have he : Hid (cutE K l cs = 3) := hid (by
        have : cs = [] := List.eq_nil_of_length_eq_zero Hcl.out
        unfold cutE; rw [if_neg (by have := HE.out; omega), if_pos (.inl (by rw [this]; decide))])
      go_enter Try.func35, Try.ntmps35
      go_wp2_with (go_at_call 26; refine (refCheckRim_any K _ n c l _ HL.out (by omega)).mono ?_; rw [HE.out]; rintro e W1 ⟨rfl, rfl⟩)
      refine bodyPost_ret (v := .int .i64 3) (by first | (simp [results, Try.results35, go_sem]; done) | (simp [results, Try.results35, go_sem, *]; done) | (simp [results, Try.results35, go_sem, World.cell?_setCell_same', *]; done) | (simp [results, Try.results35, go_sem]; first | exact ⟨rfl, rfl⟩ | rfl)) rfl ⟨by rw [he.out], Below.refl _ _⟩
    · obtain ⟨b2, off2, y0, rfl, lb2, hy0, d0⟩ := hcs.at_ (show 0 < m by omega)
      have hm0 : ¬ (m : Int) = 0 := by omega
      have hm0' : ((m : Int) == 0) = false := by simp; omega
      have hmp : (0 : Int) < m := by omega
      rw [Nat.add_zero] at d0
      by_cases hy : y0 = 0
      · subst hy
        have Hy0 := hid hy0
        clear hy0 hcs
        go_enter Try.func35, Try.ntmps35
        go_wp2_with (go_at_call 26; refine (refCheckRim_any K _ n c l _ HL.out (by omega)).mono ?_; rw [HE.out]; rintro e W1 ⟨rfl, rfl⟩)
        go_loopw [7] (fun i wr => ∃ k : Nat, 1 ≤ k ∧ k ≤ m ∧ i = .int .i64 (k : Int) ∧ Below w.heap.size w wr ∧ Hid (GoodC n k cs)) (fun i _ => m - (intOf i).toNat)
        case atStart => exact ⟨1, Nat.le_refl _, by omega, rfl, Below.refl _ _, hid (fun j x y h1 h2 => by omega)⟩
        case round =>
          obtain ⟨k, hk1, hkm, rfl, hbw, hgd⟩ := hrel
          have hszw := hbw.size
          by_cases hlt : k < m
          · have hlti : (k : Int) < m := by omega
            obtain ⟨k', rfl⟩ : ∃ k', k = k' + 1 := ⟨k - 1, by omega⟩
            obtain ⟨b3, off3, x, e3, -, hx, c1⟩ := (HC.out.below hbw hszw).at_ (show k' < m by omega)
            cases e3
            obtain ⟨b3, off3, y, e3, lb3, hy, c2⟩ := (HC.out.below hbw hszw).at_ hlt
            cases e3
            have lb4 : b2 < wr.heap.size := by omega
            have hk0 : (0 : Int) ≤ ((k' + 1 : Nat) : Int) := by omega
            have hk2 : (0 : Int) ≤ (k' : Int) := by omega
            have hk5 : (0 : Int) ≤ (k' : Int) + 1 := by omega
            have hk6 : (k' : Int) + 1 < m := by omega
            have hk3 : (k' : Int) < m := by omega
            have zk : IntKind.i64.wrap (k' : Int) = (k' : Int) := IntWalk.i64_in _ (by omega)
            have Hx := hid hx
            have Hy := hid hy
            clear hx hy
            go_wp2
            by_cases hyx : y ≤ x
            · have he : Hid (cutE K l cs = 3) := hid (by
                unfold cutE; rw [if_neg (by have := HE.out; omega), if_pos (.inr (.inr (incB_no (i := k') Hx.out Hy.out hyx)))])
              refine wp_region_hd_all (fun W => Below wr.heap.size wr W) (by kernel_rfl) (by kernel_rfl) ((Below.refl _ _).drew) ?_
              iterate 11 (refine wpHd_val (v := ?_) (by rfl) (fun W hW => ?_) ?_; rotate_left; (· obtain ⟨hcW, hfW⟩ := bcell hW; go_simp; with_reducible rfl); simp only [Act.put, List.setIfInBounds_toArray, List.set_cons_zero, List.set_cons_succ])
              iterate 7 (refine wpHd_not (by rfl) ?_; simp only [Act.put, List.setIfInBounds_toArray, List.set_cons_zero, List.set_cons_succ])
              (refine wpHd_val (v := ?_) (by rfl) (fun W hW => ?_) ?_; rotate_left; (· obtain ⟨hcW, hfW⟩ := bcell hW; go_simp; with_reducible rfl); simp only [Act.put, List.setIfInBounds_toArray, List.set_cons_zero, List.set_cons_succ])
              refine wpHd_nil ?_
              intro W9 hW9
              go_wp2
              refine bodyPost_ret (v := .int .i64 3) (by first | (simp [results, Try.results35, go_sem]; done) | (simp [results, Try.results35, go_sem, *]; done) | (simp [results, Try.results35, go_sem, World.cell?_setCell_same', *]; done) | (simp [results, Try.results35, go_sem]; first | exact ⟨rfl, rfl⟩ | rfl)) rfl ⟨by rw [he.out], hbw.trans (hW9.mono hszw)⟩
            · have hyx2 : x < y := by omega
              by_cases hyn : (n : Int) ≤ y
              · have he : Hid (cutE K l cs = 3) := hid (by
                  unfold cutE; rw [if_neg (by have := HE.out; omega), if_pos (.inr (.inl (List.all_eq_false.2 ⟨y, List.mem_of_getElem? Hy.out, by rw [Hll.out]; simp [inR]; omega⟩)))])
                refine wp_region_hd_all (fun W => Below wr.heap.size wr W) (by kernel_rfl) (by kernel_rfl) ((Below.refl _ _).drew) ?_
                iterate 19 (refine wpHd_val (v := ?_) (by rfl) (fun W hW => ?_) ?_; rotate_left; (· obtain ⟨hcW, hfW⟩ := bcell hW; go_simp; with_reducible rfl); simp only [Act.put, List.setIfInBounds_toArray, List.set_cons_zero, List.set_cons_succ])
                refine wpHd_nil ?_
                intro W9 hW9
                go_wp2
                refine bodyPost_ret (v := .int .i64 3) (by first | (simp [results, Try.results35, go_sem]; done) | (simp [results, Try.results35, go_sem, *]; done) | (simp [results, Try.results35, go_sem, World.cell?_setCell_same', *]; done) | (simp [results, Try.results35, go_sem]; first | exact ⟨rfl, rfl⟩ | rfl)) rfl ⟨by rw [he.out], hbw.trans (hW9.mono hszw)⟩
              · have hgd2 : Hid (GoodC n (k' + 1 + 1) cs) := hid (fun j u v h1 h2 hu hv => by
                  rcases Nat.lt_or_ge j (k' + 1) with h3 | h3
                  · exact hgd.out j u v h1 h3 hu hv
                  · obtain rfl : j = k' + 1 := by omega
                    rw [Hy.out] at hv
                    rw [Nat.add_sub_cancel, Hx.out] at hu
                    cases hu; cases hv
                    exact ⟨hyx2, by omega⟩)
                refine wp_region_hd_all (fun W => Below wr.heap.size wr W) (by kernel_rfl) (by kernel_rfl) ((Below.refl _ _).drew) ?_
                iterate 19 (refine wpHd_val (v := ?_) (by rfl) (fun W hW => ?_) ?_; rotate_left; (· obtain ⟨hcW, hfW⟩ := bcell hW; go_simp; with_reducible rfl); simp only [Act.put, List.setIfInBounds_toArray, List.set_cons_zero, List.set_cons_succ])
                refine wpHd_nil ?_
                intro W9 hW9
                go_wp2
                exact ⟨⟨k' + 1 + 1, by omega, by omega, by go_num, hbw.trans (hW9.mono hszw), hgd2⟩, by simp [intOf]; omega⟩
          · obtain rfl : k = m := by omega
            have hg2 : GoodC l.length cs.length cs := by rw [Hll.out, Hcl.out]; exact hgd.out
            obtain ⟨r, hr, hu⟩ := good_ups (by rw [Hll.out]; omega) Hy0.out hg2
            have hnn : ∀ x ∈ cs, 0 ≤ x := fun x hx => by obtain ⟨i, hi⟩ := List.getElem?_of_mem hx; exact good_nn Hy0.out hg2 i x hi
            have hE2 := cutE_good HE.out Hy0.out hg2 hr hu
            have hnat : natI (0 :: r) = cs := by rw [← hr]; exact natI_to hnn
            have hlr : (0 :: r).length = k := by rw [← hr, List.length_map, Hcl.out]
            rw [Hll.out] at hu
            obtain ⟨cn, hcn⟩ : ∃ cn, 0 :: r = cn := ⟨_, rfl⟩
            rw [hcn] at hE2 hu hnat hlr
            have HE2 := hid hE2
            have HU := hid hu
            have HNat := hid hnat
            have Hlr := hid hlr
            have hlti : ¬ (k : Int) < k := by omega
            clear hr hnn hg2 hE2 hu hnat hlr hcn hlt
            go_wp2_with (fail)
            refine (partsOf_any b off (some ⟨b2, off2, none⟩) n c k d l cn _ (HL.out.below hbw hszw) (by omega) (by rw [HNat.out]; exact HC.out.below hbw hszw) hn hm hc HU.out).mono ?_
            rintro e W2 ⟨v, rfl, hN, hb2⟩
            have hbw2 := hbw.trans (hb2.mono hszw)
            have hz2 := hbw2.size
            obtain ⟨A3, c3, rfl, hLi, -⟩ := hN.lis
            have hpl : (partsR l cn).length = k := by rw [partsR_len, Hlr.out]
            rw [hpl] at hLi ⊢
            have HLi := hid hLi
            have Hpl := hid hpl
            have hok := HE2.out
            have hwl : Hid (∀ x ∈ partsR l cn, x.length ≤ 90) := hid (fun x hx => by
              have h1 : x.length ≤ (partsR l cn).flatten.length := by
                have := List.sublist_flatten_of_mem hx
                exact this.length_le
              have h2 : (partsR l cn).flatten.length ≤ l.length := by
                obtain ⟨a, r', e⟩ : ∃ a r', cn = a :: r' := by
                  cases hc3 : cn with
                  | nil => have := Hlr.out; rw [hc3] at this; simp at this; omega
                  | cons a r' => exact ⟨a, r', rfl⟩
                have hu2 := HU.out
                rw [e] at hu2 ⊢
                rw [partsR_flat (by rw [Hll.out]; exact hu2), List.length_drop]; omega
              have := Hll.out
              omega)
            clear hN hLi hpl
            go_wp2
            go_loopw [9] (fun i wr => ∃ q : Nat, q ≤ k ∧ i = .int .i64 (q : Int) ∧ Below w.heap.size w wr ∧ Below W2.heap.size W2 wr ∧ Hid (∀ i x, i < q → (partsR l cn)[i]? = some x → isW x = true ∧ (0 < i → ∀ y, (partsR l cn)[i - 1]? = some y → bef y x = false))) (fun i _ => k - (intOf i).toNat)
            case atStart => exact ⟨0, by omega, rfl, hbw2, Below.refl _ _, hid (fun i x h => by omega)⟩
            case round =>
              obtain ⟨q, hqk, rfl, hbw3, hb3, hgo⟩ := hrel
              have hz3 := hb3.size
              have hzw3 := hbw3.size
              by_cases hlt : q < k
              · have hlti : (q : Int) < k := by omega
                obtain ⟨b3, o3, x, A5, m5, c5, e5, lb3, hx, d5, hin5⟩ := (HLi.out.below hb3 hz3).at_ hlt
                subst e5
                have hm5 : m5 ≤ 90 := by rw [← hin5.len]; exact hwl.out x (List.mem_of_getElem? hx)
                have HX := hid hx
                have HI5 := hid hin5
                have hq0 : (0 : Int) ≤ q := by omega
                clear hx hin5
                cases hw : isW x
                · have he : Hid (cutE K l cs = 14) := hid (HE2.out.2 (fun hcf => by
                    have := (cfl_idx.1 hcf q x HX.out).1
                    rw [hw] at this; cases this))
                  have Hw := hid hw
                  clear hw
                  go_wp2
                  refine wp_region_hd_all (fun W => Below wr.heap.size wr W) (by kernel_rfl) (by kernel_rfl) ((Below.refl _ _).drew) ?_
                  iterate 4 (refine wpHd_val (v := ?_) (by rfl) (fun W hW => ?_) ?_; rotate_left; (· obtain ⟨hcW, hfW⟩ := bcell hW; go_simp; with_reducible rfl); simp only [Act.put, List.setIfInBounds_toArray, List.set_cons_zero, List.set_cons_succ])
                  (refine wpHd_callB (by rfl) (fun W hW => isWord_any A5 m5 c5 x W (HI5.out.below hW hW.size) (by omega)) (fun W hW => ?_) ?_; (· obtain ⟨hcW, hfW⟩ := bcell hW; go_simp); simp only [Act.put, List.setIfInBounds_toArray, List.set_cons_zero, List.set_cons_succ])
                  rw [Hw.out]
                  iterate 2 (refine wpHd_val (v := ?_) (by rfl) (fun W hW => ?_) ?_; rotate_left; (· obtain ⟨hcW, hfW⟩ := bcell hW; go_simp; with_reducible rfl); simp only [Act.put, List.setIfInBounds_toArray, List.set_cons_zero, List.set_cons_succ])
                  iterate 14 (refine wpHd_not (by rfl) ?_; simp only [Act.put, List.setIfInBounds_toArray, List.set_cons_zero, List.set_cons_succ])
                  (refine wpHd_val (v := ?_) (by rfl) (fun W hW => ?_) ?_; rotate_left; (· obtain ⟨hcW, hfW⟩ := bcell hW; go_simp; with_reducible rfl); simp only [Act.put, List.setIfInBounds_toArray, List.set_cons_zero, List.set_cons_succ])
                  refine wpHd_nil ?_
                  intro W9 hW9
                  go_wp2
                  refine bodyPost_ret (v := .int .i64 14) (by first | (simp [results, Try.results35, go_sem]; done) | (simp [results, Try.results35, go_sem, *]; done) | (simp [results, Try.results35, go_sem, World.cell?_setCell_same', *]; done) | (simp [results, Try.results35, go_sem]; first | exact ⟨rfl, rfl⟩ | rfl)) rfl ⟨by rw [he.out], hbw3.trans (hW9.mono hzw3)⟩
                · have Hw := hid hw
                  clear hw
                  cases q with
                  | zero =>
                    rw [Nat.add_zero] at d5
                    have hgo2 : Hid (∀ i x, i < 0 + 1 → (partsR l cn)[i]? = some x → isW x = true ∧ (0 < i → ∀ y, (partsR l cn)[i - 1]? = some y → bef y x = false)) := hid (fun i u hi hu => by
                      obtain rfl : i = 0 := by omega
                      rw [HX.out] at hu; cases hu
                      exact ⟨Hw.out, fun h => by omega⟩)
                    go_wp2
                    refine wp_region_hd_all (fun W => Below wr.heap.size wr W) (by kernel_rfl) (by kernel_rfl) ((Below.refl _ _).drew) ?_
                    iterate 4 (refine wpHd_val (v := ?_) (by rfl) (fun W hW => ?_) ?_; rotate_left; (· obtain ⟨hcW, hfW⟩ := bcell hW; go_simp; with_reducible rfl); simp only [Act.put, List.setIfInBounds_toArray, List.set_cons_zero, List.set_cons_succ])
                    (refine wpHd_callB (by rfl) (fun W hW => isWord_any A5 m5 c5 x W (HI5.out.below hW hW.size) (by omega)) (fun W hW => ?_) ?_; (· obtain ⟨hcW, hfW⟩ := bcell hW; go_simp); simp only [Act.put, List.setIfInBounds_toArray, List.set_cons_zero, List.set_cons_succ])
                    rw [Hw.out]
                    iterate 5 (refine wpHd_val (v := ?_) (by rfl) (fun W hW => ?_) ?_; rotate_left; (· obtain ⟨hcW, hfW⟩ := bcell hW; go_simp; with_reducible rfl); simp only [Act.put, List.setIfInBounds_toArray, List.set_cons_zero, List.set_cons_succ])
                    iterate 10 (refine wpHd_not (by rfl) ?_; simp only [Act.put, List.setIfInBounds_toArray, List.set_cons_zero, List.set_cons_succ])
                    iterate 2 (refine wpHd_val (v := ?_) (by rfl) (fun W hW => ?_) ?_; rotate_left; (· obtain ⟨hcW, hfW⟩ := bcell hW; go_simp; with_reducible rfl); simp only [Act.put, List.setIfInBounds_toArray, List.set_cons_zero, List.set_cons_succ])
                    refine wpHd_nil ?_
                    intro W9 hW9
                    go_wp2
                    exact ⟨⟨0 + 1, by omega, by go_num, hbw3.trans (hW9.mono hzw3), hb3.trans (hW9.mono hz3), hgo2⟩, by simp [intOf]; omega⟩
                  | succ q =>
                    obtain ⟨b4, o4, y, A6, m6, c6, e6, lb4, hy, d6, hin6⟩ := (HLi.out.below hb3 hz3).at_ (show q < k by omega)
                    cases e6
                    have hm6 : m6 ≤ 90 := by rw [← hin6.len]; exact hwl.out y (List.mem_of_getElem? hy)
                    have HY := hid hy
                    have HI6 := hid hin6
                    have zq : IntKind.i64.wrap (q : Int) = (q : Int) := IntWalk.i64_in _ (by omega)
                    have hq2 : (0 : Int) < ((q + 1 : Nat) : Int) := by omega
                    have hq3 : (0 : Int) ≤ (q : Int) := by omega
                    have hq5 : (0 : Int) ≤ (q : Int) + 1 := by omega
                    have hq6 : (q : Int) + 1 < k := by omega
                    have hq7 : (0 : Int) < (q : Int) + 1 := by omega
                    have hq4 : (q : Int) < k := by omega
                    clear hy hin6
                    cases hbf : bef y x
                    · have hgo2 : Hid (∀ i x, i < q + 1 + 1 → (partsR l cn)[i]? = some x → isW x = true ∧ (0 < i → ∀ y, (partsR l cn)[i - 1]? = some y → bef y x = false)) := hid (fun i u hi hu => by
                        rcases Nat.lt_or_ge i (q + 1) with h5 | h5
                        · exact hgo.out i u h5 hu
                        · obtain rfl : i = q + 1 := by omega
                          rw [HX.out] at hu; cases hu
                          refine ⟨Hw.out, fun _ z hz => ?_⟩
                          rw [Nat.add_sub_cancel, HY.out] at hz
                          cases hz; exact hbf)
                      have Hbf := hid hbf
                      clear hbf
                      go_wp2
                      refine wp_region_hd_all (fun W => Below wr.heap.size wr W) (by kernel_rfl) (by kernel_rfl) ((Below.refl _ _).drew) ?_
                      iterate 4 (refine wpHd_val (v := ?_) (by rfl) (fun W hW => ?_) ?_; rotate_left; (· obtain ⟨hcW, hfW⟩ := bcell hW; go_simp; with_reducible rfl); simp only [Act.put, List.setIfInBounds_toArray, List.set_cons_zero, List.set_cons_succ])
                      (refine wpHd_callB (by rfl) (fun W hW => isWord_any A5 m5 c5 x W (HI5.out.below hW hW.size) (by omega)) (fun W hW => ?_) ?_; (· obtain ⟨hcW, hfW⟩ := bcell hW; go_simp); simp only [Act.put, List.setIfInBounds_toArray, List.set_cons_zero, List.set_cons_succ])
                      rw [Hw.out]
                      iterate 14 (refine wpHd_val (v := ?_) (by rfl) (fun W hW => ?_) ?_; rotate_left; (· obtain ⟨hcW, hfW⟩ := bcell hW; go_simp; with_reducible rfl); simp only [Act.put, List.setIfInBounds_toArray, List.set_cons_zero, List.set_cons_succ])
                      (refine wpHd_callB (by rfl) (fun W hW => before_any W A6 A5 m6 c6 m5 c5 y x (HI6.out.below hW hW.size) (HI5.out.below hW hW.size) (by omega) (by omega)) (fun W hW => ?_) ?_; (· obtain ⟨hcW, hfW⟩ := bcell hW; go_simp); simp only [Act.put, List.setIfInBounds_toArray, List.set_cons_zero, List.set_cons_succ])
                      rw [Hbf.out]
                      iterate 2 (refine wpHd_val (v := ?_) (by rfl) (fun W hW => ?_) ?_; rotate_left; (· obtain ⟨hcW, hfW⟩ := bcell hW; go_simp; with_reducible rfl); simp only [Act.put, List.setIfInBounds_toArray, List.set_cons_zero, List.set_cons_succ])
                      refine wpHd_nil ?_
                      intro W9 hW9
                      go_wp2
                      exact ⟨⟨q + 1 + 1, by omega, by go_num, hbw3.trans (hW9.mono hzw3), hb3.trans (hW9.mono hz3), hgo2⟩, by simp [intOf]; omega⟩
                    · have he : Hid (cutE K l cs = 14) := hid (HE2.out.2 (fun hcf => by
                        have := (cfl_idx.1 hcf (q + 1) x HX.out).2 (by omega) y (by rw [Nat.add_sub_cancel]; exact HY.out)
                        rw [hbf] at this; cases this))
                      have Hbf := hid hbf
                      clear hbf
                      go_wp2
                      refine wp_region_hd_all (fun W => Below wr.heap.size wr W) (by kernel_rfl) (by kernel_rfl) ((Below.refl _ _).drew) ?_
                      iterate 4 (refine wpHd_val (v := ?_) (by rfl) (fun W hW => ?_) ?_; rotate_left; (· obtain ⟨hcW, hfW⟩ := bcell hW; go_simp; with_reducible rfl); simp only [Act.put, List.setIfInBounds_toArray, List.set_cons_zero, List.set_cons_succ])
                      (refine wpHd_callB (by rfl) (fun W hW => isWord_any A5 m5 c5 x W (HI5.out.below hW hW.size) (by omega)) (fun W hW => ?_) ?_; (· obtain ⟨hcW, hfW⟩ := bcell hW; go_simp); simp only [Act.put, List.setIfInBounds_toArray, List.set_cons_zero, List.set_cons_succ])
                      rw [Hw.out]
                      iterate 14 (refine wpHd_val (v := ?_) (by rfl) (fun W hW => ?_) ?_; rotate_left; (· obtain ⟨hcW, hfW⟩ := bcell hW; go_simp; with_reducible rfl); simp only [Act.put, List.setIfInBounds_toArray, List.set_cons_zero, List.set_cons_succ])
                      (refine wpHd_callB (by rfl) (fun W hW => before_any W A6 A5 m6 c6 m5 c5 y x (HI6.out.below hW hW.size) (HI5.out.below hW hW.size) (by omega) (by omega)) (fun W hW => ?_) ?_; (· obtain ⟨hcW, hfW⟩ := bcell hW; go_simp); simp only [Act.put, List.setIfInBounds_toArray, List.set_cons_zero, List.set_cons_succ])
                      rw [Hbf.out]
                      iterate 2 (refine wpHd_val (v := ?_) (by rfl) (fun W hW => ?_) ?_; rotate_left; (· obtain ⟨hcW, hfW⟩ := bcell hW; go_simp; with_reducible rfl); simp only [Act.put, List.setIfInBounds_toArray, List.set_cons_zero, List.set_cons_succ])
                      refine wpHd_nil ?_
                      intro W9 hW9
                      go_wp2
                      refine bodyPost_ret (v := .int .i64 14) (by first | (simp [results, Try.results35, go_sem]; done) | (simp [results, Try.results35, go_sem, *]; done) | (simp [results, Try.results35, go_sem, World.cell?_setCell_same', *]; done) | (simp [results, Try.results35, go_sem]; first | exact ⟨rfl, rfl⟩ | rfl)) rfl ⟨by rw [he.out], hbw3.trans (hW9.mono hzw3)⟩
              · obtain rfl : q = k := by omega
                have he : Hid (cutE K l cs = 0) := hid (HE2.out.1 (cfl_idx.2 (fun i x hx => hgo.out i x (by have := (List.getElem?_eq_some_iff.1 hx).1; rw [Hpl.out] at this; exact this) hx)))
                have hlti : ¬ (q : Int) < q := by omega
                go_wp2
                refine bodyPost_ret (v := .int .i64 0) (by first | (simp [results, Try.results35, go_sem]; done) | (simp [results, Try.results35, go_sem, *]; done) | (simp [results, Try.results35, go_sem, World.cell?_setCell_same', *]; done) | (simp [results, Try.results35, go_sem]; first | exact ⟨rfl, rfl⟩ | rfl)) rfl ⟨by rw [he.out], hbw3⟩
      · have he : Hid (cutE K l cs = 3) := hid (by
          unfold cutE; rw [if_neg (by have := HE.out; omega), if_pos (.inl (by rw [List.getD_eq_getElem?_getD, hy0]; exact hy))])
        have t2 : (y0 != 0) = true := by simpa using hy
        clear hy0 hcs hy
        go_enter Try.func35, Try.ntmps35
        go_wp2_with (go_at_call 26; refine (refCheckRim_any K _ n c l _ HL.out (by omega)).mono ?_; rw [HE.out]; rintro e W1 ⟨rfl, rfl⟩)
        refine bodyPost_ret (v := .int .i64 3) (by first | (simp [results, Try.results35, go_sem]; done) | (simp [results, Try.results35, go_sem, *]; done) | (simp [results, Try.results35, go_sem, World.cell?_setCell_same', *]; done) | (simp [results, Try.results35, go_sem]; first | exact ⟨rfl, rfl⟩ | rfl)) rfl ⟨by rw [he.out], Below.refl _ _⟩
end Go.Proofs.Ytiobmfggnacplaa
/- Walks: the reference's CheckRow. -/
namespace Go.Proofs.Ytiobmfggnacplaa
open Go.RowKit
attribute [local go_sem] Oper.semAt_some
/-- No list stands at two places. -/
def stD (K : Int) (L : Nat) (l : List Int) : Bool := (List.range l.length).all fun i => (List.range i).all fun j => decide (stI K l i L ≠ stI K l j L)
theorem stD_t {K : Int} {L : Nat} {l : List Int} : stD K L l = true ↔ ∀ i, i < l.length → ∀ j, j < i → stI K l i L ≠ stI K l j L := by
  simp [stD]
theorem stD_f {K : Int} {L : Nat} {l : List Int} {i j : Nat} (hi : i < l.length) (hj : j < i) (h : stI K l i L = stI K l j L) : stD K L l = false := by
  cases hd : stD K L l
  · rfl
  · exact absurd h (stD_t.1 hd i hi j hj)
def chkR (K L : Int) (l : List Int) : Int := if rowE K L ≠ 0 then rowE K L else if (l.length : Int) ≠ K ^ L.toNat then 15 else if checkRim K l ≠ 0 then checkRim K l else if stD K L.toNat l then 0 else 14
/-- Which lists have been seen: a row of marks. -/
def SeenB (W : World) (M n : Nat) (f : Nat → Bool) : Prop := ∃ cs, Blk W M 3 cs ∧ cs.size = n ∧ ∀ x, x < n → cs[x]? = some (.int .i64 (if f x then 1 else 0))
theorem SeenB.below {W W' : World} {M n : Nat} {f : Nat → Bool} (h : SeenB W M n f) (hb : Below W.heap.size W W') : SeenB W' M n f := by
  obtain ⟨cs, h1, h2⟩ := h
  exact ⟨cs, h1.below hb h1.lt, h2⟩
theorem SeenB.lt {W : World} {M n : Nat} {f : Nat → Bool} (h : SeenB W M n f) : M < W.heap.size := by obtain ⟨cs, h1, h2⟩ := h; exact h1.lt
theorem SeenB.at_ {W : World} {M n x : Nat} {f : Nat → Bool} (h : SeenB W M n f) (hx : x < n) : W.cell? ⟨M, x, none⟩ = some (.int .i64 (if f x then 1 else 0)) := by
  obtain ⟨cs, h1, h2, h3⟩ := h
  rw [h1.cell]; exact h3 x hx
theorem SeenB.frozen {W : World} {M n : Nat} {f : Nat → Bool} (h : SeenB W M n f) (x : Nat) : W.frozen? ⟨M, x, none⟩ = false := by
  obtain ⟨cs, h1, -⟩ := h
  exact h1.frozen x
theorem SeenB.set_ {W : World} {M n x : Nat} {f g : Nat → Bool} (h : SeenB W M n f) (hx : x < n) (hg : ∀ y, g y = (f y || decide (y = x))) : SeenB (W.setCell ⟨M, x, none⟩ (.int .i64 1)) M n g := by
  obtain ⟨cs, h1, h2, h3⟩ := h
  refine ⟨_, h1.set_ x _, by rw [Array.size_setIfInBounds]; exact h2, fun y hy => ?_⟩
  rw [Array.getElem?_setIfInBounds, hg y]
  by_cases e : x = y
  · subst e
    rw [if_pos rfl, if_pos (by omega)]; simp
  · rw [if_neg e, h3 y hy]
    have : decide (y = x) = false := by simp; omega
    rw [this, Bool.or_false]
theorem SeenB.new {w : World} {n : Nat} : SeenB (w.alloc (.cells (madeCells #[.int .i64 0] n) 3)) w.heap.size n (fun _ => false) := by
  refine ⟨_, Blk.new' rfl, by simp [madeCells], fun x hx => ?_⟩
  rw [← Array.getElem?_toList, toList_madeCells_one, List.getElem?_replicate, if_pos hx]; rfl
/-- Which lists stand at the first places. -/
def seenF (K : Int) (L : Nat) (l : List Int) (i : Nat) (x : Nat) : Bool := (List.range i).any fun j => decide (stI K l j L = (x : Int))
theorem seenF_succ (K : Int) (L : Nat) (l : List Int) (i x : Nat) (h : stI K l i L = (x : Int)) (y : Nat) : seenF K L l (i + 1) y = (seenF K L l i y || decide (y = x)) := by
  unfold seenF
  rw [List.range_succ, List.any_append]
  congr 1
  simp only [List.any_cons, List.any_nil, Bool.or_false, h]
  by_cases e : y = x
  · subst e; simp
  · have e2 : ¬ (x : Int) = (y : Int) := by omega
    rw [decide_eq_false e, decide_eq_false e2]
theorem seenF_t {K : Int} {L : Nat} {l : List Int} {i x : Nat} : seenF K L l i x = true ↔ ∃ j, j < i ∧ stI K l j L = (x : Int) := by simp [seenF]
set_option maxRecDepth 10000 in
set_option maxHeartbeats 4000000 in
theorem refCheckRow_any (K L : Int) (A : Option Addr) (n c : Nat) (l : List Int) (w : World) (hl : InS w w.heap.size A n l) (hn : n ≤ 90) :
    Calls Try.prog 46 #[.int .i64 K, .int .i64 L, .slice A n c] w fun e w' => e = .returned (.int .i64 (chkR K L l)) ∧ Below w.heap.size w w' := by
  have HL := hid hl
  have Hll := hid hl.len
  clear hl
  by_cases hE : rowE K L ≠ 0
  · obtain ⟨E, hEe⟩ : ∃ E, rowE K L = E := ⟨_, rfl⟩
    have HE := hid hEe
    have he : Hid (chkR K L l = E) := hid (by unfold chkR; rw [if_pos hE, hEe])
    rw [hEe] at hE
    have t1 : (E != 0) = true := by simpa using hE
    clear hEe hE
    go_enter Try.func46, Try.ntmps46
    go_wp2_with (fail)
    refine (refRowError_any K L _).mono ?_
    rw [HE.out]
    rintro e W1 ⟨rfl, hb1⟩
    go_wp2_with (fail)
    refine (refRowError_any K L _).mono ?_
    rw [HE.out]
    rintro e W2 ⟨rfl, hb2⟩
    go_wp2
    refine bodyPost_ret (v := .int .i64 E) (by first | (simp [results, Try.results46, go_sem]; done) | (simp [results, Try.results46, go_sem, *]; done) | (simp [results, Try.results46, go_sem, World.cell?_setCell_same', *]; done) | (simp [results, Try.results46, go_sem]; first | exact ⟨rfl, rfl⟩ | rfl)) rfl ⟨by rw [he.out], hb1.trans (hb2.mono hb1.size)⟩
  · have hE0 : rowE K L = 0 := by omega
    have HE := hid hE0
    obtain ⟨⟨hK1, hK4⟩, ⟨hL1, hL6⟩, hp64⟩ := rowE_ok hE0
    obtain ⟨k, rfl⟩ : ∃ k : Nat, K = k := ⟨K.toNat, by omega⟩
    obtain ⟨t, rfl⟩ : ∃ t : Nat, L = t := ⟨L.toNat, by omega⟩
    have hpw : (k : Int) ^ t = ((k ^ t : Nat) : Int) := by push_cast; rfl
    simp only [Int.toNat_natCast] at hp64
    obtain ⟨p, hp⟩ : ∃ p, k ^ t = p := ⟨_, rfl⟩
    rw [hp] at hpw hp64
    have HPw := hid (fun v => refPower_any (k : Int) t v (by omega) (by omega) (by omega))
    rw [hpw] at HPw
    have hch0 : Hid (chkR k t l = if (l.length : Int) ≠ (p : Int) then 15 else if checkRim k l ≠ 0 then checkRim k l else if stD k t l then 0 else 14) := hid (by
      unfold chkR; rw [if_neg hE, Int.toNat_natCast, hpw])
    have Hbd := hid (fun (l' : List Int) (h : ∀ x ∈ l', 0 ≤ x ∧ x < (k : Int)) (a : Nat) => stI_bd (a := a) (show (1 : Int) ≤ k by omega) h t)
    rw [hpw] at Hbd
    clear hE hE0 hp hpw
    by_cases hnp : n = p
    · subst hnp
      by_cases hr : checkRim k l ≠ 0
      · obtain ⟨E, hEe⟩ : ∃ E, checkRim k l = E := ⟨_, rfl⟩
        have HR := hid hEe
        have he : Hid (chkR k t l = E) := hid (by rw [hch0.out, if_neg (by rw [Hll.out]; simp), if_pos hr, hEe])
        rw [hEe] at hr
        have t1 : (E != 0) = true := by simpa using hr
        clear hEe hr
        go_enter Try.func46, Try.ntmps46
        go_wp2_with (first | (go_at_call 85; refine (refRowError_any _ _ _).mono ?_; rw [HE.out]; rintro e W1 ⟨rfl, hb1⟩) | (go_at_call 52; refine (HPw.out _).mono ?_; rintro e W2 ⟨rfl, hb2⟩; have hbw2 := hb1.trans (hb2.mono hb1.size)) | (go_at_call 26; refine (refCheckRim_any _ A n c l _ (HL.out.below hbw2 hbw2.size) (by omega)).mono ?_; rw [HR.out]; rintro e W3 ⟨rfl, rfl⟩))
        refine bodyPost_ret (v := .int .i64 E) (by first | (simp [results, Try.results46, go_sem]; done) | (simp [results, Try.results46, go_sem, *]; done) | (simp [results, Try.results46, go_sem, World.cell?_setCell_same', *]; done) | (simp [results, Try.results46, go_sem]; first | exact ⟨rfl, rfl⟩ | rfl)) rfl ⟨by rw [he.out], hbw2⟩
      · have hr0 : checkRim k l = 0 := by omega
        have HR := hid hr0
        obtain ⟨-, hn1, hlb⟩ := rim_good hr0
        rw [Hll.out] at hn1
        have HB := hid (Hbd.out l hlb)
        have Hlb := hid hlb
        have hmk := @make_i64 n (by omega)
        clear hr hr0 hlb
        have hch : Hid (chkR k t l = if stD k t l then 0 else 14) := hid (by rw [hch0.out, if_neg (by rw [Hll.out]; simp), if_neg (by have := HR.out; omega)])
        clear hch0 Hbd
        go_enter Try.func46, Try.ntmps46
        go_wp2_with (first | (go_at_call 85; refine (refRowError_any _ _ _).mono ?_; rw [HE.out]; rintro e W1 ⟨rfl, hb1⟩) | (go_at_call 52; refine (HPw.out _).mono ?_; rintro e W2 ⟨rfl, hb2⟩; have hbw2 := hb1.trans (hb2.mono hb1.size)) | (go_at_call 26; refine (refCheckRim_any _ A n c l _ (HL.out.below hbw2 hbw2.size) (by omega)).mono ?_; rw [HR.out]; rintro e W3 ⟨rfl, rfl⟩))
        have hz2 := hbw2.size
        obtain ⟨M, hM⟩ : ∃ M, W2.heap.size = M := ⟨_, rfl⟩
        have hS0 : Hid (SeenB (W2.alloc (.cells (madeCells #[.int .i64 0] n) 3)) M n (seenF k t l 0)) := hid (by rw [← hM]; exact SeenB.new)
        have hbw3 : Below w.heap.size w (W2.alloc (.cells (madeCells #[.int .i64 0] n) 3)) := hbw2.alloc hz2 _
        rw [hM]
        have hwM : w.heap.size ≤ M := by omega
        clear hmk hM
        go_loopw [8] (fun i wr => ∃ q : Nat, q ≤ n ∧ i = .int .i64 (q : Int) ∧ Below w.heap.size w wr ∧ Hid (SeenB wr M n (seenF k t l q)) ∧ Hid (∀ i, i < q → ∀ j, j < i → stI k l i t ≠ stI k l j t)) (fun i _ => n - (intOf i).toNat)
        case atStart => exact ⟨0, by omega, rfl, hbw3, hS0, hid (fun i h => by omega)⟩
        case round =>
          obtain ⟨q, hqn, rfl, hbw, hS, hgd⟩ := hrel
          have hszw := hbw.size
          by_cases hlt : q < n
          · have hlti : (q : Int) < n := by omega
            have hbq := HB.out q
            obtain ⟨x, hx⟩ : ∃ x : Nat, stI k l q t = (x : Int) := ⟨(stI k l q t).toNat, by omega⟩
            have hxn : x < n := by omega
            have hxni : (x : Int) < n := by omega
            have Hx := hid hx
            have hx0 : (0 : Int) ≤ x := by omega
            clear hbq hx
            go_wp2_with (fail)
            refine (standing_any (k : Int) t A n c l q _ (HL.out.below hbw hszw) (by omega) (by omega) (by omega) (by omega) (by omega) (by omega) Hlb.out).mono ?_
            rw [Hx.out]
            rintro e W4 ⟨rfl, hb4⟩
            have hS4 := hid (hS.out.below hb4)
            have hbw4 := hbw.trans (hb4.mono hszw)
            have c4 := hS4.out.at_ hxn
            have l4 := hS4.out.lt
            have f4 := hS4.out.frozen x
            cases hs : seenF k t l q x
            · rw [hs] at c4
              have c5 : W4.cell? ⟨M, x, none⟩ = some (.int .i64 0) := c4
              have hS5 : Hid (SeenB (W4.setCell ⟨M, x, none⟩ (.int .i64 1)) M n (seenF k t l (q + 1))) := hid (hS4.out.set_ hxn (seenF_succ _ _ _ _ _ Hx.out))
              have hgd2 : Hid (∀ i, i < q + 1 → ∀ j, j < i → stI k l i t ≠ stI k l j t) := hid (fun i h1 j h2 => by
                rcases Nat.lt_or_ge i q with h3 | h3
                · exact hgd.out i h3 j h2
                · obtain rfl : i = q := by omega
                  intro e
                  have : seenF k t l i x = true := seenF_t.2 ⟨j, h2, by rw [← e, Hx.out]⟩
                  rw [hs] at this; cases this)
              clear c4 hs
              go_wp2
              exact ⟨⟨q + 1, by omega, by go_num, hbw4.setCell hwM _, hS5, hgd2⟩, by simp [intOf]; omega⟩
            · rw [hs] at c4
              have c5 : W4.cell? ⟨M, x, none⟩ = some (.int .i64 1) := c4
              have he : Hid (chkR k t l = 14) := hid (by
                obtain ⟨j, hj, hjx⟩ := seenF_t.1 hs
                rw [hch.out, stD_f (by rw [Hll.out]; exact hlt) hj (by rw [Hx.out, hjx])]; rfl)
              clear c4 hs
              go_wp2
              refine bodyPost_ret (v := .int .i64 14) (by first | (simp [results, Try.results46, go_sem]; done) | (simp [results, Try.results46, go_sem, *]; done) | (simp [results, Try.results46, go_sem, World.cell?_setCell_same', *]; done) | (simp [results, Try.results46, go_sem]; first | exact ⟨rfl, rfl⟩ | rfl)) rfl ⟨by rw [he.out], hbw4⟩
          · obtain rfl : q = n := by omega
            have he : Hid (chkR k t l = 0) := hid (by rw [hch.out, stD_t.2 (by rw [Hll.out]; exact hgd.out)]; rfl)
            have hlti : ¬ (q : Int) < q := by omega
            go_wp2
            refine bodyPost_ret (v := .int .i64 0) (by first | (simp [results, Try.results46, go_sem]; done) | (simp [results, Try.results46, go_sem, *]; done) | (simp [results, Try.results46, go_sem, World.cell?_setCell_same', *]; done) | (simp [results, Try.results46, go_sem]; first | exact ⟨rfl, rfl⟩ | rfl)) rfl ⟨by rw [he.out], hbw⟩
    · have he : Hid (chkR k t l = 15) := hid (by rw [hch0.out, if_pos (by rw [Hll.out]; omega)])
      have t2 : ((n : Int) != (p : Int)) = true := by simp; omega
      clear hnp
      go_enter Try.func46, Try.ntmps46
      go_wp2_with (first | (go_at_call 85; refine (refRowError_any _ _ _).mono ?_; rw [HE.out]; rintro e W1 ⟨rfl, hb1⟩) | (go_at_call 52; refine (HPw.out _).mono ?_; rintro e W2 ⟨rfl, hb2⟩; have hbw2 := hb1.trans (hb2.mono hb1.size)))
      refine bodyPost_ret (v := .int .i64 15) (by first | (simp [results, Try.results46, go_sem]; done) | (simp [results, Try.results46, go_sem, *]; done) | (simp [results, Try.results46, go_sem, World.cell?_setCell_same', *]; done) | (simp [results, Try.results46, go_sem]; first | exact ⟨rfl, rfl⟩ | rfl)) rfl ⟨by rw [he.out], hbw2⟩
end Go.Proofs.Ytiobmfggnacplaa
/- The reference's row: each next word is the least behind the last one; by the kernel these are the words in order. -/
namespace Go.Proofs.Ytiobmfggnacplaa
def stepB (last best l : List Int) : List Int := if isW l && bef last l && (decide (best = []) || bef l best) then l else best
def bN (K d : Nat) (last b0 : List Int) : Nat → List Int
  | 0 => b0
  | x + 1 => stepB last (bN K d last b0 x) (numL K d x)
def bD (K L : Nat) (last : List Int) : Nat → List Int
  | 0 => []
  | d + 1 => if L % (d + 1) = 0 then bN K (d + 1) last (bD K L last d) (K ^ (d + 1)) else bD K L last d
def rwL (K L : Nat) : List (List Int) := (wdsL K L).filter fun w => L % w.length == 0
def lastR (R : List (List Int)) : Nat → List Int
  | 0 => []
  | j + 1 => R.getD j []
set_option maxRecDepth 100000 in
theorem rw_next : ∀ (K : Fin 5) (L : Fin 7), 1 ≤ K.1 → 1 ≤ L.1 → K.1 ^ L.1 ≤ 64 → (rwL K.1 L.1).length ≤ 25 ∧ ∀ j : Fin 26, j.1 ≤ (rwL K.1 L.1).length → bD K.1 L.1 (lastR (rwL K.1 L.1) j.1) L.1 = (rwL K.1 L.1).getD j.1 [] := by decide +kernel
theorem stepB_mem {last best l : List Int} : stepB last best l = l ∨ stepB last best l = best := by
  unfold stepB; split
  · exact .inl rfl
  · exact .inr rfl
theorem bN_ok {K d : Nat} {last b0 : List Int} (hK : 1 ≤ K) (h0 : b0.length ≤ 12 ∧ ∀ x ∈ b0, 0 ≤ x ∧ x < (K : Int)) (hd : d ≤ 12) : ∀ x, (bN K d last b0 x).length ≤ 12 ∧ ∀ y ∈ bN K d last b0 x, 0 ≤ y ∧ y < (K : Int)
  | 0 => h0
  | x + 1 => by
    rw [bN]
    rcases stepB_mem (last := last) (best := bN K d last b0 x) (l := numL K d x) with e | e
    · rw [e]; exact ⟨by rw [numL_len]; exact hd, fun y hy => numL_mem hK hy⟩
    · rw [e]; exact bN_ok hK h0 hd x
end Go.Proofs.Ytiobmfggnacplaa
/- Walks: the reference's Row. -/
namespace Go.Proofs.Ytiobmfggnacplaa
open Go.RowKit
attribute [local go_sem] Oper.semAt_some
/-- A slice that reads as the list. -/
def IsS (lo : Nat) (W : World) (v : Value) (l : List Int) : Prop := ∃ A m c, v = .slice A m c ∧ InS W W.heap.size A m l ∧ ∀ b off, A = some ⟨b, off, none⟩ → lo ≤ b
theorem IsS.below {lo : Nat} {W W' : World} {v : Value} {l : List Int} (h : IsS lo W v l) (hb : Below W.heap.size W W') : IsS lo W' v l := by
  obtain ⟨A, m, c, h1, h2, h3⟩ := h
  exact ⟨A, m, c, h1, h2.below hb hb.size, h3⟩
theorem lenV_own {W : World} {base e size n : Nat} {v : Value} {xs : List Value} (h : W.ownsRow base e size v n xs) : lenV v = n := by
  rcases h.2 with ⟨rfl, h2⟩ | ⟨g, cap, cur, rfl, -⟩
  · exact h2.symm
  · rfl
theorem stepB_no {last best l : List Int} (h : isW l = false ∨ bef last l = false ∨ (best ≠ [] ∧ bef l best = false)) : stepB last best l = best := by
  unfold stepB
  rcases h with h | h | ⟨h, h2⟩
  · simp [h]
  · simp [h]
  · simp [h, h2]
theorem stepB_yes {last best l : List Int} (h1 : isW l = true) (h2 : bef last l = true) (h3 : best = [] ∨ bef l best = true) : stepB last best l = l := by
  unfold stepB
  rcases h3 with h | h
  · simp [h1, h2, h]
  · simp [h1, h2, h]
theorem bD_step {K L : Nat} {last : List Int} {d : Nat} (h1 : 1 ≤ d) : bD K L last d = if L % d = 0 then bN K d last (bD K L last (d - 1)) (K ^ d) else bD K L last (d - 1) := by
  obtain ⟨e, rfl⟩ : ∃ e, d = e + 1 := ⟨d - 1, by omega⟩
  rfl
theorem bD_ok {K L : Nat} {last : List Int} (hK : 1 ≤ K) : ∀ d, d ≤ 12 → (bD K L last d).length ≤ 12 ∧ ∀ y ∈ bD K L last d, 0 ≤ y ∧ y < (K : Int)
  | 0, _ => ⟨Nat.zero_le _, fun y h => by cases h⟩
  | d + 1, h => by
    rw [bD]
    split
    · exact bN_ok hK (bD_ok hK d (by omega)) h _
    · exact bD_ok hK d (by omega)
set_option maxRecDepth 10000 in
set_option maxHeartbeats 4000000 in
/-- One number is looked at. -/
theorem row_bad' (K L : Int) (w : World) (hbad : rowE K L ≠ 0) : Calls Try.prog 44 #[.int .i64 K, .int .i64 L] w fun e w' => ∃ A c, e = .returned (.tuple #[.slice A (rowV K L).length c, .int .i64 (rowE K L)]) ∧ Ret w' A (rowV K L).length c (rowV K L) ∧ Below w.heap.size w w' := by
  have hv : Hid (rowV K L = []) := hid (if_neg hbad)
  obtain ⟨E, hE⟩ : ∃ E, rowE K L = E := ⟨_, rfl⟩
  have HE := hid hE
  rw [hE] at hbad
  have t1 : (E != 0) = true := by simpa using hbad
  clear hE hbad
  go_enter Try.func44, Try.ntmps44
  go_wp2_with (fail)
  refine (refRowError_any K L _).mono ?_
  rw [HE.out]
  rintro e W1 ⟨rfl, hb1⟩
  go_wp2_with (fail)
  refine (refRowError_any K L _).mono ?_
  rw [HE.out]
  rintro e W2 ⟨rfl, hb2⟩
  go_wp2
  refine bodyPost_ret (v := .tuple #[.slice none 0 0, .int .i64 E]) (by first | (simp [results, Try.results44, go_sem]; done) | (simp [results, Try.results44, go_sem, *]; done) | (simp [results, Try.results44, go_sem, World.cell?_setCell_same', *]; done) | (simp [results, Try.results44, go_sem]; first | exact ⟨rfl, rfl⟩ | rfl)) rfl ⟨none, 0, by rw [hv.out, HE.out]; rfl, by rw [hv.out]; exact Ret.nil _, hb1.trans (hb2.mono hb1.size)⟩
set_option maxRecDepth 10000 in
set_option maxHeartbeats 4000000 in
theorem row_ok' (K L : Nat) (w : World) (hK1 : 1 ≤ K) (hK4 : K ≤ 4) (hL1 : 1 ≤ L) (hL2 : L ≤ 6) (hp64 : K ^ L ≤ 64) (he : rowE K L = 0) : Calls Try.prog 44 #[.int .i64 (K : Int), .int .i64 (L : Int)] w fun e w' => ∃ A c, e = .returned (.tuple #[.slice A (rowV K L).length c, .int .i64 (rowE K L)]) ∧ Ret w' A (rowV K L).length c (rowV K L) ∧ Below w.heap.size w w' := by
  obtain ⟨hlen, hnx⟩ := rw_next ⟨K, by omega⟩ ⟨L, by omega⟩ hK1 hL1 hp64
  simp only at hlen hnx
  obtain ⟨R, hR⟩ : ∃ R, rwL K L = R := ⟨_, rfl⟩
  have hV : Hid (rowV K L = R.flatten) := hid (by unfold rowV; rw [if_pos he]; unfold rowF; rw [← hR]; rfl)
  have hok : Hid (∀ x ∈ R, x ≠ [] ∧ x.length ≤ 12) := hid (fun x hx => by
    rw [← hR] at hx
    have := wdsL_ok hK1 hL1 x (List.mem_filter.1 hx).1
    exact ⟨this.2, by have := this.1.1; omega⟩)
  rw [hR] at hlen hnx
  have HN := hid hnx
  have HE := hid he
  clear hR hnx he hp64
  obtain ⟨i0, hi0, hi1, hi2, hi3⟩ := info_parts' info3
  have I0 := hid hi0; have I1 := hid hi1; have I2 := hid hi2; have I3 := hid hi3
  clear hi0 hi1 hi2 hi3
  go_enter Try.func44, Try.ntmps44
  go_wp2_with (fail)
  refine (refRowError_any K L _).mono ?_
  rw [HE.out]
  rintro e W1 ⟨rfl, hb1⟩
  go_wp2_with (fail)
  go_loopw [6, 7] (fun o la wr => ∃ j : Nat, j ≤ R.length ∧ Hid (wr.ownsRow w.heap.size 3 1 o (R.take j).flatten.length ((R.take j).flatten.flatMap cI)) ∧ Hid (IsS 0 wr la (lastR R j)) ∧ Below w.heap.size w wr) (fun o _ _ => R.flatten.length - lenV o)
  case atStart => exact ⟨0, Nat.zero_le _, hid (World.ownsRow_nil _ _ _ _), hid ⟨none, 0, 0, rfl, Sl.none_, fun b off e => by cases e⟩, hb1⟩
  case round =>
    obtain ⟨j, hj, ho, hla, hbw⟩ := hrel
    have hszw := hbw.size
    obtain ⟨W0, rfl⟩ : ∃ W0 : World, W0 = wr := ⟨_, rfl⟩
    obtain ⟨last, hlast⟩ : ∃ last, lastR R j = last := ⟨_, rfl⟩
    rw [hlast] at hla
    have hnext : Hid (bD K L last L = R.getD j []) := hid (by rw [← hlast]; exact HN.out ⟨j, by omega⟩ hj)
    have hll : last.length ≤ 12 := by
      rw [← hlast]
      cases j with
      | zero => simp [lastR]
      | succ j =>
        show (R.getD j []).length ≤ 12
        rw [List.getD_eq_getElem?_getD, List.getElem?_eq_getElem (by omega)]
        exact (hok.out _ (List.getElem_mem _)).2
    have Hlast := hid hlast
    obtain ⟨AL, mL, cL, rfl, hinL, -⟩ := hla.out
    have HinL := hid hinL
    have hmL : mL ≤ 12 := by have := hinL.len; omega
    clear hlast hinL hla
    go_wp2
    go_loopw [8, 9] (fun v i wr => ∃ d : Nat, 1 ≤ d ∧ d ≤ L + 1 ∧ i = .int .i64 (d : Int) ∧ Hid (IsS W0.heap.size wr v (bD K L last (d - 1))) ∧ Below W0.heap.size W0 wr) (fun _ i _ => L + 1 - (intOf i).toNat)
    case atStart => exact ⟨1, Nat.le_refl _, by omega, rfl, hid ⟨none, 0, 0, rfl, Sl.none_, fun b off e => by cases e⟩, Below.refl _ _⟩
    case round =>
      obtain ⟨d, hd1, hdL, rfl, hv, hbw0⟩ := hrel
      have hz0 := hbw0.size
      obtain ⟨W2, rfl⟩ : ∃ W2 : World, W2 = wr := ⟨_, rfl⟩
      by_cases hle : d ≤ L
      · have hlei : (d : Int) ≤ L := by omega
        have hd0 : ¬ (d : Int) = 0 := by omega
        have hd00 : ¬ d = 0 := by omega
        have hmod : (L : Int) % (d : Int) = ((L % d : Nat) : Int) := (Int.natCast_emod L d).symm
        have HPw := hid (fun v => refPower_any (K : Int) d v (by omega) (by omega) (by omega))
        have hpw : (K : Int) ^ d = ((K ^ d : Nat) : Int) := by push_cast; rfl
        rw [hpw] at HPw
        have hstep : Hid (bD K L last d = if L % d = 0 then bN K d last (bD K L last (d - 1)) (K ^ d) else bD K L last (d - 1)) := hid (bD_step hd1)
        have hb0 := bD_ok (K := K) (L := L) (last := last) hK1 (d - 1) (by omega)
        obtain ⟨b0, hb0e⟩ : ∃ b0, bD K L last (d - 1) = b0 := ⟨_, rfl⟩
        rw [hb0e] at hv hstep hb0
        have hbN := hid (fun x => (bN_ok (last := last) (d := d) hK1 hb0 (by omega) x).1)
        have hp4 : K ^ d ≤ 4096 := Nat.le_trans (Nat.pow_le_pow_left hK4 d) (Nat.pow_le_pow_right (by decide) (show d ≤ 6 by omega))
        obtain ⟨p, hp⟩ : ∃ p, K ^ d = p := ⟨_, rfl⟩
        rw [hp] at HPw hstep hp4
        clear hb0e hb0 hp hpw
        by_cases hr : L % d = 0
        · have t1 : (((L : Int) % (d : Int)) == 0) = true := by rw [hmod, hr]; rfl
          have hstep2 : Hid (bD K L last d = bN K d last b0 p) := hid (by rw [hstep.out, if_pos hr])
          clear hmod hr hstep
          go_wp2
          go_loopw [8, 10] (fun v i wr => ∃ x : Nat, x ≤ p ∧ i = .int .i64 (x : Int) ∧ Hid (IsS W0.heap.size wr v (bN K d last b0 x)) ∧ Below W2.heap.size W2 wr) (fun _ i _ => p - (intOf i).toNat)
          case atStart => exact ⟨0, Nat.zero_le _, rfl, hv, Below.refl _ _⟩
          case round =>
            obtain ⟨x, hx, rfl, hv3, hbw2⟩ := hrel
            have hz2 := hbw2.size
            go_wp2_with (fail)
            refine (HPw.out _).mono ?_
            rintro e W4 ⟨rfl, hb4⟩
            have hbw4 := hbw2.trans (hb4.mono hz2)
            have hz4 := hbw4.size
            have hv4 := hid (hv3.out.below hb4)
            by_cases hlt : x < p
            · have hlti : (x : Int) < p := by omega
              obtain ⟨bst, hbst⟩ : ∃ bst, bN K d last b0 x = bst := ⟨_, rfl⟩
              obtain ⟨l, hl⟩ : ∃ l, numL K d x = l := ⟨_, rfl⟩
              have hst : Hid (bN K d last b0 (x + 1) = stepB last bst l) := hid (by rw [← hbst, ← hl]; rfl)
              have hbl := hbN.out x
              rw [hbst] at hv4 hbl
              obtain ⟨A8, m8, c8, rfl, hin8, hlo8⟩ := hv4.out
              have Hlo8 := hid hlo8
              have HIN8 := hid hin8
              have hm8 : m8 ≤ 12 := by have := hin8.len; omega
              have hm8l : bst.length = m8 := hin8.len
              clear hv3 hv4 hin8 hbst hlo8
              go_wp2_with (fail)
              refine (numbered_any K d x _ hK1 hK4 (by omega) (by omega)).mono ?_
              rintro e W5 ⟨rfl, hin5, hb5⟩
              have hbw5 := hbw4.trans (hb5.mono hz4)
              have hz5 := hbw5.size
              have hb05 := hbw0.trans (hbw5.mono hz0)
              rw [hl] at hin5
              have Hin5 := hid hin5
              have HIN85 := hid (HIN8.out.below hb5 hb5.size)
              have HinL5 := hid (HinL.out.below hb05 hb05.size)
              clear hin5 hl
              cases hw : isW l
              · have hn : Hid (bN K d last b0 (x + 1) = bst) := hid (by rw [hst.out]; exact stepB_no (.inl hw))
                have Hw := hid hw
                clear hw hm8l
                go_wp2_with (go_at_call 72; refine (isWord_any _ d d l _ Hin5.out (by omega)).mono ?_; rw [Hw.out]; rintro e W6 ⟨rfl, hb6⟩)
                exact ⟨⟨x + 1, by omega, by go_num, hid ⟨A8, m8, c8, rfl, by rw [hn.out]; exact HIN85.out.below hb6 hb6.size, Hlo8.out⟩, hbw5.trans (hb6.mono hz5)⟩, by simp [intOf]; omega⟩
              · have Hw := hid hw
                clear hw
                go_wp2_with (fail)
                refine (isWord_any _ d d l _ Hin5.out (by omega)).mono ?_
                rw [Hw.out]
                rintro e W6 ⟨rfl, hb6⟩
                have hbw6 := hbw5.trans (hb6.mono hz5)
                have hz6 := hbw6.size
                have h56 := hb6.size
                cases hbf : bef last l
                · have hn : Hid (bN K d last b0 (x + 1) = bst) := hid (by rw [hst.out]; exact stepB_no (.inr (.inl hbf)))
                  have Hbf := hid hbf
                  clear hbf hm8l
                  go_wp2_with (go_at_call 50; refine (before_any _ AL _ mL cL d d last l (HinL5.out.below hb6 h56) (Hin5.out.below hb6 h56) (by omega) (by omega)).mono ?_; rw [Hbf.out]; rintro e W7 ⟨rfl, hb7⟩)
                  exact ⟨⟨x + 1, by omega, by go_num, hid ⟨A8, m8, c8, rfl, by rw [hn.out]; exact (HIN85.out.below hb6 h56).below hb7 hb7.size, Hlo8.out⟩, hbw6.trans (hb7.mono hz6)⟩, by simp [intOf]; omega⟩
                · have Hbf := hid hbf
                  clear hbf
                  go_wp2_with (fail)
                  refine (before_any _ AL _ mL cL d d last l (HinL5.out.below hb6 h56) (Hin5.out.below hb6 h56) (by omega) (by omega)).mono ?_
                  rw [Hbf.out]
                  rintro e W7 ⟨rfl, hb7⟩
                  have hbw7 := hbw6.trans (hb7.mono hz6)
                  have hz7 := hbw7.size
                  have h67 := hb7.size
                  have Hin7 := hid ((Hin5.out.below hb6 h56).below hb7 h67)
                  have HIN87 := hid ((HIN85.out.below hb6 h56).below hb7 h67)
                  by_cases hbe : bst = []
                  · have hn : Hid (bN K d last b0 (x + 1) = l) := hid (by rw [hst.out]; exact stepB_yes Hw.out Hbf.out (.inl hbe))
                    have hm0 : ((m8 : Int) == 0) = true := by rw [← hm8l, hbe]; rfl
                    clear hbe hm8l
                    go_wp2
                    exact ⟨⟨x + 1, by omega, by go_num, hid ⟨_, d, d, rfl, by rw [hn.out]; exact Hin7.out, fun b off e => by cases e; omega⟩, hbw7⟩, by simp [intOf]; omega⟩
                  · have hm0 : ((m8 : Int) == 0) = false := by
                      have : 0 < m8 := by rw [← hm8l]; exact List.length_pos_iff.2 hbe
                      simp; omega
                    have Hbe := hid hbe
                    clear hbe hm8l
                    cases hb2 : bef l bst
                    · have hn : Hid (bN K d last b0 (x + 1) = bst) := hid (by rw [hst.out]; exact stepB_no (.inr (.inr ⟨Hbe.out, hb2⟩)))
                      have Hb2 := hid hb2
                      clear hb2
                      go_wp2_with (go_at_call 50; refine (before_any _ _ A8 d d m8 c8 l bst Hin7.out HIN87.out (by omega) (by omega)).mono ?_; rw [Hb2.out]; rintro e W8 ⟨rfl, hb8⟩)
                      exact ⟨⟨x + 1, by omega, by go_num, hid ⟨A8, m8, c8, rfl, by rw [hn.out]; exact HIN87.out.below hb8 hb8.size, Hlo8.out⟩, hbw7.trans (hb8.mono hz7)⟩, by simp [intOf]; omega⟩
                    · have hn : Hid (bN K d last b0 (x + 1) = l) := hid (by rw [hst.out]; exact stepB_yes Hw.out Hbf.out (.inr hb2))
                      have Hb2 := hid hb2
                      clear hb2
                      go_wp2_with (go_at_call 50; refine (before_any _ _ A8 d d m8 c8 l bst Hin7.out HIN87.out (by omega) (by omega)).mono ?_; rw [Hb2.out]; rintro e W8 ⟨rfl, hb8⟩)
                      exact ⟨⟨x + 1, by omega, by go_num, hid ⟨_, d, d, rfl, by rw [hn.out]; exact Hin7.out.below hb8 hb8.size, fun b off e => by cases e; omega⟩, hbw7.trans (hb8.mono hz7)⟩, by simp [intOf]; omega⟩
            · obtain rfl : x = p := by omega
              have hlti : ¬ (x : Int) < x := by omega
              go_wp2
              exact ⟨⟨d + 1, by omega, by omega, by go_num, hid (by rw [Nat.add_sub_cancel, hstep2.out]; exact hv4.out), hbw0.trans (hbw4.mono hz0)⟩, by simp [intOf]; omega⟩
        · have t1 : (((L : Int) % (d : Int)) == 0) = false := by rw [hmod]; simp; omega
          have hstep2 : Hid (bD K L last d = b0) := hid (by rw [hstep.out, if_neg hr])
          clear hmod hr hstep
          go_wp2
          go_loopw [8, 10] (fun v i wr => i = .int .i64 0 ∧ Hid (IsS W0.heap.size wr v b0) ∧ Below W2.heap.size W2 wr) (fun _ i _ => 0)
          case atStart => exact ⟨rfl, hv, Below.refl _ _⟩
          case round =>
            obtain ⟨rfl, hv3, hbw2⟩ := hrel
            go_wp2
            exact ⟨⟨d + 1, by omega, by omega, by go_num, hid (by rw [Nat.add_sub_cancel, hstep2.out]; exact hv3.out), hbw0.trans (hbw2.mono hz0)⟩, by simp [intOf]; omega⟩
      · have hlei : ¬ (d : Int) ≤ L := by omega
        obtain rfl : d = L + 1 := by omega
        rw [Nat.add_sub_cancel, hnext.out] at hv
        have hbw3 := hbw.trans (hbw0.mono hszw)
        have ho3 := hid (owns_below ho.out hbw0)
        obtain ⟨A8, m8, c8, rfl, hin8, hlo8⟩ := hv.out
        have Hlo8 := hid hlo8
        have HIN8 := hid hin8
        have hm8l := hin8.len
        clear hv hin8 hlo8
        by_cases hjR : j < R.length
        · have hRj : R[j]? = some (R[j]) := List.getElem?_eq_getElem hjR
          obtain ⟨nx, hnxe⟩ : ∃ nx, R[j] = nx := ⟨_, rfl⟩
          rw [hnxe] at hRj
          have hgd : R.getD j [] = nx := by rw [List.getD_eq_getElem?_getD, hRj]; rfl
          rw [hgd] at HIN8 hm8l
          obtain ⟨hnx0, hnx12⟩ := hok.out nx (List.mem_of_getElem? hRj)
          have hm81 : 1 ≤ m8 := by rw [← hm8l]; exact List.length_pos_iff.2 hnx0
          have hm812 : m8 ≤ 12 := by omega
          have hm0 : ((m8 : Int) == 0) = false := by simp; omega
          have htk : Hid ((R.take (j + 1)).flatten = (R.take j).flatten ++ nx) := hid (by rw [List.take_add_one, hRj, List.flatten_append]; simp)
          have hlr2 : Hid (lastR R (j + 1) = nx) := hid hgd
          obtain ⟨b8, off8, rfl, hb8, hc8⟩ := HIN8.out.2 hm81
          have Hc8 := hid hc8
          have hfl8 : (nx.flatMap cI).length = m8 * 1 := HIN8.out.1
          have hnl : (R.take j).flatten.length ≤ 12 * j := by
            have : ∀ (l : List (List Int)), (∀ x ∈ l, x.length ≤ 12) → l.flatten.length ≤ 12 * l.length := by
              intro l
              induction l with
              | nil => intro _; simp
              | cons a r ih =>
                intro h
                rw [List.flatten_cons, List.length_append, List.length_cons]
                have h1 := h a (by simp)
                have h2 := ih (fun x hx => h x (List.mem_cons_of_mem _ hx))
                omega
            have h3 := this (R.take j) (fun x hx => (hok.out x (List.mem_of_mem_take hx)).2)
            rw [List.length_take] at h3
            omega
          have hlt9 : Hid ((R.take (j + 1)).flatten.length = (R.take j).flatten.length + m8 ∧ (R.take (j + 1)).flatten.length ≤ R.flatten.length) := hid (by
            refine ⟨by rw [htk.out, List.length_append, hm8l], ?_⟩
            conv => rhs; rw [← List.take_append_drop (j + 1) R, List.flatten_append, List.length_append]
            omega)
          obtain ⟨n, hn⟩ : ∃ n, (R.take j).flatten.length = n := ⟨_, rfl⟩
          rw [hn] at ho3 hnl hlt9
          have Hn := hid hn
          clear hc8 hgd hnxe hRj hnx0 hnx12 hm8l hn
          go_wp2_with (at_builtin; refine wpList_append_own _ rfl _ _ 22 rfl w.heap.size 3 i0 _ 1 8 under22 I0.out I1.out I2.out I3.out rfl (by decide) _ n _ rfl ho3.out ⟨b8, off8, none⟩ m8 c8 (nx.flatMap cI) rfl hfl8 (fun j u hj => by rw [add_at]; exact Hc8.out j u hj) (one_flatI _) (by unfold maxLen; omega) (by omega) hbw3.size ?_; intro v4 w4 ho4 hg4 hn4)
          obtain ⟨g4, c4, hv4, -, -⟩ := World.ownsRow.form ho4 (by omega)
          subst hv4
          have hb4 : Below w.heap.size w w4 := hbw3.grown hg4 hbw3.size (fun r hr => (World.ownsRow.lt ho3.out r hr).1)
          have hne8 : ∀ b off, some (⟨b8, off8, none⟩ : Addr) = some ⟨b, off, none⟩ → u6.ownBlock ≠ some b := fun b off e e2 => by
            have h1 := (ho.out.lt b e2).2
            have h2 := Hlo8.out b off e
            omega
          refine ⟨⟨j + 1, by omega, hid ?_, hid ⟨_, m8, c8, rfl, ?_, fun b off e => Nat.zero_le _⟩, hb4⟩, ?_⟩
          · rw [hlt9.out.1, htk.out, List.flatMap_append]; exact ho4
          · rw [hlr2.out]
            exact InS.grown HIN8.out hg4 hne8 hg4.size
          · have e1 := hlt9.out
            have e2 := lenV_own ho3.out
            show R.flatten.length - (n + m8) < R.flatten.length - lenV u6
            omega
        · obtain rfl : j = R.length := by omega
          have hgd : R.getD R.length [] = [] := by rw [List.getD_eq_getElem?_getD, List.getElem?_eq_none (Nat.le_refl _)]; rfl
          rw [hgd] at hm8l
          have hm0 : ((m8 : Int) == 0) = true := by rw [← hm8l]; rfl
          have hfin : Hid ((R.take R.length).flatten = R.flatten) := hid (by rw [List.take_length])
          have ho4 := ho3.out
          rw [hfin.out] at ho4
          obtain ⟨Ao, co, rfl, hret⟩ := ret_of ho4
          have Hret := hid hret
          clear ho4 hret hm8l ho ho3 hgd HIN8
          go_wp2
          refine bodyPost_ret (v := .tuple #[.slice Ao R.flatten.length co, .int .i64 0]) (by first | (simp [results, Try.results44, go_sem]; done) | (simp [results, Try.results44, go_sem, *]; done) | (simp [results, Try.results44, go_sem, World.cell?_setCell_same', *]; done) | (simp [results, Try.results44, go_sem]; first | exact ⟨rfl, rfl⟩ | rfl)) rfl ⟨Ao, co, by rw [hV.out, HE.out], by rw [hV.out]; exact Hret.out, hbw3⟩
theorem refRow_any (K L : Int) (w : World) : Calls Try.prog 44 #[.int .i64 K, .int .i64 L] w fun e w' => ∃ A c, e = .returned (.tuple #[.slice A (rowV K L).length c, .int .i64 (rowE K L)]) ∧ Ret w' A (rowV K L).length c (rowV K L) ∧ Below w.heap.size w w' := by
  by_cases he : rowE K L = 0
  · obtain ⟨h1, h2, h3⟩ := rowE_ok he
    have := row_ok' K.toNat L.toNat w (by omega) (by omega) (by omega) (by omega) h3 (by rw [Int.toNat_of_nonneg (by omega), Int.toNat_of_nonneg (by omega)]; exact he)
    rwa [Int.toNat_of_nonneg (by omega), Int.toNat_of_nonneg (by omega)] at this
  · exact row_bad' K L w he
end Go.Proofs.Ytiobmfggnacplaa
/- Keys of the lists that are left. -/
namespace Go.Proofs.Ytiobmfggnacplaa
open Go.RowKit Go.WideMaps
open Go.Maps (Keyed)
attribute [local go_sem] Oper.semAt_some
theorem laidOut : laidOutB Try.prog = true := by kernel_rfl
set_option maxRecDepth 100000 in
theorem row107 : (107 : TypeId) < Try.prog.types.size := by
  have : decide ((107 : TypeId) < Try.prog.types.size) = true := by kernel_rfl
  exact of_decide_eq_true this
set_option maxRecDepth 100000 in
theorem wide107 : (match Try.prog.underlying 107 with | some (.array _ _) | some (.struct _) => true | _ => false) = true := by kernel_rfl
set_option maxRecDepth 100000 in
theorem law107 : KeyLaw Try.prog 107 := deep_law_laid laidOut (m := 2) (by omega) row107 (by kernel_rfl) wide107
theorem K107 : Keyed Try.prog 107 := Maps.Keyed.of_law law107
theorem under105 : Try.prog.underlying 105 = some (.map 107 3) := by kernel_rfl
def kR (i a : Nat) : Lit := .string (keyBytes [.int .i64 (i : Int), .int .i64 (a : Int)])
theorem wf_i64 {a : Int} (h1 : -1000000 ≤ a) (h2 : a ≤ 1000000) : (Lit.int .i64 a).wf = true := by
  simp [Lit.wf, IntKind.min, IntKind.max, IntKind.signed, IntKind.bits]
  omega
set_option maxRecDepth 100000 in
theorem key_kR {i a : Nat} (hi : i ≤ 100) (h2 : a ≤ 100000) : keyOf Try.prog 107 (.agg #[.int .i64 (i : Int), .int .i64 (a : Int)]) = some (kR i a) := by
  have hf : (match Try.prog.underlying 107 with | some (.struct fs) => fs.toList.map (fun f => (f.type, f.offset, f.name != "_")) | _ => []) = [(3, 0, true), (3, 1, true)] := by kernel_rfl
  have hkt : Try.prog.keyType 107 = true := by kernel_rfl
  have c107 : Try.prog.cellsOf 107 = 2 := by kernel_rfl
  have c3 : Try.prog.cellsOf 3 = 1 := by kernel_rfl
  obtain ⟨d, hd⟩ : ∃ d, Try.prog.types.size + 1 = d + 2 := ⟨Try.prog.types.size - 1, by have h := row107; have h2 : 107 < Try.prog.types.size := h; omega⟩
  have w1 : (Lit.int .i64 (i : Int)).wf = true := wf_i64 (by omega) (by omega)
  have w2 : (Lit.int .i64 (a : Int)).wf = true := wf_i64 (by omega) (by omega)
  have hcs : keyOf Try.prog 107 (.agg #[.int .i64 (i : Int), .int .i64 (a : Int)]) = (match Try.prog.underlying 107 with | some (.array _ _) | some (.struct _) => (Try.prog.keyLits (d + 2) 107 [.int .i64 (i : Int), .int .i64 (a : Int)]).map fun ls => .string (keyBytes ls) | _ => mapKey Try.prog 107 (.agg #[.int .i64 (i : Int), .int .i64 (a : Int)])) := by
    unfold keyOf
    rw [hkt, hd]
    have hform : Value.formed Try.prog 107 (.agg #[.int .i64 (i : Int), .int .i64 (a : Int)]) = true := by
      have hw := wide107
      unfold Value.formed
      revert hw
      cases Try.prog.underlying 107 with
      | none => intro h; cases h
      | some T => cases T <;> intro h <;> first | (simp [c107]; done) | (cases h)
    rw [hform]
    rfl
  rw [hcs]
  have hkl : ∀ (fs : Array Field), Try.prog.underlying 107 = some (.struct fs) → fs.toList.map (fun f => (f.type, f.offset, f.name != "_")) = [(3, 0, true), (3, 1, true)] → Try.prog.keyLits (d + 2) 107 [.int .i64 (i : Int), .int .i64 (a : Int)] = some [.int .i64 (i : Int), .int .i64 (a : Int)] := by
    intro fs hu hfs
    obtain ⟨fl⟩ := fs
    rcases fl with _ | ⟨f1, _ | ⟨f2, _ | ⟨f3, r⟩⟩⟩
    · simp at hfs
    · simp at hfs
    · simp only [List.map_cons, List.map_nil, List.cons.injEq, Prod.mk.injEq, and_true] at hfs
      obtain ⟨⟨a1, a2, a3⟩, b1, b2, b3⟩ := hfs
      unfold Program.keyLits
      rw [hu]
      simp only [List.length_cons, List.length_nil, c107, List.all_toArray, List.all_cons, List.all_nil, a3, b3, Bool.and_true, and_self, if_true, List.mapM_cons, List.mapM_nil, a1, a2, b1, b2, c3, List.drop_zero, List.drop_succ_cons, List.take_succ_cons, List.take_zero]
      unfold Program.keyLits
      simp only [under3, w1, w2, and_self, if_true]
      rfl
    · simp at hfs
  revert hf hkl
  cases Try.prog.underlying 107 with
  | none => intro hf; cases hf
  | some T =>
    cases T with
    | struct fs => intro hf hkl; rw [hkl fs rfl hf]; rfl
    | _ => intro hf; cases hf
theorem kR_ne {i a b : Nat} (hi : i ≤ 100) (h2 : a ≤ 100000) (h4 : b ≤ 100000) (hne : a ≠ b) : kR i a ≠ kR i b := by
  intro e
  have x := key_kR hi h2
  have y := key_kR hi h4
  rw [e] at x
  have := K107.inj x y
  injection this with this
  simp only [Array.mk.injEq, List.cons.injEq, Value.int.injEq, true_and, and_true] at this
  exact hne (by omega)
abbrev OM (w : World) (mp n : Nat) (D : DataW Unit) : Prop := w.ownsMap Try.prog 107 (plainElem (H := Unit) Try.prog 3) mp n D
theorem zero3 (W : World) : (zeroValue 3).run Try.prog W = .ok (.int .i64 0) W := by go_simp
/-- Which lists are left. -/
def LeftM (w : World) (mp L n cnt : Nat) (f : Nat → Bool) : Prop := ∃ D, OM w mp cnt D ∧ ∀ x, x < n → Maps.has D (kR L x) = f x
theorem LeftM.isMap {w : World} {mp L n cnt : Nat} {f : Nat → Bool} (h : LeftM w mp L n cnt f) : ∃ es c, w.heap[mp]? = some (.map es c) := by
  obtain ⟨D, ⟨es, c, h1, -⟩, -⟩ := h
  exact ⟨es, c, h1⟩
theorem LeftM.lt {w : World} {mp L n cnt : Nat} {f : Nat → Bool} (h : LeftM w mp L n cnt f) : mp < w.heap.size := by
  obtain ⟨es, c, h1⟩ := h.isMap
  exact (Array.getElem?_eq_some_iff.1 h1).1
theorem LeftM.kept {w w' : World} {mp L n cnt : Nat} {f : Nat → Bool} (h : LeftM w mp L n cnt f) (hb : w'.heap[mp]? = w.heap[mp]?) : LeftM w' mp L n cnt f := by
  obtain ⟨D, ⟨es, c, h1, h2⟩, h3⟩ := h
  exact ⟨D, ⟨es, c, hb.trans h1, h2⟩, h3⟩
theorem LeftM.new {w : World} {mp L n : Nat} (h : w.heap[mp]? = some (.map #[] 0)) : LeftM w mp L n 0 (fun _ => false) := by
  obtain ⟨es, c, h1, h2, h3, h4⟩ := World.ownsMap_made (H := Unit) w Try.prog 107 (plainElem (H := Unit) Try.prog 3)
  have e : (w.alloc (.map #[] 0)).heap[w.heap.size]? = some (.map #[] 0) := World.alloc_heap_new w _
  rw [e] at h1
  cases h1
  exact ⟨_, ⟨#[], 0, h, h2, by simp, h4⟩, fun x _ => rfl⟩
theorem LeftM.put_ {w w' : World} {mp L n cnt x : Nat} {f g : Nat → Bool} {D : DataW Unit} (h : OM w mp cnt D) (hf : ∀ x, x < n → Maps.has D (kR L x) = f x) (h' : OM w' mp (cnt + 1) (D.put (kR L x) (.lit (.int .i64 (x : Int))))) (hL : L ≤ 100) (hn : n ≤ 100000) (hx : x < n) (hg : ∀ y, y < n → g y = (f y || decide (y = x))) : LeftM w' mp L n (cnt + 1) g := by
  refine ⟨_, h', fun y hy => ?_⟩
  rw [hg y hy]
  by_cases e : y = x
  · subst e
    rw [Maps.has_put_same h.isMap (K107.key (key_kR hL (by omega)))]; simp
  · rw [Maps.has_put_other (kR_ne hL (by omega) (by omega) e), hf y hy, decide_eq_false e, Bool.or_false]
theorem LeftM.del_ {w' : World} {mp L n cnt x : Nat} {f g : Nat → Bool} {D : DataW Unit} (hf : ∀ x, x < n → Maps.has D (kR L x) = f x) (h' : OM w' mp cnt (D.del (kR L x))) (hL : L ≤ 100) (hn : n ≤ 100000) (hx : x < n) (hg : ∀ y, y < n → g y = (f y && decide (y ≠ x))) : LeftM w' mp L n cnt g := by
  refine ⟨_, h', fun y hy => ?_⟩
  rw [hg y hy]
  by_cases e : y = x
  · subst e
    rw [Maps.has_del_same]; simp
  · rw [Maps.has_del_other (kR_ne hL (by omega) (by omega) e), hf y hy, decide_eq_true e, Bool.and_true]
end Go.Proofs.Ytiobmfggnacplaa
/- Worlds that grew, but for one block. -/
namespace Go.Proofs.Ytiobmfggnacplaa
open Go.RowKit
theorem grownM_trans {w X Y : World} {M : Nat} {row : Option Nat} (h : w.grownBy X (some M)) (hg : X.grownBy Y row) (hr : ∀ r, row = some r → w.heap.size ≤ r ∨ r = M) : w.grownBy Y (some M) :=
  ⟨hg.os.trans h.os, hg.tape.trans h.tape, hg.output.trans h.output, Nat.le_trans h.size hg.size, fun k hk hne => (hg.block k (Nat.lt_of_lt_of_le hk h.size) (fun e => by rcases hr k e.symm with h1 | h1; omega; exact hne (by rw [h1]))).trans (h.block k hk hne)⟩
theorem grownM_below {w X : World} {M : Nat} (h : Below w.heap.size w X) : w.grownBy X (some M) := ⟨h.os, h.tape, h.output, h.size, fun k hk _ => h.block k hk⟩
theorem grown_of_below' {X Y : World} (h : Below X.heap.size X Y) : X.grownBy Y none := ⟨h.os, h.tape, h.output, h.size, fun k hk _ => h.block k hk⟩
theorem grownM_then {w X Y : World} {M : Nat} (h : w.grownBy X (some M)) (hb : Below X.heap.size X Y) : w.grownBy Y (some M) := grownM_trans h (grown_of_below' hb) (fun _ e => by cases e)
theorem grownM_setCell {w X : World} {M g o : Nat} (h : w.grownBy X (some M)) (hg : w.heap.size ≤ g ∨ g = M) (u : Value) : w.grownBy (X.setCell ⟨g, o, none⟩ u) (some M) :=
  ⟨h.os, h.tape, h.output, by have := h.size; simpa [World.setCell] using this, fun k hk hne => (Below.heap_setCell _ _ _ _ (by simp only; rintro rfl; rcases hg with h | h; omega; exact hne (by rw [h]))).trans (h.block k hk hne)⟩
theorem sl_grownM {w w' : World} {B size n M : Nat} {A : Option Addr} {xs : List Value} (h : Sl w B size A n xs) (hg : w.grownBy w' (some M)) (hB : B ≤ w.heap.size) (hM : B ≤ M) : Sl w' B size A n xs :=
  ⟨h.1, fun hn => by
    obtain ⟨b, off, e, hb, hc⟩ := h.2 hn
    exact ⟨b, off, e, hb, fun j u hu => (World.cell?_of_block (hg.block b (by omega) (fun e2 => by have := Option.some.inj e2; omega))).trans (hc j u hu)⟩⟩
theorem kpg_grownM {W W' : World} {M n₀ : Nat} {G : Nat → Prop} (h : W.grownBy W' (some M)) (hn : n₀ ≤ W.heap.size) (hG : G M) : KpG n₀ G W W' := ⟨h.size, fun k hk hk' => h.block k (by omega) (fun e => hk' (Option.some.inj e ▸ hG))⟩
/-- Below the block all is as it was. -/
theorem below_grownM {w w' : World} {M : Nat} (h : w.grownBy w' (some M)) (hM : M ≤ w.heap.size) : Below M w w' := ⟨h.os, h.tape, h.output, h.size, fun k hk => h.block k (by omega) (fun e => by have := Option.some.inj e; omega)⟩
theorem gcell {w w' : World} {M : Nat} (h : w.grownBy w' (some M)) : ∀ b o, b < w.heap.size → b ≠ M → w'.cell? ⟨b, o, none⟩ = w.cell? ⟨b, o, none⟩ := fun b o hb hne => World.cell?_of_block (h.block b hb (fun e => hne (Option.some.inj e)))
end Go.Proofs.Ytiobmfggnacplaa
/- Walks: whether a rim is a row. -/
namespace Go.Proofs.Ytiobmfggnacplaa
open Go.RowKit Go.Shelf
attribute [local go_sem] Oper.semAt_some
/-- The lists that have stood, by their numbers. -/
def svL (K : Int) (L : Nat) (l : List Int) (ys : List TE) : List Int := ys.map fun y => stI K l y.k L
theorem stI_rot {K : Int} {l : List Int} {a k : Nat} {m : Nat} (hm : l.length = m) (ha : a ≤ m) (h0 : 0 < m) : stI K l a (k + 1) = K * stI K l a k + (rot l a).getD (k % m) 0 := by
  rw [stI, hm]
  congr 1
  rw [List.getD_eq_getElem?_getD, List.getD_eq_getElem?_getD, rot_at (by omega) (by rw [hm]; exact Nat.mod_lt _ h0), hm, Nat.mod_add_mod, Nat.add_comm k a]
theorem sv_all {K : Int} {L : Nat} {l : List Int} {ys : List TE} {n : Nat} (h : ys.map tk = tnL l n) : svL K L l ys = (List.range n).map fun j => stI K l j L := by
  have : (ys.map tk).map (fun p => stI K l p.1 L) = (tnL l n).map (fun p => stI K l p.1 L) := by rw [h]
  rw [List.map_map] at this
  unfold tnL at this
  rw [List.map_map] at this
  exact this
theorem sv_yes {K : Int} {L : Nat} {l : List Int} {ys : List TE} (h : ys.map tk = tnL l l.length) (hd : (svL K L l ys).Nodup) : stD K L l = true := by
  rw [sv_all h] at hd
  refine stD_t.2 fun i hi j hj e => ?_
  have := List.pairwise_iff_getElem.1 hd j i (by simp; omega) (by simpa using hi) hj
  simp at this
  exact this e.symm
theorem sv_no {K : Int} {L : Nat} {l : List Int} {ys : List TE} {y : TE} {k : Nat} (hk : k ≤ l.length) (h : (ys ++ [y]).map tk = tnL l k) (hm : stI K l y.k L ∈ svL K L l ys) : stD K L l = false := by
  have hkl : k = ys.length + 1 := by
    have := congrArg List.length h
    simpa [tnL] using this.symm
  subst hkl
  rw [tnL_succ, List.map_append] at h
  obtain ⟨h0, h1⟩ := List.append_inj' h rfl
  have hyk : y.k = ys.length := by
    have : (y.k, y.l) = (ys.length, rot l ys.length) := by simpa [tk] using h1
    exact congrArg Prod.fst this
  rw [sv_all h0] at hm
  obtain ⟨j, hj, e⟩ := List.mem_map.1 hm
  have hj := List.mem_range.1 hj
  rw [hyk] at e
  exact stD_f (by omega) hj e.symm
theorem grow_row {o o' : Foot} {W W1 W2 : World} {row : Option Nat} (h : Grow o W o' W1) (hg : W1.grownBy W2 row) (hr : ∀ q, row = some q → o' q) : Grow o W o' W2 :=
  ⟨hg.os.trans h.os, hg.tape.trans h.tape, hg.output.trans h.output, Nat.le_trans h.size hg.size, h.from_, fun k hk => Nat.lt_of_lt_of_le (h.lt k hk) hg.size, fun k hk hn => (hg.block k (Nat.lt_of_lt_of_le hk h.size) (fun e => by
    rcases h.from_ k (hr k e.symm) with h1 | h1
    · exact hn h1
    · omega)).trans (h.same k hk hn)⟩
theorem sameC_nil {l : List Int} (h : ∀ x ∈ l, 0 ≤ x ∧ x < 4) (h0 : 0 < l.length) : sameC l [] = false := by
  cases hs : sameC l []
  · rfl
  · exfalso
    unfold sameC at hs
    simp only [Bool.and_eq_true, beq_iff_eq] at hs
    cases l with
    | nil => simp at h0
    | cons a r =>
      have ha := h a (List.mem_cons_self ..)
      have hc : ∀ i : Nat, a = (i : Int) → cn (a :: r) i ≠ 0 := fun i e => by
        unfold cn
        rw [List.filter_cons_of_pos (by simpa using e)]
        simp
      have hz : ∀ i, cn [] i = 0 := fun i => rfl
      rw [hz, hz, hz, hz] at hs
      rcases (by omega : a = ((0 : Nat) : Int) ∨ a = ((1 : Nat) : Int) ∨ a = ((2 : Nat) : Int) ∨ a = ((3 : Nat) : Int)) with e | e | e | e
      · exact hc 0 e (by omega)
      · exact hc 1 e (by omega)
      · exact hc 2 e (by omega)
      · exact hc 3 e (by omega)
set_option maxRecDepth 100000 in
set_option maxHeartbeats 4000000 in
theorem rowR_any (g K L : Nat) (b off n c : Nat) (l : List Int) (w : World) (hR : Rd w g K (some ⟨b, off, none⟩) n c l) (lb : b < w.heap.size) (hc : n ≤ c) (hn : n ≤ 64) (h1n : 1 ≤ n) (hK1 : 1 ≤ K) (hK4 : K ≤ 4) (hL1 : 1 ≤ L) (hL6 : L ≤ 6) (hp : K ^ L = n) (hr : ∀ x ∈ l, 0 ≤ x ∧ x < (K : Int)) :
    Calls Try.prog 86 #[.pointer (some ⟨g, 0, none⟩), .int .i64 (L : Int)] w fun e w' => e = .returned (.int .i64 (if stD K L l then 0 else 14)) ∧ Below w.heap.size w w' := by
  have HR := hid hR
  have Hr := hid hr
  have hlen := hid hR.2.len
  have lg := hR.1.lt
  have q1 : w.cell? ⟨g, 1, none⟩ = some (.slice (some ⟨b, off, none⟩) n c) := hR.1.cell 1
  have Hbd : Hid (∀ a k, k ≤ L → 0 ≤ stI K l a k ∧ stI K l a k + 1 ≤ 4096 ∧ (k = L → stI K l a k + 1 ≤ n)) := hid (fun a k hk => by
    have h1 := stI_bd (a := a) (show (1 : Int) ≤ K by omega) hr k
    have h2 : ((K ^ k : Nat) : Int) = (K : Int) ^ k := by push_cast; rfl
    have h3 : K ^ k ≤ 4096 := Nat.le_trans (Nat.pow_le_pow_left hK4 k) (Nat.pow_le_pow_right (by decide) (show k ≤ 6 by omega))
    refine ⟨h1.1, by omega, fun e => ?_⟩
    subst e
    rw [hp] at h2; omega)
  have hmm := @run_makeMap Try.prog
  obtain ⟨rv, hrv⟩ : ∃ rv : Int, (if stD K L l then (0 : Int) else 14) = rv := ⟨_, rfl⟩
  have Hrv := hid hrv
  rw [hrv]
  clear hR hr hp hrv
  (refine (callsIn_wide (n := 9)).1 ?_; refine callsIn_of_wp_marks (F := Wd none) Try.func86 rfl trivial ?_ rfl; simp only [Try.ntmps86, List.size_toArray, List.length_cons, List.length_nil, Nat.reduceAdd, Nat.reduceSub, Array.replicate_succ, Array.replicate_zero, List.push_toArray, List.append_toArray, List.nil_append, List.cons_append])
  obtain ⟨W1, hW1⟩ : ∃ W1, (((((w.alloc (.cells #[.pointer (some ⟨g, 0, none⟩)] 69)).alloc (.cells #[.int .i64 (L : Int)] 3)).alloc (.cells #[.int .i64 0] 25)).alloc (.map #[] 0)).alloc (.cells #[.map (some (w.heap.size + 1 + 1 + 1))] 105)) = W1 := ⟨_, rfl⟩
  have hz1 : W1.heap.size = w.heap.size + 1 + 1 + 1 + 1 + 1 := by rw [← hW1]; simp
  have hb1 : Below w.heap.size w W1 := by rw [← hW1]; exact (by repeat' (first | with_reducible assumption | with_reducible exact Below.refl _ _ | refine Below.alloc ?_ ?_ _ | refine Below.setCell ?_ ?_ _ | refine Below.drew ?_ | refine below_drewN ?_ _ | (simp; done) | (simp; omega) | omega))
  have B2 : Blk W1 w.heap.size 69 #[.pointer (some ⟨g, 0, none⟩)] := by rw [← hW1]; exact ((((Blk.new' rfl).alloc _).alloc _).alloc _).alloc _
  have B3 : Blk W1 (w.heap.size + 1) 3 #[.int .i64 (L : Int)] := by rw [← hW1]; exact (((Blk.new' (by first | (simp; done) | (simp; omega) | omega)).alloc _).alloc _).alloc _
  have B4 : Blk W1 (w.heap.size + 1 + 1) 25 #[.int .i64 0] := by rw [← hW1]; exact ((Blk.new' (by first | (simp; done) | (simp; omega) | omega)).alloc _).alloc _
  have B5 : Blk W1 (w.heap.size + 1 + 1 + 1 + 1) 105 #[.map (some (w.heap.size + 1 + 1 + 1))] := by rw [← hW1]; exact Blk.new' (by first | (simp; done) | (simp; omega) | omega)
  have hM0 : W1.heap[w.heap.size + 1 + 1 + 1]? = some (.map #[] 0) := by
    rw [← hW1]
    refine (Below.heap_alloc _ _ _ (by simp)).trans ?_
    have := World.alloc_heap_new (((w.alloc (.cells #[.pointer (some ⟨g, 0, none⟩)] 69)).alloc (.cells #[.int .i64 (L : Int)] 3)).alloc (.cells #[.int .i64 0] 25)) (.map #[] 0)
    simpa using this
  have hLM : LeftM W1 (w.heap.size + 1 + 1 + 1) L n 0 (fun x => decide (x < 0)) := by
    obtain ⟨D, h1, h2⟩ := LeftM.new (L := L) (n := n) hM0
    exact ⟨D, h1, fun x hx => by rw [h2 x hx]; simp⟩
  have p1 : W1.cell? ⟨g, 1, none⟩ = some (.slice (some ⟨b, off, none⟩) n c) := (hb1.cell (p := ⟨g, 1, none⟩) lg).trans q1
  have p2 := B2.cell 0
  have l2 := B2.lt
  have lg1 : g < W1.heap.size := by omega
  gi_wp2
  clear p1 p2 l2 lg1 hW1
  obtain ⟨T2, hT2⟩ : ∃ T, w.heap.size = T := ⟨_, rfl⟩
  obtain ⟨T3, hT3⟩ : ∃ T, T2 + 1 = T := ⟨_, rfl⟩
  obtain ⟨T4, hT4⟩ : ∃ T, T3 + 1 = T := ⟨_, rfl⟩
  obtain ⟨MP, hMP⟩ : ∃ T, T4 + 1 = T := ⟨_, rfl⟩
  obtain ⟨T5, hT5⟩ : ∃ T, MP + 1 = T := ⟨_, rfl⟩
  rw [hT2] at B2
  rw [hT2, hT3] at B3
  rw [hT2, hT3, hT4] at B4
  rw [hT2, hT3, hT4, hMP] at hLM
  rw [hT2, hT3, hT4, hMP, hT5] at B5 hz1
  rw [hT2, hT3, hT4, hMP, hT5]
  have HB2 := hid B2
  have HB3 := hid B3
  have HB4 := hid B4
  have HB5 := hid B5
  have HLM := hid hLM
  have HT := hid (show w.heap.size = T2 ∧ T2 + 1 = T3 ∧ T3 + 1 = T4 ∧ T4 + 1 = MP ∧ MP + 1 = T5 ∧ W1.heap.size = T5 + 1 from ⟨hT2, hT3, hT4, hMP, hT5, hz1⟩)
  have Hb1 := hid hb1
  clear hT2 hT3 hT4 hMP hT5 hz1 B2 B3 B4 B5 hM0 hLM hb1 q1 hmm
  gi_loopw [20] (fun i wr => ∃ q : Nat, q ≤ n ∧ i = .int .i64 (q : Int) ∧ Hid (W1.grownBy wr (some MP)) ∧ Hid (LeftM wr MP L n q (fun x => decide (x < q)))) (fun i _ => n - (intOf i).toNat)
  case atStart => exact ⟨0, Nat.zero_le _, rfl, hid (grownM_below (Below.refl _ _)), HLM⟩
  case round =>
    obtain ⟨q, hq, rfl, hg, hL⟩ := hrel
    have hT := HT.out
    have B3 := HB3.out.grown hg.out (by simp; omega)
    have B5 := HB5.out.grown hg.out (by simp; omega)
    have q3 := B3.cell 0
    have q5 := B5.cell 0
    have l3 := B3.lt
    have l5 := B5.lt
    by_cases hlt : q < n
    · have hlti : (q : Int) < n := by omega
      obtain ⟨D, hD, hf⟩ := hL.out
      have HD := hid hD
      have HF := hid hf
      have hwf : (Lit.int .i64 (q : Int)).wf = true := wf_i64 (by omega) (by omega)
      have Hwf := hid hwf
      clear hD hf hwf hT B3 B5
      gi_wp2_with (gi_at_mapUpdate; refine wpListIn_mapUpdate_own _ rfl _ _ _ 105 rfl 107 3 K107 under105 _ MP q D rfl HD.out (by unfold maxLen; omega) _ _ (kR L q) rfl rfl (key_kR (by omega) (by omega)) _ [] (plainElem_int under3 Hwf.out) ?_; intro W11 hmap11 hgr11)
      have hg11 := hid (grownM_trans hg.out hgr11 (fun r e => .inr (Option.some.inj e).symm))
      have hL11 : Hid (LeftM W11 MP L n (q + 1) (fun x => decide (x < q + 1))) := hid (LeftM.put_ HD.out HF.out hmap11 (by omega) (by omega) hlt (fun y hy => by
        by_cases e : y = q
        · subst e; simp
        · rw [decide_eq_false e, Bool.or_false]
          by_cases e2 : y < q
          · rw [decide_eq_true e2, decide_eq_true (by omega)]
          · rw [decide_eq_false e2, decide_eq_false (by omega)]))
      exact ⟨⟨q + 1, by omega, by go_num, hg11, hL11⟩, by simp [intOf]; omega⟩
    · obtain rfl : q = n := by omega
      have hbw : Below w.heap.size w wr := Hb1.out.grown hg.out Hb1.out.size (fun r e => by have := Option.some.inj e; omega)
      have B2 := HB2.out.grown hg.out (by simp; omega)
      have B4 := HB4.out.grown hg.out (by simp; omega)
      have hR := HR.out.below hbw
      have r2 := hR.1.cell 2
      have r3 := hR.1.cell 3
      have r4 := hR.1.cell 4
      have r5 := hR.1.cell 5
      rw [(cn_cells K (some ⟨b, off, none⟩) q c l).1] at r2
      rw [(cn_cells K (some ⟨b, off, none⟩) q c l).2.1] at r3
      rw [(cn_cells K (some ⟨b, off, none⟩) q c l).2.2.1] at r4
      rw [(cn_cells K (some ⟨b, off, none⟩) q c l).2.2.2] at r5
      have q2 := B2.cell 0
      have l2 := B2.lt
      have lg1 := hR.1.lt
      have hsc : sameC l [] = false := sameC_nil (fun x hx => by have := Hr.out x hx; omega) (by rw [hlen.out]; omega)
      have h7 : (Op.equalIn 10000 80 (.agg #[.int .i64 (cn l 0 : Nat), .int .i64 (cn l 1 : Nat), .int .i64 (cn l 2 : Nat), .int .i64 (cn l 3 : Nat)]) (.agg #[.int .i64 0, .int .i64 0, .int .i64 0, .int .i64 0])).run Try.prog wr = .ok false wr := by
        have := eq80 wr 9998 l []
        rw [hsc] at this
        exact this
      have hlti : ¬ (q : Int) < q := by omega
      have HBw := hid hbw
      have HR9 := hid hR
      have HB2r := hid B2
      have HB4r := hid B4
      have HB3r := hid B3
      have HB5r := hid B5
      clear hsc hbw hR hT B2 B4 B3 B5
      gi_wp2_with (fail)
      refine (calls_wd (turnsIt_any g wr)).mono ?_
      rintro e X6 ⟨rfl, hX6⟩
      have Hb06 : Below wr.heap.size wr X6 := by rw [← hX6]; exact (by repeat' (first | with_reducible assumption | with_reducible exact Below.refl _ _ | refine Below.alloc ?_ ?_ _ | refine Below.setCell ?_ ?_ _ | refine Below.drew ?_ | refine below_drewN ?_ _ | (simp; done) | (simp; omega) | omega))
      have HBx : Hid (Blk X6 wr.heap.size 69 #[.pointer (some ⟨g, 0, none⟩)]) := hid (by rw [← hX6]; exact Blk.new' rfl)
      have Hz6 : Hid (X6.heap.size = wr.heap.size + 1) := hid (by rw [← hX6]; simp)
      clear hX6 q2 l2 r2 r3 r4 r5 lg1 h7 q3 q5 l3 l5
      gi_wp2
      have hgz := hg.out.size
      have HTo := HT.out
      have B2x := HB2r.out.below Hb06 HB2r.out.lt
      have B3x := HB3r.out.below Hb06 HB3r.out.lt
      have B4x := HB4r.out.below Hb06 HB4r.out.lt
      have B5x := HB5r.out.below Hb06 HB5r.out.lt
      have hRx := HR9.out.below Hb06
      have HbX : Hid (Below w.heap.size w X6) := hid (HBw.out.trans (Hb06.mono HBw.out.size))
      have HRx := hid hRx
      have hLx : LeftM X6 MP L q q (fun x => decide ((x : Int) ∉ svL K L l [])) := by
        obtain ⟨D, h1, h2⟩ := hL.out.kept (Hb06.block MP hL.out.lt)
        exact ⟨D, h1, fun x hx => by rw [h2 x hx]; show decide (x < q) = decide _; rw [decide_eq_true hx]; simp [svL]⟩
      have hMPx := hLx.lt
      have HLx := hid hLx
      clear hRx hLx
      refine with_frame fun TT hTT => ?_
      refine wpIn_rangeFunc_foot (F := Wd none) (α := TE) X6.heap.size rfl rfl rfl (gf := 95) (lb := #[.pointer (some ⟨wr.heap.size, 0, none⟩)]) (by rw [hTT]; rfl) trivial (enters_of Try.func95 (by kernel_rfl) rfl)
        (encs := encT) (Rd := RdT q l) (Nb := q) (S := fun xs => xs.map tk = tnL l q) (Sp := fun xs => ∃ k, k ≤ q ∧ xs.map tk = tnL l k) (fun j => j = T4 ∨ j = MP) (fun j hj => by have := B4x.lt; omega) ?hseq rdT_keep (fun _ => rfl)
        (fun ys ow V => (svL K L l ys).Nodup ∧ Blk V T4 25 #[.int .i64 0] ∧ ow T4 ∧ ow MP ∧ Blk V T2 69 #[.pointer (some ⟨g, 0, none⟩)] ∧ Blk V T3 3 #[.int .i64 (L : Int)] ∧ Blk V T5 105 #[.map (some MP)] ∧ Blk V g 82 (rdA K (some ⟨b, off, none⟩) q c l) ∧ LeftM V MP L q q (fun x => decide ((x : Int) ∉ svL K L l ys)) ∧ ∀ j, ow j → j = T4 ∨ j = MP) (fun c ys ow V => c = .ret ∧ ∃ ys0 y, ys = ys0 ++ [y] ∧ stI K l y.k L ∈ svL K L l ys0 ∧ Blk V T4 25 #[.int .i64 14] ∧ ow T4) ?hI ?hIx ⟨List.nodup_nil, B4x, Or.inl rfl, Or.inr rfl, B2x, B3x, B5x, HRx.out.1, HLx.out, fun j hj => hj⟩
        (fun x a' V => a' = { tmps := (((TT.setIfInBounds 37 (.int .i64 (x.k : Int))).setIfInBounds 38 x.v).setIfInBounds 8 x.v), defers := [] }) ?assign (fun x a' V o h => h) ?body ?done ?stop
      case hseq =>
        intro W' hW'
        have hz6 := Hz6.out
        have hzw' := hW'.size
        have hR' := HRx.out.below hW'
        refine turns_give W' _ wr.heap.size g K b off q c l hc hn h1n ⟨(HBx.out.below hW' HBx.out.lt).cell 0, by omega, ?_, hR'.1, ?_, hR'.2, by have := HbX.out.size; omega, ?_⟩
        all_goals
          rintro (h | h | h) <;> omega
      case hI =>
        rintro ys ow V V' ⟨h0, h1, h2, h3, h4, h5, h6, h7, h8, h9⟩ hk hz e1 e2 e3
        have z2 := B2x.lt
        have z3 := B3x.lt
        have z5 := B5x.lt
        have zg := HRx.out.1.lt
        exact ⟨h0, (hk _ (.inr (.inl h2)) h1.lt).trans h1, h2, h3, (hk _ (.inl z2) h4.lt).trans h4, (hk _ (.inl z3) h5.lt).trans h5, (hk _ (.inl z5) h6.lt).trans h6, (hk _ (.inl zg) h7.lt).trans h7, h8.kept (hk _ (.inr (.inl h3)) h8.lt), h9⟩
      case hIx =>
        rintro c ys ow V V' ⟨hc', ys0, y, h0, h1, h3, h5⟩ hk hz e1 e2 e3
        exact ⟨hc', ys0, y, h0, h1, (hk _ (.inr (.inl h5)) h3.lt).trans h3, h5⟩
      case assign =>
        rintro l x V Kk hrd hV hK
        simp only [encT, hTT]
        gi_wp2
        exact hK _ _ (Below.refl _ _) (by rw [hTT]; rfl)
      case body =>
        rintro lid pre ow x a' V ⟨h0, h1, h2, h3, h4, h5, h6, h7, h8, h9⟩ hNb hlt hnB hrd rfl hV
        obtain ⟨xk, xv, xl⟩ := x
        obtain ⟨⟨Ax, cx, hxv, hxin, hxc, -⟩, hxk, hxl⟩ := hrd
        have hxv' : xv = .slice Ax q cx := hxv
        subst hxv'
        have hxin' : InS V V.heap.size Ax q xl := hxin
        have hxl' : xl = rot l xk := hxl
        have hxk' : xk < q := hxk
        have p2 := h4.cell 0
        have p3 := h5.cell 0
        have m2 := h4.lt
        have m3 := h5.lt
        have HX := hid hxin'
        have Hxl := hid hxl'
        have H0 := hid h0
        have H1 := hid h1
        have H4 := hid h4
        have H5 := hid h5
        have H6 := hid h6
        have H7 := hid h7
        have H8 := hid h8
        have H9 := hid h9
        clear hxin hxin' hxl hxl' hxk h0 h1 h4 h5 h6 h7 h8 h9
        simp only [hTT, List.setIfInBounds_toArray, List.set_cons_zero, List.set_cons_succ]
        gi_wp2
        gi_loopw [9, 40] (fun v i wr => ∃ k : Nat, k ≤ L ∧ i = .int .i64 (k : Int) ∧ v = .int .i64 (stI K l xk k) ∧ Below V.heap.size V wr) (fun _ i _ => L - (intOf i).toNat)
        case atStart => exact ⟨0, Nat.zero_le _, rfl, rfl, Below.refl _ _⟩
        case round =>
          obtain ⟨k, hk, rfl, rfl, hbv⟩ := hrel
          have hszv := hbv.size
          clear p2 p3 m2 m3
          by_cases hkl : k < L
          · have hkli : (k : Int) < L := by omega
            have hq0 : ¬ (q : Int) = 0 := by omega
            have hq00 : ¬ q = 0 := by omega
            obtain ⟨jj, hjj⟩ : ∃ j, k % q = j := ⟨_, rfl⟩
            have hjl : jj < q := by rw [← hjj]; exact Nat.mod_lt _ (by omega)
            have hjli : (jj : Int) < q := by omega
            have hjl0 : (0 : Int) ≤ jj := by omega
            have hti : Int.tmod (k : Int) (q : Int) = (jj : Int) := by rw [← hjj]; exact (Int.ofNat_tmod k q).symm
            have htm : (k : Int) % (q : Int) = (jj : Int) := by rw [← hjj]; exact (Int.natCast_emod k q).symm
            have zjj : IntKind.i64.wrap (jj : Int) = (jj : Int) := IntWalk.i64_in _ (by omega)
            obtain ⟨b5, off5, x, rfl, hb5, hx, c5⟩ := (HX.out.below hbv hszv).at_ hjl
            have hxr := Hr.out x (by
              have := List.mem_of_getElem? hx
              rw [Hxl.out] at this
              exact rot_mem.1 this)
            have hst : Hid (stI K l xk (k + 1) = K * stI K l xk k + x) := hid (by
              rw [stI_rot hlen.out (by omega) (by omega), hjj, ← Hxl.out, List.getD_eq_getElem?_getD, hx]; rfl)
            obtain ⟨hs0, hs1, -⟩ := Hbd.out xk k hk
            obtain ⟨s, hse⟩ : ∃ s, stI K l xk k = s := ⟨_, rfl⟩
            rw [hse] at hst hs0 hs1 ⊢
            obtain ⟨y, hy⟩ : ∃ y, (K : Int) * s = y := ⟨_, rfl⟩
            have hy0 : 0 ≤ y := by rw [← hy]; exact Int.mul_nonneg (by omega) hs0
            have hy1 : y ≤ 4 * 4096 := by rw [← hy]; exact Int.mul_le_mul (by omega) (by omega) hs0 (by omega)
            have zy : IntKind.i64.wrap y = y := IntWalk.i64_in _ (by omega)
            have zyx : IntKind.i64.wrap (y + x) = y + x := IntWalk.i64_in _ (by omega)
            rw [hy] at hst
            have B2v := H4.out.below hbv H4.out.lt
            have BGv := H7.out.below hbv H7.out.lt
            have q2 := B2v.cell 0
            have m2 := B2v.lt
            have qg : wr.cell? ⟨g, 0, none⟩ = some (.int .i64 (K : Int)) := BGv.cell 0
            have mg := BGv.lt
            have hb5r : b5 < wr.heap.size := hb5
            clear hjj hx hse htm
            gi_wp2
            refine wpIn_region_hd_all (fun W => Below wr.heap.size wr W) (by kernel_rfl) (by kernel_rfl) ((Below.refl _ _).drew) ?_
            iterate 16 (refine wpHd_val (v := ?_) (by rfl) (fun W hW => ?_) ?_; rotate_left; (· obtain ⟨hcW, hfW⟩ := bcell hW; go_simp; with_reducible rfl); simp only [Act.put, List.setIfInBounds_toArray, List.set_cons_zero, List.set_cons_succ])
            refine wpHd_nil ?_
            intro W9 hW9
            gi_wp2
            exact ⟨⟨k + 1, by omega, by go_num, by rw [hst.out], hbv.trans (hW9.mono hszv)⟩, by simp [intOf]; omega⟩
          · obtain rfl : k = L := by omega
            obtain ⟨hs0, hs1, hs2⟩ := Hbd.out xk k (Nat.le_refl _)
            have hs3 := hs2 rfl
            obtain ⟨sx, hsx⟩ : ∃ sx : Nat, stI K l xk k = (sx : Int) := ⟨(stI K l xk k).toNat, by omega⟩
            have hsxq : sx < q := by omega
            have Hsx := hid hsx
            rw [hsx]
            obtain ⟨D, hD, hf⟩ := H8.out.kept (hbv.block MP H8.out.lt)
            have HD := hid hD
            have HF := hid hf
            have hkey := key_kR (i := k) (a := sx) (by omega) (by omega)
            have Hkey := hid hkey
            have hhas : Maps.has D (kR k sx) = decide ((sx : Int) ∉ svL K k l pre) := hf sx hsxq
            have Hhas := hid hhas
            have hsv : Hid (svL K k l (pre ++ [(⟨xk, .slice Ax q cx, xl⟩ : TE)]) = svL K k l pre ++ [(sx : Int)]) := hid (by
              unfold svL; rw [List.map_append, List.map_singleton]; show _ ++ [stI K l xk k] = _; rw [hsx])
            have B3v := H5.out.below hbv H5.out.lt
            have B5v := H6.out.below hbv H6.out.lt
            have B4v := H1.out.below hbv H1.out.lt
            have q3 := B3v.cell 0
            have m3 := B3v.lt
            have q5 := B5v.cell 0
            have m5 := B5v.lt
            have hgV : Grow ow V ow wr := grow_below hlt hbv
            clear hs0 hs1 hs2 hs3 hsx hD hf hkey hhas
            by_cases hmem : (sx : Int) ∈ svL K k l pre
            · have Hh : Hid (Maps.has D (kR k sx) = false) := hid (by rw [Hhas.out]; simpa using hmem)
              have Hmem := hid hmem
              have q4 := B4v.cell 0
              have m4 := B4v.lt
              have f4 := B4v.frozen 0
              clear hmem
              gi_wp2_with (gi_at_lookup; refine wpListIn_lookup_own_ok_int _ rfl _ _ 105 rfl 107 3 .i64 K107 under105 under3 (zero3 _) MP q D rfl HD.out _ (kR k sx) rfl Hkey.out ?_; intro cv hat hwc; rw [Hh.out]; clear hat hwc)
              exact ⟨ow, ⟨rfl, pre, _, rfl, by rw [Hsx.out]; exact Hmem.out, B4v.set_ 0 _, h2⟩, grow_set hgV h2 _⟩
            · have Hh : Hid (Maps.has D (kR k sx) = true) := hid (by rw [Hhas.out]; simpa using hmem)
              have Hmem := hid hmem
              clear hmem
              gi_wp2_with (first | (gi_at_lookup; refine wpListIn_lookup_own_ok_int _ rfl _ _ 105 rfl 107 3 .i64 K107 under105 under3 (zero3 _) MP q D rfl HD.out _ (kR k sx) rfl Hkey.out ?_; intro cv hat hwc; rw [Hh.out]; clear hat hwc) | (gi_at_delete; refine wpListIn_delete_own _ rfl _ _ 105 107 rfl 3 K107 under105 _ MP q D rfl HD.out _ (kR k sx) rfl Hkey.out ?_; intro W13 hmap13 htn))
              have hgr := htn.grown
              have hgW : Grow ow V ow W13 := grow_row hgV hgr (fun r e => by cases e; exact h3)
              have hne : ∀ {r t : Nat} {cs : Array Value}, Blk wr r t cs → Blk W13 r t cs := fun {r t cs} hB => hB.grown hgr (fun e => by
                have e2 : r = MP := Option.some.inj e
                obtain ⟨es, cl, h, -⟩ := HD.out
                unfold Blk at hB
                rw [e2, h] at hB; cases hB)
              refine ⟨ow, ⟨?_, hne B4v, h2, h3, hne (H4.out.below hbv H4.out.lt), hne B3v, hne B5v, hne (H7.out.below hbv H7.out.lt), ?_, H9.out⟩, hgW⟩
              · rw [hsv.out]
                refine List.nodup_append.2 ⟨H0.out, by simp, fun a ha b hb e => ?_⟩
                rw [List.mem_singleton.1 hb] at e
                exact Hmem.out (e ▸ ha)
              · rw [hsv.out]
                refine LeftM.del_ HF.out hmap13 (by omega) (by omega) hsxq (fun y hy => ?_)
                by_cases e : y = sx
                · subst e; simp
                · have e2 : (y : Int) ≠ (sx : Int) := by omega
                  simp [e, e2]
      case done =>
        rintro Dm ys ow V hDm hys ⟨h0, h1, h2, h3, h4, h5, h6, h7, h8, h9⟩ hg2 hnB rfl hK
        have hD : Hid (stD K L l = true) := hid (sv_yes (by rw [hlen.out]; exact hys) h0)
        have hbV : Below w.heap.size w V := below_grow HbX.out hg2 HbX.out.size (fun k hk => by rcases hk with h | h <;> omega)
        have q4 := h1.cell 0
        have l4 := h1.lt
        have f4 := h1.frozen 0
        have H1 := hid h1
        have hT4w : w.heap.size ≤ T4 := by omega
        have hT4x : T4 < X6.heap.size := B4x.lt
        have B4' : Blk (V.setCell ⟨T4, 0, none⟩ (.int .i64 0)) T4 25 #[.int .i64 0] := H1.out.set_ 0 _
        have hK' : (V.setCell ⟨T4, 0, none⟩ (.int .i64 0)).heap[X6.heap.size]? = some (.deferred (some [])) := (Below.heap_setCell _ _ _ _ (by simp; omega)).trans hK
        have hbV' : Below w.heap.size w (V.setCell ⟨T4, 0, none⟩ (.int .i64 0)) := hbV.setCell hT4w _
        have HB4' := hid B4'
        have HbV' := hid hbV'
        have HK' := hid hK'
        clear h0 h1 h4 h5 h6 h7 h8 h9 hys hbV B4' hbV' hK' hK
        simp only [hTT]
        gi_wp2
        refine leavesM_marks [X6.heap.size] _ (by simp) (by simpa using HK'.out) (fun w' ho => ⟨.int .i64 0, ?_, ?_⟩)
        · have e4 := (ho.cell ⟨T4, 0, none⟩).trans (HB4'.out.cell 0)
          simp [results, Try.results86, go_sem, *]
        · exact ⟨by rw [← Hrv.out, hD.out]; rfl, ho.below HbV'.out (by simp; have := HbX.out.size; omega)⟩
      case stop =>
        rintro Dm c' pre ow V hDm ⟨k, hk, hpre⟩ ⟨rfl, ys0, y, h0, h1, h3, h5⟩ hg2 hnB rfl hK
        have hD : Hid (stD K L l = false) := hid (sv_no (k := k) (by rw [hlen.out]; exact hk) (by rw [← h0]; exact hpre) h1)
        have hbV : Below w.heap.size w V := below_grow HbX.out hg2 HbX.out.size (fun k hk => by rcases hk with h | h <;> omega)
        have H3 := hid h3
        have HbV := hid hbV
        clear h0 h1 h3 hpre hbV
        simp only [hTT]
        gi_wp2
        refine leavesM_marks [X6.heap.size] _ (by simp) (by simpa using hK) (fun w' ho => ⟨.int .i64 14, ?_, ?_⟩)
        · have e4 := (ho.cell ⟨T4, 0, none⟩).trans (H3.out.cell 0)
          simp [results, Try.results86, go_sem, *]
        · exact ⟨by rw [← Hrv.out, hD.out]; rfl, ho.below HbV.out (by simp; have := HbX.out.size; omega)⟩
end Go.Proofs.Ytiobmfggnacplaa
/- Walks: CheckRow. -/
namespace Go.Proofs.Ytiobmfggnacplaa
open Go.RowKit
attribute [local go_sem] Oper.semAt_some
set_option maxRecDepth 10000 in
set_option maxHeartbeats 4000000 in
theorem checkRow_any (K L : Int) (A : Option Addr) (n c : Nat) (l : List Int) (w : World) (hl : InS w w.heap.size A n l) (hn : n ≤ 90) (hc : n ≤ c) :
    Calls Try.prog 45 #[.int .i64 K, .int .i64 L, .slice A n c] w fun e w' => e = .returned (.int .i64 (chkR K L l)) ∧ Below w.heap.size w w' := by
  have HL := hid hl
  have Hll := hid hl.len
  by_cases hE : rowE K L ≠ 0
  · obtain ⟨E, hEe⟩ : ∃ E, rowE K L = E := ⟨_, rfl⟩
    have HE := hid hEe
    have he : Hid (chkR K L l = E) := hid (by unfold chkR; rw [if_pos hE, hEe])
    rw [hEe] at hE
    have t1 : (E != 0) = true := by simpa using hE
    clear hEe hE hl
    go_enter Try.func45, Try.ntmps45
    go_wp2_with (go_at_call 84; refine (rowed_any K L _).mono ?_; rw [HE.out]; rintro e W1 ⟨rfl, hb1⟩)
    refine bodyPost_ret (v := .int .i64 E) (by first | (simp [results, Try.results45, go_sem]; done) | (simp [results, Try.results45, go_sem, *]; done) | (simp [results, Try.results45, go_sem, World.cell?_setCell_same', *]; done) | (simp [results, Try.results45, go_sem]; first | exact ⟨rfl, rfl⟩ | rfl)) rfl ⟨by rw [he.out], hb1⟩
  · have hE0 : rowE K L = 0 := by omega
    have HE := hid hE0
    obtain ⟨⟨hK1, hK4⟩, ⟨hL1, hL6⟩, hp64⟩ := rowE_ok hE0
    obtain ⟨k, rfl⟩ : ∃ k : Nat, K = k := ⟨K.toNat, by omega⟩
    obtain ⟨t, rfl⟩ : ∃ t : Nat, L = t := ⟨L.toNat, by omega⟩
    have hpw : (k : Int) ^ t = ((k ^ t : Nat) : Int) := by push_cast; rfl
    simp only [Int.toNat_natCast] at hp64
    obtain ⟨p, hp⟩ : ∃ p, k ^ t = p := ⟨_, rfl⟩
    rw [hp] at hpw hp64
    have HPw := hid (fun v => power_any (k : Int) t v (by omega) (by omega) (by omega))
    rw [hpw] at HPw
    have hch0 : Hid (chkR k t l = if (l.length : Int) ≠ (p : Int) then 15 else if checkRim k l ≠ 0 then checkRim k l else if stD k t l then 0 else 14) := hid (by
      unfold chkR; rw [if_neg hE, Int.toNat_natCast, hpw])
    have Hp := hid hp
    clear hE hE0 hp hpw
    by_cases hnp : n = p
    · subst hnp
      have t2 : ((n : Int) != (n : Int)) = false := by simp
      by_cases hr : checkRim k l ≠ 0
      · obtain ⟨E, hEe⟩ : ∃ E, checkRim k l = E := ⟨_, rfl⟩
        have HR := hid hEe
        have H0 := hid hr
        have he : Hid (chkR k t l = E) := hid (by rw [hch0.out, if_neg (by rw [Hll.out]; simp), if_pos hr, hEe])
        rw [hEe] at hr
        have t1 : (E != 0) = true := by simpa using hr
        clear hEe hr hl
        go_enter Try.func45, Try.ntmps45
        go_wp2_with (first | (go_at_call 84; refine (rowed_any _ _ _).mono ?_; rw [HE.out]; rintro e W1 ⟨rfl, hb1⟩) | (go_at_call 74; refine (HPw.out _).mono ?_; rintro e W2 ⟨rfl, hb2⟩; have hbw2 := hb1.trans (hb2.mono hb1.size)) | (go_at_call 58; refine (open_bad _ A n c l _ (HL.out.below hbw2 hbw2.size) (by omega) H0.out).mono ?_; rw [HR.out]; rintro e W3 ⟨rfl, hb3⟩))
        refine bodyPost_ret (v := .int .i64 E) (by first | (simp [results, Try.results45, go_sem]; done) | (simp [results, Try.results45, go_sem, *]; done) | (simp [results, Try.results45, go_sem, World.cell?_setCell_same', *]; done) | (simp [results, Try.results45, go_sem]; first | exact ⟨rfl, rfl⟩ | rfl)) rfl ⟨by rw [he.out], hbw2.trans (hb3.mono hbw2.size)⟩
      · have hr0 : checkRim k l = 0 := by omega
        have HR := hid hr0
        obtain ⟨-, hn1, hlb⟩ := rim_good hr0
        rw [Hll.out] at hn1
        obtain ⟨b, off, rfl, lb, -⟩ := hl.2 (by omega)
        have Hlb := hid hlb
        obtain ⟨rv, hrv⟩ : ∃ rv : Int, (if stD k t l then (0 : Int) else 14) = rv := ⟨_, rfl⟩
        have Hrv := hid hrv
        have he : Hid (chkR k t l = rv) := hid (by rw [hch0.out, if_neg (by rw [Hll.out]; simp), if_neg (by omega), hrv])
        clear hr hr0 hlb hrv hl hch0
        go_enter Try.func45, Try.ntmps45
        go_wp2_with (first | (go_at_call 84; refine (rowed_any _ _ _).mono ?_; rw [HE.out]; rintro e W1 ⟨rfl, hb1⟩) | (go_at_call 74; refine (HPw.out _).mono ?_; rintro e W2 ⟨rfl, hb2⟩; have hbw2 := hb1.trans (hb2.mono hb1.size)) | (go_at_call 58; refine (open_ok _ _ n c l _ (HL.out.below hbw2 hbw2.size) HR.out).mono ?_; rintro e W3 ⟨g, rfl, hg, hR, hb3⟩; have hbw3 := hbw2.trans (hb3.mono hbw2.size)) | (go_at_call 86; refine (rowR_any g k t b off n c l _ hR (by have := hbw3.size; omega) hc (by omega) (by omega) (by omega) (by omega) (by omega) (by omega) Hp.out Hlb.out).mono ?_; rw [Hrv.out]; rintro e W4 ⟨rfl, hb4⟩))
        refine bodyPost_ret (v := .int .i64 rv) (by first | (simp [results, Try.results45, go_sem]; done) | (simp [results, Try.results45, go_sem, *]; done) | (simp [results, Try.results45, go_sem, World.cell?_setCell_same', *]; done) | (simp [results, Try.results45, go_sem]; first | exact ⟨rfl, rfl⟩ | rfl)) rfl ⟨by rw [he.out], hbw3.trans (hb4.mono hbw3.size)⟩
    · have he : Hid (chkR k t l = 15) := hid (by rw [hch0.out, if_pos (by rw [Hll.out]; omega)])
      have t2 : ((n : Int) != (p : Int)) = true := by simp; omega
      clear hnp hl
      go_enter Try.func45, Try.ntmps45
      go_wp2_with (first | (go_at_call 84; refine (rowed_any _ _ _).mono ?_; rw [HE.out]; rintro e W1 ⟨rfl, hb1⟩) | (go_at_call 74; refine (HPw.out _).mono ?_; rintro e W2 ⟨rfl, hb2⟩; have hbw2 := hb1.trans (hb2.mono hb1.size)))
      refine bodyPost_ret (v := .int .i64 15) (by first | (simp [results, Try.results45, go_sem]; done) | (simp [results, Try.results45, go_sem, *]; done) | (simp [results, Try.results45, go_sem, World.cell?_setCell_same', *]; done) | (simp [results, Try.results45, go_sem]; first | exact ⟨rfl, rfl⟩ | rfl)) rfl ⟨by rw [he.out], hbw2⟩
end Go.Proofs.Ytiobmfggnacplaa
/- The law's least. -/
namespace Go.Proofs.Ytiobmfggnacplaa
open Go.RowKit
attribute [local go_sem] Oper.semAt_some
set_option maxRecDepth 10000 in
set_option maxHeartbeats 4000000 in
theorem lawLeast_any (K : Int) (A : Option Addr) (n c : Nat) (l : List Int) (w : World) (hl : InS w w.heap.size A n l) (hn : n ≤ 90) (hc : n ≤ c) :
    Calls Try.prog 48 #[.int .i64 K, .slice A n c] w fun e w' => ∃ A' m c', e = .returned (.tuple #[.slice A' m c', .int .i64 (leastK K l : Nat), .bool (decide (checkRim K l = 0))]) ∧ Ret w' A' m c' (leastV K l) ∧ Below w.heap.size w w' := by
  have HL := hid hl
  have Hll := hid hl.len
  clear hl
  by_cases hbad : checkRim K l ≠ 0
  · obtain ⟨E, hE⟩ : ∃ E, checkRim K l = E := ⟨_, rfl⟩
    have HE := hid hE
    have hv : Hid (leastV K l = []) := hid (if_neg hbad)
    have hk : Hid (leastK K l = 0) := hid (if_neg hbad)
    have hd : Hid (decide (checkRim K l = 0) = false) := hid (decide_eq_false hbad)
    rw [hE] at hbad
    have t1 : (E != 0) = true := by simpa using hbad
    clear hE hbad
    go_enter Try.func48, Try.ntmps48
    go_wp2_with (go_at_call 21; refine (leastP_any K A n c l _ HL.out hn hc).mono ?_; rw [HE.out]; rintro e W1 ⟨A1, m1, c1, rfl, hr1, hb1⟩)
    refine bodyPost_ret (v := .tuple #[.slice none 0 0, .int .i64 0, .bool false]) (by first | (simp [results, Try.results48, go_sem]; done) | (simp [results, Try.results48, go_sem, *]; done) | (simp [results, Try.results48, go_sem, World.cell?_setCell_same', *]; done) | (simp [results, Try.results48, go_sem]; first | exact ⟨rfl, rfl⟩ | rfl)) rfl ⟨none, 0, 0, by rw [hk.out, hd.out]; rfl, by rw [hv.out]; exact Ret.nil _, hb1⟩
  · have hE : checkRim K l = 0 := by omega
    have HE := hid hE
    have h64 := (rim_good hE).2.1
    rw [Hll.out] at h64
    have hv : Hid (leastV K l = least l) := hid (if_pos hE)
    have hk : Hid (leastK K l = lstart l) := hid (if_pos hE)
    have hd : Hid (decide (checkRim K l = 0) = true) := hid (decide_eq_true hE)
    have hs : lstart l < n := by rw [← Hll.out]; exact lstart_lt (by rw [Hll.out]; omega)
    obtain ⟨s, hse⟩ : ∃ s, lstart l = s := ⟨_, rfl⟩
    have Hle : Hid (least l = rot l s) := hid (by unfold least; rw [hse])
    rw [hse] at hs hk
    clear hE hbad hse
    have hsi : (s : Int) < n := by omega
    have hs0 : ¬ (s : Int) < 0 := by omega
    go_enter Try.func48, Try.ntmps48
    go_wp2_with (fail)
    refine (leastP_any K A n c l _ HL.out hn hc).mono ?_
    rw [HE.out, hk.out, hv.out, Hle.out]
    rintro e W1 ⟨A1, m1, c1, rfl, hr1, hb1⟩
    have hz1 := hb1.size
    have hm1 : m1 = n := by have := hr1.1.len; rw [rot_len, Hll.out] at this; exact this.symm
    have Hm1 := hid hm1
    have HR1 := hid hr1
    clear hr1 hm1
    have heq : Hid (eqI (rot l s) (rot l s) = true) := hid (eqI_t.2 rfl)
    have hm9 : m1 ≤ 1000000 := by have := Hm1.out; omega
    go_wp2_with (first | (go_at_call 49; refine (turnOf_any A n c l s _ (HL.out.below hb1 hz1) (by omega) (by omega)).mono ?_; rintro e W2 ⟨v2, rfl, ho2, hb2⟩; obtain ⟨A2, c2, rfl, hs2⟩ := sl_of_owns ho2; have HS2 := hid (show InS W2 W2.heap.size A2 n (rot l s) from hs2); clear ho2 hs2) | (go_at_call 27; refine (ints_any _ A1 A2 m1 c1 n c2 (rot l s) (rot l s) (HR1.out.1.below hb2 hb2.size) HS2.out hm9).mono ?_; rw [heq.out]; rintro e W3 ⟨rfl, hb3⟩))
    have hbw := hb1.trans ((hb2.mono hz1).trans (hb3.mono (Nat.le_trans hz1 hb2.size)))
    refine bodyPost_ret (v := .tuple #[.slice A1 m1 c1, .int .i64 (s : Int), .bool true]) (by first | (simp [results, Try.results48, go_sem]; done) | (simp [results, Try.results48, go_sem, *]; done) | (simp [results, Try.results48, go_sem, World.cell?_setCell_same', *]; done) | (simp [results, Try.results48, go_sem]; first | exact ⟨rfl, rfl⟩ | rfl)) rfl ⟨A1, m1, c1, by rw [hk.out, hd.out], ?_, hbw⟩
    rw [hv.out, Hle.out]
    exact ⟨(HR1.out.1.below hb2 hb2.size).below hb3 hb3.size, HR1.out.2⟩
end Go.Proofs.Ytiobmfggnacplaa
/- Walks: the law's Kinds, Given, of, r, s. -/
namespace Go.Proofs.Ytiobmfggnacplaa
open Go.RowKit
attribute [local go_sem] Oper.semAt_some
theorem kindsF_any (x : Nat) (w : World) (hx : x < 256) : Calls Try.prog 51 #[.int .u8 (x : Int)] w fun e w' => e = .returned (.int .i64 ((1 + x % 4 : Nat) : Int)) ∧ w = w' := by
  obtain ⟨y, hy⟩ : ∃ y, x % 4 = y := ⟨_, rfl⟩
  have hti : Int.tmod (x : Int) 4 = (y : Int) := by rw [← hy]; exact (Int.ofNat_tmod x 4).symm
  have hyl : y < 4 := by rw [← hy]; exact Nat.mod_lt _ (by omega)
  have z0 : IntKind.i64.wrap (x : Int) = (x : Int) := IntWalk.i64_in _ (by omega)
  rw [hy]
  clear hy
  go_enter Try.func51, Try.ntmps51
  go_wp2
  refine bodyPost_ret (v := .int .i64 (1 + (y : Int))) (by first | (simp [results, Try.results51, go_sem]; done) | (simp [results, Try.results51, go_sem, *]; done) | (simp [results, Try.results51, go_sem, World.cell?_setCell_same', *]; done) | (simp [results, Try.results51, go_sem]; first | exact ⟨rfl, rfl⟩ | rfl)) rfl ⟨by push_cast; rfl, rfl⟩
theorem of_any (A : Option Addr) (n c : Nat) (w : World) : Calls Try.prog 57 #[.slice A n c] w fun e w' => e = .returned (.slice A n c) ∧ w = w' := by
  go_enter Try.func57, Try.ntmps57
  go_wp2
  refine bodyPost_ret (v := .slice A n c) (by first | (simp [results, Try.results57, go_sem]; done) | (simp [results, Try.results57, go_sem, *]; done) | (simp [results, Try.results57, go_sem, World.cell?_setCell_same', *]; done) | (simp [results, Try.results57, go_sem]; first | exact ⟨rfl, rfl⟩ | rfl)) rfl ⟨rfl, rfl⟩
theorem r_any (w : World) : Calls Try.prog 55 #[] w fun e w' => ∃ A, e = .returned (.slice A 5 5) ∧ InS w' w'.heap.size A 5 [1, 0, 1, 0, 0] ∧ Below w.heap.size w w' := by
  go_enter Try.func55, Try.ntmps55
  go_wp2_with (go_at_call 57; refine (of_any _ _ _ _).mono ?_; rintro e w1 ⟨rfl, rfl⟩)
  obtain ⟨W3, hW3⟩ : ∃ W3, (w.alloc (.cells #[.int .i64 1, .int .i64 0, .int .i64 1, .int .i64 0, .int .i64 0] 3)) = W3 := ⟨_, rfl⟩
  have b1 : Blk W3 w.heap.size 3 ([1, 0, 1, 0, 0].flatMap cI).toArray := by rw [← hW3]; exact Blk.new' rfl
  have hb : Below w.heap.size w W3 := by rw [← hW3]; exact (Below.refl _ _).alloc (Nat.le_refl _) _
  rw [hW3]
  refine bodyPost_ret (v := .slice (some ⟨w.heap.size, 0, none⟩) 5 5) (by first | (simp [results, Try.results55, go_sem]; done) | (simp [results, Try.results55, go_sem, *]; done) | (simp [results, Try.results55, go_sem, World.cell?_setCell_same', *]; done) | (simp [results, Try.results55, go_sem]; first | exact ⟨rfl, rfl⟩ | rfl)) rfl ⟨_, rfl, ins_blk b1 b1.lt, hb⟩
theorem s_any (w : World) : Calls Try.prog 56 #[] w fun e w' => ∃ A, e = .returned (.slice A 4 4) ∧ InS w' w'.heap.size A 4 [0, 1, 0, 1] ∧ Below w.heap.size w w' := by
  go_enter Try.func56, Try.ntmps56
  go_wp2_with (go_at_call 57; refine (of_any _ _ _ _).mono ?_; rintro e w1 ⟨rfl, rfl⟩)
  obtain ⟨W3, hW3⟩ : ∃ W3, (w.alloc (.cells #[.int .i64 0, .int .i64 1, .int .i64 0, .int .i64 1] 3)) = W3 := ⟨_, rfl⟩
  have b1 : Blk W3 w.heap.size 3 ([0, 1, 0, 1].flatMap cI).toArray := by rw [← hW3]; exact Blk.new' rfl
  have hb : Below w.heap.size w W3 := by rw [← hW3]; exact (Below.refl _ _).alloc (Nat.le_refl _) _
  rw [hW3]
  refine bodyPost_ret (v := .slice (some ⟨w.heap.size, 0, none⟩) 4 4) (by first | (simp [results, Try.results56, go_sem]; done) | (simp [results, Try.results56, go_sem, *]; done) | (simp [results, Try.results56, go_sem, World.cell?_setCell_same', *]; done) | (simp [results, Try.results56, go_sem]; first | exact ⟨rfl, rfl⟩ | rfl)) rfl ⟨_, rfl, ins_blk b1 b1.lt, hb⟩
end Go.Proofs.Ytiobmfggnacplaa
