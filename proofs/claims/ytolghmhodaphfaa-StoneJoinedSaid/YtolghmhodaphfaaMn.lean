/- Texts of the proof, laid together by program. -/
import Derived.Test.YtolghmhodaphfaaMm
import Derived.Test.YtolghmhodaphfaaMh
/- Walks: the reference's ways. -/
namespace Go.Proofs.Ytolghmhodaphfaa
open Go.RowKit
attribute [local go_sem] Oper.semAt_some field95 field95'
set_option maxRecDepth 100000 in
set_option maxHeartbeats 2000000 in
theorem waysOf_any (w : World) (A : Option Addr) (n c : Nat) (ks : List Kd) (p : Int) (hk : KdS w w.heap.size A n ks) (h0 : checkSet ks = 0) (hp : p = 1 ∨ p = 2) :
    Calls Try.prog 77 #[.slice A n c, .int .i64 p] w fun e w' => (∃ B c', e = .returned (.slice (some B) ((sumOf ks).toNat + 1) c') ∧ InS w' w'.heap.size (some B) ((sumOf ks).toNat + 1) (rowOf ((sumOf ks).toNat + 1) (ways p ks))) ∧ Below w.heap.size w w' := by
  obtain ⟨h1, h2, h3, h4, h5⟩ := checkSet_good h0
  have hlen := hk.len
  have hsm := hid (fun k (hk : k ∈ ks) => smallK_of (List.all_eq_true.1 h3 k hk))
  have hs0 := sumOf_nonneg h3
  obtain ⟨S, hS⟩ : ∃ S : Nat, sumOf ks = S := ⟨(sumOf ks).toNat, by omega⟩
  rw [hS, Int.toNat_natCast]
  have HS := hid hS
  have hS3 : S ≤ 300 := by omega
  have hn8 : n ≤ 8 := by omega
  have z1 : IntKind.i64.wrap (301 + (S : Int)) = 301 + (S : Int) := wrap_ok (by omega)
  clear h1 h2 h3 h4 h5 hs0 hS
  have HK := hid hk
  clear hk
  go_enter Try.func77, Try.ntmps77
  go_wp2
  refine Sx.wp_region_elQ (fun W => Below w.heap.size w W) (fun a W => ∃ gW gF rW l14 c14 : Nat, a = { tmps := #[.slice A n c, .int .i64 p, undef, undef, .slice (some ⟨rW, 300, none⟩) l14 c14, .slice A n c, .int .i64 p, .agg #[.slice (some ⟨gW, 0, none⟩) (n + 1) (n + 1), .slice (some ⟨gF, 0, none⟩) (n + 1) (n + 1)], .slice (some ⟨gW, 0, none⟩) (n + 1) (n + 1), .pointer (some ⟨gW, 0, none⟩), .slice (some ⟨rW, 0, none⟩) 601 601, .slice A n c, .int .i64 S, .int .i64 (301 + (S : Int)), .slice (some ⟨rW, 300, none⟩) l14 c14], defers := [] } ∧ Hid (l14 = S + 1) ∧ Blk W rW 2 (rowC (wvT p ks))) (hSb w) [0, 1, 6] 8 (by kernel_rfl) (by kernel_rfl) ?_ ?_ ?_
  · exact (by repeat' (first | with_reducible assumption | with_reducible exact Below.refl _ _ | refine Below.alloc ?_ ?_ _ | refine Below.setCell ?_ ?_ _ | refine Below.drew ?_ | refine below_drewN ?_ _ | (simp; done) | (simp; omega) | omega))
  · simp only [pick, List.getElem?_toArray, List.getElem?_cons_zero, List.getElem?_cons_succ]
    iterate 3 (refine Sx.wpE_val (v := ?_) (by rfl) (fun W hW => ?_) ?_; rotate_left; (· go_simp; with_reducible rfl); simp only [Act.put, List.setIfInBounds_toArray, List.set_cons_zero, List.set_cons_succ])
    simp only [Sx.wpE]
    (refine Sx.wpM_one 2 _ (by simp only [List.getElem?_toArray, List.getElem?_cons_zero, List.getElem?_cons_succ]; rfl) (by kernel_rfl) (by rfl) ?_)
    intro X hX hS
    (go_simp; simp only [LUpon, Act.put]; try simp only [List.setIfInBounds_toArray, List.set_cons_zero, List.set_cons_succ])
    refine (tabled_any X A n c ks p (HK.out.below hS hS.size) h0 hp).mono ?_
    rintro e X1 ⟨gW, gF, rfl, hT, hb1⟩
    refine ⟨_, rfl, hS.trans (hb1.mono hS.size), ?_⟩
    obtain ⟨rW, rF, k1, k2, k3, k4, k5, k6, k7, k8⟩ := hT.row (Nat.zero_le n)
    have hS1 : Below w.heap.size w X1 := hS.trans (hb1.mono hS.size)
    have hsz1 := hS1.size
    refine Sx.wpM_narrow (S' := fun W => Below w.heap.size w W ∧ Below X1.heap.size X1 W) (fun W W' h he => ⟨h.1.trans (he.mono h.1.size), h.2.trans (he.mono h.2.size)⟩) (fun W h => h.1) _ _ _ _ ⟨hS1, Below.refl _ _⟩ ?_
    refine Sx.wpM_early (fun W W' h he => ⟨h.1.trans (he.mono h.1.size), h.2.trans (he.mono h.2.size)⟩) (by kernel_rfl) [3, 4, 5, 7, 8, 9, 10] 0 _ _ (by kernel_rfl) ?_
    simp only [pick, List.getElem?_toArray, List.getElem?_cons_zero, List.getElem?_cons_succ]
    have hn1 : (0 : Int) < n + 1 := by omega
    iterate 3 (refine Sx.wpE_val (v := ?_) (by rfl) (fun W hW => ?_) ?_; rotate_left; (· have c0 := ((bcell hW.2).1 gW 0 k5).trans k3; have l0 : gW < W.heap.size := Nat.lt_of_lt_of_le k5 hW.2.size; go_simp; with_reducible rfl); simp only [Act.put, List.setIfInBounds_toArray, List.set_cons_zero, List.set_cons_succ])
    refine Sx.wpE_call (f := 55) (args := #[.slice A n c]) (v := .int .i64 (sumOf ks)) (by rfl) (fun W hW => refSum_any W A n c ks (HK.out.below hW.1 hW.1.size) (by omega) hsm.out) (fun W hW => by go_simp) ?_
    rw [HS.out]
    simp only [Act.put, List.setIfInBounds_toArray, List.set_cons_zero, List.set_cons_succ]
    have y1 : (301 + (S : Int)).toNat = S + 301 := by omega
    have y2 : (301 + (S : Int)) ≤ 601 := by omega
    have y3 : (300 : Int) ≤ 301 + (S : Int) := by omega
    have y4 : 0 ≤ 301 + (S : Int) := by omega
    iterate 3 (refine Sx.wpE_val (v := ?_) (by rfl) (fun W hW => ?_) ?_; rotate_left; (· go_simp; with_reducible rfl); simp only [Act.put, List.setIfInBounds_toArray, List.set_cons_zero, List.set_cons_succ])
    simp only [Sx.wpE]
    refine Sx.wpM_end (by kernel_rfl) ?_
    intro Y hY hSY
    exact ⟨gW, gF, rW, S + 1, ⟨301, rfl⟩, hid rfl, k7.below hSY.2 k1⟩
  · rintro a W hS ⟨gW, gF, rW, l14, c14, rfl, hl14, hb⟩
    obtain rfl := hl14.out
    have hin : Hid (InS W W.heap.size (some ⟨rW, 300, none⟩) (S + 1) (rowOf (S + 1) (ways p ks))) := hid ⟨by rw [flatI_len', rowOf_len, Nat.mul_one], fun _ => ⟨rW, 300, rfl, hb.lt, fun j u hu => by
      rw [hb.cell]
      unfold rowC
      rw [List.getElem?_toArray, flatI_get]
      rw [flatI_get] at hu
      rcases Nat.lt_or_ge j (S + 1) with h | h
      · rw [rowOf_at h] at hu
        rw [rowOf_at (by omega), ← hu]
        unfold wvT
        rw [show ((300 + j : Nat) : Int) - 300 = j by omega]
      · rw [rowOf_far h] at hu; cases hu⟩⟩
    go_wp2
    refine bodyPost_ret (v := .slice (some ⟨rW, 300, none⟩) (S + 1) c14) (by first | (simp [results, Try.results77, go_sem]; done) | (simp [results, Try.results77, go_sem, *]; done) | (simp [results, Try.results77, go_sem, World.cell?_setCell_same', *]; done) | (simp [results, Try.results77, go_sem]; first | exact ⟨rfl, rfl⟩ | rfl)) rfl ⟨⟨_, ⟨_, rfl⟩, hin.out⟩, hS⟩
end Go.Proofs.Ytolghmhodaphfaa
/- Walks: the reference's Weighs, UptoOf, Upto, Gap, CheckPerfect. -/
namespace Go.Proofs.Ytolghmhodaphfaa
open Go.RowKit
attribute [local go_sem] Oper.semAt_some
theorem gap_first {p : Int} {ks : List Kd} {S : Nat} (hS : (sumOf ks).toNat = S) {k : Nat} (hk : k ≤ S) (h0 : ways p ks k = 0) (hb : ∀ j, j < k → 0 < ways p ks (j : Nat)) : gapZ p ks = k := by
  refine (first_eq (.inl ⟨k, rfl, ⟨0, ?_, rfl⟩, ?_⟩)).symm
  · unfold rowW; rw [hS, rowOf_at (by omega), h0]
  · rw [List.all_eq_true]
    intro x hx
    obtain ⟨j, hj, rfl⟩ := List.mem_take_iff_getElem.1 hx
    have h := rowOf_at (L := S + 1) (f := ways p ks) (t := j) (by omega)
    unfold rowW
    simp only [hS]
    rw [List.getElem?_eq_getElem (by rw [rowOf_len]; omega)] at h
    have h2 : (rowOf (S + 1) (ways p ks))[j]'(by rw [rowOf_len]; omega) = ways p ks j := by simpa using h
    rw [h2]
    have := hb j (by omega)
    simp; omega
theorem gap_none {p : Int} {ks : List Kd} {S : Nat} (hS : (sumOf ks).toNat = S) (hb : ∀ j, j ≤ S → 0 < ways p ks (j : Nat)) : gapZ p ks = -1 := by
  refine (first_eq (.inr ⟨rfl, ?_⟩)).symm
  rw [List.all_eq_true]
  intro x hx
  unfold rowW rowOf at hx
  obtain ⟨j, hj, rfl⟩ := List.mem_map.1 hx
  rw [hS] at hj
  have := hb j (by have := List.mem_range.1 hj; omega)
  simp; omega
theorem lay_zero {p : Int} (hp : p = 1 ∨ p = 2) : ∀ {ks : List Kd}, ks.all okK = true → LayOk p ks (ks.map fun _ => 0) ∧ weighs ks (ks.map fun _ => 0) = 0
  | [], _ => ⟨trivial, rfl⟩
  | k :: ks, h => by
    simp only [List.all_cons, Bool.and_eq_true] at h
    have hk := okK_t.1 h.1
    obtain ⟨h1, h2⟩ := lay_zero hp h.2
    refine ⟨⟨?_, ?_, h1⟩, ?_⟩
    · show leastK p k ≤ 0
      unfold leastK; rcases hp with rfl | rfl <;> omega
    · show (0 : Int) ≤ k.many
      omega
    · show k.wt * 0 + weighs ks (ks.map fun _ => 0) = 0
      rw [h2]; omega
theorem ways_zero {p : Int} {ks : List Kd} (hp : p = 1 ∨ p = 2) (h : ks.all okK = true) : 0 < ways p ks 0 := ways_lay.2 ⟨_, (lay_zero hp h).1, (lay_zero hp h).2⟩
theorem sum_pos {ks : List Kd} (h0 : checkSet ks = 0) : 1 ≤ sumOf ks := by
  obtain ⟨h1, -, h3, -, -⟩ := checkSet_good h0
  cases ks with
  | nil => simp at h1
  | cons k ks =>
    simp only [List.all_cons, Bool.and_eq_true] at h3
    have a1 := okK_t.1 h3.1
    have a2 := sumOf_nonneg h3.2
    have a3 : 1 * 1 ≤ k.wt * k.many := Int.mul_le_mul a1.1 a1.2.2.1 (by omega) (by omega)
    rw [(mem_sum ks).2]
    omega
set_option maxRecDepth 10000 in
set_option maxHeartbeats 800000 in
theorem refWeighs_any (w : World) (A : Option Addr) (n c : Nat) (ks : List Kd) (p : Int) (hk : KdS w w.heap.size A n ks) (hn : n ≤ 12) :
    Calls Try.prog 25 #[.slice A n c, .int .i64 p] w fun e w' => ∃ A' m c', e = .returned (.tuple #[.slice A' m c', .int .i64 (openE ks p)]) ∧ InS w' w'.heap.size A' m (weighsL p ks) ∧ Below w.heap.size w w' := by
  obtain ⟨i0, hi0, hi1, hi2, hi3⟩ := info_parts' info2
  have I0 := hid hi0; have I1 := hid hi1; have I2 := hid hi2; have I3 := hid hi3
  clear hi0 hi1 hi2 hi3
  cases he : (openE ks p != 0)
  · have he0 : openE ks p = 0 := by simpa using he
    obtain ⟨hs, hp⟩ := openE_zero he0
    obtain ⟨-, -, h3, -, h5⟩ := checkSet_good hs
    have hS0 := sumOf_nonneg h3
    have hE := hid he0
    have HP := hid hp
    have hs' := hid hs
    obtain ⟨S, hS⟩ : ∃ S : Nat, (sumOf ks).toNat = S := ⟨_, rfl⟩
    have hSb : S ≤ 300 := by omega
    have HS := hid hS
    have hw0 : Hid (∀ x, 0 ≤ ways p ks x) := hid (ways_nonneg p ks)
    have hWL : Hid (weighsL p ks = wl p ks (S + 1)) := hid (by unfold weighsL; rw [if_pos he0, hS])
    have h10 : Hid (wl p ks 1 = []) := hid (wl_out (k := 0) (.inl rfl))
    clear he he0 hs hp h3
    go_enter Try.func25, Try.ntmps25
    go_wp2_with (first | (go_at_call 69; refine (panned_any _ A n c ks p hk hn).mono ?_; rw [hE.out]; rintro e w1 ⟨rfl, hb1⟩; have hz1 := hb1.size) | (go_at_call 77; refine (waysOf_any _ A n c ks p (hk.below hb1 hz1) hs'.out HP.out).mono ?_; rintro e w2 ⟨⟨B, c', rfl, hB⟩, hb2⟩; rw [HS.out] at hB ⊢; have hz2 := hb2.size))
    obtain ⟨b, off, x0, hBe, -⟩ := hB.at_ (k := 0) (by omega)
    cases hBe
    have hb12 : Below w.heap.size w w2 := hb1.trans (hb2.mono hz1)
    go_loopw [7, 8] (fun v i wr => ∃ k : Nat, 1 ≤ k ∧ k ≤ S + 1 ∧ i = .int .i64 k ∧ Below w.heap.size w wr ∧ Below w2.heap.size w2 wr ∧ Hid (wr.ownsRow w2.heap.size 2 1 v (wl p ks k).length ((wl p ks k).flatMap cI))) (fun _ i _ => S + 1 - (intOf i).toNat)
    case atStart => exact ⟨1, by omega, by omega, rfl, hb12, Below.refl _ _, hid (by rw [h10.out]; exact World.ownsRow_nil _ _ _ _)⟩
    case round =>
      obtain ⟨k, hk1, hk2, rfl, hbw, hb2w, hown⟩ := hrel
      have hszw := hbw.size
      have hsz2 := hb2w.size
      by_cases hlt : k < S + 1
      · obtain ⟨b, off, x, hBe, hb, hm, c0⟩ := (hB.below hb2w (Nat.le_refl _)).at_ hlt
        cases hBe
        have hx : x = ways p ks k := by rw [rowOf_at hlt] at hm; simpa using hm.symm
        have Hx := hid hx
        have hx0 : 0 ≤ x := by rw [hx]; exact hw0.out _
        have hlti : (k : Int) < S + 1 := by omega
        have hwl := wl_len p ks k
        clear hm hx
        by_cases hpos : 0 < x
        · have d2 : decide (0 < x) = true := decide_eq_true hpos
          have hin := hid (wl_in (by omega) (by rw [← Hx.out]; exact hpos) : wl p ks (k + 1) = _)
          obtain ⟨L, hL⟩ : ∃ L, wl p ks k = L := ⟨_, rfl⟩
          obtain ⟨ln, hln⟩ : ∃ ln, L.length = ln := ⟨_, rfl⟩
          rw [hL, hln] at hown
          rw [hL] at hin hwl
          rw [hln] at hwl
          have HL := hid hL
          have HLn := hid hln
          clear hL hln
          go_wp2_with (first | (at_builtin; refine wpList_append_own _ rfl _ _ 23 rfl w2.heap.size 2 i0 _ 1 8 under23 I0.out I1.out I2.out I3.out rfl (by decide) _ ln _ rfl (hown.out.alloc (.cells #[.int .i64 (k : Int)] 2)) ⟨wr.heap.size, 0, none⟩ 1 1 [.int .i64 (k : Int)] rfl rfl (fun j u hj => World.news_of_block (Blk.new' (by simp)) j u hj) (one1 _) (by unfold maxLen; omega) (by omega) (by simp; omega) ?_; intro v' w3 ho3 hg3 hv3))
          have hb3 : Below w2.heap.size w2 w3 := (hb2w.alloc hsz2 _).grown hg3 (by simp; omega) (fun r hr => (World.ownsRow.lt hown.out r hr).1)
          exact ⟨⟨k + 1, by omega, by omega, by go_num, hb12.trans (hb3.mono hb12.size), hb3, hid (by rw [hin.out, List.length_append, HLn.out, List.flatMap_append]; exact ho3)⟩, by simp [intOf]; omega⟩
        · have hout := hid (wl_out (p := p) (ks := ks) (k := k) (.inr (by rw [← Hx.out]; omega)))
          go_wp2
          exact ⟨⟨k + 1, by omega, by omega, by go_num, hbw, hb2w, by rw [hout.out]; exact hown⟩, by simp [intOf]; omega⟩
      · obtain rfl : k = S + 1 := by omega
        have hnot : ¬ ((S + 1 : Nat) : Int) < (S : Int) + 1 := by omega
        obtain ⟨L, hL⟩ : ∃ L, wl p ks (S + 1) = L := ⟨_, rfl⟩
        rw [hL] at hown
        have HL := hid hL
        obtain ⟨A9, c9, hv9, hs9⟩ := sl_of_owns hown.out
        subst hv9
        have HS9 := hid hs9
        clear hs9 hL
        go_wp2
        refine bodyPost_ret (v := .tuple #[.slice A9 L.length c9, .int .i64 0]) (by first | (simp [results, Try.results25, go_sem]; done) | (simp [results, Try.results25, go_sem, *]; done) | (simp [results, Try.results25, go_sem, World.cell?_setCell_same', *]; done) | (simp [results, Try.results25, go_sem]; first | exact ⟨rfl, rfl⟩ | rfl)) rfl ⟨A9, L.length, ⟨c9, by rw [hE.out]⟩, by rw [hWL.out, HL.out]; exact HS9.out, hbw⟩
  · have he0 : openE ks p ≠ 0 := by simpa using he
    have hWL : Hid (weighsL p ks = []) := hid (if_neg he0)
    go_enter Try.func25, Try.ntmps25
    go_wp2_with (first | (have hq := hb1; clear hq; go_at_call 69; refine (panned_any _ A n c ks p (hk.below hb1 hz1) hn).mono ?_; rintro e w2 ⟨rfl, hb2⟩) | (go_at_call 69; refine (panned_any _ A n c ks p hk hn).mono ?_; rintro e w1 ⟨rfl, hb1⟩; have hz1 := hb1.size))
    refine bodyPost_ret (v := .tuple #[.slice none 0 0, .int .i64 (openE ks p)]) (by first | (simp [results, Try.results25, go_sem]; done) | (simp [results, Try.results25, go_sem, *]; done) | (simp [results, Try.results25, go_sem, World.cell?_setCell_same', *]; done) | (simp [results, Try.results25, go_sem]; first | exact ⟨rfl, rfl⟩ | rfl)) rfl ⟨none, 0, 0, rfl, by rw [hWL.out]; exact Sl.none_, hb1.trans (hb2.mono hz1)⟩
set_option maxRecDepth 10000 in
set_option maxHeartbeats 800000 in
theorem uptoOf_any (w : World) (A : Option Addr) (n c : Nat) (ks : List Kd) (p : Int) (hk : KdS w w.heap.size A n ks) (h0 : checkSet ks = 0) (hp : p = 1 ∨ p = 2) :
    Calls Try.prog 78 #[.slice A n c, .int .i64 p] w fun e w' => e = .returned (.int .i64 (uptoV p ks)) ∧ Below w.heap.size w w' := by
  obtain ⟨-, -, h3, -, h5⟩ := checkSet_good h0
  have hS0 := sumOf_nonneg h3
  have hE : Hid (openE ks p = 0) := hid (openE_ok h0 (by rcases hp with rfl | rfl <;> rfl))
  obtain ⟨S, hS⟩ : ∃ S : Nat, (sumOf ks).toNat = S := ⟨_, rfl⟩
  have hSb : S ≤ 300 := by omega
  have hSe : Hid (sumOf ks = S) := hid (by omega)
  have HS := hid hS
  have hw0 : Hid (∀ x, 0 ≤ ways p ks x) := hid (ways_nonneg p ks)
  have hz0 := hid (ways_zero hp h3)
  have hfin : Hid (∀ k : Nat, k ≤ S → (∀ j, j ≤ k → 0 < ways p ks (j : Nat)) → (k < S → ways p ks ((k + 1 : Nat) : Int) = 0) → uptoV p ks = k) := hid (fun k h1 h2 h3 => by
    unfold uptoV
    rw [if_neg (by rw [hE.out]; simp)]
    rcases Nat.lt_or_ge k S with h | h
    · rw [gap_first hS (k := k + 1) (by omega) (h3 h) (fun j hj => h2 j (by omega)), if_pos (by omega)]
      omega
    · rw [gap_none hS (fun j hj => h2 j (by omega)), if_neg (by omega)]
      omega)
  have H0 := hid h0
  have HP := hid hp
  clear h0 hp h3 hS
  go_enter Try.func78, Try.ntmps78
  go_wp2_with (first | (go_at_call 77; refine (waysOf_any _ A n c ks p hk H0.out HP.out).mono ?_; rintro e w2 ⟨⟨B, c', rfl, hB⟩, hb2⟩; rw [HS.out] at hB ⊢; have hz2 := hb2.size))
  obtain ⟨b, off, x0, hBe, -⟩ := hB.at_ (k := 0) (by omega)
  cases hBe
  go_loopw [6] (fun i wr => ∃ k : Nat, k ≤ S ∧ i = .int .i64 k ∧ Hid (∀ j, j ≤ k → 0 < ways p ks (j : Nat)) ∧ w2 = wr) (fun i _ => S + 1 - (intOf i).toNat)
  case atStart => exact ⟨0, by omega, rfl, hid (by intro j hj; obtain rfl : j = 0 := (by omega); exact hz0.out), rfl⟩
  case round =>
    obtain ⟨k, hk2, rfl, hall, rfl⟩ := hrel
    have z1 : IntKind.i64.wrap ((k : Int) + 1) = (k : Int) + 1 := wrap_ok (by omega)
    by_cases hlt : k < S
    · obtain ⟨b, off, x, hBe, hb, hm, c0⟩ := hB.at_ (k := k + 1) (by omega)
      cases hBe
      have hx : x = ways p ks ((k + 1 : Nat) : Int) := by rw [rowOf_at (by omega)] at hm; simpa using hm.symm
      have Hx := hid hx
      have hx0 : 0 ≤ x := by rw [hx]; exact hw0.out _
      have hlti : (k : Int) + 1 < S + 1 := by omega
      have d1 : decide ((k : Int) + 1 < S + 1) = true := decide_eq_true hlti
      have n1 : ((k : Int) + 1).toNat = k + 1 := by omega
      have n2 : (0 : Int) ≤ (k : Int) + 1 := by omega
      clear hm hx
      by_cases hpos : 0 < x
      · have d2 : decide (0 < x) = true := decide_eq_true hpos
        go_wp2
        refine ⟨⟨k + 1, by omega, by go_num, hid (fun j hj => ?_), trivial⟩, by simp [intOf]; omega⟩
        rcases Nat.lt_or_ge j (k + 1) with h | h
        · exact hall.out j (by omega)
        · obtain rfl : j = k + 1 := by omega
          rw [← Hx.out]; exact hpos
      · have d2 : decide (0 < x) = false := decide_eq_false hpos
        have hf := hid (hfin.out k hk2 hall.out (fun _ => by rw [← Hx.out]; omega))
        go_wp2
        refine bodyPost_ret (v := .int .i64 k) (by first | (simp [results, Try.results78, go_sem]; done) | (simp [results, Try.results78, go_sem, *]; done) | (simp [results, Try.results78, go_sem, World.cell?_setCell_same', *]; done) | (simp [results, Try.results78, go_sem]; first | exact ⟨rfl, rfl⟩ | rfl)) rfl ⟨by rw [hf.out], hb2⟩
    · obtain rfl : k = S := by omega
      have hnot : ¬ (k : Int) + 1 < (k : Int) + 1 := by omega
      have d1 : decide ((k : Int) + 1 < (k : Int) + 1) = false := decide_eq_false hnot
      have hf := hid (hfin.out k hk2 hall.out (fun h => by omega))
      go_wp2
      refine bodyPost_ret (v := .int .i64 k) (by first | (simp [results, Try.results78, go_sem]; done) | (simp [results, Try.results78, go_sem, *]; done) | (simp [results, Try.results78, go_sem, World.cell?_setCell_same', *]; done) | (simp [results, Try.results78, go_sem]; first | exact ⟨rfl, rfl⟩ | rfl)) rfl ⟨by rw [hf.out], hb2⟩
set_option maxHeartbeats 400000 in
theorem refUpto_any (w : World) (A : Option Addr) (n c : Nat) (ks : List Kd) (p : Int) (hk : KdS w w.heap.size A n ks) (hn : n ≤ 12) :
    Calls Try.prog 27 #[.slice A n c, .int .i64 p] w fun e w' => e = .returned (.tuple #[.int .i64 (uptoV p ks), .int .i64 (openE ks p)]) ∧ Below w.heap.size w w' := by
  cases he : (openE ks p != 0)
  · have he0 : openE ks p = 0 := by simpa using he
    obtain ⟨hs, hp⟩ := openE_zero he0
    have hE := hid he0
    have HP := hid hp
    have hs' := hid hs
    clear he he0 hs hp
    go_enter Try.func27, Try.ntmps27
    go_wp2_with (first | (go_at_call 69; refine (panned_any _ A n c ks p hk hn).mono ?_; rw [hE.out]; rintro e w1 ⟨rfl, hb1⟩; have hz1 := hb1.size) | (go_at_call 78; refine (uptoOf_any _ A n c ks p (hk.below hb1 hz1) hs'.out HP.out).mono ?_; rintro e w2 ⟨rfl, hb2⟩))
    refine bodyPost_ret (v := .tuple #[.int .i64 (uptoV p ks), .int .i64 0]) (by first | (simp [results, Try.results27, go_sem]; done) | (simp [results, Try.results27, go_sem, *]; done) | (simp [results, Try.results27, go_sem, World.cell?_setCell_same', *]; done) | (simp [results, Try.results27, go_sem]; first | exact ⟨rfl, rfl⟩ | rfl)) rfl ⟨by rw [hE.out], hb1.trans (hb2.mono hz1)⟩
  · have he0 : openE ks p ≠ 0 := by simpa using he
    have hv : Hid (uptoV p ks = 0) := hid (if_pos he0)
    go_enter Try.func27, Try.ntmps27
    go_wp2_with (first | (have hq := hb1; clear hq; go_at_call 69; refine (panned_any _ A n c ks p (hk.below hb1 hz1) hn).mono ?_; rintro e w2 ⟨rfl, hb2⟩) | (go_at_call 69; refine (panned_any _ A n c ks p hk hn).mono ?_; rintro e w1 ⟨rfl, hb1⟩; have hz1 := hb1.size))
    refine bodyPost_ret (v := .tuple #[.int .i64 0, .int .i64 (openE ks p)]) (by first | (simp [results, Try.results27, go_sem]; done) | (simp [results, Try.results27, go_sem, *]; done) | (simp [results, Try.results27, go_sem, World.cell?_setCell_same', *]; done) | (simp [results, Try.results27, go_sem]; first | exact ⟨rfl, rfl⟩ | rfl)) rfl ⟨by rw [hv.out], hb1.trans (hb2.mono hz1)⟩
theorem gap_upto {ks : List Kd} {p : Int} (h : openE ks p = 0) : (uptoV p ks = sumOf ks → gapV p ks = 0 ∧ gapE p ks = 5) ∧ (uptoV p ks ≠ sumOf ks → gapV p ks = uptoV p ks + 1 ∧ gapE p ks = 0) ∧ 0 ≤ uptoV p ks ∧ uptoV p ks ≤ 300 := by
  obtain ⟨hs, hp⟩ := openE_zero h
  obtain ⟨-, -, h3, -, h5⟩ := checkSet_good hs
  have hS0 := sumOf_nonneg h3
  have hb := firstI_bd (fun x => 0 == x) (rowW p ks)
  rw [rowW_len] at hb
  change -1 ≤ gapZ p ks ∧ gapZ p ks ≤ _ at hb
  have e1 : uptoV p ks = if 0 < gapZ p ks then gapZ p ks - 1 else sumOf ks := if_neg (fun h' => h' h)
  have e2 : gapE p ks = if 0 < gapZ p ks then 0 else 5 := if_neg (fun h' => h' h)
  rw [e1, e2]
  unfold gapV
  by_cases hg : 0 < gapZ p ks
  · have hne : gapZ p ks - 1 ≠ sumOf ks := by
      intro he
      have h1 : firstI (fun x => 0 == x) (rowW p ks) = gapZ p ks := rfl
      unfold firstI at h1
      split at h1
      · rename_i k hk
        have := (List.findIdx?_eq_some_iff_getElem.1 hk).1
        rw [rowW_len] at this
        omega
      · omega
    rw [if_pos hg, if_pos ⟨h, hg⟩, if_pos hg]
    exact ⟨fun h => absurd h hne, fun _ => ⟨by omega, rfl⟩, by omega, by omega⟩
  · rw [if_neg hg, if_neg (fun h => hg h.2), if_neg hg]
    exact ⟨fun _ => ⟨rfl, rfl⟩, fun h => absurd rfl h, by omega, by omega⟩
set_option maxHeartbeats 400000 in
theorem refGap_any (w : World) (A : Option Addr) (n c : Nat) (ks : List Kd) (p : Int) (hk : KdS w w.heap.size A n ks) (hn : n ≤ 12) :
    Calls Try.prog 29 #[.slice A n c, .int .i64 p] w fun e w' => e = .returned (.tuple #[.int .i64 (gapV p ks), .int .i64 (gapE p ks)]) ∧ Below w.heap.size w w' := by
  cases he : (openE ks p != 0)
  · have he0 : openE ks p = 0 := by simpa using he
    obtain ⟨hs, hp⟩ := openE_zero he0
    obtain ⟨hg1, hg2, hg3, hg4⟩ := gap_upto he0
    have hsm := hid (fun k (hk : k ∈ ks) => smallK_of (List.all_eq_true.1 (checkSet_good hs).2.2.1 k hk))
    obtain ⟨u, hu⟩ : ∃ u, uptoV p ks = u := ⟨_, rfl⟩
    obtain ⟨s, hs1⟩ : ∃ s, sumOf ks = s := ⟨_, rfl⟩
    rw [hu] at hg3 hg4
    have z1 : IntKind.i64.wrap (u + 1) = u + 1 := wrap_ok (by omega)
    have hE := hid he0
    have HP := hid hp
    have hs' := hid hs
    have HU := hid hu
    have HS := hid hs1
    by_cases hus : u = s
    · obtain ⟨h1, h2⟩ := hg1 (by rw [hu, hs1, hus])
      have H1 := hid h1
      have H2 := hid h2
      have d0 : (u == s) = true := by simp [hus]
      clear he he0 hs hp hg1 hg2 hu hs1 h1 h2
      subst hus
      go_enter Try.func29, Try.ntmps29
      go_wp2_with (first | (go_at_call 69; refine (panned_any _ A n c ks p hk hn).mono ?_; rw [hE.out]; rintro e w1 ⟨rfl, hb1⟩; have hz1 := hb1.size) | (go_at_call 78; refine (uptoOf_any _ A n c ks p (hk.below hb1 hz1) hs'.out HP.out).mono ?_; rw [HU.out]; rintro e w2 ⟨rfl, hb2⟩; have hb12 := hb1.trans (hb2.mono hz1); have hz2 := hb12.size) | (go_at_call 55; refine (refSum_any _ A n c ks (hk.below hb12 hz2) (by omega) hsm.out).mono ?_; rw [HS.out]; rintro e w3 ⟨rfl, hb3⟩))
      refine bodyPost_ret (v := .tuple #[.int .i64 0, .int .i64 5]) (by first | (simp [results, Try.results29, go_sem]; done) | (simp [results, Try.results29, go_sem, *]; done) | (simp [results, Try.results29, go_sem, World.cell?_setCell_same', *]; done) | (simp [results, Try.results29, go_sem]; first | exact ⟨rfl, rfl⟩ | rfl)) rfl ⟨by rw [H1.out, H2.out], hb12.trans (hb3.mono hz2)⟩
    · obtain ⟨h1, h2⟩ := hg2 (by rw [hu, hs1]; exact hus)
      rw [hu] at h1
      have H1 := hid h1
      have H2 := hid h2
      have d0 : (u == s) = false := by simpa using hus
      clear he he0 hs hp hg1 hg2 hu hs1 h1 h2
      go_enter Try.func29, Try.ntmps29
      go_wp2_with (first | (go_at_call 69; refine (panned_any _ A n c ks p hk hn).mono ?_; rw [hE.out]; rintro e w1 ⟨rfl, hb1⟩; have hz1 := hb1.size) | (go_at_call 78; refine (uptoOf_any _ A n c ks p (hk.below hb1 hz1) hs'.out HP.out).mono ?_; rw [HU.out]; rintro e w2 ⟨rfl, hb2⟩; have hb12 := hb1.trans (hb2.mono hz1); have hz2 := hb12.size) | (go_at_call 55; refine (refSum_any _ A n c ks (hk.below hb12 hz2) (by omega) hsm.out).mono ?_; rw [HS.out]; rintro e w3 ⟨rfl, hb3⟩))
      refine bodyPost_ret (v := .tuple #[.int .i64 (u + 1), .int .i64 0]) (by first | (simp [results, Try.results29, go_sem]; done) | (simp [results, Try.results29, go_sem, *]; done) | (simp [results, Try.results29, go_sem, World.cell?_setCell_same', *]; done) | (simp [results, Try.results29, go_sem]; first | exact ⟨rfl, rfl⟩ | rfl)) rfl ⟨by rw [H1.out, H2.out], hb12.trans (hb3.mono hz2)⟩
  · have he0 : openE ks p ≠ 0 := by simpa using he
    have hv : Hid (gapV p ks = 0) := hid (if_neg (fun h => he0 h.1))
    have hg : Hid (gapE p ks = openE ks p) := hid (if_pos he0)
    go_enter Try.func29, Try.ntmps29
    go_wp2_with (first | (have hq := hb1; clear hq; go_at_call 69; refine (panned_any _ A n c ks p (hk.below hb1 hz1) hn).mono ?_; rintro e w2 ⟨rfl, hb2⟩) | (go_at_call 69; refine (panned_any _ A n c ks p hk hn).mono ?_; rintro e w1 ⟨rfl, hb1⟩; have hz1 := hb1.size))
    refine bodyPost_ret (v := .tuple #[.int .i64 0, .int .i64 (openE ks p)]) (by first | (simp [results, Try.results29, go_sem]; done) | (simp [results, Try.results29, go_sem, *]; done) | (simp [results, Try.results29, go_sem, World.cell?_setCell_same', *]; done) | (simp [results, Try.results29, go_sem]; first | exact ⟨rfl, rfl⟩ | rfl)) rfl ⟨by rw [hv.out, hg.out], hb1.trans (hb2.mono hz1)⟩
end Go.Proofs.Ytolghmhodaphfaa
/- Walks: the reference's CheckPerfect, FactorsOf, Factors, Ways, Fewest. -/
namespace Go.Proofs.Ytolghmhodaphfaa
open Go.RowKit
attribute [local go_sem] Oper.semAt_some field95 field95'
theorem perf_first {p : Int} {ks : List Kd} {S : Nat} (hS : (sumOf ks).toNat = S) {k : Nat} (hk : k ≤ S) (h0 : ways p ks k ≠ 1) (hb : ∀ j, j < k → ways p ks (j : Nat) = 1) : perfZ p ks = k := by
  refine (first_eq (.inl ⟨k, rfl, ⟨ways p ks k, ?_, by simpa using h0⟩, ?_⟩)).symm
  · unfold rowW; rw [hS, rowOf_at (by omega)]
  · rw [List.all_eq_true]
    intro x hx
    obtain ⟨j, hj, rfl⟩ := List.mem_take_iff_getElem.1 hx
    have h := rowOf_at (L := S + 1) (f := ways p ks) (t := j) (by omega)
    unfold rowW
    simp only [hS]
    rw [List.getElem?_eq_getElem (by rw [rowOf_len]; omega)] at h
    have h2 : (rowOf (S + 1) (ways p ks))[j]'(by rw [rowOf_len]; omega) = ways p ks j := by simpa using h
    rw [h2, hb j (by omega)]
    rfl
theorem perf_none {p : Int} {ks : List Kd} {S : Nat} (hS : (sumOf ks).toNat = S) (hb : ∀ j, j ≤ S → ways p ks (j : Nat) = 1) : perfZ p ks = -1 := by
  refine (first_eq (.inr ⟨rfl, ?_⟩)).symm
  rw [List.all_eq_true]
  intro x hx
  unfold rowW rowOf at hx
  obtain ⟨j, hj, rfl⟩ := List.mem_map.1 hx
  rw [hS] at hj
  rw [hb j (by have := List.mem_range.1 hj; omega)]
  rfl
set_option maxRecDepth 10000 in
set_option maxHeartbeats 800000 in
theorem refPerfect_any (w : World) (A : Option Addr) (n c : Nat) (ks : List Kd) (p : Int) (hk : KdS w w.heap.size A n ks) (hn : n ≤ 12) :
    Calls Try.prog 38 #[.slice A n c, .int .i64 p] w fun e w' => e = .returned (.tuple #[.int .i64 (perfV p ks), .int .i64 (perfE p ks)]) ∧ Below w.heap.size w w' := by
  cases he : (openE ks p != 0)
  · have he0 : openE ks p = 0 := by simpa using he
    obtain ⟨hs, hp⟩ := openE_zero he0
    obtain ⟨-, -, h3, -, h5⟩ := checkSet_good hs
    have hS0 := sumOf_nonneg h3
    have hE := hid he0
    have HP := hid hp
    have hs' := hid hs
    have hsm := hid (fun k (hk : k ∈ ks) => smallK_of (List.all_eq_true.1 h3 k hk))
    obtain ⟨S, hS⟩ : ∃ S : Nat, (sumOf ks).toNat = S := ⟨_, rfl⟩
    have hSb : S ≤ 300 := by omega
    have HS := hid hS
    have e1 : perfV p ks = if 0 ≤ perfZ p ks then perfZ p ks else sumOf ks := if_neg (fun h' => h' he0)
    have e2 : perfE p ks = if 0 ≤ perfZ p ks then 24 else 0 := if_neg (fun h' => h' he0)
    have hf1 : Hid (∀ k : Nat, k ≤ S → (∀ j, j < k → ways p ks (j : Nat) = 1) → ways p ks k ≠ 1 → perfV p ks = k ∧ perfE p ks = 24) := hid (fun k h1 h2 h3 => by
      have := perf_first hS h1 h3 h2
      rw [e1, e2, this, if_pos (by omega), if_pos (by omega)]
      exact ⟨rfl, rfl⟩)
    have hf2 : Hid ((∀ j, j < S + 1 → ways p ks (j : Nat) = 1) → perfV p ks = sumOf ks ∧ perfE p ks = 0) := hid (fun h2 => by
      have := perf_none hS (fun j hj => h2 j (by omega))
      rw [e1, e2, this, if_neg (by omega), if_neg (by omega)]
      exact ⟨rfl, rfl⟩)
    clear he he0 hs hp h3 hS e1 e2
    go_enter Try.func38, Try.ntmps38
    go_wp2_with (first | (go_at_call 69; refine (panned_any _ A n c ks p hk hn).mono ?_; rw [hE.out]; rintro e w1 ⟨rfl, hb1⟩; have hz1 := hb1.size) | (go_at_call 77; refine (waysOf_any _ A n c ks p (hk.below hb1 hz1) hs'.out HP.out).mono ?_; rintro e w2 ⟨⟨B, c', rfl, hB⟩, hb2⟩; rw [HS.out] at hB ⊢; have hz2 := hb2.size))
    obtain ⟨b, off, x0, hBe, -⟩ := hB.at_ (k := 0) (by omega)
    cases hBe
    have hb12 : Below w.heap.size w w2 := hb1.trans (hb2.mono hz1)
    have hz12 := hb12.size
    go_loopw [7] (fun i wr => ∃ k : Nat, k ≤ S + 1 ∧ i = .int .i64 k ∧ Hid (∀ j, j < k → ways p ks (j : Nat) = 1) ∧ w2 = wr) (fun i _ => S + 1 - (intOf i).toNat)
    case atStart => exact ⟨0, by omega, rfl, hid (fun j hj => by omega), rfl⟩
    case round =>
      obtain ⟨k, hk2, rfl, hall, rfl⟩ := hrel
      by_cases hlt : k < S + 1
      · obtain ⟨b, off, x, hBe, hb, hm, c0⟩ := hB.at_ (k := k) hlt
        cases hBe
        have hx : x = ways p ks k := by rw [rowOf_at hlt] at hm; simpa using hm.symm
        have Hx := hid hx
        have hlti : (k : Int) < S + 1 := by omega
        clear hm hx
        by_cases hpos : x = 1
        · subst hpos
          go_wp2
          refine ⟨⟨k + 1, by omega, by go_num, hid (fun j hj => ?_), trivial⟩, by simp [intOf]; omega⟩
          rcases Nat.lt_or_ge j k with h | h
          · exact hall.out j h
          · obtain rfl : j = k := by omega
            exact Hx.out.symm
        · have d2 : (x != 1) = true := by simpa using hpos
          have hf := hid (hf1.out k (by omega) hall.out (by rw [← Hx.out]; exact hpos))
          go_wp2
          refine bodyPost_ret (v := .tuple #[.int .i64 k, .int .i64 24]) (by first | (simp [results, Try.results38, go_sem]; done) | (simp [results, Try.results38, go_sem, *]; done) | (simp [results, Try.results38, go_sem, World.cell?_setCell_same', *]; done) | (simp [results, Try.results38, go_sem]; first | exact ⟨rfl, rfl⟩ | rfl)) rfl ⟨by rw [hf.out.1, hf.out.2], hb12⟩
      · obtain rfl : k = S + 1 := by omega
        have hnot : ¬ ((S + 1 : Nat) : Int) < (S : Int) + 1 := by omega
        have hf := hid (hf2.out hall.out)
        go_wp2_with (first | (go_at_call 55; refine (refSum_any _ A n c ks (hk.below hb12 hz12) (by omega) hsm.out).mono ?_; rintro e w3 ⟨rfl, hb3⟩))
        refine bodyPost_ret (v := .tuple #[.int .i64 (sumOf ks), .int .i64 0]) (by first | (simp [results, Try.results38, go_sem]; done) | (simp [results, Try.results38, go_sem, *]; done) | (simp [results, Try.results38, go_sem, World.cell?_setCell_same', *]; done) | (simp [results, Try.results38, go_sem]; first | exact ⟨rfl, rfl⟩ | rfl)) rfl ⟨by rw [hf.out.1, hf.out.2], hb12.trans (hb3.mono hz12)⟩
  · have he0 : openE ks p ≠ 0 := by simpa using he
    have hv : Hid (perfV p ks = 0) := hid (if_pos he0)
    have hg : Hid (perfE p ks = openE ks p) := hid (if_pos he0)
    go_enter Try.func38, Try.ntmps38
    go_wp2_with (first | (have hq := hb1; clear hq; go_at_call 69; refine (panned_any _ A n c ks p (hk.below hb1 hz1) hn).mono ?_; rintro e w2 ⟨rfl, hb2⟩) | (go_at_call 69; refine (panned_any _ A n c ks p hk hn).mono ?_; rintro e w1 ⟨rfl, hb1⟩; have hz1 := hb1.size))
    refine bodyPost_ret (v := .tuple #[.int .i64 0, .int .i64 (openE ks p)]) (by first | (simp [results, Try.results38, go_sem]; done) | (simp [results, Try.results38, go_sem, *]; done) | (simp [results, Try.results38, go_sem, World.cell?_setCell_same', *]; done) | (simp [results, Try.results38, go_sem]; first | exact ⟨rfl, rfl⟩ | rfl)) rfl ⟨by rw [hv.out, hg.out], hb1.trans (hb2.mono hz1)⟩
set_option maxHeartbeats 800000 in
theorem factorsOf_any (w : World) (A : Option Addr) (n c : Nat) (ks : List Kd) (p : Int) (hk : KdS w w.heap.size A n ks) (hok : Hid (∀ k ∈ ks, okK k = true)) (hp : p = 1 ∨ p = 2) (hn : n ≤ 12) :
    Calls Try.prog 56 #[.slice A n c, .int .i64 p] w fun e w' => ∃ v, e = .returned v ∧ w'.ownsRow w.heap.size 2 1 v n ((factsL p ks).flatMap cI) ∧ Below w.heap.size w w' := by
  obtain ⟨i0, hi0, hi1, hi2, hi3⟩ := info_parts' info2
  have I0 := hid hi0; have I1 := hid hi1; have I2 := hid hi2; have I3 := hid hi3
  clear hi0 hi1 hi2 hi3
  have HP := hid hp
  clear hp
  have hlen := hid hk.len
  go_enter Try.func56, Try.ntmps56
  go_wp2
  go_loopw [5, 6] (fun v i wr => ∃ k : Nat, k ≤ n ∧ i = .int .i64 k ∧ Below w.heap.size w wr ∧ Hid (wr.ownsRow w.heap.size 2 1 v k (((ks.take k).map fun k => p * k.many + 1).flatMap cI))) (fun _ i _ => n - (intOf i).toNat)
  case atStart => exact ⟨0, by omega, rfl, Below.refl _ _, hid (World.ownsRow_nil _ _ _ _)⟩
  case round =>
    obtain ⟨k, hk2, rfl, hbw, hown⟩ := hrel
    have hszw := hbw.size
    by_cases hlt : k < n
    · obtain ⟨b, off, m, rfl, hb, hm, c0, c1⟩ := (hk.below hbw (Nat.le_refl _)).at_ hlt
      have hmm := okK_le (hok.out m (List.mem_of_getElem? hm))
      have Hm := hid hm
      have hpm : p * m.many = m.many ∨ p * m.many = 2 * m.many := by rcases HP.out with h | h <;> rw [h] <;> omega
      obtain ⟨q, hq⟩ : ∃ q, p * m.many = q := ⟨_, rfl⟩
      have z1 : IntKind.i64.wrap (p * m.many) = q := by rw [hq]; exact wrap_ok (by omega)
      have z2 : IntKind.i64.wrap (q + 1) = q + 1 := wrap_ok (by omega)
      have Hq := hid hq
      clear hm hpm hq
      go_wp2_with (first | (at_builtin; refine wpList_append_own _ rfl _ _ 23 rfl w.heap.size 2 i0 _ 1 8 under23 I0.out I1.out I2.out I3.out rfl (by decide) _ k _ rfl (hown.out.alloc (.cells #[.int .i64 (q + 1)] 2)) ⟨wr.heap.size, 0, none⟩ 1 1 [.int .i64 (q + 1)] rfl rfl (fun j u hj => World.news_of_block (Blk.new' (by simp)) j u hj) (one1 _) (by unfold maxLen; omega) (by omega) (by simp; omega) ?_; intro v' w3 ho3 hg3 hv3))
      have hb3 : Below w.heap.size w w3 := (hbw.alloc hszw _).grown hg3 (by simp; omega) (fun r hr => (World.ownsRow.lt hown.out r hr).1)
      exact ⟨⟨k + 1, by omega, by go_num, hb3, hid (by rw [mapI_take Hm.out, Hq.out]; exact ho3)⟩, by simp [intOf]; omega⟩
    · obtain rfl : k = n := by omega
      go_wp2
      refine bodyPost_ret (v := u5) (by first | (simp [results, Try.results56, go_sem]; done) | (simp [results, Try.results56, go_sem, *]; done) | (simp [results, Try.results56, go_sem, World.cell?_setCell_same', *]; done) | (simp [results, Try.results56, go_sem]; first | exact ⟨rfl, rfl⟩ | rfl)) rfl ⟨u5, rfl, ?_, hbw⟩
      have ho := hown.out
      have hl := hlen.out
      rw [List.take_of_length_le (by omega)] at ho
      exact ho
set_option maxHeartbeats 800000 in
theorem refFactors_any (w : World) (A : Option Addr) (n c : Nat) (ks : List Kd) (p : Int) (hk : KdS w w.heap.size A n ks) (hn : n ≤ 12) :
    Calls Try.prog 40 #[.slice A n c, .int .i64 p] w fun e w' => ∃ v, e = .returned (.tuple #[v, .int .i64 (perfE p ks)]) ∧ w'.ownsRow w.heap.size 2 1 v (if perfE p ks = 0 then factsL p ks else []).length ((if perfE p ks = 0 then factsL p ks else []).flatMap cI) ∧ Below w.heap.size w w' := by
  cases he : (perfE p ks != 0)
  · have he0 : perfE p ks = 0 := by simpa using he
    have ho : openE ks p = 0 := by
      unfold perfE at he0
      split at he0
      · assumption
      · rename_i h; simpa using h
    obtain ⟨hs, hp⟩ := openE_zero ho
    have hok := hid (List.all_eq_true.1 (checkSet_good hs).2.2.1)
    have hE := hid he0
    have HP := hid hp
    rw [if_pos he0]
    have hlen : Hid ((factsL p ks).length = n) := hid (by unfold factsL; rw [List.length_map, hk.len])
    rw [hlen.out]
    clear he he0 ho hs hp
    go_enter Try.func40, Try.ntmps40
    go_wp2_with (first | (go_at_call 38; refine (refPerfect_any _ A n c ks p hk hn).mono ?_; rw [hE.out]; rintro e w1 ⟨rfl, hb1⟩; have hz1 := hb1.size) | (go_at_call 56; refine (factorsOf_any _ A n c ks p (hk.below hb1 hz1) hok HP.out hn).mono ?_; rintro e w2 ⟨v, rfl, ho2, hb2⟩; have Ho2 := hid ho2; clear ho2))
    refine bodyPost_ret (v := .tuple #[v, .int .i64 0]) (by first | (simp [results, Try.results40, go_sem]; done) | (simp [results, Try.results40, go_sem, *]; done) | (simp [results, Try.results40, go_sem, World.cell?_setCell_same', *]; done) | (simp [results, Try.results40, go_sem]; first | exact ⟨rfl, rfl⟩ | rfl)) rfl ⟨v, by rw [hE.out], owns_mono Ho2.out hz1, hb1.trans (hb2.mono hz1)⟩
  · have he0 : perfE p ks ≠ 0 := by simpa using he
    rw [if_neg he0]
    go_enter Try.func40, Try.ntmps40
    go_wp2_with (first | (go_at_call 38; refine (refPerfect_any _ A n c ks p hk hn).mono ?_; rintro e w1 ⟨rfl, hb1⟩; have hz1 := hb1.size))
    refine bodyPost_ret (v := .tuple #[.slice none 0 0, .int .i64 (perfE p ks)]) (by first | (simp [results, Try.results40, go_sem]; done) | (simp [results, Try.results40, go_sem, *]; done) | (simp [results, Try.results40, go_sem, World.cell?_setCell_same', *]; done) | (simp [results, Try.results40, go_sem]; first | exact ⟨rfl, rfl⟩ | rfl)) rfl ⟨_, rfl, World.ownsRow_nil _ _ _ _, hb1⟩
set_option maxRecDepth 10000 in
set_option maxHeartbeats 800000 in
theorem refWays_any (w : World) (A : Option Addr) (n c : Nat) (ks : List Kd) (p a : Int) (hk : KdS w w.heap.size A n ks) (hn : n ≤ 12) :
    Calls Try.prog 32 #[.slice A n c, .int .i64 p, .int .i64 a] w fun e w' => e = .returned (.tuple #[.int .i64 (waysV p ks a), .int .i64 (askedE ks p a)]) ∧ Below w.heap.size w w' := by
  cases he : (askedE ks p a != 0)
  · have he0 : askedE ks p a = 0 := by simpa using he
    obtain ⟨ho, ha0, ha1⟩ := askedE_zero he0
    obtain ⟨hs, hp⟩ := openE_zero ho
    have hE := hid he0
    obtain ⟨k, rfl⟩ : ∃ k : Nat, a = k := ⟨a.toNat, by omega⟩
    have hv : Hid (waysV p ks k = ways p ks k) := hid (if_pos he0)
    have HP := hid hp
    have hs' := hid hs
    have z1 : IntKind.i64.wrap (300 + (k : Int)) = 300 + (k : Int) := wrap_ok (by omega)
    have x1 : (300 + (k : Int)) < 601 := by omega
    have x2 : (0 : Int) ≤ 300 + (k : Int) := by omega
    have x3 : (300 + (k : Int)).toNat = k + 300 := by omega
    have x4 : (0 : Int) < n + 1 := by omega
    clear he he0 ho hs hp
    go_enter Try.func32, Try.ntmps32
    go_wp2_with (first | (go_at_call 81; refine (amounted_any _ A n c ks p _ hk hn).mono ?_; rw [hE.out]; rintro e w1 ⟨rfl, hb1⟩; have hz1 := hb1.size) | (go_at_call 82; refine (tabled_any _ A n c ks p (hk.below hb1 hz1) hs'.out HP.out).mono ?_; rintro e w2 ⟨gW, gF, rfl, hT, hb2⟩; obtain ⟨rW, rF, k1, k2, k3, k4, k5, k6, k7, k8⟩ := hT.row (Nat.zero_le n); have k9 := rowC_at k7 (a := k + 300) (by omega); rw [show wvT p (ks.drop 0) ((k + 300 : Nat) : Int) = ways p ks k by unfold wvT; rw [show ((k + 300 : Nat) : Int) - 300 = k by omega]; rfl] at k9; have HT := hid hT; clear hT k4 k6 k7 k8))
    refine bodyPost_ret (v := .tuple #[.int .i64 (ways p ks k), .int .i64 0]) (by first | (simp [results, Try.results32, go_sem]; done) | (simp [results, Try.results32, go_sem, *]; done) | (simp [results, Try.results32, go_sem, World.cell?_setCell_same', *]; done) | (simp [results, Try.results32, go_sem]; first | exact ⟨rfl, rfl⟩ | rfl)) rfl ⟨by rw [hv.out, hE.out], hb1.trans (hb2.mono hz1)⟩
  · have he0 : askedE ks p a ≠ 0 := by simpa using he
    have hv : Hid (waysV p ks a = 0) := hid (if_neg he0)
    have He := hid he
    go_enter Try.func32, Try.ntmps32
    go_wp2_with (first | (have hq := hb1; clear hq; go_at_call 81; refine (amounted_any _ A n c ks p a (hk.below hb1 hz1) hn).mono ?_; rintro e w2 ⟨rfl, hb2⟩) | (go_at_call 81; refine (amounted_any _ A n c ks p a hk hn).mono ?_; rintro e w1 ⟨rfl, hb1⟩; have hz1 := hb1.size))
    refine bodyPost_ret (v := .tuple #[.int .i64 0, .int .i64 (askedE ks p a)]) (by first | (simp [results, Try.results32, go_sem]; done) | (simp [results, Try.results32, go_sem, *]; done) | (simp [results, Try.results32, go_sem, World.cell?_setCell_same', *]; done) | (simp [results, Try.results32, go_sem]; first | exact ⟨rfl, rfl⟩ | rfl)) rfl ⟨by rw [hv.out], hb1.trans (hb2.mono hz1)⟩
set_option maxRecDepth 10000 in
set_option maxHeartbeats 800000 in
theorem refFewest_any (w : World) (A : Option Addr) (n c : Nat) (ks : List Kd) (p a : Int) (hk : KdS w w.heap.size A n ks) (hn : n ≤ 12) :
    Calls Try.prog 34 #[.slice A n c, .int .i64 p, .int .i64 a] w fun e w' => e = .returned (.tuple #[.int .i64 (fewV p ks a), .int .i64 (layE p ks a)]) ∧ Below w.heap.size w w' := by
  cases he : (askedE ks p a != 0)
  · have he0 : askedE ks p a = 0 := by simpa using he
    obtain ⟨ho, ha0, ha1⟩ := askedE_zero he0
    obtain ⟨hs, hp⟩ := openE_zero ho
    have hE := hid he0
    obtain ⟨k, rfl⟩ : ∃ k : Nat, a = k := ⟨a.toNat, by omega⟩
    have HP := hid hp
    have hs' := hid hs
    have z1 : IntKind.i64.wrap (300 + (k : Int)) = 300 + (k : Int) := wrap_ok (by omega)
    have x1 : (300 + (k : Int)) < 601 := by omega
    have x2 : (0 : Int) ≤ 300 + (k : Int) := by omega
    have x3 : (300 + (k : Int)).toNat = k + 300 := by omega
    have x4 : (0 : Int) < n + 1 := by omega
    have hb0 := few_validD hs hp 0 k
    cases hf : fewO p ks k with
    | none =>
      have hv : Hid (layE p ks k = 24) := hid (by unfold layE; rw [if_neg (by omega), hf]; rfl)
      have hv2 : Hid (fewV p ks k = 0) := hid (if_neg (by rw [hv.out]; omega))
      have Hf := hid hf
      clear he he0 ho hs hp hf hb0
      go_enter Try.func34, Try.ntmps34
      go_wp2_with (first | (go_at_call 81; refine (amounted_any _ A n c ks p _ hk hn).mono ?_; rw [hE.out]; rintro e w1 ⟨rfl, hb1⟩; have hz1 := hb1.size) | (go_at_call 82; refine (tabled_any _ A n c ks p (hk.below hb1 hz1) hs'.out HP.out).mono ?_; rintro e w2 ⟨gW, gF, rfl, hT, hb2⟩; obtain ⟨rW, rF, k1, k2, k3, k4, k5, k6, k7, k8⟩ := hT.row (Nat.zero_le n); have k9 := rowC_at k8 (a := k + 300) (by omega); rw [show fvT p (ks.drop 0) ((k + 300 : Nat) : Int) = -1 by unfold fvT; rw [show ((k + 300 : Nat) : Int) - 300 = k by omega]; show fv (fewO p ks k) = -1; rw [Hf.out]; rfl] at k9; have HT := hid hT; clear hT k3 k5 k7 k8))
      refine bodyPost_ret (v := .tuple #[.int .i64 0, .int .i64 24]) (by first | (simp [results, Try.results34, go_sem]; done) | (simp [results, Try.results34, go_sem, *]; done) | (simp [results, Try.results34, go_sem, World.cell?_setCell_same', *]; done) | (simp [results, Try.results34, go_sem]; first | exact ⟨rfl, rfl⟩ | rfl)) rfl ⟨by rw [hv.out, hv2.out], hb1.trans (hb2.mono hz1)⟩
    | some y =>
      have hv : Hid (layE p ks k = 0) := hid (by unfold layE; rw [if_neg (by omega), hf]; rfl)
      have hv2 : Hid (fewV p ks k = y) := hid (by unfold fewV; rw [if_pos hv.out, hf]; rfl)
      have Hf := hid hf
      obtain ⟨y0, y1⟩ := hb0 y hf
      have y2 : ¬ y < 0 := by omega
      clear he he0 ho hs hp hf hb0
      go_enter Try.func34, Try.ntmps34
      go_wp2_with (first | (go_at_call 81; refine (amounted_any _ A n c ks p _ hk hn).mono ?_; rw [hE.out]; rintro e w1 ⟨rfl, hb1⟩; have hz1 := hb1.size) | (go_at_call 82; refine (tabled_any _ A n c ks p (hk.below hb1 hz1) hs'.out HP.out).mono ?_; rintro e w2 ⟨gW, gF, rfl, hT, hb2⟩; obtain ⟨rW, rF, k1, k2, k3, k4, k5, k6, k7, k8⟩ := hT.row (Nat.zero_le n); have k9 := rowC_at k8 (a := k + 300) (by omega); rw [show fvT p (ks.drop 0) ((k + 300 : Nat) : Int) = y by unfold fvT; rw [show ((k + 300 : Nat) : Int) - 300 = k by omega]; show fv (fewO p ks k) = y; rw [Hf.out]; rfl] at k9; have HT := hid hT; clear hT k3 k5 k7 k8))
      refine bodyPost_ret (v := .tuple #[.int .i64 y, .int .i64 0]) (by first | (simp [results, Try.results34, go_sem]; done) | (simp [results, Try.results34, go_sem, *]; done) | (simp [results, Try.results34, go_sem, World.cell?_setCell_same', *]; done) | (simp [results, Try.results34, go_sem]; first | exact ⟨rfl, rfl⟩ | rfl)) rfl ⟨by rw [hv.out, hv2.out], hb1.trans (hb2.mono hz1)⟩
  · have he0 : askedE ks p a ≠ 0 := by simpa using he
    have hv : Hid (layE p ks a = askedE ks p a) := hid (if_pos he0)
    have hv2 : Hid (fewV p ks a = 0) := hid (if_neg (by rw [hv.out]; exact he0))
    have He := hid he
    go_enter Try.func34, Try.ntmps34
    go_wp2_with (first | (have hq := hb1; clear hq; go_at_call 81; refine (amounted_any _ A n c ks p a (hk.below hb1 hz1) hn).mono ?_; rintro e w2 ⟨rfl, hb2⟩) | (go_at_call 81; refine (amounted_any _ A n c ks p a hk hn).mono ?_; rintro e w1 ⟨rfl, hb1⟩; have hz1 := hb1.size))
    refine bodyPost_ret (v := .tuple #[.int .i64 0, .int .i64 (askedE ks p a)]) (by first | (simp [results, Try.results34, go_sem]; done) | (simp [results, Try.results34, go_sem, *]; done) | (simp [results, Try.results34, go_sem, World.cell?_setCell_same', *]; done) | (simp [results, Try.results34, go_sem]; first | exact ⟨rfl, rfl⟩ | rfl)) rfl ⟨by rw [hv.out, hv2.out], hb1.trans (hb2.mono hz1)⟩
end Go.Proofs.Ytolghmhodaphfaa
/- Walks: the reference's enough, Enough, Few. -/
namespace Go.Proofs.Ytolghmhodaphfaa
open Go.RowKit
attribute [local go_sem] Oper.semAt_some
set_option maxHeartbeats 400000 in
theorem enoughR_any (p a : Int) (w : World) : Calls Try.prog 90 #[.int .i64 p, .int .i64 a] w fun e w' => e = .returned (.int .i64 (ofE p a 121)) ∧ Below w.heap.size w w' := by
  have he : Hid (ofE p a 121 = if (p < 1 ∨ 2 < p) then 2 else if (a < 1 ∨ 121 < a) then 3 else 0) := hid (by unfold ofE; simp only [inR_f])
  by_cases h0 : p = 1 ∨ p = 2
  · cases d3 : decide (a < 1)
    · cases d4 : decide (121 < a)
      all_goals
        have e4 := d4
        have e3 := of_decide_eq_false d3
        simp only [decide_eq_false_iff_not, decide_eq_true_eq] at e4
        have hf : Hid (ofE p a 121 = bif decide (121 < a) then 3 else 0) := hid (by rw [he.out, if_neg (by omega), d4]; first | exact if_pos (by omega) | exact if_neg (by omega))
        rw [d4] at hf
        clear he e3 e4
        rcases h0 with rfl | rfl
        all_goals
          go_enter Try.func90, Try.ntmps90
          go_wp2
          go_ret
          exact ⟨by rw [hf.out]; rfl, Below.refl _ _⟩
    · have e3 := of_decide_eq_true d3
      have hf : Hid (ofE p a 121 = 3) := hid (by rw [he.out, if_neg (by omega), if_pos (by omega)])
      clear he e3
      rcases h0 with rfl | rfl
      all_goals
        go_enter Try.func90, Try.ntmps90
        go_wp2
        go_ret
        exact ⟨by rw [hf.out]; rfl, Below.refl _ _⟩
  · have hf : Hid (ofE p a 121 = 2) := hid (by rw [he.out, if_pos (by omega)])
    have d1 : (p != 1) = true := by simp; omega
    have d2 : (p != 2) = true := by simp; omega
    clear he h0
    go_enter Try.func90, Try.ntmps90
    go_wp2
    go_ret
    exact ⟨by rw [hf.out]; rfl, Below.refl _ _⟩
set_option maxRecDepth 100000 in
set_option maxHeartbeats 2000000 in
theorem refEnough_any (p a : Int) (w : World) : Calls Try.prog 48 #[.int .i64 p, .int .i64 a] w fun e w' => ∃ v, e = .returned (.tuple #[v, .int .i64 (ofE p a 121)]) ∧ w'.ownsRow w.heap.size 61 2 v (enL p a).length ((enL p a).flatMap cK) ∧ Below w.heap.size w w' := by
  obtain ⟨i0, hi0, hi1, hi2, hi3⟩ := info_parts' info61
  have I0 := hid hi0; have I1 := hid hi1; have I2 := hid hi2; have I3 := hid hi3
  clear hi0 hi1 hi2 hi3
  cases he : (ofE p a 121 != 0)
  · have he0 : ofE p a 121 = 0 := by simpa using he
    obtain ⟨hp, ha1, ha2⟩ := ofE_zero he0
    have hE := hid he0
    have HP := hid hp
    have hL : Hid (∀ k, k ≤ 7 → a ≤ sumOf (powK p k) → (∀ j, j < k → ¬ a ≤ sumOf (powK p j)) → enL p a = powK p k) := hid (fun k h1 h2 h3 => by unfold enL; rw [if_pos he0, enN_at h1 h2 h3])
    have h7 := hid (pow_seven hp)
    have hp2 : IntKind.i64.wrap (p + 1) = p + 1 := wrap_ok (by rcases hp with rfl | rfl <;> omega)
    have hp3 : 2 ≤ p + 1 ∧ p + 1 ≤ 3 := by rcases hp with rfl | rfl <;> omega
    obtain ⟨hp4, hp5⟩ := hp3
    clear he he0 hp
    go_enter Try.func48, Try.ntmps48
    go_wp2_with (first | (go_at_call 90; refine (enoughR_any p a _).mono ?_; rw [hE.out]; rintro e w1 ⟨rfl, hb1⟩; have hz1 := hb1.size))
    go_loopw [6, 7] (fun v x wr => ∃ k : Nat, k ≤ 7 ∧ x = .int .i64 ((p + 1) ^ k) ∧ Below w.heap.size w wr ∧ Hid (∀ j, j < k → ¬ a ≤ sumOf (powK p j)) ∧ ∃ A c, v = .slice A k c ∧ Hid (wr.ownsRow w.heap.size 61 2 v k ((powK p k).flatMap cK))) (fun _ x _ => 3000 - (intOf x).toNat)
    case atStart => exact ⟨0, by omega, by simp, hb1, hid (fun j hj => by omega), none, 0, rfl, hid (World.ownsRow_nil _ _ _ _)⟩
    case round =>
      obtain ⟨k, hk, rfl, hbw, hbef, A, c, rfl, hown⟩ := hrel
      have hszw := hbw.size
      have hks : KdS wr wr.heap.size A k (powK p k) := Sl.of_own hown.out
      have hsm := hid (powK_small HP.out (k := k) (by omega))
      have Hks := hid hks
      obtain ⟨S, hS⟩ : ∃ S, sumOf (powK p k) = S := ⟨_, rfl⟩
      have HS := hid hS
      by_cases hlt : S < a
      · have hk6 : k < 7 := by
          rcases Nat.lt_or_ge k 7 with h | h
          · exact h
          · exfalso
            obtain rfl : k = 7 := by omega
            have := h7.out
            omega
        have hpk := pow_small HP.out k (by omega)
        have hpk1 := pow_small HP.out (k + 1) (by omega)
        have hpe : (p + 1) ^ k * (p + 1) = (p + 1) ^ (k + 1) := by rw [Int.pow_succ]
        obtain ⟨q, hq⟩ : ∃ q, (p + 1) ^ k = q := ⟨_, rfl⟩
        obtain ⟨q1, hq1⟩ : ∃ q1, (p + 1) ^ (k + 1) = q1 := ⟨_, rfl⟩
        have Hq := hid hq
        have Hq1 := hid hq1
        rw [hq, hq1] at hpe
        rw [hq] at hpk
        rw [hq1] at hpk1
        have hql : q < q1 := by
          have : q * 2 ≤ q * (p + 1) := Int.mul_le_mul_of_nonneg_left hp4 (by omega)
          omega
        have zq : IntKind.i64.wrap (q * (p + 1)) = q1 := by rw [hpe]; exact wrap_ok (by omega)
        rw [hq]
        clear hks hS hq hq1 hpe
        go_wp2_with (first | (go_at_call 55; refine (refSum_any _ A k c (powK p k) Hks.out (by omega) hsm.out).mono ?_; rw [HS.out]; rintro e w2 ⟨rfl, hb2⟩; have hz2 := hb2.size; have hown2 := hid (owns_below hown.out hb2)) | (at_builtin; refine wpList_append_own _ rfl _ _ 22 rfl w.heap.size 61 i0 _ 2 16 under22 I0.out I1.out I2.out I3.out rfl (by decide) _ k _ rfl (hown2.out.alloc (.cells #[.int .i64 q, .int .i64 1] 61)) ⟨w2.heap.size, 0, none⟩ 1 1 (cK ⟨q, 1⟩) rfl rfl (fun j u hj => World.news_of_block (Blk.new' rfl) j u hj) (one_cK _) (by unfold maxLen; omega) (by omega) (by simp; omega) ?_; intro v3 w3 ho3 hg3 hn3; obtain ⟨g3, c3, hv3, -, -⟩ := World.ownsRow.form ho3 (Nat.succ_pos _); subst hv3))
        have hbw2 : Below w.heap.size w w2 := hbw.trans (hb2.mono hszw)
        have hb3 : Below w.heap.size w w3 := (hbw2.alloc hbw2.size _).grown hg3 (by have := hbw2.size; simp; omega) (fun r hr => (World.ownsRow.lt hown2.out r hr).1)
        refine ⟨⟨k + 1, by omega, ?_, hb3, hid (fun j hj => ?_), some ⟨g3, 0, none⟩, c3, rfl, hid ?_⟩, by simp [intOf]; omega⟩
        · rw [← Hq1.out]
        · rcases Nat.lt_or_ge j k with h | h
          · have := hbef.out j h; omega
          · obtain rfl : j = k := by omega
            rw [HS.out]; omega
        · rw [powK_succ, Hq.out, List.flatMap_append]
          exact ho3
      · go_wp2_with (first | (go_at_call 55; refine (refSum_any _ A k c (powK p k) Hks.out (by omega) hsm.out).mono ?_; rw [HS.out]; rintro e w2 ⟨rfl, hb2⟩; have hz2 := hb2.size; have hown2 := hid (owns_below hown.out hb2)))
        have hfin := hL.out k hk (by rw [HS.out]; omega) hbef.out
        refine bodyPost_ret (v := .tuple #[.slice A k c, .int .i64 0]) (by first | (simp [results, Try.results48, go_sem]; done) | (simp [results, Try.results48, go_sem, *]; done) | (simp [results, Try.results48, go_sem, World.cell?_setCell_same', *]; done) | (simp [results, Try.results48, go_sem]; first | exact ⟨rfl, rfl⟩ | rfl)) rfl ⟨_, by rw [hE.out], ?_, hbw.trans (hb2.mono hszw)⟩
        rw [hfin, powK_len]
        exact hown2.out
  · have he0 : ofE p a 121 ≠ 0 := by simpa using he
    have hv : Hid (enL p a = []) := hid (if_neg he0)
    go_enter Try.func48, Try.ntmps48
    go_wp2_with (first | (have hq := hb1; clear hq; go_at_call 90; refine (enoughR_any p a _).mono ?_; rintro e w2 ⟨rfl, hb2⟩) | (go_at_call 90; refine (enoughR_any p a _).mono ?_; rintro e w1 ⟨rfl, hb1⟩; have hz1 := hb1.size))
    refine bodyPost_ret (v := .tuple #[.slice none 0 0, .int .i64 (ofE p a 121)]) (by first | (simp [results, Try.results48, go_sem]; done) | (simp [results, Try.results48, go_sem, *]; done) | (simp [results, Try.results48, go_sem, World.cell?_setCell_same', *]; done) | (simp [results, Try.results48, go_sem]; first | exact ⟨rfl, rfl⟩ | rfl)) rfl ⟨_, rfl, by rw [hv.out]; exact World.ownsRow_nil _ _ _ _, hb1.trans (hb2.mono hz1)⟩
theorem refFewW_any (p a : Int) (w : World) : Calls Try.prog 46 #[.int .i64 p, .int .i64 a] w fun e w' => e = .returned (.tuple #[.int .i64 (enL p a).length, .int .i64 (ofE p a 121)]) ∧ Below w.heap.size w w' := by
  go_enter Try.func46, Try.ntmps46
  go_wp2_with (first | (go_at_call 48; refine (refEnough_any p a _).mono ?_; rintro e w1 ⟨v, rfl, ho, hb1⟩; obtain ⟨A, c, hv, -⟩ := sl_of_owns ho; subst hv; clear ho))
  refine bodyPost_ret (v := .tuple #[.int .i64 (enL p a).length, .int .i64 (ofE p a 121)]) (by first | (simp [results, Try.results46, go_sem]; done) | (simp [results, Try.results46, go_sem, *]; done) | (simp [results, Try.results46, go_sem, World.cell?_setCell_same', *]; done) | (simp [results, Try.results46, go_sem]; first | exact ⟨rfl, rfl⟩ | rfl)) rfl ⟨rfl, hb1⟩
end Go.Proofs.Ytolghmhodaphfaa
