/- Texts of the proof, laid together by program. -/
import Derived.Test.YtolghmhodaphfaaMn
/- Walks: the reference's Lay. -/
namespace Go.Proofs.Ytolghmhodaphfaa
open Go.RowKit
attribute [local go_sem] Oper.semAt_some field95 field95'
theorem few_near {p : Int} {ks : List Kd} (h : checkSet ks = 0) (hp : p = 1 ∨ p = 2) (i : Nat) {t y : Int} (hy : fewO p (ks.drop i) (t - 300) = some y) : 0 ≤ t ∧ t ≤ 600 := by
  have hw := ways_beyond h hp i t
  have h2 : ways p (ks.drop i) (t - 300) ≠ 0 := fun h => by rw [few_ways.2 h] at hy; cases hy
  omega
/-- Where the walk of a lay stands: k numbers are out. -/
def LayAt (p : Int) (ks : List Kd) (a : Int) (k : Nat) (L : List Int) (t y : Int) : Prop :=
  L.length = k ∧ layL p ks a = L ++ layL p (ks.drop k) (t - 300) ∧ fewO p (ks.drop k) (t - 300) = some y
theorem LayAt.step {p a t y : Int} {ks : List Kd} {k : Nat} {L : List Int} {m : Kd} (h : LayAt p ks a k L t y) (hm : ks[k]? = some m) {j : Nat} (hj : j < (m.many - leastK p m + 1).toNat)
    (hg : goodB p (ks.drop (k + 1)) m (t - 300) y (leastK p m + j) = true) (hb : ∀ i, i < j → goodB p (ks.drop (k + 1)) m (t - 300) y (leastK p m + (i : Nat)) = false) :
    ∃ y', LayAt p ks a (k + 1) (L ++ [leastK p m + j]) (t - (leastK p m + j) * m.wt) y' := by
  obtain ⟨h1, h2, h3⟩ := h
  have hlt := (List.getElem?_eq_some_iff.1 hm).1
  have hd : ks.drop k = m :: ks.drop (k + 1) := by rw [List.drop_eq_getElem_cons hlt, (List.getElem?_eq_some_iff.1 hm).2]
  rw [hd] at h2 h3
  obtain ⟨y', hy', -⟩ := good_some hg
  have e : t - (leastK p m + j) * m.wt - 300 = t - 300 - (leastK p m + j) * m.wt := by omega
  refine ⟨y', by simp [h1], ?_, by rw [e]; exact hy'⟩
  rw [h2, layL_at h3 hj hg hb, e, List.append_assoc]
  rfl
theorem LayAt.ex {p a t y : Int} {ks : List Kd} {k : Nat} {L : List Int} {m : Kd} (h : LayAt p ks a k L t y) (hm : ks[k]? = some m) : ∃ j : Nat, j < (m.many - leastK p m + 1).toNat ∧ goodB p (ks.drop (k + 1)) m (t - 300) y (leastK p m + j) = true := by
  obtain ⟨h1, h2, h3⟩ := h
  have hlt := (List.getElem?_eq_some_iff.1 hm).1
  have hd : ks.drop k = m :: ks.drop (k + 1) := by rw [List.drop_eq_getElem_cons hlt, (List.getElem?_eq_some_iff.1 hm).2]
  rw [hd] at h3
  exact good_ex h3
set_option maxRecDepth 100000 in
set_option maxHeartbeats 2000000 in
theorem refLay_any (w : World) (A : Option Addr) (n c : Nat) (ks : List Kd) (p a : Int) (hk : KdS w w.heap.size A n ks) (hn : n ≤ 12) :
    Calls Try.prog 36 #[.slice A n c, .int .i64 p, .int .i64 a] w fun e w' => ∃ A' m c', e = .returned (.tuple #[.slice A' m c', .int .i64 (layE p ks a)]) ∧ InS w' w'.heap.size A' m (layV p ks a) ∧ Below w.heap.size w w' := by
  obtain ⟨i0, hi0, hi1, hi2, hi3⟩ := info_parts' info2
  have I0 := hid hi0; have I1 := hid hi1; have I2 := hid hi2; have I3 := hid hi3
  clear hi0 hi1 hi2 hi3
  cases he : (layE p ks a != 0)
  · have he0 : layE p ks a = 0 := by simpa using he
    obtain ⟨hE0, y, hy⟩ := layE_zero he0
    obtain ⟨ho, ha0, ha1⟩ := askedE_zero hE0
    obtain ⟨hs, hp⟩ := openE_zero ho
    have hE := hid he0
    have hV : Hid (layV p ks a = layL p ks a) := hid (if_pos he0)
    have HP := hid hp
    have hs' := hid hs
    have z1 : IntKind.i64.wrap (300 + a) = 300 + a := wrap_ok (by omega)
    have hok := hid (List.all_eq_true.1 (checkSet_good hs).2.2.1)
    have hlen := hid hk.len
    have hL0 : Hid (LayAt p ks a 0 [] (300 + a) y) := hid ⟨rfl, by rw [show 300 + a - 300 = a by omega]; rfl, by rw [show 300 + a - 300 = a by omega]; exact hy⟩
    clear he he0 hE0 ho hs hp hy
    go_enter Try.func36, Try.ntmps36
    go_wp2_with (first | (go_at_call 34; refine (refFewest_any _ A n c ks p a hk hn).mono ?_; rw [hE.out]; rintro e w1 ⟨rfl, hb1⟩; have hz1 := hb1.size) | (go_at_call 82; refine (tabled_any _ A n c ks p (hk.below hb1 hz1) hs'.out HP.out).mono ?_; rintro e w2 ⟨gW, gF, rfl, hT, hb2⟩; have HT := hid hT; clear hT))
    have hb12 : Below w.heap.size w w2 := hb1.trans (hb2.mono hz1)
    have hbA : Below w.heap.size w (w2.alloc (.cells #[.slice (some ⟨gW, 0, none⟩) (n + 1) (n + 1), .slice (some ⟨gF, 0, none⟩) (n + 1) (n + 1)] 95)) := hb12.alloc hb12.size _
    have hTA := hid (HT.out.below ((Below.refl _ _).alloc (Nat.le_refl _) (.cells #[.slice (some ⟨gW, 0, none⟩) (n + 1) (n + 1), .slice (some ⟨gF, 0, none⟩) (n + 1) (n + 1)] 95)))
    have bT := Blk.new w2 95 #[.slice (some ⟨gW, 0, none⟩) (n + 1) (n + 1), .slice (some ⟨gF, 0, none⟩) (n + 1) (n + 1)]
    obtain ⟨T, hT0⟩ : ∃ T, w2.heap.size = T := ⟨_, rfl⟩
    rw [hT0] at bT ⊢
    generalize w2.alloc (.cells #[.slice (some ⟨gW, 0, none⟩) (n + 1) (n + 1), .slice (some ⟨gF, 0, none⟩) (n + 1) (n + 1)] 95) = W4 at *
    have lT := bT.lt
    have hz4 := hbA.size
    clear hb1 hb2 hb12 HT hT0
    go_loopw [11, 12, 13] (fun o x i wr => ∃ (k : Nat) (L : List Int) (t y : Int), k ≤ n ∧ i = .int .i64 k ∧ x = .int .i64 t ∧ Hid (LayAt p ks a k L t y) ∧ Below W4.heap.size W4 wr ∧ Hid (wr.ownsRow W4.heap.size 2 1 o k (L.flatMap cI))) (fun _ _ i _ => n - (intOf i).toNat)
    case atStart => exact ⟨0, [], 300 + a, y, by omega, rfl, rfl, hL0, Below.refl _ _, hid (World.ownsRow_nil _ _ _ _)⟩
    case round =>
      obtain ⟨k, L, t, y1, hkn, rfl, rfl, hLA, hbw, hown⟩ := hrel
      have hszw := hbw.size
      by_cases hlt : k < n
      · obtain ⟨b, off, m, hAe, hb, hm, c0, c1⟩ := hk.at_ hlt
        cases hAe
        have hb4 : b < W4.heap.size := by omega
        have hokm := hok.out m (List.mem_of_getElem? hm)
        have hmm := okK_le hokm
        have Hokm := hid hokm
        have Hm := hid hm
        have hlo : leastK p m = 0 ∨ leastK p m = -m.many := by unfold leastK; rcases HP.out with h | h <;> rw [h] <;> omega
        obtain ⟨j0, hj0, hg0⟩ := hLA.out.ex hm
        have Hg0 := hid hg0
        obtain ⟨t0, t1⟩ := few_near hs'.out HP.out k hLA.out.2.2
        obtain ⟨tn, rfl⟩ : ∃ tn : Nat, t = tn := ⟨t.toNat, by omega⟩
        have ht601 : tn < 601 := by omega
        have hti : (tn : Int) < 601 := by omega
        have ht0 : (0 : Int) ≤ tn := by omega
        obtain ⟨RW0, RF0, a1, a2, a3, a4, a5, a6, a7, a8⟩ := hTA.out.row (j := k) (by omega)
        obtain ⟨RW1, RF1, b1, b2, b3, b4, b5, b6, b7, b8⟩ := hTA.out.row (j := k + 1) (by omega)
        have a9 := rowC_at a8 ht601
        rw [show fvT p (ks.drop k) tn = y1 by unfold fvT; rw [hLA.out.2.2]; rfl] at a9
        have Hb7 := hid b7
        have Hb8 := hid b8
        have y8 : (k : Int) < n + 1 := by omega
        obtain ⟨lo, hlo2⟩ : ∃ lo, leastK p m = lo := ⟨_, rfl⟩
        rw [hlo2] at hlo hj0
        have Hlo := hid hlo2
        obtain ⟨cnt, hcnt⟩ : ∃ cnt : Nat, (m.many - lo + 1).toNat = cnt := ⟨_, rfl⟩
        have hcc : (cnt : Int) = m.many - lo + 1 := by omega
        rw [hcnt] at hj0
        have c00 := (hbA.cell (p := ⟨b, off + k * 2, none⟩) hb).trans c0
        have c11 := (hbA.cell (p := ⟨b, off + k * 2 + 1, none⟩) hb).trans c1
        have T1 := ((bcell hbw).1 T 1 lT).trans (bT.cell 1)
        have G1 := ((bcell hbw).1 gF k a6).trans a4
        have R1 := ((bcell hbw).1 RF0 tn a2).trans a9
        have p0 := ((bcell hbw).1 b (off + k * 2) hb4).trans c00
        have p1 := ((bcell hbw).1 b (off + k * 2 + 1) hb4).trans c11
        have l1 : T < wr.heap.size := by omega
        have l2 : gF < wr.heap.size := by omega
        have l3 : RF0 < wr.heap.size := by omega
        have l4 : b < wr.heap.size := by omega
        clear hm hg0 hlo2 b7 b8 a7 a8 a9 c0 c1 hokm hcnt
        go_wp2_with (first | (go_at_call 70; refine (refLeast_any _ m p Hokm.out HP.out).mono ?_; rw [Hlo.out]; rintro e w5 ⟨rfl, hb5⟩; have hz5 := hb5.size; clear T1 G1 R1 p0 p1 l1 l2 l3 l4))
        have hb45 : Below W4.heap.size W4 w5 := hbw.trans (hb5.mono hszw)
        have hown5 := hid (owns_below hown.out hb5)
        clear hb5 hown hbw hszw
        obtain ⟨o, ho⟩ : ∃ o, u11 = o := ⟨_, rfl⟩
        rw [ho] at hown5 ⊢
        clear ho
        go_loopw [11, 12, 15] (fun o' x' z wr => o' = o ∧ x' = .int .i64 tn ∧ ∃ q : Nat, q ≤ j0 ∧ z = .int .i64 (lo + q) ∧ Hid (∀ i, i < q → goodB p (ks.drop (k + 1)) m ((tn : Int) - 300) y1 (leastK p m + (i : Nat)) = false) ∧ w5 = wr) (fun _ _ z _ => cnt - (intOf z - lo).toNat)
        case atStart => exact ⟨rfl, rfl, 0, by omega, by simp, hid (fun i hi => by omega), rfl⟩
        case round =>
          obtain ⟨rfl, rfl, q, hq, rfl, hall, rfl⟩ := hrel
          have T0 := ((bcell hb45).1 T 0 lT).trans (bT.cell 0)
          have T1 := ((bcell hb45).1 T 1 lT).trans (bT.cell 1)
          have G1 := ((bcell hb45).1 gW (k + 1) b5).trans b3
          have G2 := ((bcell hb45).1 gF (k + 1) b6).trans b4
          have p0 := ((bcell hb45).1 b (off + k * 2) hb4).trans c00
          have p1 := ((bcell hb45).1 b (off + k * 2 + 1) hb4).trans c11
          have hz45 := hb45.size
          have l1 : T < w5.heap.size := by omega
          have l2 : gF < w5.heap.size := by omega
          have l3 : gW < w5.heap.size := by omega
          have l4 : b < w5.heap.size := by omega
          have l5 : RW1 < w5.heap.size := by omega
          have l6 : RF1 < w5.heap.size := by omega
          obtain ⟨e, he0⟩ : ∃ e, lo + (q : Int) = e := ⟨_, rfl⟩
          have hle : e ≤ m.many := by omega
          have he1 : -300 ≤ e ∧ e ≤ 300 := by omega
          obtain ⟨y, hy⟩ : ∃ y, e * m.wt = y := ⟨_, rfl⟩
          have hyb : -90000 ≤ y ∧ y ≤ 90000 := by
            have a1 : e * m.wt ≤ 300 * m.wt := Int.mul_le_mul_of_nonneg_right he1.2 (by omega)
            have a2 : -300 * m.wt ≤ e * m.wt := Int.mul_le_mul_of_nonneg_right he1.1 (by omega)
            omega
          have x2 : IntKind.i64.wrap (e * m.wt) = y := by rw [hy]; exact wrap_ok (by omega)
          have x4 : IntKind.i64.wrap (e + 1) = e + 1 := wrap_ok (by omega)
          have x5 : IntKind.i64.wrap ((k : Int) + 1) = (k : Int) + 1 := wrap_ok (by omega)
          have x6 : IntKind.i64.wrap (-e) = -e := wrap_ok (by omega)
          have x7 : (k : Int) + 1 < n + 1 := by omega
          have x8 : (0 : Int) ≤ (k : Int) + 1 := by omega
          have x9 : ((k : Int) + 1).toNat = k + 1 := by omega
          have hgq : Hid (∀ o, fewO p (ks.drop (k + 1)) ((tn : Int) - y - 300) = o → goodB p (ks.drop (k + 1)) m ((tn : Int) - 300) y1 (leastK p m + (q : Nat)) = match o with | some v => v + absI e == y1 | none => false) := hid (fun o ho => by
            unfold goodB
            rw [Hlo.out, he0, hy, show (tn : Int) - 300 - y = tn - y - 300 by omega, ho]; cases o <;> rfl)
          have hnext : Hid (goodB p (ks.drop (k + 1)) m ((tn : Int) - 300) y1 (leastK p m + (q : Nat)) = false → q + 1 ≤ j0 ∧ ∀ i, i < q + 1 → goodB p (ks.drop (k + 1)) m ((tn : Int) - 300) y1 (leastK p m + (i : Nat)) = false) := hid (fun h => by
            refine ⟨?_, fun i hi => ?_⟩
            · rcases Nat.lt_or_ge q j0 with h1 | h1
              · exact h1
              · obtain rfl : q = j0 := by omega
                have := Hg0.out
                rw [h] at this; cases this
            · rcases Nat.lt_or_ge i q with h1 | h1
              · exact hall.out i h1
              · obtain rfl : i = q := by omega
                exact h)
          have He0 := hid he0
          have Hy := hid hy
          rw [he0]
          clear he0 hy
          have x3 : IntKind.i64.wrap ((tn : Int) - y) = (tn : Int) - y := wrap_ok (by omega)
          by_cases hA : (tn : Int) - y < 0
          · have hN := hid (hnext.out (hgq.out none (by
              cases h : fewO p (ks.drop (k + 1)) ((tn : Int) - y - 300) with
              | none => rfl
              | some v => have := few_near hs'.out HP.out (k + 1) h; omega)))
            have d1 : decide ((0 : Int) ≤ (tn : Int) - y) = false := decide_eq_false (by omega)
            clear hnext hgq
            go_wp2
            exact ⟨⟨rfl, rfl, q + 1, hN.out.1, by have := He0.out; congr 1; omega, hid hN.out.2, trivial⟩, by have := He0.out; simp [intOf]; omega⟩
          · by_cases hB : 600 < (tn : Int) - y
            · have hN := hid (hnext.out (hgq.out none (by
                cases h : fewO p (ks.drop (k + 1)) ((tn : Int) - y - 300) with
                | none => rfl
                | some v => have := few_near hs'.out HP.out (k + 1) h; omega)))
              have d1 : decide ((0 : Int) ≤ (tn : Int) - y) = true := decide_eq_true (by omega)
              have d2 : decide ((tn : Int) - y ≤ 600) = false := decide_eq_false (by omega)
              clear hnext hgq
              go_wp2
              exact ⟨⟨rfl, rfl, q + 1, hN.out.1, by have := He0.out; congr 1; omega, hid hN.out.2, trivial⟩, by have := He0.out; simp [intOf]; omega⟩
            · obtain ⟨rn, hrn⟩ : ∃ rn : Nat, (tn : Int) - y = rn := ⟨((tn : Int) - y).toNat, by omega⟩
              have hr1 : rn < 601 := by omega
              have hr2 : (rn : Int) < 601 := by omega
              have hr3 : (0 : Int) ≤ rn := by omega
              have hr4 : (rn : Int) ≤ 600 := by omega
              have R1 := ((bcell hb45).1 RW1 rn b1).trans (rowC_at Hb7.out hr1)
              have R2 := ((bcell hb45).1 RF1 rn b2).trans (rowC_at Hb8.out hr1)
              unfold wvT at R1
              unfold fvT at R2
              have x3' : IntKind.i64.wrap ((tn : Int) - y) = (rn : Int) := by rw [hrn]; exact wrap_ok (by omega)
              rw [hrn] at hgq
              clear x3
              have Hrn := hid hrn
              cases hf : fewO p (ks.drop (k + 1)) ((rn : Int) - 300) with
              | none =>
                have hN := hid (hnext.out (hgq.out none hf))
                rw [few_ways.1 hf] at R1
                have d3 : decide ((0 : Int) ≤ (rn : Int)) = true := decide_eq_true hr3
                have d4 : decide ((rn : Int) ≤ 600) = true := decide_eq_true hr4
                clear hnext hgq hf hrn hA hB R2
                go_wp2
                exact ⟨⟨rfl, rfl, q + 1, hN.out.1, by have := He0.out; congr 1; omega, hid hN.out.2, trivial⟩, by have := He0.out; simp [intOf]; omega⟩
              | some v =>
                have hgv := hgq.out _ hf
                simp only at hgv
                have hwp : 0 < ways p (ks.drop (k + 1)) ((rn : Int) - 300) := by
                  rcases Int.lt_or_le 0 (ways p (ks.drop (k + 1)) ((rn : Int) - 300)) with h | h
                  · exact h
                  · have h0 := ways_nonneg p (ks.drop (k + 1)) ((rn : Int) - 300)
                    rw [few_ways.2 (show ways p (ks.drop (k + 1)) ((rn : Int) - 300) = 0 by omega)] at hf
                    cases hf
                rw [hf, fv_some] at R2
                obtain ⟨ww, hww⟩ : ∃ ww, ways p (ks.drop (k + 1)) ((rn : Int) - 300) = ww := ⟨_, rfl⟩
                rw [hww] at R1 hwp
                obtain ⟨v0, v1⟩ := few_validD hs'.out HP.out (k + 1) _ v hf
                obtain ⟨ae, hae⟩ : ∃ ae, max e (-e) = ae := ⟨_, rfl⟩
                have hab : 0 ≤ ae ∧ ae ≤ 300 := by omega
                have x10 : IntKind.i64.wrap (v + ae) = v + ae := wrap_ok (by omega)
                have hgv2 : Hid (goodB p (ks.drop (k + 1)) m ((tn : Int) - 300) y1 (leastK p m + (q : Nat)) = (v + ae == y1)) := hid (by rw [hgv, ← hae]; rfl)
                have d3 : decide ((0 : Int) ≤ (rn : Int)) = true := decide_eq_true hr3
                have d4 : decide ((rn : Int) ≤ 600) = true := decide_eq_true hr4
                have d5 : decide (0 < ww) = true := decide_eq_true hwp
                clear hgv hww hf hgq hrn hA hB
                by_cases hG : v + ae = y1
                · have d6 : (v + ae == y1) = true := by simpa using hG
                  have hgt := hid (hgv2.out.trans d6)
                  have hst := hid (hLA.out.step Hm.out (j := q) (by rw [Hlo.out]; omega) hgt.out hall.out)
                  clear hgv2 hnext hgt
                  go_wp2_with (first | (at_builtin; refine wpList_append_own _ rfl _ _ 23 rfl W4.heap.size 2 i0 _ 1 8 under23 I0.out I1.out I2.out I3.out rfl (by decide) _ k _ rfl (hown5.out.alloc (.cells #[.int .i64 e] 2)) ⟨w5.heap.size, 0, none⟩ 1 1 [.int .i64 e] rfl rfl (fun j u hj => World.news_of_block (Blk.new' (by simp)) j u hj) (one1 _) (by unfold maxLen; omega) (by omega) (by simp; omega) ?_; intro v' w6 ho6 hg6 hv6))
                  obtain ⟨y', hL'⟩ := hst.out
                  rw [Hlo.out, He0.out, Hy.out, Hrn.out] at hL'
                  have hb6 : Below W4.heap.size W4 w6 := (hb45.alloc hb45.size _).grown hg6 (by simp; omega) (fun r hr => (World.ownsRow.lt hown5.out r hr).1)
                  exact ⟨⟨k + 1, L ++ [e], rn, y', by omega, by go_num, rfl, hid hL', hb6, hid (by rw [List.flatMap_append]; exact ho6)⟩, by simp [intOf]; omega⟩
                · have d6 : (v + ae == y1) = false := by simpa using hG
                  have hN := hid (hnext.out (hgv2.out.trans d6))
                  clear hgv2 hnext
                  go_wp2
                  exact ⟨⟨rfl, rfl, q + 1, hN.out.1, by have := He0.out; congr 1; omega, hid hN.out.2, trivial⟩, by have := He0.out; simp [intOf]; omega⟩
      · obtain rfl : k = n := by omega
        have hfin := hid hLA.out.2.1
        have hll := hLA.out.1
        obtain ⟨A9, c9, hv9, hs9⟩ := sl_of_owns hown.out
        subst hv9
        have HS9 := hid hs9
        clear hs9
        go_wp2
        refine bodyPost_ret (v := .tuple #[.slice A9 k c9, .int .i64 0]) (by first | (simp [results, Try.results36, go_sem]; done) | (simp [results, Try.results36, go_sem, *]; done) | (simp [results, Try.results36, go_sem, World.cell?_setCell_same', *]; done) | (simp [results, Try.results36, go_sem]; first | exact ⟨rfl, rfl⟩ | rfl)) rfl ⟨A9, k, c9, by rw [hE.out], ?_, hbA.trans (hbw.mono hz4)⟩
        rw [hV.out, hfin.out, List.drop_of_length_le (by have := hlen.out; omega)]
        rw [show layL p [] (t - 300) = [] from rfl, List.append_nil]
        exact HS9.out
  · have he0 : layE p ks a ≠ 0 := by simpa using he
    have hV : Hid (layV p ks a = []) := hid (if_neg he0)
    go_enter Try.func36, Try.ntmps36
    go_wp2_with (first | (go_at_call 34; refine (refFewest_any _ A n c ks p a hk hn).mono ?_; rintro e w1 ⟨rfl, hb1⟩))
    refine bodyPost_ret (v := .tuple #[.slice none 0 0, .int .i64 (layE p ks a)]) (by first | (simp [results, Try.results36, go_sem]; done) | (simp [results, Try.results36, go_sem, *]; done) | (simp [results, Try.results36, go_sem, World.cell?_setCell_same', *]; done) | (simp [results, Try.results36, go_sem]; first | exact ⟨rfl, rfl⟩ | rfl)) rfl ⟨none, 0, 0, rfl, by rw [hV.out]; exact Sl.none_, hb1⟩
end Go.Proofs.Ytolghmhodaphfaa
