/- Texts of the proof, laid together by program. -/
import Derived.Test.YtnpilfpackdimaaGreatMd
import Derived.Test.YtnpilfpackdimaaGreatMc
import Derived.RangeFuncBound
set_option linter.unusedSimpArgs false
set_option linter.unusedVariables false
/- Walks: the most hires that are apart. -/
namespace Go.Proofs.YtnpilfpackdimaaGreat
open Go.RowKit Go.Shelf
attribute [local go_sem] Oper.semAt_some
set_option maxRecDepth 100000 in
set_option maxHeartbeats 4000000 in
theorem most_any (g : Nat) (I : Int) (A : Option Addr) (n c : Nat) (ls : List (List Int)) (hn : n ≤ 1000) (hbd : ∀ l ∈ ls, isL 8 0 l = true) (r : Nat) :
    ∀ (B : Option Addr) (m d : Nat) (begun : List Int) (from_ : Nat) (w : World), n - from_ = r → from_ ≤ n → Desk w g I A n c ls → InS w w.heap.size B m begun → m ≤ d → (m = 0 → B = none ∧ d = 0) → m ≤ from_ → (∀ x ∈ begun, 0 ≤ x ∧ x < n) →
      Calls Tryz.prog 65 #[.pointer (some ⟨g, 0, none⟩), .slice B m d, .int .i64 from_] w fun e w' => ∃ B' m' d', e = .returned (.slice B' m' d') ∧ InS w' w'.heap.size B' m' (mostP ls begun from_) ∧ Below w.heap.size w w' := by
  induction r using Nat.strongRecOn with
  | _ r ih =>
    intro B m d begun from_ w hr hfn hd hb0 hmd hm0 hmf hbx
    obtain ⟨i0, hi0, hi1, hi2, hi3⟩ := info_parts' infoI
    have I0 := hid hi0; have I1 := hid hi1; have I2 := hid hi2; have I3 := hid hi3
    have hlen := hid hd.2.1
    have hbl := hid hb0.len
    have HB := hid hb0
    have HD := hid hd
    have HX := hid hbx
    have HBD := hid hbd
    have IH := hid ih
    have hlsn : ls.length = n := hd.2.1
    obtain ⟨fin, hfin⟩ : ∃ fin, mostP ls begun from_ = fin := ⟨_, rfl⟩
    have Hfin : Hid (mostL ls (n - from_) begun from_ begun = fin) := hid (by rw [← hfin]; unfold mostP; rw [hlsn])
    rw [hfin]
    clear hi0 hi1 hi2 hi3 hd hb0 hbx ih hfin hlsn
    go_enter Tryz.func65, Tryz.ntmps65
    go_wp2
    go_loopw [7, 8] (fun o i wr => ∃ (k m' d' : Nat) (B' : Option Addr) (ol : List Int), from_ ≤ k ∧ k ≤ n ∧ i = .int .i64 k ∧ o = .slice B' m' d' ∧ Hid (InS wr wr.heap.size B' m' ol) ∧ Hid (mostL ls (n - k) begun k ol = fin) ∧ m' ≤ 1000000 ∧ Below w.heap.size w wr) (fun _ i _ => n - (intOf i).toNat)
    case atStart => exact ⟨from_, m, d, B, begun, Nat.le_refl _, hfn, rfl, rfl, HB, Hfin, by omega, Below.refl _ _⟩
    case round =>
      obtain ⟨k, m', d', B', ol, hfk, hk, rfl, rfl, hol, hfn2, hm6, hbw⟩ := hrel
      have hszw := hbw.size
      have hdw := HD.out.below hbw
      have q0 : wr.cell? ⟨g, 0, none⟩ = some (.int .i64 I) := hdw.1.cell 0
      have q1 : wr.cell? ⟨g, 1, none⟩ = some (.slice A n c) := hdw.1.cell 1
      have lg := hdw.1.lt
      clear hdw
      by_cases hlt : k < n
      · have hlti : (k : Int) < n := by omega
        have hst := hid (mostL_step ls hlt begun ol)
        have zk : IntKind.i64.wrap ((k : Int) + 1) = (k : Int) + 1 := IntWalk.i64_in _ (by omega)
        have hol2 := hid hol.out.len
        rcases Nat.eq_zero_or_pos m with h0 | h0
        · obtain ⟨rfl, rfl⟩ := hm0 h0
          have hbe : begun = [] := List.eq_nil_of_length_eq_zero (by rw [hbl.out, h0])
          have Hbe := hid hbe
          clear hbe
          subst h0
          go_wp2_with (at_builtin; refine wpList_append_cap rfl _ _ 25 rfl w.heap.size 3 i0 _ 1 8 underL I0.out I1.out I2.out I3.out rfl _ 0 [] rfl rfl (Or.inl ⟨rfl, rfl⟩) ⟨wr.heap.size, 0, none⟩ 1 1 [.int .i64 (k : Int)] rfl rfl (fun j u hj => World.news_of_block (Blk.new' rfl) j u hj) (by decide) (by unfold maxLen; omega) (by omega) (by simp; omega) ?_; intro cap w3 ho3 hg3 hz3)
          have hb3 : Below w.heap.size w w3 := (hbw.alloc hszw _).grown hg3 (by simp; omega) (fun _ h => by cases h)
          have hb03 : Below wr.heap.size wr w3 := ((Below.refl _ wr).alloc (Nat.le_refl _) _).grown hg3 (by simp) (fun _ h => by cases h)
          have hc3 := own_cap ho3
          have hi3 : InS w3 w3.heap.size (some ⟨wr.heap.size + 1, 0, none⟩) 1 (begun ++ [(k : Int)]) := by have := Sl.of_own ho3; unfold InS; rw [Hbe.out]; simpa [cI] using this
          have HI3 := hid hi3
          have hol3 := hid (hol.out.below hb03 hb03.size)
          have hx3 : Hid (∀ x ∈ begun ++ [(k : Int)], 0 ≤ x ∧ x < n) := hid (fun x hx => by
            rcases List.mem_append.1 hx with h | h
            · exact HX.out x h
            · rw [List.mem_singleton.1 h]; omega)
          have hD3 := hid (HD.out.below hb3)
          have hap := apart_any g I A (some ⟨wr.heap.size + 1, 0, none⟩) n c 1 cap ls (begun ++ [(k : Int)]) w3 hD3.out hi3 (by omega) (by omega) HBD.out hx3.out
          have hz03 := hb3.size
          clear hi3 ho3 hz3 hg3 hb03
          cases hapv : apP ls (begun ++ [(k : Int)])
          · rw [hapv] at hap
            have hst1 := hst.out
            rw [hapv] at hst1
            simp only [Bool.false_eq_true, if_false] at hst1
            have Hst1 := hid hst1
            have HAP := hid hap
            clear hap hst1 hapv
            go_wp2_with (fail)
            refine HAP.out.mono ?_
            rintro e w4 ⟨rfl, hb4⟩
            have hb5 := hb3.trans (hb4.mono hz03)
            have hol4 := hid (hol3.out.below hb4 hb4.size)
            clear hb4
            go_wp2
            (first | exact ⟨⟨k + 1, m', d', B', ol, by omega, by omega, by go_num, rfl, hol4, hid (by rw [← Hst1.out]; exact hfn2.out), hm6, hb5⟩, (by first | (simp [intOf]; omega) | (simp [intOf]; done))⟩ | (refine ⟨?_, ?_⟩; (focus ((repeat apply Exists.intro); refine ⟨?_, rfl⟩; exact ⟨k + 1, m', d', B', ol, by omega, by omega, by go_num, rfl, hol4, hid (by rw [← Hst1.out]; exact hfn2.out), hm6, hb5⟩)); (first | (simp [intOf]; omega) | (simp [intOf]; done))))
          · rw [hapv] at hap
            have hst1 := hst.out
            rw [hapv] at hst1
            simp only [if_true] at hst1
            have Hst1 := hid hst1
            have HAP := hid hap
            have hmp : Hid (mostP ls (begun ++ [(k : Int)]) (k + 1) = mostL ls (n - (k + 1)) (begun ++ [(k : Int)]) (k + 1) (begun ++ [(k : Int)])) := hid (by unfold mostP; rw [hlen.out])
            obtain ⟨ll, hll⟩ : ∃ ll, mostL ls (n - (k + 1)) (begun ++ [(k : Int)]) (k + 1) (begun ++ [(k : Int)]) = ll := ⟨_, rfl⟩
            rw [hll] at Hst1 hmp
            clear hap hst1 hapv hll hst
            go_wp2_with (fail)
            refine HAP.out.mono ?_
            rintro e w4 ⟨rfl, hb4⟩
            have hb5 := hb3.trans (hb4.mono hz03)
            have hol4 := hid (hol3.out.below hb4 hb4.size)
            have hD4 := hid (hD3.out.below hb4)
            have hI4 := hid (HI3.out.below hb4 hb4.size)
            have hz5 := hb5.size
            clear hb4 hb3
            have hk1 : ((k : Int) + 1) = ((k + 1 : Nat) : Int) := by omega
            have Hk1 := hid hk1
            clear hk1
            go_wp2_with (fail)
            rw [Hk1.out]
            refine (IH.out (n - (k + 1)) (by omega) (some ⟨wr.heap.size + 1, 0, none⟩) 1 cap (begun ++ [(k : Int)]) (k + 1) w4 rfl (by omega) hD4.out hI4.out hc3 (fun h => by omega) (by omega) hx3.out).mono ?_
            rw [hmp.out]
            rintro e w5 ⟨B5, m5, d5, rfl, hi5, hb6⟩
            rw [← Hk1.out]
            have hb7 := hb5.trans (hb6.mono hz5)
            have hol5 := hid (hol4.out.below hb6 hb6.size)
            have hm5 : m5 ≤ 1000000 := by
              have h1 := hi5.len
              have h2 := mostP_len ls (begun ++ [(k : Int)]) (k + 1)
              rw [hmp.out, hlen.out, List.length_append, hbl.out] at h2
              simp at h2
              omega
            have hllm := hid hi5.len
            have HI5 := hid hi5
            clear hi5 hb6 hb5
            by_cases hlt5 : m' < m5
            · have hlt5i : (m' : Int) < m5 := by omega
              have hnx : Hid (mostL ls (n - (k + 1)) begun (k + 1) ll = fin) := hid (by rw [← hfn2.out, Hst1.out, if_pos (by rw [hol2.out, hllm.out]; exact hlt5)])
              go_wp2
              (first | exact ⟨⟨k + 1, m5, d5, B5, ll, by omega, by omega, by go_num, rfl, HI5, hnx, hm5, hb7⟩, (by first | (simp [intOf]; omega) | (simp [intOf]; done))⟩ | (refine ⟨?_, ?_⟩; (focus ((repeat apply Exists.intro); refine ⟨?_, rfl⟩; exact ⟨k + 1, m5, d5, B5, ll, by omega, by omega, by go_num, rfl, HI5, hnx, hm5, hb7⟩)); (first | (simp [intOf]; omega) | (simp [intOf]; done))))
            · have hlt5i : ¬ (m' : Int) < m5 := by omega
              have hnx : Hid (mostL ls (n - (k + 1)) begun (k + 1) ol = fin) := hid (by rw [← hfn2.out, Hst1.out, if_neg (by rw [hol2.out, hllm.out]; exact hlt5)])
              go_wp2
              (first | exact ⟨⟨k + 1, m', d', B', ol, by omega, by omega, by go_num, rfl, hol5, hnx, hm6, hb7⟩, (by first | (simp [intOf]; omega) | (simp [intOf]; done))⟩ | (refine ⟨?_, ?_⟩; (focus ((repeat apply Exists.intro); refine ⟨?_, rfl⟩; exact ⟨k + 1, m', d', B', ol, by omega, by omega, by go_num, rfl, hol5, hnx, hm6, hb7⟩)); (first | (simp [intOf]; omega) | (simp [intOf]; done))))
        · obtain ⟨b2, o2, rfl, hb2'⟩ := ins_some HB.out h0
          have hfull : Hid (Full (wr.alloc (.cells #[.int .i64 (k : Int)] 3)) (.slice (some ⟨b2, o2, none⟩) m m) m (begun.flatMap cI)) := hid (Or.inr ⟨_, rfl, fun j u hj => by
            obtain ⟨b', o', e, hb', hc'⟩ := (HB.out.below hbw hszw).2 h0
            cases e
            rw [add_at]
            exact (World.cell?_alloc_lt _ _ _ hb').trans (hc' j u hj)⟩)
          have hfl : Hid ((begun.flatMap cI).length = m * 1) := hid (by rw [flatI_len', hbl.out, Nat.mul_one])
          go_wp2_with (at_builtin; refine wpList_append_cap rfl _ _ 25 rfl w.heap.size 3 i0 _ 1 8 underL I0.out I1.out I2.out I3.out rfl _ m (begun.flatMap cI) rfl hfl.out hfull.out ⟨wr.heap.size, 0, none⟩ 1 1 [.int .i64 (k : Int)] rfl rfl (fun j u hj => World.news_of_block (Blk.new' rfl) j u hj) (by decide) (by unfold maxLen; omega) (by omega) (by simp; omega) ?_; intro cap w3 ho3 hg3 hz3)
          have hb3 : Below w.heap.size w w3 := (hbw.alloc hszw _).grown hg3 (by simp; omega) (fun _ h => by cases h)
          have hb03 : Below wr.heap.size wr w3 := ((Below.refl _ wr).alloc (Nat.le_refl _) _).grown hg3 (by simp) (fun _ h => by cases h)
          have hc3 := own_cap ho3
          have hi3 : InS w3 w3.heap.size (some ⟨wr.heap.size + 1, 0, none⟩) (m + 1) (begun ++ [(k : Int)]) := by have := Sl.of_own ho3; unfold InS; rw [List.flatMap_append]; simpa [cI] using this
          have HI3 := hid hi3
          have hol3 := hid (hol.out.below hb03 hb03.size)
          have hx3 : Hid (∀ x ∈ begun ++ [(k : Int)], 0 ≤ x ∧ x < n) := hid (fun x hx => by
            rcases List.mem_append.1 hx with h | h
            · exact HX.out x h
            · rw [List.mem_singleton.1 h]; omega)
          have hD3 := hid (HD.out.below hb3)
          have hap := apart_any g I A (some ⟨wr.heap.size + 1, 0, none⟩) n c (m + 1) cap ls (begun ++ [(k : Int)]) w3 hD3.out hi3 (by omega) (by omega) HBD.out hx3.out
          have hz03 := hb3.size
          clear hi3 ho3 hz3 hg3 hb03
          cases hapv : apP ls (begun ++ [(k : Int)])
          · rw [hapv] at hap
            have hst1 := hst.out
            rw [hapv] at hst1
            simp only [Bool.false_eq_true, if_false] at hst1
            have Hst1 := hid hst1
            have HAP := hid hap
            clear hap hst1 hapv
            go_wp2_with (fail)
            refine HAP.out.mono ?_
            rintro e w4 ⟨rfl, hb4⟩
            have hb5 := hb3.trans (hb4.mono hz03)
            have hol4 := hid (hol3.out.below hb4 hb4.size)
            clear hb4
            go_wp2
            (first | exact ⟨⟨k + 1, m', d', B', ol, by omega, by omega, by go_num, rfl, hol4, hid (by rw [← Hst1.out]; exact hfn2.out), hm6, hb5⟩, (by first | (simp [intOf]; omega) | (simp [intOf]; done))⟩ | (refine ⟨?_, ?_⟩; (focus ((repeat apply Exists.intro); refine ⟨?_, rfl⟩; exact ⟨k + 1, m', d', B', ol, by omega, by omega, by go_num, rfl, hol4, hid (by rw [← Hst1.out]; exact hfn2.out), hm6, hb5⟩)); (first | (simp [intOf]; omega) | (simp [intOf]; done))))
          · rw [hapv] at hap
            have hst1 := hst.out
            rw [hapv] at hst1
            simp only [if_true] at hst1
            have Hst1 := hid hst1
            have HAP := hid hap
            have hmp : Hid (mostP ls (begun ++ [(k : Int)]) (k + 1) = mostL ls (n - (k + 1)) (begun ++ [(k : Int)]) (k + 1) (begun ++ [(k : Int)])) := hid (by unfold mostP; rw [hlen.out])
            obtain ⟨ll, hll⟩ : ∃ ll, mostL ls (n - (k + 1)) (begun ++ [(k : Int)]) (k + 1) (begun ++ [(k : Int)]) = ll := ⟨_, rfl⟩
            rw [hll] at Hst1 hmp
            clear hap hst1 hapv hll hst
            go_wp2_with (fail)
            refine HAP.out.mono ?_
            rintro e w4 ⟨rfl, hb4⟩
            have hb5 := hb3.trans (hb4.mono hz03)
            have hol4 := hid (hol3.out.below hb4 hb4.size)
            have hD4 := hid (hD3.out.below hb4)
            have hI4 := hid (HI3.out.below hb4 hb4.size)
            have hz5 := hb5.size
            clear hb4 hb3
            have hk1 : ((k : Int) + 1) = ((k + 1 : Nat) : Int) := by omega
            have Hk1 := hid hk1
            clear hk1
            go_wp2_with (fail)
            rw [Hk1.out]
            refine (IH.out (n - (k + 1)) (by omega) (some ⟨wr.heap.size + 1, 0, none⟩) (m + 1) cap (begun ++ [(k : Int)]) (k + 1) w4 rfl (by omega) hD4.out hI4.out hc3 (fun h => by omega) (by omega) hx3.out).mono ?_
            rw [hmp.out]
            rintro e w5 ⟨B5, m5, d5, rfl, hi5, hb6⟩
            rw [← Hk1.out]
            have hb7 := hb5.trans (hb6.mono hz5)
            have hol5 := hid (hol4.out.below hb6 hb6.size)
            have hm5 : m5 ≤ 1000000 := by
              have h1 := hi5.len
              have h2 := mostP_len ls (begun ++ [(k : Int)]) (k + 1)
              rw [hmp.out, hlen.out, List.length_append, hbl.out] at h2
              simp at h2
              omega
            have hllm := hid hi5.len
            have HI5 := hid hi5
            clear hi5 hb6 hb5
            by_cases hlt5 : m' < m5
            · have hlt5i : (m' : Int) < m5 := by omega
              have hnx : Hid (mostL ls (n - (k + 1)) begun (k + 1) ll = fin) := hid (by rw [← hfn2.out, Hst1.out, if_pos (by rw [hol2.out, hllm.out]; exact hlt5)])
              go_wp2
              (first | exact ⟨⟨k + 1, m5, d5, B5, ll, by omega, by omega, by go_num, rfl, HI5, hnx, hm5, hb7⟩, (by first | (simp [intOf]; omega) | (simp [intOf]; done))⟩ | (refine ⟨?_, ?_⟩; (focus ((repeat apply Exists.intro); refine ⟨?_, rfl⟩; exact ⟨k + 1, m5, d5, B5, ll, by omega, by omega, by go_num, rfl, HI5, hnx, hm5, hb7⟩)); (first | (simp [intOf]; omega) | (simp [intOf]; done))))
            · have hlt5i : ¬ (m' : Int) < m5 := by omega
              have hnx : Hid (mostL ls (n - (k + 1)) begun (k + 1) ol = fin) := hid (by rw [← hfn2.out, Hst1.out, if_neg (by rw [hol2.out, hllm.out]; exact hlt5)])
              go_wp2
              (first | exact ⟨⟨k + 1, m', d', B', ol, by omega, by omega, by go_num, rfl, hol5, hnx, hm6, hb7⟩, (by first | (simp [intOf]; omega) | (simp [intOf]; done))⟩ | (refine ⟨?_, ?_⟩; (focus ((repeat apply Exists.intro); refine ⟨?_, rfl⟩; exact ⟨k + 1, m', d', B', ol, by omega, by omega, by go_num, rfl, hol5, hnx, hm6, hb7⟩)); (first | (simp [intOf]; omega) | (simp [intOf]; done))))
      · obtain rfl : k = n := by omega
        have hf2 : Hid (ol = fin) := hid (by rw [← hfn2.out, Nat.sub_self]; rfl)
        go_wp2
        refine bodyPost_ret (v := .slice B' m' d') (by first | (simp [results, Tryz.results65, go_sem]; done) | (simp [results, Tryz.results65, go_sem, *]; done) | (simp [results, Tryz.results65, go_sem, World.cell?_setCell_same', *]; done) | (simp [results, Tryz.results65, go_sem]; first | exact ⟨rfl, rfl⟩ | rfl)) rfl ⟨B', m', d', rfl, by rw [← hf2.out]; exact hol.out, hbw⟩
end Go.Proofs.YtnpilfpackdimaaGreat
/- Walks (reference): CheckBook, Bits, Listed, Missed. -/
namespace Go.Proofs.YtnpilfpackdimaaGreat
open Go.RowKit Go.Shelf
attribute [local go_sem] Oper.semAt_some
theorem bits_or_i64_nat (a b : Nat) (ha : a < 2 ^ 62) (hb : b < 2 ^ 62) : bits .or .i64 (a : Int) (b : Int) = ((a ||| b : Nat) : Int) := by
  have hx : a ||| b < 2 ^ 62 := Nat.or_lt_two_pow ha hb
  have e62 : (2 : Nat) ^ 62 = 4611686018427387904 := by decide
  rw [e62] at ha hb hx
  have h1 : (BitVec.ofInt 64 (a : Int)).toNat = a := by
    rw [BitVec.ofInt_natCast, BitVec.toNat_ofNat]; exact Nat.mod_eq_of_lt (by omega)
  have h2 : (BitVec.ofInt 64 (b : Int)).toNat = b := by
    rw [BitVec.ofInt_natCast, BitVec.toNat_ofNat]; exact Nat.mod_eq_of_lt (by omega)
  show IntKind.i64.wrap ((BitVec.ofInt 64 (a : Int) ||| BitVec.ofInt 64 (b : Int)).toNat : Int) = _
  rw [BitVec.toNat_or, h1, h2, IntKind.wrap_i64]
  omega
theorem bits_and_i64_nat (a b : Nat) (ha : a < 2 ^ 62) (hb : b < 2 ^ 62) : bits .and .i64 (a : Int) (b : Int) = ((a &&& b : Nat) : Int) := by
  have hx : a &&& b ≤ a := Nat.and_le_left
  have e62 : (2 : Nat) ^ 62 = 4611686018427387904 := by decide
  rw [e62] at ha hb
  have h1 : (BitVec.ofInt 64 (a : Int)).toNat = a := by
    rw [BitVec.ofInt_natCast, BitVec.toNat_ofNat]; exact Nat.mod_eq_of_lt (by omega)
  have h2 : (BitVec.ofInt 64 (b : Int)).toNat = b := by
    rw [BitVec.ofInt_natCast, BitVec.toNat_ofNat]; exact Nat.mod_eq_of_lt (by omega)
  show IntKind.i64.wrap ((BitVec.ofInt 64 (a : Int) &&& BitVec.ofInt 64 (b : Int)).toNat : Int) = _
  rw [BitVec.toNat_and, h1, h2, IntKind.wrap_i64]
  omega
theorem low_bit' (b k : Nat) (hb : b < 2 ^ 62) : bits .and .i64 ((b : Int) / 2 ^ k) 1 = if b.testBit k then 1 else 0 := by
  have hq : (b : Int) / 2 ^ k = ((b / 2 ^ k : Nat) : Int) := by push_cast; rfl
  have hle : b / 2 ^ k ≤ b := Nat.div_le_self _ _
  rw [hq, Nat.testBit_eq_decide_div_mod_eq]
  have h := bits_and_i64_nat (b / 2 ^ k) 1 (by omega) (by decide)
  rw [show ((1 : Nat) : Int) = 1 from rfl] at h
  rw [h, Nat.and_one_is_mod]
  obtain ⟨q, hqe⟩ : ∃ q, b / 2 ^ k = q := ⟨_, rfl⟩
  rw [hqe]
  by_cases h1 : q % 2 = 1 <;> simp [h1] <;> omega
theorem pow_wrap (k : Nat) (hk : k < 62) : IntKind.i64.wrap ((2 : Int) ^ k) = ((2 ^ k : Nat) : Int) := by
  have h : (2 : Nat) ^ k < 2 ^ 62 := Nat.pow_lt_pow_right (by decide) hk
  have e62 : (2 : Nat) ^ 62 = 4611686018427387904 := by decide
  rw [e62] at h
  rw [show (2 : Int) ^ k = ((2 ^ k : Nat) : Int) by push_cast; rfl]
  obtain ⟨q, hq⟩ : ∃ q, 2 ^ k = q := ⟨_, rfl⟩
  rw [hq] at h ⊢
  rw [IntKind.wrap_i64]; omega
theorem bitsL_bd {n : Nat} : ∀ {l : List Int} {b : Nat}, (∀ x ∈ l, 0 ≤ x ∧ x < n) → b < 2 ^ n → l.foldl (fun b x => b ||| 2 ^ x.toNat) b < 2 ^ n
  | [], _, _, hb => hb
  | x :: l, b, h, hb => by
    have hx := h x (List.mem_cons_self ..)
    exact bitsL_bd (n := n) (l := l) (b := b ||| 2 ^ x.toNat) (fun y hy => h y (List.mem_cons_of_mem _ hy)) (Nat.or_lt_two_pow hb (Nat.pow_lt_pow_right (by decide) (by omega)))
set_option maxRecDepth 10000 in
set_option maxHeartbeats 1600000 in
theorem rbits_any (A : Option Addr) (n c : Nat) (l : List Int) (w : World) (hl : InS w w.heap.size A n l) (hn : n ≤ 1000000) (hb : ∀ x ∈ l, 0 ≤ x ∧ x < 16) :
    Calls Tryz.prog 47 #[.slice A n c] w fun e w' => e = .returned (.int .i64 ((bitsL l : Nat) : Int)) ∧ w = w' := by
  have hlen := hid hl.len
  have HL := hid hl
  have HB := hid hb
  clear hl hb
  go_enter Tryz.func47, Tryz.ntmps47
  go_wp2
  go_loopw [3, 4] (fun v i wr => ∃ k : Nat, k ≤ n ∧ v = .int .i64 ((bitsL (l.take k) : Nat) : Int) ∧ i = .int .i64 k ∧ w = wr) (fun _ i _ => n - (intOf i).toNat)
  case atStart => exact ⟨0, by omega, rfl, rfl, rfl⟩
  case round =>
    obtain ⟨k, hk, rfl, rfl, rfl⟩ := hrel
    by_cases hlt : k < n
    · obtain ⟨b, off, x, rfl, hb1, hm, c0⟩ := HL.out.at_ hlt
      obtain ⟨x0, x16⟩ := HB.out x (List.mem_of_getElem? hm)
      obtain ⟨xn, rfl⟩ : ∃ xn : Nat, x = xn := ⟨x.toNat, by omega⟩
      have hlti : (k : Int) < n := by omega
      obtain ⟨N, hN⟩ : ∃ N, bitsL (l.take k) = N := ⟨_, rfl⟩
      have hNl : N < 2 ^ 16 := by
        rw [← hN]
        exact bitsL_bd (fun x hx => HB.out x (List.mem_of_mem_take hx)) (by decide)
      have hs : Hid (bitsL (l.take (k + 1)) = N ||| 2 ^ xn) := hid (by rw [bitsL_take hm, hN]; rfl)
      have Hor : Hid (bits .or .i64 (N : Int) ((2 : Int) ^ xn) = ((N ||| 2 ^ xn : Nat) : Int)) := hid (by rw [show (2 : Int) ^ xn = ((2 ^ xn : Nat) : Int) by push_cast; rfl]; exact bits_or_i64_nat N (2 ^ xn) (by omega) (Nat.pow_lt_pow_right (by decide) (by omega)))
      have hpw := pow_wrap xn (by omega)
      rw [hN]
      clear hm hN hNl
      go_wp2
      exact ⟨⟨k + 1, by omega, by rw [hs.out, Hor.out], by go_num, trivial⟩, by simp [intOf]; omega⟩
    · obtain rfl : n = k := by omega
      go_wp2
      refine bodyPost_ret (v := .int .i64 ((bitsL l : Nat) : Int)) (by rw [List.take_of_length_le (by rw [hlen.out]; exact Nat.le_refl _)]; simp [results, Tryz.results47, go_sem]) rfl ⟨rfl, rfl⟩
set_option maxRecDepth 10000 in
set_option maxHeartbeats 1600000 in
theorem rlisted_any (b n : Nat) (w : World) (hn : n ≤ 16) (hb : b < 2 ^ 62) :
    Calls Tryz.prog 42 #[.int .i64 (b : Int), .int .i64 (n : Int)] w fun e w' => ∃ v, e = .returned v ∧ w'.ownsRow w.heap.size 3 1 v (listed b n).length ((listed b n).flatMap cI) ∧ Below w.heap.size w w' := by
  obtain ⟨i0, hi0, hi1, hi2, hi3⟩ := info_parts' infoI
  have I0 := hid hi0; have I1 := hid hi1; have I2 := hid hi2; have I3 := hid hi3
  have HB := hid hb
  clear hi0 hi1 hi2 hi3 hb
  go_enter Tryz.func42, Tryz.ntmps42
  go_wp2
  go_loopw [5, 6] (fun v i wr => ∃ k : Nat, k ≤ n ∧ i = .int .i64 k ∧ Below w.heap.size w wr ∧ Hid (wr.ownsRow w.heap.size 3 1 v (listed b k).length ((listed b k).flatMap cI))) (fun _ i _ => n - (intOf i).toNat)
  case atStart => exact ⟨0, by omega, rfl, Below.refl _ _, hid (World.ownsRow_nil _ _ _ _)⟩
  case round =>
    obtain ⟨k, hk2, rfl, hbw, hown⟩ := hrel
    have hszw := hbw.size
    by_cases hlt : k < n
    · have hlti : (k : Int) < n := by omega
      have hll := listed_len b k
      have hs := listed_succ b k
      have hand := low_bit' b k HB.out
      cases ht : b.testBit k
      · rw [ht] at hs hand
        simp only [Bool.false_eq_true, if_false, List.append_nil] at hs hand
        have Hs := hid hs
        clear hs ht
        go_wp2
        exact ⟨⟨k + 1, by omega, by go_num, hbw, hid (by rw [Hs.out]; exact hown.out)⟩, by simp [intOf]; omega⟩
      · rw [ht] at hs hand
        simp only [if_true] at hs hand
        have Hs := hid hs
        have Hl : Hid ((listed b (k + 1)).length = (listed b k).length + 1) := hid (by rw [hs]; simp)
        have Hf : Hid ((listed b (k + 1)).flatMap cI = (listed b k).flatMap cI ++ [.int .i64 k]) := hid (by rw [hs, List.flatMap_append]; rfl)
        clear hs ht
        go_wp2_with (at_builtin; refine wpList_append_own _ rfl _ _ 25 rfl w.heap.size 3 i0 _ 1 8 underL I0.out I1.out I2.out I3.out rfl (by decide) _ (listed b k).length _ rfl (hown.out.alloc (.cells #[.int .i64 k] 3)) ⟨wr.heap.size, 0, none⟩ 1 1 [.int .i64 k] rfl rfl (fun j u hj => World.news_of_block (Blk.new' (by simp)) j u hj) (one1 _) (by unfold maxLen; omega) (by omega) (by simp; omega) ?_; intro v' w3 ho3 hg3 hv3)
        have hb3 : Below w.heap.size w w3 := (hbw.alloc hszw _).grown hg3 (by simp; omega) (fun r hr => (World.ownsRow.lt hown.out r hr).1)
        exact ⟨⟨k + 1, by omega, by go_num, hb3, hid (by rw [Hl.out, Hf.out]; exact ho3)⟩, by simp [intOf]; omega⟩
    · obtain rfl : n = k := by omega
      go_wp2
      refine bodyPost_ret (v := u5) (by first | (simp [results, Tryz.results42, go_sem]; done) | (simp [results, Tryz.results42, go_sem, *]; done) | (simp [results, Tryz.results42, go_sem, World.cell?_setCell_same', *]; done) | (simp [results, Tryz.results42, go_sem]; first | exact ⟨rfl, rfl⟩ | rfl)) rfl ⟨u5, rfl, hown.out, hbw⟩
/-- What a list of hires answers to bits: the first that is not blamed. -/
theorem bitsL_and {l : List Int} {b : Nat} (h : ∀ x ∈ l, 0 ≤ x) : (bitsL l &&& b = 0) ↔ l.any (inB b) = false := by
  constructor
  · intro e
    rw [List.any_eq_false]
    intro x hx
    have h1 := congrArg (fun n => n.testBit x.toNat) e
    simp only [Nat.testBit_and, Nat.zero_testBit] at h1
    rw [bitsL_test h, has_iff.2 (by rw [Int.toNat_of_nonneg (h x hx)]; exact hx), Bool.true_and] at h1
    simp [inB, h1]
  · intro e
    refine Nat.eq_of_testBit_eq fun i => ?_
    rw [Nat.testBit_and, Nat.zero_testBit, bitsL_test h]
    cases hh : has l (i : Int)
    · rfl
    · have := List.any_eq_false.1 e _ (has_iff.1 hh)
      simpa [inB] using this
set_option maxRecDepth 10000 in
set_option maxHeartbeats 1600000 in
theorem rmissed_any (A : Option Addr) (n c : Nat) (ls : List (List Int)) (I : Int) (b : Nat) (w : World) (hl : LiS w w.heap.size A n ls) (hn : n ≤ 1000000) (hv : ∀ l ∈ ls, isL 8 0 l = true) (hb : b < 2 ^ 62) :
    Calls Tryz.prog 52 #[.agg #[.int .i64 I, .slice A n c], .int .i64 (b : Int)] w fun e w' => e = .returned (.int .i64 (missI ls b)) ∧ Below w.heap.size w w' := by
  have hlen := hid hl.1
  have HL := hid hl
  have HV := hid hv
  have HB := hid hb
  obtain ⟨iv, hiv⟩ : ∃ iv, missI ls b = iv := ⟨_, rfl⟩
  have Hiv := hid hiv
  rw [hiv]
  clear hl hv hb hiv
  go_enter Tryz.func52, Tryz.ntmps52
  have B0 : Blk (w.alloc (.cells #[.int .i64 I, .slice A n c] 24)) w.heap.size 24 #[.int .i64 I, .slice A n c] := Blk.new' rfl
  have hb0 : Below w.heap.size w (w.alloc (.cells #[.int .i64 I, .slice A n c] 24)) := (Below.refl _ _).alloc (Nat.le_refl _) _
  go_wp2
  go_loopw [5] (fun i wr => ∃ k : Nat, k ≤ n ∧ i = .int .i64 k ∧ Hid ((ls.take k).any (fun l => !l.any (inB b)) = false) ∧ Hid (Blk wr w.heap.size 24 #[.int .i64 I, .slice A n c]) ∧ Below w.heap.size w wr) (fun i _ => n - (intOf i).toNat)
  case atStart => exact ⟨0, by omega, rfl, hid (by simp), hid B0, hb0⟩
  case round =>
    clear B0 hb0
    obtain ⟨k, hk, rfl, hno, hB, hbw⟩ := hrel
    have hszw := hbw.size
    have c1 := hB.out.cell 1
    have l1 := hB.out.lt
    by_cases hlt : k < n
    · obtain ⟨b1, off, x, A', m, c', rfl, hb1, hm, c0, hin⟩ := (HL.out.below hbw hszw).at_ hlt
      have hxv := HV.out x (List.mem_of_getElem? hm)
      have hx8 : m ≤ 8 := by have := isL_len8 hxv (by omega); have := hin.len; omega
      have hlti : (k : Int) < n := by omega
      have hcb := rbits_any A' m c' x wr hin (by omega) (fun y hy => by have := isL_bd hxv y hy; omega)
      have hand := bits_and_i64_nat (bitsL x) b (Nat.lt_of_lt_of_le (bitsL_lt (n := 8) hxv) (by decide)) HB.out
      have hiff := bitsL_and (l := x) (b := b) (fun y hy => (isL_bd hxv y hy).1)
      obtain ⟨N, hN⟩ : ∃ N, bitsL x = N := ⟨_, rfl⟩
      rw [hN] at hcb hand hiff
      have Hm := hid hm
      clear hm hin hxv hN
      cases hx : x.any (inB b)
      · have hz : N &&& b = 0 := hiff.2 hx
        have Hf := hid (idxA_hit hno.out Hm.out (by simp [hx]))
        rw [hz] at hand
        clear hx hiff hz
        go_wp2_with (go_at_call 47; refine hcb.mono ?_; rintro e w1 ⟨rfl, rfl⟩)
        refine bodyPost_ret (v := .int .i64 k) (by first | (simp [results, Tryz.results52, go_sem]; done) | (simp [results, Tryz.results52, go_sem, *]; done) | (simp [results, Tryz.results52, go_sem, World.cell?_setCell_same', *]; done) | (simp [results, Tryz.results52, go_sem]; first | exact ⟨rfl, rfl⟩ | rfl)) rfl ⟨by rw [← Hiv.out]; unfold missI; rw [Hf.out], hbw⟩
      · have hz : ¬ ((N &&& b : Nat) : Int) = 0 := fun e => by
          have := hiff.1 (by omega)
          rw [hx] at this; cases this
        have Hs := hid (any_off hno.out Hm.out (by simp [hx]))
        clear hx hiff
        go_wp2_with (go_at_call 47; refine hcb.mono ?_; rintro e w1 ⟨rfl, rfl⟩)
        exact ⟨⟨k + 1, by omega, by go_num, Hs, hB, hbw⟩, by simp [intOf]; omega⟩
    · obtain rfl : k = n := by omega
      have Hf : Hid (idxA (fun l => !l.any (inB b)) ls = -1) := hid (idxA_none (by have := hno.out; rwa [List.take_of_length_le (by rw [hlen.out]; exact Nat.le_refl _)] at this))
      go_wp2
      refine bodyPost_ret (v := .int .i64 (-1)) (by first | (simp [results, Tryz.results52, go_sem]; done) | (simp [results, Tryz.results52, go_sem, *]; done) | (simp [results, Tryz.results52, go_sem, World.cell?_setCell_same', *]; done) | (simp [results, Tryz.results52, go_sem]; first | exact ⟨rfl, rfl⟩ | rfl)) rfl ⟨by rw [← Hiv.out]; unfold missI; rw [Hf.out], hbw⟩
end Go.Proofs.YtnpilfpackdimaaGreat
/- Walks (reference): CheckBook, setError, CheckBlame. -/
namespace Go.Proofs.YtnpilfpackdimaaGreat
open Go.RowKit Go.Shelf
attribute [local go_sem] Oper.semAt_some
theorem chk_many {I : Int} {ls : List (List Int)} (h : I < 1 ∨ 8 < I ∨ 10 < ls.length) : chkBook I ls = 6 := if_pos h
set_option maxRecDepth 100000 in
set_option maxHeartbeats 1600000 in
theorem rcheckBook_any (A : Option Addr) (n c : Nat) (ls : List (List Int)) (I : Int) (w : World) (hl : LiS w w.heap.size A n ls) (hn : n ≤ 1000000) (hw : ∀ l ∈ ls, l.length ≤ 1000000) :
    Calls Tryz.prog 63 #[.agg #[.int .i64 I, .slice A n c]] w fun e w' => e = .returned (.int .i64 (chkBook I ls)) ∧ Below w.heap.size w w' := by
  have hlen := hid hl.1
  have HL := hid hl
  have HW := hid hw
  clear hl hw
  have B0 : Blk (w.alloc (.cells #[.int .i64 I, .slice A n c] 24)) w.heap.size 24 #[.int .i64 I, .slice A n c] := Blk.new' rfl
  have hb0 : Below w.heap.size w (w.alloc (.cells #[.int .i64 I, .slice A n c] 24)) := (Below.refl _ _).alloc (Nat.le_refl _) _
  by_cases h1 : I < 1
  · have hv := hid (chk_many (I := I) (ls := ls) (.inl h1))
    go_enter Tryz.func63, Tryz.ntmps63
    go_wp2
    refine bodyPost_ret (v := .int .i64 6) (by first | (simp [results, Tryz.results63, go_sem]; done) | (simp [results, Tryz.results63, go_sem, *]; done) | (simp [results, Tryz.results63, go_sem, World.cell?_setCell_same', *]; done) | (simp [results, Tryz.results63, go_sem]; first | exact ⟨rfl, rfl⟩ | rfl)) rfl ⟨by rw [hv.out], (by repeat' (first | with_reducible assumption | with_reducible exact Below.refl _ _ | refine Below.alloc ?_ ?_ _ | refine Below.setCell ?_ ?_ _ | refine Below.drew ?_ | refine below_drewN ?_ _ | (simp; done) | (simp; omega) | omega))⟩
  by_cases h2 : 8 < I
  · have hv := hid (chk_many (I := I) (ls := ls) (.inr (.inl h2)))
    go_enter Tryz.func63, Tryz.ntmps63
    go_wp2
    refine bodyPost_ret (v := .int .i64 6) (by first | (simp [results, Tryz.results63, go_sem]; done) | (simp [results, Tryz.results63, go_sem, *]; done) | (simp [results, Tryz.results63, go_sem, World.cell?_setCell_same', *]; done) | (simp [results, Tryz.results63, go_sem]; first | exact ⟨rfl, rfl⟩ | rfl)) rfl ⟨by rw [hv.out], (by repeat' (first | with_reducible assumption | with_reducible exact Below.refl _ _ | refine Below.alloc ?_ ?_ _ | refine Below.setCell ?_ ?_ _ | refine Below.drew ?_ | refine below_drewN ?_ _ | (simp; done) | (simp; omega) | omega))⟩
  by_cases h3 : 10 < n
  · have hv := hid (chk_many (I := I) (ls := ls) (.inr (.inr (by rw [hlen.out]; exact h3))))
    have h3i : (10 : Int) < n := by omega
    go_enter Tryz.func63, Tryz.ntmps63
    go_wp2
    refine bodyPost_ret (v := .int .i64 6) (by first | (simp [results, Tryz.results63, go_sem]; done) | (simp [results, Tryz.results63, go_sem, *]; done) | (simp [results, Tryz.results63, go_sem, World.cell?_setCell_same', *]; done) | (simp [results, Tryz.results63, go_sem]; first | exact ⟨rfl, rfl⟩ | rfl)) rfl ⟨by rw [hv.out], (by repeat' (first | with_reducible assumption | with_reducible exact Below.refl _ _ | refine Below.alloc ?_ ?_ _ | refine Below.setCell ?_ ?_ _ | refine Below.drew ?_ | refine below_drewN ?_ _ | (simp; done) | (simp; omega) | omega))⟩
  have hv : Hid (chkBook I ls = if ls.all (isL I 0) = false then 3 else 0) := hid (if_neg (by rw [hlen.out]; omega))
  have h3i : ¬ (10 : Int) < n := by omega
  go_enter Tryz.func63, Tryz.ntmps63
  go_wp2
  clear h1 h2
  go_loopw [3] (fun i wr => ∃ k : Nat, k ≤ n ∧ i = .int .i64 k ∧ Hid ((ls.take k).any (fun l => !isL I 0 l) = false) ∧ Hid (Blk wr w.heap.size 24 #[.int .i64 I, .slice A n c]) ∧ Below w.heap.size w wr) (fun i _ => n - (intOf i).toNat)
  case atStart => exact ⟨0, by omega, rfl, hid (by simp), hid B0, hb0⟩
  case round =>
    clear B0 hb0
    obtain ⟨k, hk, rfl, hno, hB, hbw⟩ := hrel
    have hszw := hbw.size
    have c0 := hB.out.cell 0
    have c1 := hB.out.cell 1
    have l1 := hB.out.lt
    by_cases hlt : k < n
    · obtain ⟨b1, off, x, A', m, c', rfl, hb1, hm, q0, hin⟩ := (HL.out.below hbw hszw).at_ hlt
      have hlti : (k : Int) < n := by omega
      have hxl := HW.out x (List.mem_of_getElem? hm)
      have hmn : m ≤ 1000000 := by have := hin.len; omega
      have hb1r : b1 < wr.heap.size := by omega
      have Hm := hid hm
      have Hin := hid hin
      clear hm hin
      go_wp2
      refine wp_region_hd_all (fun W => Below wr.heap.size wr W) (by kernel_rfl) (by kernel_rfl) ((Below.refl _ _).drew) ?_
      iterate 7 (refine wpHd_val (v := ?_) (by rfl) (fun W hW => ?_) ?_; rotate_left; (· obtain ⟨hcW, hfW⟩ := bcell hW; go_simp; with_reducible rfl); simp only [Act.put, List.setIfInBounds_toArray, List.set_cons_zero, List.set_cons_succ])
      (refine wpHd_callB (by rfl) (fun W hW => (isSet_any A' m c' x I W (Hin.out.below hW hW.size) hmn)) (fun W hW => ?_) ?_; (· obtain ⟨hcW, hfW⟩ := bcell hW; go_simp); simp only [Act.put, List.setIfInBounds_toArray, List.set_cons_zero, List.set_cons_succ])
      cases hx : isL I 0 x
      · have Hf : Hid (ls.all (isL I 0) = false) := hid (by
          rw [Bool.eq_false_iff]
          intro h
          rw [List.all_eq_true.1 h x (List.mem_of_getElem? Hm.out)] at hx; cases hx)
        (refine wpHd_val (v := ?_) (by rfl) (fun W hW => ?_) ?_; rotate_left; (· obtain ⟨hcW, hfW⟩ := bcell hW; go_simp; with_reducible rfl); simp only [Act.put, List.setIfInBounds_toArray, List.set_cons_zero, List.set_cons_succ])
        refine wpHd_nil ?_
        intro W9 hW9
        have hbw9 := hbw.trans (hW9.mono hszw)
        clear hx
        go_wp2
        refine bodyPost_ret (v := .int .i64 3) (by first | (simp [results, Tryz.results63, go_sem]; done) | (simp [results, Tryz.results63, go_sem, *]; done) | (simp [results, Tryz.results63, go_sem, World.cell?_setCell_same', *]; done) | (simp [results, Tryz.results63, go_sem]; first | exact ⟨rfl, rfl⟩ | rfl)) rfl ⟨by rw [hv.out, Hf.out]; rfl, hbw9⟩
      · have Hs := hid (any_off hno.out Hm.out (by simp [hx]))
        (refine wpHd_val (v := ?_) (by rfl) (fun W hW => ?_) ?_; rotate_left; (· obtain ⟨hcW, hfW⟩ := bcell hW; go_simp; with_reducible rfl); simp only [Act.put, List.setIfInBounds_toArray, List.set_cons_zero, List.set_cons_succ])
        refine wpHd_nil ?_
        intro W9 hW9
        have hbw9 := hbw.trans (hW9.mono hszw)
        have hB9 := hid (hB.out.below hW9 l1)
        clear hx
        go_wp2
        exact ⟨⟨k + 1, by omega, by go_num, Hs, hB9, hbw9⟩, by simp [intOf]; omega⟩
    · obtain rfl : k = n := by omega
      have Hf : Hid (ls.all (isL I 0) = true) := hid (by
        have h := hno.out
        rw [List.take_of_length_le (by rw [hlen.out]; exact Nat.le_refl _), any_not_all] at h
        simpa using h)
      go_wp2
      refine bodyPost_ret (v := .int .i64 0) (by first | (simp [results, Tryz.results63, go_sem]; done) | (simp [results, Tryz.results63, go_sem, *]; done) | (simp [results, Tryz.results63, go_sem, World.cell?_setCell_same', *]; done) | (simp [results, Tryz.results63, go_sem]; first | exact ⟨rfl, rfl⟩ | rfl)) rfl ⟨by rw [hv.out, Hf.out]; rfl, hbw⟩
set_option maxRecDepth 100000 in
set_option maxHeartbeats 1600000 in
theorem rsetError_any (A B : Option Addr) (n c m d : Nat) (ls : List (List Int)) (s : List Int) (I : Int) (w : World) (hl : LiS w w.heap.size A n ls) (hs : InS w w.heap.size B m s) (hn : n ≤ 1000000) (hw : ∀ l ∈ ls, l.length ≤ 1000000) (hm : m ≤ 1000000) :
    Calls Tryz.prog 110 #[.agg #[.int .i64 I, .slice A n c], .slice B m d] w fun e w' => e = .returned (.int .i64 (openE I ls [s])) ∧ Below w.heap.size w w' := by
  have HL := hid hl
  have HS := hid hs
  have HC := hid (fun W h => rcheckBook_any A n c ls I W h hn hw)
  have HI := hid (fun W h => isSet_any B m d s I W h hm)
  clear hl hs hw
  have hb0 : Below w.heap.size w (w.alloc (.cells #[.int .i64 I, .slice A n c] 24)) := (Below.refl _ _).alloc (Nat.le_refl _) _
  by_cases he : chkBook I ls = 0
  · have hv : Hid (openE I ls [s] = if [s].all (isL I 0) = false then 3 else 0) := hid (if_neg (by simpa using he))
    rw [he] at HC
    cases hx : isL I 0 s
    all_goals
      have hv2 : Hid ([s].all (isL I 0) = isL I 0 s) := hid (by simp)
      have Hx := hid hx
      rw [hx] at HI
      clear hx he
      go_enter Tryz.func110, Tryz.ntmps110
      go_wp2_with (fail)
      refine (HC.out _ (HL.out.below hb0 hb0.size)).mono ?_
      rintro e w1 ⟨rfl, hb1⟩
      have hbel : Below w.heap.size w w1 := Below.trans (by repeat' (first | with_reducible assumption | with_reducible exact Below.refl _ _ | refine Below.alloc ?_ ?_ _ | refine Below.setCell ?_ ?_ _ | refine Below.drew ?_ | refine below_drewN ?_ _ | (simp; done) | (simp; omega) | omega)) (hb1.mono (by first | (simp; done) | (simp; omega) | omega))
      have c0 : w1.cell? ⟨w.heap.size, 0, none⟩ = some (.int .i64 I) := (hb1.cell (p := ⟨w.heap.size, 0, none⟩) (by first | (simp; done) | (simp; omega) | omega)).trans (by go_simp)
      have hq0 : w.heap.size < w1.heap.size := (by have := hb1.size; simp at this; omega)
      clear hb1 hb0
      go_wp2_with (fail)
      refine (HI.out _ (HS.out.below hbel hbel.size)).mono ?_
      rintro e w2 ⟨rfl, hb2⟩
      have hbe2 := hbel.trans (hb2.mono hbel.size)
      go_wp2
    · refine bodyPost_ret (v := .int .i64 3) (by first | (simp [results, Tryz.results110, go_sem]; done) | (simp [results, Tryz.results110, go_sem, *]; done) | (simp [results, Tryz.results110, go_sem, World.cell?_setCell_same', *]; done) | (simp [results, Tryz.results110, go_sem]; first | exact ⟨rfl, rfl⟩ | rfl)) rfl ⟨by rw [hv.out, hv2.out, Hx.out]; rfl, hbe2⟩
    · refine bodyPost_ret (v := .int .i64 0) (by first | (simp [results, Tryz.results110, go_sem]; done) | (simp [results, Tryz.results110, go_sem, *]; done) | (simp [results, Tryz.results110, go_sem, World.cell?_setCell_same', *]; done) | (simp [results, Tryz.results110, go_sem]; first | exact ⟨rfl, rfl⟩ | rfl)) rfl ⟨by rw [hv.out, hv2.out, Hx.out]; rfl, hbe2⟩
  · have hv : Hid (openE I ls [s] = chkBook I ls) := hid (if_pos he)
    obtain ⟨ev, hev⟩ : ∃ ev, chkBook I ls = ev := ⟨_, rfl⟩
    rw [hev] at hv HC he
    have hbi : (ev != 0) = true := by simpa using he
    clear hev
    go_enter Tryz.func110, Tryz.ntmps110
    go_wp2_with (fail)
    refine (HC.out _ (HL.out.below hb0 hb0.size)).mono ?_
    rintro e w1 ⟨rfl, hb1⟩
    have hbel : Below w.heap.size w w1 := Below.trans (by repeat' (first | with_reducible assumption | with_reducible exact Below.refl _ _ | refine Below.alloc ?_ ?_ _ | refine Below.setCell ?_ ?_ _ | refine Below.drew ?_ | refine below_drewN ?_ _ | (simp; done) | (simp; omega) | omega)) (hb1.mono (by first | (simp; done) | (simp; omega) | omega))
    have c0 : w1.cell? ⟨w.heap.size, 0, none⟩ = some (.int .i64 I) := (hb1.cell (p := ⟨w.heap.size, 0, none⟩) (by first | (simp; done) | (simp; omega) | omega)).trans (by go_simp)
    have c1 : w1.cell? ⟨w.heap.size, 1, none⟩ = some (.slice A n c) := (hb1.cell (p := ⟨w.heap.size, 1, none⟩) (by first | (simp; done) | (simp; omega) | omega)).trans (by go_simp)
    have hq0 : w.heap.size < w1.heap.size := (by have := hb1.size; simp at this; omega)
    clear hb1 hb0
    go_wp2_with (fail)
    refine (HC.out _ (HL.out.below hbel hbel.size)).mono ?_
    rintro e w2 ⟨rfl, hb2⟩
    have hbe2 := hbel.trans (hb2.mono hbel.size)
    go_wp2
    refine bodyPost_ret (v := .int .i64 ev) (by first | (simp [results, Tryz.results110, go_sem]; done) | (simp [results, Tryz.results110, go_sem, *]; done) | (simp [results, Tryz.results110, go_sem, World.cell?_setCell_same', *]; done) | (simp [results, Tryz.results110, go_sem]; first | exact ⟨rfl, rfl⟩ | rfl)) rfl ⟨by rw [hv.out], hbe2⟩
end Go.Proofs.YtnpilfpackdimaaGreat
/- Walks (reference): Spare, CheckBlame, CheckTight. -/
namespace Go.Proofs.YtnpilfpackdimaaGreat
open Go.RowKit Go.Shelf
attribute [local go_sem] Oper.semAt_some
theorem clr_all : (List.range 256).all (fun b => (List.range 8).all fun i => !b.testBit i || clr b i + 2 ^ i == b) = true := by kernel_rfl
theorem clr_add {b i : Nat} (hb : b < 256) (hi : i < 8) (h : b.testBit i = true) : clr b i + 2 ^ i = b := by
  have h1 := List.all_eq_true.1 (List.all_eq_true.1 clr_all b (List.mem_range.2 hb)) i (List.mem_range.2 hi)
  rw [h] at h1
  simpa using h1
/-- The first inn that can be left out. -/
def spR (I : Nat) (ls : List (List Int)) (b : Nat) : Int := idxA (fun i => b.testBit i && decide (missI ls (clr b i) < 0)) (List.range I)
set_option maxRecDepth 100000 in
set_option maxHeartbeats 1600000 in
theorem rspare_any (A : Option Addr) (n c : Nat) (ls : List (List Int)) (I : Nat) (b : Nat) (w : World) (hl : LiS w w.heap.size A n ls) (hn : n ≤ 1000000) (hv : ∀ l ∈ ls, isL 8 0 l = true) (hI : I ≤ 8) (hb : b < 256) :
    Calls Tryz.prog 91 #[.agg #[.int .i64 (I : Int), .slice A n c], .int .i64 (b : Int)] w fun e w' => e = .returned (.int .i64 (spR I ls b)) ∧ Below w.heap.size w w' := by
  have HL := hid hl
  have HB := hid hb
  have HM := hid (fun (x : Nat) (W : World) (hx : x < 2 ^ 62) h => rmissed_any A n c ls (I : Int) x W h hn hv hx)
  obtain ⟨iv, hiv⟩ : ∃ iv, spR I ls b = iv := ⟨_, rfl⟩
  have Hiv := hid hiv
  rw [hiv]
  clear hl hv hb hiv
  go_enter Tryz.func91, Tryz.ntmps91
  have B0 : Blk (w.alloc (.cells #[.int .i64 (I : Int), .slice A n c] 24)) w.heap.size 24 #[.int .i64 (I : Int), .slice A n c] := Blk.new' rfl
  have hb0 : Below w.heap.size w (w.alloc (.cells #[.int .i64 (I : Int), .slice A n c] 24)) := (Below.refl _ _).alloc (Nat.le_refl _) _
  go_wp2
  go_loopw [5] (fun i wr => ∃ k : Nat, k ≤ I ∧ i = .int .i64 k ∧ Hid (((List.range I).take k).any (fun i => b.testBit i && decide (missI ls (clr b i) < 0)) = false) ∧ Hid (Blk wr w.heap.size 24 #[.int .i64 (I : Int), .slice A n c]) ∧ Below w.heap.size w wr) (fun i _ => I - (intOf i).toNat)
  case atStart => exact ⟨0, by omega, rfl, hid (by simp), hid B0, hb0⟩
  case round =>
    clear B0 hb0
    obtain ⟨k, hk, rfl, hno, hB, hbw⟩ := hrel
    have hszw := hbw.size
    have c0 := hB.out.cell 0
    have c1 := hB.out.cell 1
    have l1 := hB.out.lt
    by_cases hlt : k < I
    · have hlti : (k : Int) < I := by omega
      have Hm : Hid ((List.range I)[k]? = some k) := hid (by rw [List.getElem?_range hlt])
      have hand := low_bit' b k (by have := HB.out; omega)
      cases ht : b.testBit k
      · rw [ht] at hand
        simp only [Bool.false_eq_true, if_false] at hand
        have Hs := hid (any_off hno.out Hm.out (by rw [ht]; rfl))
        clear ht
        go_wp2
        refine wp_region_hd_all (fun W => Below wr.heap.size wr W) (by kernel_rfl) (by kernel_rfl) ((Below.refl _ _).drew) ?_
        iterate 6 (refine wpHd_val (v := ?_) (by rfl) (fun W hW => ?_) ?_; rotate_left; (· obtain ⟨hcW, hfW⟩ := bcell hW; go_simp; with_reducible rfl); simp only [Act.put, List.setIfInBounds_toArray, List.set_cons_zero, List.set_cons_succ])
        iterate 7 (refine wpHd_not (by rfl) ?_; simp only [Act.put, List.setIfInBounds_toArray, List.set_cons_zero, List.set_cons_succ])
        (refine wpHd_val (v := ?_) (by rfl) (fun W hW => ?_) ?_; rotate_left; (· obtain ⟨hcW, hfW⟩ := bcell hW; go_simp; with_reducible rfl); simp only [Act.put, List.setIfInBounds_toArray, List.set_cons_zero, List.set_cons_succ])
        refine wpHd_nil ?_
        intro W9 hW9
        have hbw9 := hbw.trans (hW9.mono hszw)
        have hB9 := hid (hB.out.below hW9 l1)
        go_wp2
        exact ⟨⟨k + 1, by omega, by go_num, Hs, hB9, hbw9⟩, by simp [intOf]; omega⟩
      · rw [ht] at hand
        simp only [if_true] at hand
        have hca := clr_add HB.out (by omega : k < 8) ht
        have hsub : (b : Int) - (2 : Int) ^ k = ((clr b k : Nat) : Int) := by
          have e : (2 : Int) ^ k = ((2 ^ k : Nat) : Int) := by push_cast; rfl
          rw [e]; omega
        have hpw := pow_wrap k (by omega)
        obtain ⟨C, hC⟩ : ∃ C, clr b k = C := ⟨_, rfl⟩
        obtain ⟨mv, hmv⟩ : ∃ mv, missI ls (clr b k) = mv := ⟨_, rfl⟩
        have hm2 := HM.out (clr b k)
        rw [hmv, hC] at hm2
        rw [hC] at hsub hca
        have hC8 : C < 256 := by have := HB.out; have := Nat.two_pow_pos k; omega
        have Hm2 := hid hm2
        have zc : IntKind.i64.wrap ((b : Int) - (2 : Int) ^ k) = (C : Int) := by rw [hsub, IntKind.wrap_i64]; omega
        have zc2 : IntKind.i64.wrap ((b : Int) - ((2 ^ k : Nat) : Int)) = (C : Int) := by rw [show ((2 ^ k : Nat) : Int) = (2 : Int) ^ k by push_cast; rfl]; exact zc
        cases hx : decide (mv < 0)
        · have hxn : ¬ mv < 0 := of_decide_eq_false hx
          have Hs := hid (any_off hno.out Hm.out (by rw [ht, hmv, hx]; rfl))
          clear ht hm2 hmv hx hC hca hsub
          go_wp2
          refine wp_region_hd_all (fun W => Below wr.heap.size wr W) (by kernel_rfl) (by kernel_rfl) ((Below.refl _ _).drew) ?_
          iterate 11 (refine wpHd_val (v := ?_) (by rfl) (fun W hW => ?_) ?_; rotate_left; (· obtain ⟨hcW, hfW⟩ := bcell hW; go_simp; with_reducible rfl); simp only [Act.put, List.setIfInBounds_toArray, List.set_cons_zero, List.set_cons_succ])
          (refine wpHd_callB (by rfl) (fun W hW => (Hm2.out W (by omega) (HL.out.below (hbw.trans (hW.mono hszw)) (Nat.le_trans hszw hW.size)))) (fun W hW => ?_) ?_; (· obtain ⟨hcW, hfW⟩ := bcell hW; go_simp); simp only [Act.put, List.setIfInBounds_toArray, List.set_cons_zero, List.set_cons_succ])
          iterate 2 (refine wpHd_val (v := ?_) (by rfl) (fun W hW => ?_) ?_; rotate_left; (· obtain ⟨hcW, hfW⟩ := bcell hW; go_simp; with_reducible rfl); simp only [Act.put, List.setIfInBounds_toArray, List.set_cons_zero, List.set_cons_succ])
          refine wpHd_nil ?_
          intro W9 hW9
          have hbw9 := hbw.trans (hW9.mono hszw)
          have hB9 := hid (hB.out.below hW9 l1)
          clear zc zc2 hpw
          go_wp2
          exact ⟨⟨k + 1, by omega, by go_num, Hs, hB9, hbw9⟩, by simp [intOf]; omega⟩
        · have hxn : mv < 0 := of_decide_eq_true hx
          have Hf := hid (idxA_hit hno.out Hm.out (by rw [ht, hmv, hx]; rfl))
          clear ht hm2 hmv hx hC hca hsub
          go_wp2
          refine wp_region_hd_all (fun W => Below wr.heap.size wr W) (by kernel_rfl) (by kernel_rfl) ((Below.refl _ _).drew) ?_
          iterate 11 (refine wpHd_val (v := ?_) (by rfl) (fun W hW => ?_) ?_; rotate_left; (· obtain ⟨hcW, hfW⟩ := bcell hW; go_simp; with_reducible rfl); simp only [Act.put, List.setIfInBounds_toArray, List.set_cons_zero, List.set_cons_succ])
          (refine wpHd_callB (by rfl) (fun W hW => (Hm2.out W (by omega) (HL.out.below (hbw.trans (hW.mono hszw)) (Nat.le_trans hszw hW.size)))) (fun W hW => ?_) ?_; (· obtain ⟨hcW, hfW⟩ := bcell hW; go_simp); simp only [Act.put, List.setIfInBounds_toArray, List.set_cons_zero, List.set_cons_succ])
          iterate 2 (refine wpHd_val (v := ?_) (by rfl) (fun W hW => ?_) ?_; rotate_left; (· obtain ⟨hcW, hfW⟩ := bcell hW; go_simp; with_reducible rfl); simp only [Act.put, List.setIfInBounds_toArray, List.set_cons_zero, List.set_cons_succ])
          refine wpHd_nil ?_
          intro W9 hW9
          have hbw9 := hbw.trans (hW9.mono hszw)
          clear zc zc2 hpw
          go_wp2
          refine bodyPost_ret (v := .int .i64 k) (by first | (simp [results, Tryz.results91, go_sem]; done) | (simp [results, Tryz.results91, go_sem, *]; done) | (simp [results, Tryz.results91, go_sem, World.cell?_setCell_same', *]; done) | (simp [results, Tryz.results91, go_sem]; first | exact ⟨rfl, rfl⟩ | rfl)) rfl ⟨by rw [← Hiv.out]; unfold spR; rw [Hf.out], hbw9⟩
    · obtain rfl : k = I := by omega
      have Hf := hid (idxA_none (by have := hno.out; rwa [List.take_of_length_le (by rw [List.length_range]; exact Nat.le_refl _)] at this))
      go_wp2
      refine bodyPost_ret (v := .int .i64 (-1)) (by first | (simp [results, Tryz.results91, go_sem]; done) | (simp [results, Tryz.results91, go_sem, *]; done) | (simp [results, Tryz.results91, go_sem, World.cell?_setCell_same', *]; done) | (simp [results, Tryz.results91, go_sem]; first | exact ⟨rfl, rfl⟩ | rfl)) rfl ⟨by rw [← Hiv.out]; unfold spR; rw [Hf.out], hbw⟩
set_option maxRecDepth 100000 in
set_option maxHeartbeats 1600000 in
theorem rcheckBlame_any (A B : Option Addr) (n c m d : Nat) (ls : List (List Int)) (s : List Int) (I : Int) (w : World) (hl : LiS w w.heap.size A n ls) (hs : InS w w.heap.size B m s) (hn : n ≤ 1000000) (hw : ∀ l ∈ ls, l.length ≤ 1000000) (hm : m ≤ 1000000) :
    Calls Tryz.prog 90 #[.agg #[.int .i64 I, .slice A n c], .slice B m d] w fun e w' => e = .returned (.tuple #[.int .i64 (blmV I ls s), .int .i64 (blmE I ls s)]) ∧ Below w.heap.size w w' := by
  have hlen := hid hs.len
  have HL := hid hl
  have HS := hid hs
  have HC := hid (fun W h h2 => rsetError_any A B n c m d ls s I W h h2 hn hw hm)
  have hb0 : Below w.heap.size w (w.alloc (.cells #[.int .i64 I, .slice A n c] 24)) := (Below.refl _ _).alloc (Nat.le_refl _) _
  clear hl hs hw
  by_cases he : openE I ls [s] = 0
  · obtain ⟨hc, hall⟩ := openE_good he
    have hsv : isL 8 0 s = true := isL8 (hall s (List.mem_singleton.2 rfl)) (book_good hc).2.1
    have hv : Hid (blmV I ls s = if 0 ≤ missI ls (bitsL s) then missI ls (bitsL s) else s.length) := hid (if_neg (by simpa using he))
    have hve : Hid (blmE I ls s = if 0 ≤ missI ls (bitsL s) then 21 else 0) := hid (if_neg (by simpa using he))
    have HM := hid (fun W h => rmissed_any A n c ls I (bitsL s) W h hn (book8 hc) (Nat.lt_of_lt_of_le (bitsL_lt (n := 8) hsv) (by decide)))
    have HR := hid (fun W h => rbits_any B m d s W h hm (fun y hy => by have := isL_bd hsv y hy; omega))
    rw [he] at HC
    obtain ⟨mv, hmv⟩ : ∃ mv, missI ls (bitsL s) = mv := ⟨_, rfl⟩
    rw [hmv] at HM hv hve
    obtain ⟨bn, hbn⟩ : ∃ bn, bitsL s = bn := ⟨_, rfl⟩
    rw [hbn] at HM HR
    clear he hc hall hsv hmv hbn
    by_cases hx : 0 ≤ mv
    all_goals
      first | rw [if_pos hx] at hv hve | rw [if_neg hx] at hv hve
      go_enter Tryz.func90, Tryz.ntmps90
      go_wp2_with (fail)
      refine (HC.out _ (HL.out.below hb0 hb0.size) (HS.out.below hb0 hb0.size)).mono ?_
      rintro e w1 ⟨rfl, hb1⟩
      have hbel : Below w.heap.size w w1 := Below.trans (by repeat' (first | with_reducible assumption | with_reducible exact Below.refl _ _ | refine Below.alloc ?_ ?_ _ | refine Below.setCell ?_ ?_ _ | refine Below.drew ?_ | refine below_drewN ?_ _ | (simp; done) | (simp; omega) | omega)) (hb1.mono (by first | (simp; done) | (simp; omega) | omega))
      have c0 : w1.cell? ⟨w.heap.size, 0, none⟩ = some (.int .i64 I) := (hb1.cell (p := ⟨w.heap.size, 0, none⟩) (by first | (simp; done) | (simp; omega) | omega)).trans (by go_simp)
      have c1 : w1.cell? ⟨w.heap.size, 1, none⟩ = some (.slice A n c) := (hb1.cell (p := ⟨w.heap.size, 1, none⟩) (by first | (simp; done) | (simp; omega) | omega)).trans (by go_simp)
      have hq0 : w.heap.size < w1.heap.size := (by have := hb1.size; simp at this; omega)
      clear hb1 hb0
      go_wp2
      refine wp_region_hd_all (fun W => Below w1.heap.size w1 W) (by kernel_rfl) (by kernel_rfl) ((Below.refl _ _).drew) ?_
      iterate 2 (refine wpHd_val (v := ?_) (by rfl) (fun W hW => ?_) ?_; rotate_left; (· obtain ⟨hcW, hfW⟩ := bcell hW; go_simp; with_reducible rfl); simp only [Act.put, List.setIfInBounds_toArray, List.set_cons_zero, List.set_cons_succ])
      (refine wpHd_callB (by rfl) (fun W hW => ((HR.out W (HS.out.below (hbel.trans (hW.mono hbel.size)) (Nat.le_trans hbel.size hW.size))).mono (fun e w' h => ⟨h.1, by rw [← h.2]; exact Below.refl _ _⟩))) (fun W hW => ?_) ?_; (· obtain ⟨hcW, hfW⟩ := bcell hW; go_simp); simp only [Act.put, List.setIfInBounds_toArray, List.set_cons_zero, List.set_cons_succ])
      (refine wpHd_callB (by rfl) (fun W hW => (HM.out W (HL.out.below (hbel.trans (hW.mono hbel.size)) (Nat.le_trans hbel.size hW.size)))) (fun W hW => ?_) ?_; (· obtain ⟨hcW, hfW⟩ := bcell hW; go_simp); simp only [Act.put, List.setIfInBounds_toArray, List.set_cons_zero, List.set_cons_succ])
      (refine wpHd_val (v := ?_) (by rfl) (fun W hW => ?_) ?_; rotate_left; (· obtain ⟨hcW, hfW⟩ := bcell hW; go_simp; with_reducible rfl); simp only [Act.put, List.setIfInBounds_toArray, List.set_cons_zero, List.set_cons_succ])
      refine wpHd_nil ?_
      intro W9 hW9
      have hbw9 := hbel.trans (hW9.mono hbel.size)
      clear c0 c1
      go_wp2
    · refine bodyPost_ret (v := .tuple #[.int .i64 mv, .int .i64 21]) (by first | (simp [results, Tryz.results90, go_sem]; done) | (simp [results, Tryz.results90, go_sem, *]; done) | (simp [results, Tryz.results90, go_sem, World.cell?_setCell_same', *]; done) | (simp [results, Tryz.results90, go_sem]; first | exact ⟨rfl, rfl⟩ | rfl)) rfl ⟨by rw [hv.out, hve.out], hbw9⟩
    · refine bodyPost_ret (v := .tuple #[.int .i64 (m : Int), .int .i64 0]) (by first | (simp [results, Tryz.results90, go_sem]; done) | (simp [results, Tryz.results90, go_sem, *]; done) | (simp [results, Tryz.results90, go_sem, World.cell?_setCell_same', *]; done) | (simp [results, Tryz.results90, go_sem]; first | exact ⟨rfl, rfl⟩ | rfl)) rfl ⟨by rw [hv.out, hve.out, hlen.out], hbw9⟩
  · have hv : Hid (blmV I ls s = 0) := hid (if_pos he)
    have hve : Hid (blmE I ls s = openE I ls [s]) := hid (if_pos he)
    obtain ⟨ev, hev⟩ : ∃ ev, openE I ls [s] = ev := ⟨_, rfl⟩
    rw [hev] at hve HC he
    have hbi : (ev != 0) = true := by simpa using he
    clear hev
    go_enter Tryz.func90, Tryz.ntmps90
    go_wp2_with (fail)
    refine (HC.out _ (HL.out.below hb0 hb0.size) (HS.out.below hb0 hb0.size)).mono ?_
    rintro e w1 ⟨rfl, hb1⟩
    have hbel : Below w.heap.size w w1 := Below.trans (by repeat' (first | with_reducible assumption | with_reducible exact Below.refl _ _ | refine Below.alloc ?_ ?_ _ | refine Below.setCell ?_ ?_ _ | refine Below.drew ?_ | refine below_drewN ?_ _ | (simp; done) | (simp; omega) | omega)) (hb1.mono (by first | (simp; done) | (simp; omega) | omega))
    have c0 : w1.cell? ⟨w.heap.size, 0, none⟩ = some (.int .i64 I) := (hb1.cell (p := ⟨w.heap.size, 0, none⟩) (by first | (simp; done) | (simp; omega) | omega)).trans (by go_simp)
    have c1 : w1.cell? ⟨w.heap.size, 1, none⟩ = some (.slice A n c) := (hb1.cell (p := ⟨w.heap.size, 1, none⟩) (by first | (simp; done) | (simp; omega) | omega)).trans (by go_simp)
    have hq0 : w.heap.size < w1.heap.size := (by have := hb1.size; simp at this; omega)
    clear hb1 hb0
    go_wp2_with (fail)
    refine (HC.out _ (HL.out.below hbel hbel.size) (HS.out.below hbel hbel.size)).mono ?_
    rintro e w2 ⟨rfl, hb2⟩
    have hbe2 := hbel.trans (hb2.mono hbel.size)
    go_wp2
    refine bodyPost_ret (v := .tuple #[.int .i64 0, .int .i64 ev]) (by first | (simp [results, Tryz.results90, go_sem]; done) | (simp [results, Tryz.results90, go_sem, *]; done) | (simp [results, Tryz.results90, go_sem, World.cell?_setCell_same', *]; done) | (simp [results, Tryz.results90, go_sem]; first | exact ⟨rfl, rfl⟩ | rfl)) rfl ⟨by rw [hv.out, hve.out], hbe2⟩
end Go.Proofs.YtnpilfpackdimaaGreat
/- Walks (reference): CheckTight, Before. -/
namespace Go.Proofs.YtnpilfpackdimaaGreat
open Go.RowKit Go.Shelf
attribute [local go_sem] Oper.semAt_some
def rtgE (I : Int) (ls : List (List Int)) (s : List Int) : Int := if blmE I ls s ≠ 0 then blmE I ls s else if 0 ≤ spR I.toNat ls (bitsL s) then 16 else 0
def rtgV (I : Int) (ls : List (List Int)) (s : List Int) : Int := if blmE I ls s ≠ 0 then blmV I ls s else if 0 ≤ spR I.toNat ls (bitsL s) then spR I.toNat ls (bitsL s) else blmV I ls s
set_option maxRecDepth 100000 in
set_option maxHeartbeats 1600000 in
theorem rcheckTight_any (A B : Option Addr) (n c m d : Nat) (ls : List (List Int)) (s : List Int) (I : Int) (w : World) (hl : LiS w w.heap.size A n ls) (hs : InS w w.heap.size B m s) (hn : n ≤ 1000000) (hw : ∀ l ∈ ls, l.length ≤ 1000000) (hm : m ≤ 1000000) :
    Calls Tryz.prog 46 #[.agg #[.int .i64 I, .slice A n c], .slice B m d] w fun e w' => e = .returned (.tuple #[.int .i64 (rtgV I ls s), .int .i64 (rtgE I ls s)]) ∧ Below w.heap.size w w' := by
  have hlen := hid hs.len
  have HL := hid hl
  have HS := hid hs
  have HC := hid (fun W h h2 => rcheckBlame_any A B n c m d ls s I W h h2 hn hw hm)
  have hb0 : Below w.heap.size w (w.alloc (.cells #[.int .i64 I, .slice A n c] 24)) := (Below.refl _ _).alloc (Nat.le_refl _) _
  clear hl hs hw
  by_cases he : blmE I ls s = 0
  · obtain ⟨ho, -⟩ := blmE_good he
    obtain ⟨hc, hall⟩ := openE_good ho
    obtain ⟨J, rfl⟩ : ∃ J : Nat, I = J := ⟨I.toNat, by have := (book_good hc).1; omega⟩
    have hJ8 : J ≤ 8 := by have := (book_good hc).2.1; omega
    have hsv : isL 8 0 s = true := isL8 (hall s (List.mem_singleton.2 rfl)) (book_good hc).2.1
    have hv : Hid (rtgV J ls s = if 0 ≤ spR J ls (bitsL s) then spR J ls (bitsL s) else blmV J ls s) := hid (if_neg (by simpa using he))
    have hve : Hid (rtgE J ls s = if 0 ≤ spR J ls (bitsL s) then 16 else 0) := hid (if_neg (by simpa using he))
    have HM := hid (fun W h => rspare_any A n c ls J (bitsL s) W h hn (book8 hc) hJ8 (Nat.lt_of_lt_of_le (bitsL_lt (n := 8) hsv) (by decide)))
    have HR := hid (fun W h => rbits_any B m d s W h hm (fun y hy => by have := isL_bd hsv y hy; omega))
    rw [he] at HC
    obtain ⟨mv, hmv⟩ : ∃ mv, spR J ls (bitsL s) = mv := ⟨_, rfl⟩
    rw [hmv] at HM hv hve
    obtain ⟨bn, hbn⟩ : ∃ bn, bitsL s = bn := ⟨_, rfl⟩
    rw [hbn] at HM HR
    obtain ⟨bv, hbv⟩ : ∃ bv, blmV J ls s = bv := ⟨_, rfl⟩
    rw [hbv] at HC hv
    clear he hc hall hsv hmv hbn ho hbv
    by_cases hx : 0 ≤ mv
    all_goals
      first | rw [if_pos hx] at hv hve | rw [if_neg hx] at hv hve
      go_enter Tryz.func46, Tryz.ntmps46
      go_wp2_with (fail)
      refine (HC.out _ (HL.out.below hb0 hb0.size) (HS.out.below hb0 hb0.size)).mono ?_
      rintro e w1 ⟨rfl, hb1⟩
      have hbel : Below w.heap.size w w1 := Below.trans (by repeat' (first | with_reducible assumption | with_reducible exact Below.refl _ _ | refine Below.alloc ?_ ?_ _ | refine Below.setCell ?_ ?_ _ | refine Below.drew ?_ | refine below_drewN ?_ _ | (simp; done) | (simp; omega) | omega)) (hb1.mono (by first | (simp; done) | (simp; omega) | omega))
      have c0 : w1.cell? ⟨w.heap.size, 0, none⟩ = some (.int .i64 (J : Int)) := (hb1.cell (p := ⟨w.heap.size, 0, none⟩) (by first | (simp; done) | (simp; omega) | omega)).trans (by go_simp)
      have c1 : w1.cell? ⟨w.heap.size, 1, none⟩ = some (.slice A n c) := (hb1.cell (p := ⟨w.heap.size, 1, none⟩) (by first | (simp; done) | (simp; omega) | omega)).trans (by go_simp)
      have hq0 : w.heap.size < w1.heap.size := (by have := hb1.size; simp at this; omega)
      clear hb1 hb0
      go_wp2
      refine wp_region_hd_all (fun W => Below w1.heap.size w1 W) (by kernel_rfl) (by kernel_rfl) ((Below.refl _ _).drew) ?_
      iterate 2 (refine wpHd_val (v := ?_) (by rfl) (fun W hW => ?_) ?_; rotate_left; (· obtain ⟨hcW, hfW⟩ := bcell hW; go_simp; with_reducible rfl); simp only [Act.put, List.setIfInBounds_toArray, List.set_cons_zero, List.set_cons_succ])
      (refine wpHd_callB (by rfl) (fun W hW => ((HR.out W (HS.out.below (hbel.trans (hW.mono hbel.size)) (Nat.le_trans hbel.size hW.size))).mono (fun e w' h => ⟨h.1, by rw [← h.2]; exact Below.refl _ _⟩))) (fun W hW => ?_) ?_; (· obtain ⟨hcW, hfW⟩ := bcell hW; go_simp); simp only [Act.put, List.setIfInBounds_toArray, List.set_cons_zero, List.set_cons_succ])
      (refine wpHd_callB (by rfl) (fun W hW => (HM.out W (HL.out.below (hbel.trans (hW.mono hbel.size)) (Nat.le_trans hbel.size hW.size)))) (fun W hW => ?_) ?_; (· obtain ⟨hcW, hfW⟩ := bcell hW; go_simp); simp only [Act.put, List.setIfInBounds_toArray, List.set_cons_zero, List.set_cons_succ])
      (refine wpHd_val (v := ?_) (by rfl) (fun W hW => ?_) ?_; rotate_left; (· obtain ⟨hcW, hfW⟩ := bcell hW; go_simp; with_reducible rfl); simp only [Act.put, List.setIfInBounds_toArray, List.set_cons_zero, List.set_cons_succ])
      refine wpHd_nil ?_
      intro W9 hW9
      have hbw9 := hbel.trans (hW9.mono hbel.size)
      clear c0 c1
      go_wp2
    · refine bodyPost_ret (v := .tuple #[.int .i64 mv, .int .i64 16]) (by first | (simp [results, Tryz.results46, go_sem]; done) | (simp [results, Tryz.results46, go_sem, *]; done) | (simp [results, Tryz.results46, go_sem, World.cell?_setCell_same', *]; done) | (simp [results, Tryz.results46, go_sem]; first | exact ⟨rfl, rfl⟩ | rfl)) rfl ⟨by rw [hv.out, hve.out], hbw9⟩
    · refine bodyPost_ret (v := .tuple #[.int .i64 bv, .int .i64 0]) (by first | (simp [results, Tryz.results46, go_sem]; done) | (simp [results, Tryz.results46, go_sem, *]; done) | (simp [results, Tryz.results46, go_sem, World.cell?_setCell_same', *]; done) | (simp [results, Tryz.results46, go_sem]; first | exact ⟨rfl, rfl⟩ | rfl)) rfl ⟨by rw [hv.out, hve.out], hbw9⟩
  · have hv : Hid (rtgV I ls s = blmV I ls s) := hid (if_pos he)
    have hve : Hid (rtgE I ls s = blmE I ls s) := hid (if_pos he)
    obtain ⟨ev, hev⟩ : ∃ ev, blmE I ls s = ev := ⟨_, rfl⟩
    rw [hev] at hve HC he
    obtain ⟨bv, hbv⟩ : ∃ bv, blmV I ls s = bv := ⟨_, rfl⟩
    rw [hbv] at HC hv
    have hbi : (ev != 0) = true := by simpa using he
    clear hev hbv
    go_enter Tryz.func46, Tryz.ntmps46
    go_wp2_with (fail)
    refine (HC.out _ (HL.out.below hb0 hb0.size) (HS.out.below hb0 hb0.size)).mono ?_
    rintro e w1 ⟨rfl, hb1⟩
    have hbel : Below w.heap.size w w1 := Below.trans (by repeat' (first | with_reducible assumption | with_reducible exact Below.refl _ _ | refine Below.alloc ?_ ?_ _ | refine Below.setCell ?_ ?_ _ | refine Below.drew ?_ | refine below_drewN ?_ _ | (simp; done) | (simp; omega) | omega)) (hb1.mono (by first | (simp; done) | (simp; omega) | omega))
    clear hb1 hb0
    go_wp2
    refine bodyPost_ret (v := .tuple #[.int .i64 bv, .int .i64 ev]) (by first | (simp [results, Tryz.results46, go_sem]; done) | (simp [results, Tryz.results46, go_sem, *]; done) | (simp [results, Tryz.results46, go_sem, World.cell?_setCell_same', *]; done) | (simp [results, Tryz.results46, go_sem]; first | exact ⟨rfl, rfl⟩ | rfl)) rfl ⟨by rw [hv.out, hve.out], hbel⟩
theorem before_at : ∀ {k : Nat} {a b : List Int} {x y : Int}, a.take k = b.take k → a[k]? = some x → b[k]? = some y → x ≠ y → before a b = decide (x < y)
  | 0, a, b, x, y, _, ha, hb, hne => by
    cases a with
    | nil => cases ha
    | cons u a =>
      cases b with
      | nil => cases hb
      | cons v b =>
        cases ha; cases hb
        rw [before_cons, if_neg hne]
  | k + 1, a, b, x, y, h, ha, hb, hne => by
    cases a with
    | nil => simp at ha
    | cons u a =>
      cases b with
      | nil => simp at hb
      | cons v b =>
        simp only [List.take_succ_cons, List.cons.injEq] at h
        rw [before_cons, if_pos h.1]
        exact before_at (k := k) h.2 (by simpa using ha) (by simpa using hb) hne
theorem before_end : ∀ {k : Nat} {a b : List Int}, a.take k = b.take k → (a.length ≤ k ∨ b.length ≤ k) → k ≤ a.length → k ≤ b.length → before a b = decide (a.length < b.length)
  | 0, a, b, _, h, _, _ => by
    cases a with
    | nil => cases b <;> simp [before]
    | cons u a =>
      cases b with
      | nil => simp [before]
      | cons v b => simp at h
  | k + 1, a, b, ht, h, ha, hb => by
    cases a with
    | nil => simp at ha
    | cons u a =>
      cases b with
      | nil => simp at hb
      | cons v b =>
        simp only [List.take_succ_cons, List.cons.injEq] at ht
        rw [before_cons, if_pos ht.1, before_end (k := k) ht.2 (by simpa using h) (by simpa using ha) (by simpa using hb)]
        simp
set_option maxRecDepth 100000 in
set_option maxHeartbeats 1600000 in
theorem rbefore_any (A B : Option Addr) (n c m d : Nat) (a b : List Int) (w : World) (ha : InS w w.heap.size A n a) (hb : InS w w.heap.size B m b) (hn : n ≤ 1000000) (hm : m ≤ 1000000) :
    Calls Tryz.prog 67 #[.slice A n c, .slice B m d] w fun e w' => e = .returned (.bool (before a b)) ∧ Below w.heap.size w w' := by
  have la := hid ha.len
  have lb := hid hb.len
  have HA := hid ha
  have HB := hid hb
  clear ha hb
  go_enter Tryz.func67, Tryz.ntmps67
  go_wp2
  go_loopw [5] (fun i wr => ∃ k : Nat, k ≤ n ∧ k ≤ m ∧ i = .int .i64 k ∧ Hid (a.take k = b.take k) ∧ Below w.heap.size w wr) (fun i _ => n - (intOf i).toNat)
  case atStart => exact ⟨0, by omega, by omega, rfl, by simp [Hid], Below.refl _ _⟩
  case round =>
    obtain ⟨k, hkn, hkm, rfl, heq, hbw⟩ := hrel
    have hszw := hbw.size
    by_cases h1 : k < n
    · have h1i : (k : Int) < n := by omega
      by_cases h2 : k < m
      · have h2i : (k : Int) < m := by omega
        obtain ⟨b1, o1, x, rfl, hb1, hx, c0⟩ := (HA.out.below hbw hszw).at_ h1
        obtain ⟨b2, o2, y, rfl, hb2, hy, d0⟩ := (HB.out.below hbw hszw).at_ h2
        have Hx := hid hx
        have Hy := hid hy
        clear hx hy
        cases hd : (x != y)
        · have hxy : x = y := by simpa using hd
          have Hs := hid (take_eq_succ heq.out Hx.out (by rw [Hy.out, hxy]))
          clear hxy
          go_wp2
          refine wp_region_hd_all (fun W => Below wr.heap.size wr W) (by kernel_rfl) (by kernel_rfl) ((Below.refl _ _).drew) ?_
          iterate 9 (refine wpHd_val (v := ?_) (by rfl) (fun W hW => ?_) ?_; rotate_left; (· obtain ⟨hcW, hfW⟩ := bcell hW; go_simp; with_reducible rfl); simp only [Act.put, List.setIfInBounds_toArray, List.set_cons_zero, List.set_cons_succ])
          refine wpHd_nil ?_
          intro W9 hW9
          have hbw9 := hbw.trans (hW9.mono hszw)
          clear c0 d0
          go_wp2
          exact ⟨⟨k + 1, by omega, by omega, by go_num, Hs, hbw9⟩, by simp [intOf]; omega⟩
        · have hxy : x ≠ y := by simpa using hd
          have hv := hid (before_at heq.out Hx.out Hy.out hxy)
          clear hxy
          go_wp2
          refine wp_region_hd_all (fun W => Below wr.heap.size wr W) (by kernel_rfl) (by kernel_rfl) ((Below.refl _ _).drew) ?_
          iterate 9 (refine wpHd_val (v := ?_) (by rfl) (fun W hW => ?_) ?_; rotate_left; (· obtain ⟨hcW, hfW⟩ := bcell hW; go_simp; with_reducible rfl); simp only [Act.put, List.setIfInBounds_toArray, List.set_cons_zero, List.set_cons_succ])
          refine wpHd_nil ?_
          intro W8 hW8
          have hbw8 := hbw.trans (hW8.mono hszw)
          have hb1' : b1 < wr.heap.size := by omega
          have hb2' : b2 < wr.heap.size := by omega
          have c8 := (hW8.cell (p := ⟨b1, o1 + k, none⟩) hb1').trans c0
          have d8 := (hW8.cell (p := ⟨b2, o2 + k, none⟩) hb2').trans d0
          have hb18 := Nat.lt_of_lt_of_le hb1' hW8.size
          have hb28 := Nat.lt_of_lt_of_le hb2' hW8.size
          clear c0 d0
          go_wp2
          refine wp_region_hd_all (fun W => Below W8.heap.size W8 W) (by kernel_rfl) (by kernel_rfl) ((Below.refl _ _).drew) ?_
          iterate 10 (refine wpHd_val (v := ?_) (by rfl) (fun W hW => ?_) ?_; rotate_left; (· obtain ⟨hcW, hfW⟩ := bcell hW; go_simp; with_reducible rfl); simp only [Act.put, List.setIfInBounds_toArray, List.set_cons_zero, List.set_cons_succ])
          refine wpHd_nil ?_
          intro W9 hW9
          have hbw9 := hbw8.trans (hW9.mono hbw8.size)
          clear c8 d8
          go_wp2
          refine bodyPost_ret (v := .bool (decide (x < y))) (by first | (simp [results, Tryz.results67, go_sem]; done) | (simp [results, Tryz.results67, go_sem, *]; done) | (simp [results, Tryz.results67, go_sem, World.cell?_setCell_same', *]; done) | (simp [results, Tryz.results67, go_sem]; first | exact ⟨rfl, rfl⟩ | rfl)) rfl ⟨by rw [hv.out], hbw9⟩
      · have h2i : ¬ (k : Int) < m := by omega
        have hv := hid (before_end heq.out (.inr (by rw [lb.out]; omega)) (by rw [la.out]; omega) (by rw [lb.out]; omega))
        go_wp2
        refine bodyPost_ret (v := .bool (decide ((n : Int) < m))) (by first | (simp [results, Tryz.results67, go_sem]; done) | (simp [results, Tryz.results67, go_sem, *]; done) | (simp [results, Tryz.results67, go_sem, World.cell?_setCell_same', *]; done) | (simp [results, Tryz.results67, go_sem]; first | exact ⟨rfl, rfl⟩ | rfl)) rfl ⟨by rw [hv.out, la.out, lb.out]; simp, hbw⟩
    · have h1i : ¬ (k : Int) < n := by omega
      have hv := hid (before_end heq.out (.inl (by rw [la.out]; omega)) (by rw [la.out]; omega) (by rw [lb.out]; omega))
      go_wp2
      refine bodyPost_ret (v := .bool (decide ((n : Int) < m))) (by first | (simp [results, Tryz.results67, go_sem]; done) | (simp [results, Tryz.results67, go_sem, *]; done) | (simp [results, Tryz.results67, go_sem, World.cell?_setCell_same', *]; done) | (simp [results, Tryz.results67, go_sem]; first | exact ⟨rfl, rfl⟩ | rfl)) rfl ⟨by rw [hv.out, la.out, lb.out]; simp, hbw⟩
end Go.Proofs.YtnpilfpackdimaaGreat
/- Lists of lists that the reference makes: what lies in them may be older. -/
namespace Go.Proofs.YtnpilfpackdimaaGreat
open Go.RowKit Go.Shelf
/-- The lists that the values vs read as; where they lie P holds, and none lies in block no. -/
def Els (w : World) (P : Nat → Prop) (no : Option Nat) (vs : List Value) (ls : List (List Int)) : Prop :=
  vs.length = ls.length ∧ ∀ (k : Nat) (l : List Int), ls[k]? = some l → ∃ (A : Option Addr) (m c : Nat), vs[k]? = some (.slice A m c) ∧ InS w w.heap.size A m l ∧ (0 < m → ∀ b off, A = some ⟨b, off, none⟩ → b < w.heap.size ∧ no ≠ some b ∧ P b)
theorem Els.nil (w : World) (P : Nat → Prop) (no : Option Nat) : Els w P no [] [] := ⟨rfl, fun k l h => by simp at h⟩
theorem InS.cells_ {w w' : World} {m B B' : Nat} {A : Option Addr} {l : List Int} (h : InS w B A m l) (hB : B ≤ B') (hc : 0 < m → ∀ b off, A = some ⟨b, off, none⟩ → ∀ j, j < m → w'.cell? ⟨b, off + j, none⟩ = w.cell? ⟨b, off + j, none⟩) : InS w' B' A m l := by
  refine ⟨h.1, fun hm => ?_⟩
  obtain ⟨b, off, e, hb, hcell⟩ := h.2 hm
  refine ⟨b, off, e, by omega, fun j u hu => (hc hm b off e j ?_).trans (hcell j u hu)⟩
  have := (List.getElem?_eq_some_iff.1 hu).1
  have h1 := h.1
  omega
theorem Els.grown {w w' : World} {P : Nat → Prop} {vs : List Value} {ls : List (List Int)} {no no' : Option Nat} (h : Els w P no vs ls) (hg : w.grownBy w' no) (hn : no' = no ∨ no' = some w.heap.size) : Els w' P no' vs ls := by
  refine ⟨h.1, fun k l hk => ?_⟩
  obtain ⟨A, m, c, h1, h2, h3⟩ := h.2 k l hk
  refine ⟨A, m, c, h1, h2.cells_ hg.size (fun hm b off e j _ => World.cell?_of_block (hg.block b (h3 hm b off e).1 (fun e' => (h3 hm b off e).2.1 (by rw [e'])))), fun hm b off e => ?_⟩
  obtain ⟨h4, h5, h6⟩ := h3 hm b off e
  refine ⟨Nat.lt_of_lt_of_le h4 hg.size, ?_, h6⟩
  rcases hn with rfl | rfl
  · exact h5
  · intro e'; injection e' with e'; omega
theorem Els.below {w w' : World} {P : Nat → Prop} {vs : List Value} {ls : List (List Int)} {no : Option Nat} (h : Els w P no vs ls) (hb : Below w.heap.size w w') : Els w' P no vs ls := by
  refine ⟨h.1, fun k l hk => ?_⟩
  obtain ⟨A, m, c, h1, h2, h3⟩ := h.2 k l hk
  exact ⟨A, m, c, h1, h2.below hb hb.size, fun hm b off e => ⟨Nat.lt_of_lt_of_le (h3 hm b off e).1 hb.size, (h3 hm b off e).2⟩⟩
theorem Els.snoc {w : World} {P : Nat → Prop} {vs : List Value} {ls : List (List Int)} {no : Option Nat} (h : Els w P no vs ls) {A : Option Addr} {m c : Nat} {l : List Int} (hl : InS w w.heap.size A m l) (hA : 0 < m → ∀ b off, A = some ⟨b, off, none⟩ → b < w.heap.size ∧ no ≠ some b ∧ P b) : Els w P no (vs ++ [.slice A m c]) (ls ++ [l]) := by
  refine ⟨by rw [List.length_append, List.length_append, h.1]; rfl, fun k x hk => ?_⟩
  rcases Nat.lt_or_ge k ls.length with h1 | h1
  · rw [List.getElem?_append_left h1] at hk
    obtain ⟨A', m', c', h2, h3⟩ := h.2 k x hk
    exact ⟨A', m', c', by rw [List.getElem?_append_left (by rw [h.1]; exact h1)]; exact h2, h3⟩
  · rw [List.getElem?_append_right h1] at hk
    have hk0 : k - ls.length = 0 := by
      have := (List.getElem?_eq_some_iff.1 hk).1
      simp at this; omega
    rw [hk0] at hk
    obtain rfl : l = x := by simpa using hk
    exact ⟨A, m, c, by rw [List.getElem?_append_right (by rw [h.1]; exact h1), h.1, hk0]; rfl, hl, hA⟩
/-- An own list of lists. -/
def NewLw (w : World) (base : Nat) (P : Nat → Prop) (v : Value) (ls : List (List Int)) : Prop := ∃ vs, w.ownsRow base 25 1 v ls.length vs ∧ Els w P v.ownBlock vs ls
theorem NewLw.nil (w : World) (base : Nat) (P : Nat → Prop) : NewLw w base P (.slice none 0 0) [] := ⟨[], World.ownsRow_nil _ _ _ _, Els.nil _ _ _⟩
theorem NewLw.below {w w' : World} {base : Nat} {P : Nat → Prop} {v : Value} {ls : List (List Int)} (h : NewLw w base P v ls) (hb : Below w.heap.size w w') : NewLw w' base P v ls := by
  obtain ⟨vs, h1, h2⟩ := h
  exact ⟨vs, owns_below h1 hb, h2.below hb⟩
theorem NewLw.mono {w : World} {base base' : Nat} {P P' : Nat → Prop} {v : Value} {ls : List (List Int)} (h : NewLw w base P v ls) (hb : base' ≤ base) (hP : ∀ b, P b → P' b) : NewLw w base' P' v ls := by
  obtain ⟨vs, h1, h2, h3⟩ := h
  refine ⟨vs, owns_mono h1 hb, h2, fun k l hk => ?_⟩
  obtain ⟨A, m, c, h4, h5, h6⟩ := h3 k l hk
  exact ⟨A, m, c, h4, h5, fun hm b off e => ⟨(h6 hm b off e).1, (h6 hm b off e).2.1, hP b (h6 hm b off e).2.2⟩⟩
/-- A list of lists; where the lists lie P holds. -/
def LiQ (w : World) (B : Nat) (P : Nat → Prop) (A : Option Addr) (n : Nat) (ls : List (List Int)) : Prop :=
  ls.length = n ∧ ∃ vs : List Value, Sl w B 1 A n vs ∧ ∀ (k : Nat) (l : List Int), ls[k]? = some l → ∃ (A' : Option Addr) (m c' : Nat), vs[k]? = some (Value.slice A' m c') ∧ InS w B A' m l ∧ (0 < m → ∀ b off, A' = some ⟨b, off, none⟩ → P b)
theorem LiQ.lis {w : World} {B n : Nat} {P : Nat → Prop} {A : Option Addr} {ls : List (List Int)} (h : LiQ w B P A n ls) : LiS w B A n ls := by
  obtain ⟨h1, vs, h2, h3⟩ := h
  exact ⟨h1, vs, h2, fun k l hk => by obtain ⟨A', m, c', e, h4, -⟩ := h3 k l hk; exact ⟨A', m, c', e, h4⟩⟩
theorem LiQ.below {w w' : World} {B B' n : Nat} {P : Nat → Prop} {A : Option Addr} {ls : List (List Int)} (h : LiQ w B P A n ls) (hb : Below B w w') (hB : B ≤ B') : LiQ w' B' P A n ls := by
  obtain ⟨h1, vs, h2, h3⟩ := h
  exact ⟨h1, vs, h2.below' hb hB, fun k l hk => by obtain ⟨A', m, c', e, h4, h5⟩ := h3 k l hk; exact ⟨A', m, c', e, h4.below hb hB, h5⟩⟩
theorem ins_lt0 {w : World} {B n : Nat} {A : Option Addr} {l : List Int} (h : InS w B A n l) (hn : 0 < n) : ∀ b off, A = some ⟨b, off, none⟩ → b < B := fun b off e => by
  obtain ⟨b', off', e', hb, -⟩ := h.2 hn
  rw [e] at e'; cases e'; exact hb
theorem LiS.liq {w : World} {B n : Nat} {A : Option Addr} {ls : List (List Int)} (h : LiS w B A n ls) : LiQ w B (fun b => b < B) A n ls := by
  obtain ⟨h1, vs, h2, h3⟩ := h
  exact ⟨h1, vs, h2, fun k l hk => by obtain ⟨A', m, c', e, h4⟩ := h3 k l hk; exact ⟨A', m, c', e, h4, fun hm => ins_lt0 h4 hm⟩⟩
theorem LiQ.at_ {w : World} {B n : Nat} {P : Nat → Prop} {A : Option Addr} {ls : List (List Int)} (h : LiQ w B P A n ls) {k : Nat} (hk : k < n) : ∃ b off l A' m c', A = some ⟨b, off, none⟩ ∧ b < B ∧ ls[k]? = some l ∧ w.cell? ⟨b, off + k, none⟩ = some (.slice A' m c') ∧ InS w B A' m l ∧ (0 < m → ∀ b off, A' = some ⟨b, off, none⟩ → P b) := by
  obtain ⟨h1, vs, h2, h3⟩ := h
  have hl : ls[k]? = some ls[k] := List.getElem?_eq_getElem (by omega)
  obtain ⟨A', m, c', e, h4, h5⟩ := h3 k _ hl
  obtain ⟨b, off, hA, hb, hc⟩ := h2.2 (by omega)
  exact ⟨b, off, _, A', m, c', hA, hb, hl, hc k _ e, h4, h5⟩
theorem NewLw.liq {w : World} {base : Nat} {P : Nat → Prop} {v : Value} {ls : List (List Int)} (h : NewLw w base P v ls) : ∃ A c, v = .slice A ls.length c ∧ LiQ w w.heap.size P A ls.length ls ∧ (A = none → ls.length = 0 ∧ c = 0) := by
  obtain ⟨vs, h1, h2, h3⟩ := h
  obtain ⟨A, c, e, h4, h5⟩ := own_src h1
  refine ⟨A, c, e, ⟨rfl, vs, h4, fun k l hk => ?_⟩, h5⟩
  obtain ⟨A', m, c', q1, q2, q3⟩ := h3 k l hk
  exact ⟨A', m, c', q1, q2, fun hm b off e => (q3 hm b off e).2.2⟩
theorem newLw_append {P : Program} {w : World} {ops : Array Oper} {rest : List Oper} {o : Oper} {a : Act} {Q : Exit → Act → World → Prop} (hP : P = Tryz.prog) (hw : Region.wanted o (yielded ops a.tmps) = true) (s x : Operand)
    (ho : o.op = .call { callee := .builtin .append, args := #[s, x], argTypes := #[22, 22] })
    (base : Nat) (R : Nat → Prop) (v : Value) (ls : List (List Int)) (hs : a.eval s = v) (hown : NewLw w base R v ls)
    (g : Nat) (A : Option Addr) (m c : Nat) (l : List Int) (hx : a.eval x = .slice (some ⟨g, 0, none⟩) 1 1) (hg : Blk w g 25 #[.slice A m c]) (hl : InS w w.heap.size A m l) (hA : 0 < m → ∀ b off, A = some ⟨b, off, none⟩ → v.ownBlock ≠ some b ∧ R b)
    (hlen : ls.length ≤ 1000000) (hbase : base ≤ w.heap.size)
    (h : ∀ v' w', NewLw w' base R v' (ls ++ [l]) → w.grownBy w' v.ownBlock → (v'.ownBlock = v.ownBlock ∨ v'.ownBlock = some w.heap.size) → wpList P ops Q rest (a.put o.dst v') w') :
    wpList P ops Q (o :: rest) a w := by
  subst hP
  obtain ⟨vs, h1, h2⟩ := hown
  obtain ⟨i0, hi0, hi1, hi2, hi3⟩ := info_parts' infoL
  refine wpList_append_srcG hw s x 22 ho base 25 i0 _ 1 24 underLL hi0 hi1 hi2 hi3 rfl (by decide) v ls.length vs hs h1 (some ⟨g, 0, none⟩) 1 1 [.slice A m c] hx w.heap.size ⟨rfl, fun _ => ⟨g, 0, rfl, hg.lt, fun j u hu => by rw [hg.cell, Nat.zero_add]; simpa using hu⟩⟩ (fun h => by cases h) (fun u hu => by rw [List.mem_singleton.1 hu]; rfl) (by unfold maxLen; omega) (by omega) hbase ?_
  intro v' w' ho' hg' _ hat
  exact h v' w' ⟨vs ++ [.slice A m c], by rw [List.length_append]; exact ho', (h2.snoc hl (fun hm b off e => ⟨ins_lt0 hl hm b off e, hA hm b off e⟩)).grown hg' hat⟩ hg' hat
theorem own_blk {w : World} {base e size n g cap : Nat} {xs : List Value} (h : w.ownsRow base e size (.slice (some ⟨g, 0, none⟩) n cap) n xs) : ∃ cur, Blk w g e cur ∧ base ≤ g ∧ n ≤ cap ∧ cap ≤ maxLen ∧ cur.size = cap * size ∧ cur.toList.take (n * size) = xs := by
  rcases h.2 with ⟨h1, -⟩ | ⟨g', cap', cur, h1, h2, h3, h4, h5, h6, h7⟩
  · cases h1
  · cases h1; exact ⟨cur, h3, h2, h4, h5, h6, h7⟩
theorem own_setc {w : World} {base e g n cap i : Nat} {xs : List Value} {y : Value} (h : w.ownsRow base e 1 (.slice (some ⟨g, 0, none⟩) n cap) n xs) : (w.setCell ⟨g, i, none⟩ y).ownsRow base e 1 (.slice (some ⟨g, 0, none⟩) n cap) n (xs.set i y) := by
  obtain ⟨cur, h3, h2, h4, h5, h6, h7⟩ := own_blk h
  refine ⟨by rw [List.length_set]; exact h.1, .inr ⟨g, cap, cur.setIfInBounds i y, rfl, h2, h3.set_ i y, h4, h5, by simpa using h6, ?_⟩⟩
  rw [Array.toList_setIfInBounds, ← h7]
  exact List.take_set ..
/-- The swap of two neighbours. -/
theorem Els.set {w : World} {P : Nat → Prop} {g : Nat} {vs : List Value} {ls : List (List Int)} {i : Nat} {A : Option Addr} {m c : Nat} {l : List Int} (h : Els w P (some g) vs ls) (hl : InS w w.heap.size A m l) (hA : 0 < m → ∀ b off, A = some ⟨b, off, none⟩ → b < w.heap.size ∧ some g ≠ some b ∧ P b) : Els (w.setCell ⟨g, i, none⟩ (.slice A m c)) P (some g) (vs.set i (.slice A m c)) (ls.set i l) := by
  have hk : ∀ {A' : Option Addr} {m' : Nat} {l' : List Int}, InS w w.heap.size A' m' l' → (0 < m' → ∀ b off, A' = some ⟨b, off, none⟩ → b < w.heap.size ∧ some g ≠ some b ∧ P b) → InS (w.setCell ⟨g, i, none⟩ (.slice A m c)) (w.setCell ⟨g, i, none⟩ (.slice A m c)).heap.size A' m' l' := fun h1 h2 => h1.cells_ (by simp) (fun hm b off e j _ => World.cell?_of_block (Below.heap_setCell _ _ _ _ (fun e' => (h2 hm b off e).2.1 (by rw [show b = g from e']))))
  refine ⟨by rw [List.length_set, List.length_set, h.1], fun k x hx => ?_⟩
  by_cases e : i = k
  · subst e
    have hi : i < ls.length := by have := (List.getElem?_eq_some_iff.1 hx).1; simpa using this
    rw [List.getElem?_set_self hi] at hx
    cases hx
    exact ⟨A, m, c, List.getElem?_set_self (by rw [h.1]; exact hi), hk hl hA, fun hm b off e => by have := hA hm b off e; simpa using this⟩
  · rw [List.getElem?_set_ne e] at hx
    obtain ⟨A', m', c', h1, h2, h3⟩ := h.2 k x hx
    exact ⟨A', m', c', by rw [List.getElem?_set_ne e]; exact h1, hk h2 h3, fun hm b off e => by have := h3 hm b off e; simpa using this⟩
theorem insB_at {x : List Int} {L : List (List Int)} {j : Nat} (h : ∀ y ∈ L.drop j, before x y = true) (h0 : j = 0 ∨ ∃ y, L[j - 1]? = some y ∧ before x y = false ∧ 0 < j) : insB x L = L.take j ++ x :: L.drop j := by
  have e : L.reverse = (L.drop j).reverse ++ (L.take j).reverse := by rw [← List.reverse_append, List.take_append_drop]
  have h1 : ∀ y ∈ (L.drop j).reverse, before x y = true := fun y hy => h y (List.mem_reverse.1 hy)
  have ht : (L.take j).reverse.takeWhile (before x) = [] ∧ (L.take j).reverse.dropWhile (before x) = (L.take j).reverse := by
    rcases h0 with h0 | ⟨y, hy, hb, hj⟩
    · subst h0; simp
    · have e2 : (L.take j).reverse = y :: (L.take (j - 1)).reverse := by
        have : L.take j = L.take (j - 1) ++ [y] := by
          have := List.take_add_one (i := j - 1) (l := L)
          rw [show j - 1 + 1 = j by omega, hy] at this
          simpa using this
        rw [this]; simp
      rw [e2]
      simp [hb]
  unfold insB
  rw [e, List.takeWhile_append_of_pos h1, List.dropWhile_append_of_pos h1, ht.1, ht.2]
  simp
end Go.Proofs.YtnpilfpackdimaaGreat
/- Walks (reference): Sorted. -/
namespace Go.Proofs.YtnpilfpackdimaaGreat
open Go.RowKit Go.Shelf
attribute [local go_sem] Oper.semAt_some
/-- A list with one element more, at a place. -/
def insAt (L : List (List Int)) (x : List Int) (j : Nat) : List (List Int) := L.take j ++ x :: L.drop j
theorem insAt_len {L : List (List Int)} {x : List Int} {j : Nat} (hj : j ≤ L.length) : (insAt L x j).length = L.length + 1 := by
  unfold insAt; simp; omega
theorem insAt_end (L : List (List Int)) (x : List Int) : insAt L x L.length = L ++ [x] := by unfold insAt; simp
theorem insAt_at {L : List (List Int)} {x : List Int} {j : Nat} (hj : j ≤ L.length) : (insAt L x j)[j]? = some x := by
  unfold insAt
  rw [List.getElem?_append_right (by simp; omega)]
  simp [Nat.min_eq_left hj]
theorem insAt_pre {L : List (List Int)} {x : List Int} {j : Nat} (hj : j + 1 ≤ L.length) : (insAt L x (j + 1))[j]? = L[j]? := by
  unfold insAt
  rw [List.getElem?_append_left (by simp; omega), List.getElem?_take]
  simp
theorem insAt_swap {L : List (List Int)} {x y : List Int} {j : Nat} (hj : j + 1 ≤ L.length) (hy : L[j]? = some y) : ((insAt L x (j + 1)).set (j + 1) y).set j x = insAt L x j := by
  unfold insAt
  have h1 : L.take (j + 1) = L.take j ++ [y] := by rw [List.take_add_one, hy]; rfl
  have h2 : L.drop j = y :: L.drop (j + 1) := by
    rw [List.drop_eq_getElem_cons (by omega)]
    congr 1
    rw [List.getElem?_eq_getElem (by omega)] at hy
    exact Option.some.inj hy
  rw [h1, h2, List.append_assoc, List.singleton_append]
  have hl : (L.take j).length = j := by simp; omega
  rw [List.set_append_right _ _ (by rw [hl]; omega), List.set_append_right _ _ (by rw [hl]; omega), hl]
  simp
theorem newLw_form {w : World} {base : Nat} {P : Nat → Prop} {v : Value} {L : List (List Int)} {x : List Int} {k : Nat} (h : NewLw w base P v (L ++ [x])) (hk : L.length = k) : ∃ g cap, v = .slice (some ⟨g, 0, none⟩) (k + 1) cap ∧ NewLw w base P (.slice (some ⟨g, 0, none⟩) (k + 1) cap) (insAt L x L.length) ∧ base ≤ g := by
  obtain ⟨vs, ho, he⟩ := h
  have hl : (L ++ [x]).length = k + 1 := by rw [List.length_append, hk]; rfl
  obtain ⟨g, cap, rfl, hg1, hg2⟩ := own_form2 ho (by rw [hl]; omega)
  rw [hl] at ho he ⊢
  exact ⟨g, cap, rfl, ⟨vs, by rw [insAt_end, hl]; exact ho, by rw [insAt_end]; exact he⟩, hg1⟩
theorem newLw_at {w : World} {base : Nat} {P : Nat → Prop} {g n cap i : Nat} {ls : List (List Int)} {l : List Int} (h : NewLw w base P (.slice (some ⟨g, 0, none⟩) n cap) ls) (hl : ls[i]? = some l) (hi : i < n) : ∃ A m c, w.cell? ⟨g, i, none⟩ = some (.slice A m c) ∧ InS w w.heap.size A m l ∧ (0 < m → ∀ b off, A = some ⟨b, off, none⟩ → b < w.heap.size ∧ g ≠ b ∧ P b) ∧ g < w.heap.size ∧ ∀ o, w.frozen? ⟨g, o, none⟩ = false := by
  obtain ⟨vs, ho, he⟩ := h
  obtain ⟨A, m, c, h1, h2, h3⟩ := he.2 i l hl
  rcases ho.2 with ⟨h4, -⟩ | ⟨g', cap', cur, h4, -, hb, -⟩
  · cases h4
  · cases h4
    exact ⟨A, m, c, own_cell ho h1, h2, fun hm b off e => ⟨(h3 hm b off e).1, fun e' => (h3 hm b off e).2.1 (by rw [← e']; rfl), (h3 hm b off e).2.2⟩, (Array.getElem?_eq_some_iff.1 hb).1, fun o => by simp [World.frozen?, hb]⟩
theorem newLw_blk {w : World} {base : Nat} {P : Nat → Prop} {g n cap : Nat} {ls : List (List Int)} (h : NewLw w base P (.slice (some ⟨g, 0, none⟩) n cap) ls) : base ≤ g ∧ g < w.heap.size ∧ ∀ o, w.frozen? ⟨g, o, none⟩ = false := by
  obtain ⟨vs, ho, he⟩ := h
  rcases ho.2 with ⟨h4, -⟩ | ⟨g', cap', cur, h4, h5, hb, -⟩
  · cases h4
  · cases h4
    exact ⟨h5, (Array.getElem?_eq_some_iff.1 hb).1, fun o => by simp [World.frozen?, hb]⟩
theorem newLw_set {w : World} {base : Nat} {P : Nat → Prop} {g n cap i : Nat} {ls : List (List Int)} {A : Option Addr} {m c : Nat} {l : List Int} (h : NewLw w base P (.slice (some ⟨g, 0, none⟩) n cap) ls) (hl : InS w w.heap.size A m l) (hA : 0 < m → ∀ b off, A = some ⟨b, off, none⟩ → b < w.heap.size ∧ some g ≠ some b ∧ P b) : NewLw (w.setCell ⟨g, i, none⟩ (.slice A m c)) base P (.slice (some ⟨g, 0, none⟩) n cap) (ls.set i l) := by
  obtain ⟨vs, ho, he⟩ := h
  have hn : ls.length = n := by
    rcases ho.2 with ⟨h4, -⟩ | ⟨g', cap', cur, h4, -⟩
    · cases h4
    · cases h4; rfl
  refine ⟨vs.set i (.slice A m c), ?_, he.set hl hA⟩
  rw [List.length_set, hn]
  rw [hn] at ho
  exact own_setc ho
theorem InS.setg {w : World} {B g i : Nat} {u : Value} {A : Option Addr} {m : Nat} {l : List Int} (h : InS w B A m l) (hA : 0 < m → ∀ b off, A = some ⟨b, off, none⟩ → g ≠ b) : InS (w.setCell ⟨g, i, none⟩ u) B A m l :=
  h.cells_ (Nat.le_refl _) (fun hm b off e j _ => World.cell?_of_block (Below.heap_setCell _ _ _ _ (fun e' => hA hm b off e (by rw [show b = g from e']))))
set_option maxRecDepth 100000 in
set_option maxHeartbeats 4000000 in
theorem rsorted_any (P : Nat → Prop) (A : Option Addr) (n c : Nat) (ls : List (List Int)) (w : World) (hl : LiQ w w.heap.size P A n ls) (hn : n ≤ 100000) (hw : ∀ l ∈ ls, l.length ≤ 1000000) :
    Calls Tryz.prog 101 #[.slice A n c] w fun e w' => ∃ v, e = .returned v ∧ NewLw w' w.heap.size P v (sortL ls) ∧ Below w.heap.size w w' := by
  have hlen := hid hl.1
  have HL := hid hl
  have HW := hid hw
  clear hl hw
  go_enter Tryz.func101, Tryz.ntmps101
  go_wp2
  go_loopw [3, 4, 5] (fun v i _ wr => ∃ k : Nat, k ≤ n ∧ i = .int .i64 k ∧ Hid (NewLw wr w.heap.size P v (sortL (ls.take k))) ∧ Below w.heap.size w wr) (fun _ i _ _ => n - (intOf i).toNat)
  case atStart => exact ⟨0, by omega, rfl, hid (NewLw.nil _ _ _), Below.refl _ _⟩
  case round =>
    obtain ⟨k, hk, rfl, hN, hbw⟩ := hrel
    have hszw := hbw.size
    by_cases hlt : k < n
    · obtain ⟨b1, o1, x, A1, m1, c1, rfl, hb1, hm, q0, hin0, hPx0⟩ := (HL.out.below hbw (Nat.le_refl _)).at_ hlt
      have hin : InS wr wr.heap.size A1 m1 x := hin0.cells_ hszw (fun _ _ _ _ _ _ => rfl)
      have hPx : 0 < m1 → ∀ b off, A1 = some ⟨b, off, none⟩ → P b ∧ b < w.heap.size := fun hm b off e => ⟨hPx0 hm b off e, ins_lt0 hin0 hm b off e⟩
      have hlti : (k : Int) < n := by omega
      obtain ⟨L, hL⟩ : ∃ L, sortL (ls.take k) = L := ⟨_, rfl⟩
      have hnx : Hid (sortL (ls.take (k + 1)) = insB x L) := hid (by rw [List.take_add_one, hm, Option.toList_some, sortL_snoc, hL])
      have hLl : L.length = k := by rw [← hL, sortL_len, List.length_take, hlen.out]; omega
      have hLw : Hid (∀ y ∈ L, y.length ≤ 1000000) := hid (fun y hy => by rw [← hL, mem_sortL] at hy; exact HW.out y (List.mem_of_mem_take hy))
      have hxw := HW.out x (List.mem_of_getElem? hm)
      have hm1 : m1 ≤ 1000000 := by have := hin.len; omega
      rw [hL] at hN
      have HIx := hid hin
      have HPx := hid hPx
      have hbA : Below wr.heap.size wr (wr.alloc (.cells #[.slice A1 m1 c1] 25)) := (Below.refl _ _).alloc (Nat.le_refl _) _
      have hN1 : Hid (NewLw (wr.alloc (.cells #[.slice A1 m1 c1] 25)) w.heap.size P u3 L) := hid (hN.out.below hbA)
      have hI1 : Hid (InS (wr.alloc (.cells #[.slice A1 m1 c1] 25)) (wr.alloc (.cells #[.slice A1 m1 c1] 25)).heap.size A1 m1 x) := hid (HIx.out.below hbA hbA.size)
      have hown : ∀ r, u3.ownBlock = some r → w.heap.size ≤ r := fun r hr => by
        obtain ⟨vs, ho, -⟩ := hN.out
        exact (World.ownsRow.lt ho r hr).1
      have Hown := hid hown
      have hszA : w.heap.size ≤ (wr.alloc (.cells #[.slice A1 m1 c1] 25)).heap.size := by simp; omega
      clear hm hin hin0 hPx0 hL hPx hN hown
      go_wp2_with (at_builtin; refine newLw_append rfl (by rfl) _ _ rfl w.heap.size P _ _ rfl hN1.out wr.heap.size A1 m1 c1 x rfl (Blk.new' rfl) hI1.out (fun hm b' off' e' => ⟨fun e3 => by have h1 := (HPx.out hm b' off' e').2; have h2 := Hown.out b' e3; omega, (HPx.out hm b' off' e').1⟩) (by omega) hszA ?_; intro v4 w4 hn4 hg4 hat4; obtain ⟨g, cap, rfl, hN4, hg1⟩ := newLw_form hn4 hLl)
      have hb4 : Below w.heap.size w w4 := (hbw.alloc hszw _).grown hg4 hszA (fun r hr => Hown.out r hr)
      have hN5 : Hid (NewLw w4 w.heap.size P (.slice (some ⟨g, 0, none⟩) (k + 1) cap) (insAt L x k)) := hid (by rw [← hLl]; rw [hLl]; rw [hLl] at hN4; exact hN4)
      have hzk : IntKind.i64.wrap (((k + 1 : Nat) : Int) - 1) = (k : Int) := by rw [IntKind.wrap_i64]; omega
      clear hN4 hg4 hat4 hN1 hI1 hszA hbA q0 hzk
      go_loopw [5] (fun t wr => ∃ j : Nat, j ≤ k ∧ t = .int .i64 j ∧ Hid (NewLw wr w.heap.size P (.slice (some ⟨g, 0, none⟩) (k + 1) cap) (insAt L x j)) ∧ Hid (∀ y ∈ L.drop j, before x y = true) ∧ Below w.heap.size w wr) (fun t _ => (intOf t).toNat)
      case atStart => exact ⟨k, Nat.le_refl _, rfl, hN5, hid (fun y hy => by rw [List.drop_of_length_le (by omega)] at hy; cases hy), hb4⟩
      case round =>
        clear hN5 hb4 hbw hszw
        obtain ⟨j, hj, rfl, hN, hdr, hbw⟩ := hrel
        have hszw := hbw.size
        rcases Nat.eq_zero_or_pos j with h0 | h0
        · subst h0
          have hins : Hid (NewLw wr w.heap.size P (.slice (some ⟨g, 0, none⟩) (k + 1) cap) (sortL (ls.take (k + 1)))) := hid (by
            rw [hnx.out, insB_at hdr.out (.inl rfl)]; exact hN.out)
          go_wp2
          refine wp_region_hd_all (fun W => Below wr.heap.size wr W) (by kernel_rfl) (by kernel_rfl) ((Below.refl _ _).drew) ?_
          iterate 3 (refine wpHd_val (v := ?_) (by rfl) (fun W hW => ?_) ?_; rotate_left; (· obtain ⟨hcW, hfW⟩ := bcell hW; go_simp; with_reducible rfl); simp only [Act.put, List.setIfInBounds_toArray, List.set_cons_zero, List.set_cons_succ])
          iterate 10 (refine wpHd_not (by rfl) ?_; simp only [Act.put, List.setIfInBounds_toArray, List.set_cons_zero, List.set_cons_succ])
          (refine wpHd_val (v := ?_) (by rfl) (fun W hW => ?_) ?_; rotate_left; (· obtain ⟨hcW, hfW⟩ := bcell hW; go_simp; with_reducible rfl); simp only [Act.put, List.setIfInBounds_toArray, List.set_cons_zero, List.set_cons_succ])
          refine wpHd_nil ?_
          intro W9 hW9
          have hbw9 := hbw.trans (hW9.mono hszw)
          have hN9 := hid (hins.out.below hW9)
          go_wp2
          exact ⟨⟨k + 1, by omega, by go_num, hN9, hbw9⟩, by simp [intOf]; omega⟩
        · obtain ⟨q, rfl⟩ : ∃ q, j = q + 1 := ⟨j - 1, by omega⟩
          obtain ⟨y, hy⟩ : ∃ y, L[q]? = some y := ⟨_, List.getElem?_eq_getElem (by omega)⟩
          obtain ⟨Ax, mx, cx, hcx, hix, hpx, lg, fg⟩ := newLw_at hN.out (insAt_at (x := x) (j := q + 1) (by omega)) (by omega : q + 1 < k + 1)
          obtain ⟨Ay, my, cy, hcy, hiy, hpy, -, fg2⟩ := newLw_at hN.out ((insAt_pre (x := x) (j := q) (by omega)).trans hy) (by omega : q < k + 1)
          have hmx : mx ≤ 1000000 := by have := hix.len; omega
          have hmy : my ≤ 1000000 := by have := hiy.len; have := hLw.out y (List.mem_of_getElem? hy); omega
          have hji : (0 : Int) < ((q + 1 : Nat) : Int) := by omega
          have hjk : ((q + 1 : Nat) : Int) < ((k + 1 : Nat) : Int) := by omega
          have hq1 : ((q + 1 : Nat) : Int) - 1 = (q : Int) := by omega
          have HX := hid hix
          have HY := hid hiy
          have Hy := hid hy
          have HPX := hid hpx
          have HPY := hid hpy
          have hqk : q < k := by omega
          have h0q : (0 : Int) ≤ (q : Int) + 1 := by omega
          have h1q : (q : Int) < (k : Int) + 1 := by omega
          have zq : IntKind.i64.wrap (q : Int) = q := by rw [IntKind.wrap_i64]; omega
          have hcb := fun (W : World) h1 h2 => rbefore_any Ax Ay mx cx my cy x y W h1 h2 hmx hmy
          clear hix hiy hy hpx hpy
          cases hbf : before x y
          · rw [hbf] at hcb
            have Hcb := hid hcb
            have hins : Hid (NewLw wr w.heap.size P (.slice (some ⟨g, 0, none⟩) (k + 1) cap) (sortL (ls.take (k + 1)))) := hid (by
              rw [hnx.out, insB_at hdr.out (.inr ⟨y, Hy.out, hbf, h0⟩)]; exact hN.out)
            go_wp2
            refine wp_region_hd_all (fun W => Below wr.heap.size wr W) (by kernel_rfl) (by kernel_rfl) ((Below.refl _ _).drew) ?_
            iterate 12 (refine wpHd_val (v := ?_) (by rfl) (fun W hW => ?_) ?_; rotate_left; (· obtain ⟨hcW, hfW⟩ := bcell hW; go_simp; with_reducible rfl); simp only [Act.put, List.setIfInBounds_toArray, List.set_cons_zero, List.set_cons_succ])
            (refine wpHd_callB (by rfl) (fun W hW => (Hcb.out W (HX.out.below hW hW.size) (HY.out.below hW hW.size))) (fun W hW => ?_) ?_; (· obtain ⟨hcW, hfW⟩ := bcell hW; go_simp); simp only [Act.put, List.setIfInBounds_toArray, List.set_cons_zero, List.set_cons_succ])
            (refine wpHd_val (v := ?_) (by rfl) (fun W hW => ?_) ?_; rotate_left; (· obtain ⟨hcW, hfW⟩ := bcell hW; go_simp; with_reducible rfl); simp only [Act.put, List.setIfInBounds_toArray, List.set_cons_zero, List.set_cons_succ])
            refine wpHd_nil ?_
            intro W9 hW9
            have hbw9 := hbw.trans (hW9.mono hszw)
            have hN9 := hid (hins.out.below hW9)
            clear hbf hcx hcy hcb
            go_wp2
            exact ⟨⟨k + 1, by omega, by go_num, hN9, hbw9⟩, by simp [intOf]; omega⟩
          · rw [hbf] at hcb
            have Hcb := hid hcb
            have hdr2 : Hid (∀ z ∈ L.drop q, before x z = true) := hid (fun z hz => by
              rw [List.drop_eq_getElem_cons (by omega)] at hz
              rcases List.mem_cons.1 hz with h | h
              · have := Hy.out
                rw [List.getElem?_eq_getElem (by omega)] at this
                rw [h, Option.some.inj this]; exact hbf
              · exact hdr.out z h)
            go_wp2
            refine wp_region_hd_all (fun W => Below wr.heap.size wr W) (by kernel_rfl) (by kernel_rfl) ((Below.refl _ _).drew) ?_
            iterate 12 (refine wpHd_val (v := ?_) (by rfl) (fun W hW => ?_) ?_; rotate_left; (· obtain ⟨hcW, hfW⟩ := bcell hW; go_simp; with_reducible rfl); simp only [Act.put, List.setIfInBounds_toArray, List.set_cons_zero, List.set_cons_succ])
            (refine wpHd_callB (by rfl) (fun W hW => (Hcb.out W (HX.out.below hW hW.size) (HY.out.below hW hW.size))) (fun W hW => ?_) ?_; (· obtain ⟨hcW, hfW⟩ := bcell hW; go_simp); simp only [Act.put, List.setIfInBounds_toArray, List.set_cons_zero, List.set_cons_succ])
            (refine wpHd_val (v := ?_) (by rfl) (fun W hW => ?_) ?_; rotate_left; (· obtain ⟨hcW, hfW⟩ := bcell hW; go_simp; with_reducible rfl); simp only [Act.put, List.setIfInBounds_toArray, List.set_cons_zero, List.set_cons_succ])
            refine wpHd_nil ?_
            intro W9 hW9
            have hbw9 := hbw.trans (hW9.mono hszw)
            have hN9 := hid (hN.out.below hW9)
            have hb94 := hW9
            have kx := (hW9.cell (p := ⟨g, q + 1, none⟩) lg).trans hcx
            have ky := (hW9.cell (p := ⟨g, q, none⟩) lg).trans hcy
            have lg9 := Nat.lt_of_lt_of_le lg hW9.size
            clear hbf hcx hcy hcb
            go_wp2
            refine Sx.wp_region_el (fun W => Below w.heap.size w W) (fun X Y h he => h.trans (he.mono h.size)) [0, 1, 2, 3, 4, 5, 6, 7, 8, 10, 11, 12] 6 (by kernel_rfl) (by kernel_rfl) hbw9.drew ?_
            simp only [pick, List.getElem?_toArray, List.getElem?_cons_zero, List.getElem?_cons_succ]
            iterate 12 (refine Sx.wpE_val (v := ?_) (by rfl) (fun W hW => ?_) ?_; rotate_left; (· skip; go_simp; with_reducible rfl); simp only [Act.put, List.setIfInBounds_toArray, List.set_cons_zero, List.set_cons_succ])
            simp only [Sx.wpE]
            (refine Sx.wpM_two 9 13 _ _ (by simp only [List.getElem?_toArray, List.getElem?_cons_zero, List.getElem?_cons_succ]; rfl) (by simp only [List.getElem?_toArray, List.getElem?_cons_zero, List.getElem?_cons_succ]; rfl) (by kernel_rfl) (by rfl) (by rfl) ?_ ?_)
            · intro Y1 hY1 hS1
              have hb1 : Below W9.heap.size W9 Y1 := (Below.refl _ W9).drew.trans hY1
              have e1 := (hb1.cell (p := ⟨g, q, none⟩) lg9).trans ky
              have lgY := Nat.lt_of_lt_of_le lg9 hb1.size
              (go_simp; simp only [LUpon, Act.put]; try simp only [List.setIfInBounds_toArray, List.set_cons_zero, List.set_cons_succ])
              refine ⟨hS1, ?_⟩
              (refine Sx.wpM_one 13 _ (by simp only [List.getElem?_toArray, List.getElem?_cons_zero, List.getElem?_cons_succ]; rfl) (by kernel_rfl) (by rfl) ?_)
              intro Y2 hY2 hS2
              have hb2 : Below W9.heap.size W9 Y2 := hb1.trans (hY2.mono hb1.size)
              have e2 := (hb2.cell (p := ⟨g, q + 1, none⟩) lg9).trans kx
              have lgY2 := Nat.lt_of_lt_of_le lg9 hb2.size
              (go_simp; simp only [LUpon, Act.put]; try simp only [List.setIfInBounds_toArray, List.set_cons_zero, List.set_cons_succ])
              refine ⟨hS2, ?_⟩
              (refine Sx.wpM_one 14 _ (by simp only [List.getElem?_toArray, List.getElem?_cons_zero, List.getElem?_cons_succ]; rfl) (by kernel_rfl) (by rfl) ?_)
              intro Y3 hY3 hS3
              have hb3 : Below W9.heap.size W9 Y3 := hb2.trans (hY3.mono hb2.size)
              (go_simp; simp only [LUpon, Act.put]; try simp only [List.setIfInBounds_toArray, List.set_cons_zero, List.set_cons_succ])
              refine ⟨hS3, ?_⟩
              (refine Sx.wpM_one 15 _ (by simp only [List.getElem?_toArray, List.getElem?_cons_zero, List.getElem?_cons_succ]; rfl) (by kernel_rfl) (by rfl) ?_)
              intro Y4 hY4 hS4
              have hb4 : Below W9.heap.size W9 Y4 := hb3.trans (hY4.mono hb3.size)
              have hN4 := hN9.out.below hb4
              have hr4 := hb94.trans (hb4.mono hb94.size)
              have hx4 := HX.out.below hr4 hr4.size
              have hy4 := HY.out.below hr4 hr4.size
              obtain ⟨hg0, lg4, hf4⟩ := newLw_blk hN4
              have hN5 := newLw_set (i := q + 1) (c := cy) hN4 hy4 (fun hm b off e => ⟨Nat.lt_of_lt_of_le (HPY.out hm b off e).1 hr4.size, fun e' => (HPY.out hm b off e).2.1 (Option.some.inj e'), (HPY.out hm b off e).2.2⟩)
              have hx5 := InS.setg (i := q + 1) (u := .slice Ay my cy) hx4 (fun hm b off e => (HPX.out hm b off e).2.1)
              have hf4q := hf4 (q + 1)
              have e4c := (hb4.cell (p := ⟨g, q + 1, none⟩) lg9).trans kx
              have hS5 : Below w.heap.size w (Y4.setCell ⟨g, q + 1, none⟩ (.slice Ay my cy)) := hS4.setCell hg0 _
              (go_simp; simp only [LUpon, Act.put]; try simp only [List.setIfInBounds_toArray, List.set_cons_zero, List.set_cons_succ])
              refine ⟨hS5, ?_⟩
              obtain ⟨Y5, hY5⟩ : ∃ Y, Y4.setCell ⟨g, q + 1, none⟩ (.slice Ay my cy) = Y := ⟨_, rfl⟩
              have hz5 : Y4.heap.size = Y5.heap.size := by rw [← hY5]; simp
              rw [hY5] at hN5 hx5 ⊢
              rw [hz5] at hx5
              clear hY5
              (refine Sx.wpM_one 16 _ (by simp only [List.getElem?_toArray, List.getElem?_cons_zero, List.getElem?_cons_succ]; rfl) (by kernel_rfl) (by rfl) ?_)
              intro Y6 hY6 hS6
              (go_simp; simp only [LUpon, Act.put]; try simp only [List.setIfInBounds_toArray, List.set_cons_zero, List.set_cons_succ])
              refine ⟨hS6, ?_⟩
              (refine Sx.wpM_one 17 _ (by simp only [List.getElem?_toArray, List.getElem?_cons_zero, List.getElem?_cons_succ]; rfl) (by kernel_rfl) (by rfl) ?_)
              intro Y7 hY7 hS7
              have hb7 : Below Y5.heap.size Y5 Y7 := hY6.trans (hY7.mono hY6.size)
              have hN7 := hN5.below hb7
              have hx7 := hx5.below hb7 hb7.size
              obtain ⟨-, lg7, hf7⟩ := newLw_blk hN7
              have hz7 := hb7.size
              have hN8 := newLw_set (i := q) (c := cx) hN7 hx7 (fun hm b off e => ⟨by have := (HPX.out hm b off e).1; have := hr4.size; omega, fun e' => (HPX.out hm b off e).2.1 (Option.some.inj e'), (HPX.out hm b off e).2.2⟩)
              rw [insAt_swap (by omega) Hy.out] at hN8
              have hf7q := hf7 q
              obtain ⟨_, _, _, e7c, -⟩ := newLw_at (i := q) hN7 (by rw [List.getElem?_set_ne (by omega)]; exact (insAt_pre (by omega)).trans Hy.out) (by omega)
              have hS8 : Below w.heap.size w (Y7.setCell ⟨g, q, none⟩ (.slice Ax mx cx)) := hS7.setCell hg0 _
              (go_simp; simp only [LUpon, Act.put]; try simp only [List.setIfInBounds_toArray, List.set_cons_zero, List.set_cons_succ])
              refine ⟨hS8, Sx.wpM_end (by kernel_rfl) ?_⟩
              intro Y9 hY9 hS9
              have hN10 := hid (hN8.below hY9)
              clear e4c e7c hN4 hN5 hN7 hN8 hx4 hy4 hx5 hx7 kx ky e1 e2 hf4 hf7 hS8 hS5 hb1 hb2 hb3 hb4 hb7 hr4
              go_wp2
              exact ⟨⟨q, by omega, by go_num, hN10, hdr2, hS9⟩, by simp [intOf]⟩
            · intro Y1 hY1 hS1
              have hb1 : Below W9.heap.size W9 Y1 := (Below.refl _ W9).drew.trans hY1
              have e1 := (hb1.cell (p := ⟨g, q + 1, none⟩) lg9).trans kx
              have lgY := Nat.lt_of_lt_of_le lg9 hb1.size
              (go_simp; simp only [LUpon, Act.put]; try simp only [List.setIfInBounds_toArray, List.set_cons_zero, List.set_cons_succ])
              refine ⟨hS1, ?_⟩
              (refine Sx.wpM_one 9 _ (by simp only [List.getElem?_toArray, List.getElem?_cons_zero, List.getElem?_cons_succ]; rfl) (by kernel_rfl) (by rfl) ?_)
              intro Y2 hY2 hS2
              have hb2 : Below W9.heap.size W9 Y2 := hb1.trans (hY2.mono hb1.size)
              have e2 := (hb2.cell (p := ⟨g, q, none⟩) lg9).trans ky
              have lgY2 := Nat.lt_of_lt_of_le lg9 hb2.size
              (go_simp; simp only [LUpon, Act.put]; try simp only [List.setIfInBounds_toArray, List.set_cons_zero, List.set_cons_succ])
              refine ⟨hS2, ?_⟩
              (refine Sx.wpM_one 14 _ (by simp only [List.getElem?_toArray, List.getElem?_cons_zero, List.getElem?_cons_succ]; rfl) (by kernel_rfl) (by rfl) ?_)
              intro Y3 hY3 hS3
              have hb3 : Below W9.heap.size W9 Y3 := hb2.trans (hY3.mono hb2.size)
              (go_simp; simp only [LUpon, Act.put]; try simp only [List.setIfInBounds_toArray, List.set_cons_zero, List.set_cons_succ])
              refine ⟨hS3, ?_⟩
              (refine Sx.wpM_one 15 _ (by simp only [List.getElem?_toArray, List.getElem?_cons_zero, List.getElem?_cons_succ]; rfl) (by kernel_rfl) (by rfl) ?_)
              intro Y4 hY4 hS4
              have hb4 : Below W9.heap.size W9 Y4 := hb3.trans (hY4.mono hb3.size)
              have hN4 := hN9.out.below hb4
              have hr4 := hb94.trans (hb4.mono hb94.size)
              have hx4 := HX.out.below hr4 hr4.size
              have hy4 := HY.out.below hr4 hr4.size
              obtain ⟨hg0, lg4, hf4⟩ := newLw_blk hN4
              have hN5 := newLw_set (i := q + 1) (c := cy) hN4 hy4 (fun hm b off e => ⟨Nat.lt_of_lt_of_le (HPY.out hm b off e).1 hr4.size, fun e' => (HPY.out hm b off e).2.1 (Option.some.inj e'), (HPY.out hm b off e).2.2⟩)
              have hx5 := InS.setg (i := q + 1) (u := .slice Ay my cy) hx4 (fun hm b off e => (HPX.out hm b off e).2.1)
              have hf4q := hf4 (q + 1)
              have e4c := (hb4.cell (p := ⟨g, q + 1, none⟩) lg9).trans kx
              have hS5 : Below w.heap.size w (Y4.setCell ⟨g, q + 1, none⟩ (.slice Ay my cy)) := hS4.setCell hg0 _
              (go_simp; simp only [LUpon, Act.put]; try simp only [List.setIfInBounds_toArray, List.set_cons_zero, List.set_cons_succ])
              refine ⟨hS5, ?_⟩
              obtain ⟨Y5, hY5⟩ : ∃ Y, Y4.setCell ⟨g, q + 1, none⟩ (.slice Ay my cy) = Y := ⟨_, rfl⟩
              have hz5 : Y4.heap.size = Y5.heap.size := by rw [← hY5]; simp
              rw [hY5] at hN5 hx5 ⊢
              rw [hz5] at hx5
              clear hY5
              (refine Sx.wpM_one 16 _ (by simp only [List.getElem?_toArray, List.getElem?_cons_zero, List.getElem?_cons_succ]; rfl) (by kernel_rfl) (by rfl) ?_)
              intro Y6 hY6 hS6
              (go_simp; simp only [LUpon, Act.put]; try simp only [List.setIfInBounds_toArray, List.set_cons_zero, List.set_cons_succ])
              refine ⟨hS6, ?_⟩
              (refine Sx.wpM_one 17 _ (by simp only [List.getElem?_toArray, List.getElem?_cons_zero, List.getElem?_cons_succ]; rfl) (by kernel_rfl) (by rfl) ?_)
              intro Y7 hY7 hS7
              have hb7 : Below Y5.heap.size Y5 Y7 := hY6.trans (hY7.mono hY6.size)
              have hN7 := hN5.below hb7
              have hx7 := hx5.below hb7 hb7.size
              obtain ⟨-, lg7, hf7⟩ := newLw_blk hN7
              have hz7 := hb7.size
              have hN8 := newLw_set (i := q) (c := cx) hN7 hx7 (fun hm b off e => ⟨by have := (HPX.out hm b off e).1; have := hr4.size; omega, fun e' => (HPX.out hm b off e).2.1 (Option.some.inj e'), (HPX.out hm b off e).2.2⟩)
              rw [insAt_swap (by omega) Hy.out] at hN8
              have hf7q := hf7 q
              obtain ⟨_, _, _, e7c, -⟩ := newLw_at (i := q) hN7 (by rw [List.getElem?_set_ne (by omega)]; exact (insAt_pre (by omega)).trans Hy.out) (by omega)
              have hS8 : Below w.heap.size w (Y7.setCell ⟨g, q, none⟩ (.slice Ax mx cx)) := hS7.setCell hg0 _
              (go_simp; simp only [LUpon, Act.put]; try simp only [List.setIfInBounds_toArray, List.set_cons_zero, List.set_cons_succ])
              refine ⟨hS8, Sx.wpM_end (by kernel_rfl) ?_⟩
              intro Y9 hY9 hS9
              have hN10 := hid (hN8.below hY9)
              clear e4c e7c hN4 hN5 hN7 hN8 hx4 hy4 hx5 hx7 kx ky e1 e2 hf4 hf7 hS8 hS5 hb1 hb2 hb3 hb4 hb7 hr4
              go_wp2
              exact ⟨⟨q, by omega, by go_num, hN10, hdr2, hS9⟩, by simp [intOf]⟩
    · obtain rfl : k = n := by omega
      have hfin : Hid (NewLw wr w.heap.size P u3 (sortL ls)) := hid (by have h := hN.out; rwa [List.take_of_length_le (by rw [hlen.out]; exact Nat.le_refl _)] at h)
      go_wp2
      refine bodyPost_ret (v := u3) (by first | (simp [results, Tryz.results101, go_sem]; done) | (simp [results, Tryz.results101, go_sem, *]; done) | (simp [results, Tryz.results101, go_sem, World.cell?_setCell_same', *]; done) | (simp [results, Tryz.results101, go_sem]; first | exact ⟨rfl, rfl⟩ | rfl)) rfl ⟨u3, rfl, hfin.out, hbw⟩
end Go.Proofs.YtnpilfpackdimaaGreat
