/- Texts of the proof, laid together by program. -/
import Derived.Test.YtnpilfpackdimaaGreatMe
import Derived.Test.YtnpilfpackdimaaGreatMd
import Derived.Laws.CopyOwn
import Derived.Laws.MakeOwn
import Derived.Test.YtnpilfpackdimaaGreatMa
set_option linter.unusedSimpArgs false
set_option linter.unusedVariables false
/- Walks (reference): AllOf. -/
namespace Go.Proofs.YtnpilfpackdimaaGreat
open Go.RowKit Go.Shelf
attribute [local go_sem] Oper.semAt_some
/-- Bits are a tight blame, as the reference says it. -/
def rtB (I : Nat) (ls : List (List Int)) (x : Nat) : Bool := decide (missI ls x < 0) && decide (spR I ls x < 0)
def outL (I : Nat) (ls : List (List Int)) (k : Nat) : List (List Int) := ((List.range k).filter (rtB I ls)).map fun x => listed x I
theorem outL_succ (I : Nat) (ls : List (List Int)) (k : Nat) : outL I ls (k + 1) = outL I ls k ++ (if rtB I ls k then [listed k I] else []) := by
  unfold outL
  rw [List.range_succ, List.filter_append, List.map_append]
  cases h : rtB I ls k <;> simp [h]
theorem outL_len (I : Nat) (ls : List (List Int)) (k : Nat) : (outL I ls k).length ≤ k := by
  unfold outL
  rw [List.length_map]
  exact Nat.le_trans (List.length_filter_le ..) (by rw [List.length_range]; exact Nat.le_refl _)
/-- All tight blames, as the reference says it. -/
def allR (I : Nat) (ls : List (List Int)) : List (List Int) := sortL (outL I ls (2 ^ I))
set_option maxRecDepth 100000 in
set_option maxHeartbeats 4000000 in
theorem rallOf_any (A : Option Addr) (n c : Nat) (ls : List (List Int)) (I : Nat) (w : World) (hl : LiS w w.heap.size A n ls) (hn : n ≤ 1000000) (hv : ∀ l ∈ ls, isL 8 0 l = true) (hI : I ≤ 8) :
    Calls Tryz.prog 64 #[.agg #[.int .i64 (I : Int), .slice A n c]] w fun e w' => ∃ v, e = .returned v ∧ NewLw w' w.heap.size (fun b => w.heap.size ≤ b) v (allR I ls) ∧ Below w.heap.size w w' := by
  have HL := hid hl
  have HM := hid (fun (x : Nat) (W : World) (hx : x < 2 ^ 62) h => rmissed_any A n c ls (I : Int) x W h hn hv hx)
  have HSp := hid (fun (x : Nat) (W : World) (hx : x < 256) h => rspare_any A n c ls I x W h hn hv hI hx)
  have h2I : 2 ^ I ≤ 256 := Nat.le_trans (Nat.pow_le_pow_right (by decide) hI) (by decide)
  have hpw := pow_wrap I (by omega)
  obtain ⟨E, hE⟩ : ∃ E, 2 ^ I = E := ⟨_, rfl⟩
  have hEi : (2 : Int) ^ I = (E : Int) := by rw [← hE]; push_cast; rfl
  rw [hE] at h2I hpw
  rw [hEi] at hpw
  have HE := hid hE
  clear hl hv hE
  go_enter Tryz.func64, Tryz.ntmps64
  have B0 : Blk (w.alloc (.cells #[.int .i64 (I : Int), .slice A n c] 24)) w.heap.size 24 #[.int .i64 (I : Int), .slice A n c] := Blk.new' rfl
  have hb0 : Below w.heap.size w (w.alloc (.cells #[.int .i64 (I : Int), .slice A n c] 24)) := (Below.refl _ _).alloc (Nat.le_refl _) _
  go_wp2
  go_loopw [3, 4] (fun v i wr => ∃ k : Nat, k ≤ E ∧ i = .int .i64 k ∧ Hid (NewLw wr w.heap.size (fun b => w.heap.size ≤ b) v (outL I ls k)) ∧ Hid (Blk wr w.heap.size 24 #[.int .i64 (I : Int), .slice A n c]) ∧ v.ownBlock ≠ some w.heap.size ∧ Below w.heap.size w wr) (fun _ i _ => E - (intOf i).toNat)
  case atStart => exact ⟨0, by omega, rfl, hid (by simpa [outL] using NewLw.nil _ _ _), hid B0, (by simp [Value.ownBlock]), hb0⟩
  case round =>
    clear B0 hb0
    obtain ⟨k, hk, rfl, hN, hB, hne, hbw⟩ := hrel
    have hszw := hbw.size
    have c0 := hB.out.cell 0
    have c1 := hB.out.cell 1
    have l1 := hB.out.lt
    by_cases hlt : k < E
    · have hlti : (k : Int) < E := by omega
      have hs := outL_succ I ls k
      have hol := outL_len I ls k
      obtain ⟨mv, hmv⟩ : ∃ mv, missI ls k = mv := ⟨_, rfl⟩
      obtain ⟨sv, hsv⟩ : ∃ sv, spR I ls k = sv := ⟨_, rfl⟩
      have hrt : rtB I ls k = (decide (mv < 0) && decide (sv < 0)) := by unfold rtB; rw [hmv, hsv]
      have hm := HM.out k
      have hsp := HSp.out k
      rw [hmv] at hm
      rw [hsv] at hsp
      have Hm := hid hm
      have Hsp := hid hsp
      have HLr := hid (HL.out.below hbw hszw)
      clear hmv hsv hm hsp
      by_cases h1 : mv < 0
      · by_cases h2 : sv < 0
        · rw [hrt, decide_eq_true h1, decide_eq_true h2] at hs
          simp only [Bool.and_self, if_true] at hs
          have Hs := hid hs
          clear hs hrt
          go_wp2_with (first | (go_at_call 52; refine (Hm.out _ (by omega) HLr.out).mono ?_; rintro e w1 ⟨rfl, hb1⟩; have l1' := Nat.lt_of_lt_of_le l1 hb1.size; have c0' := (hb1.cell (p := ⟨w.heap.size, 0, none⟩) l1).trans c0; have c1' := (hb1.cell (p := ⟨w.heap.size, 1, none⟩) l1).trans c1) | (go_at_call 91; refine (Hsp.out _ (by omega) (HLr.out.below hb1 hb1.size)).mono ?_; rintro e w2 ⟨rfl, hb2⟩; have l2' := Nat.lt_of_lt_of_le l1' hb2.size; have c02 := (hb2.cell (p := ⟨w.heap.size, 0, none⟩) l1').trans c0'))
          have hb12 := hb1.trans (hb2.mono hb1.size)
          have hbw2 := hbw.trans (hb12.mono hszw)
          refine (rlisted_any k I w2 (by omega) (by omega)).mono ?_
          rintro e w3 ⟨v7, rfl, ho7, hb3⟩
          obtain ⟨A7, c7, rfl, hs7, -⟩ := own_src ho7
          have hb13 := hb12.trans (hb3.mono hb12.size)
          have hbw3 := hbw2.trans (hb3.mono hbw2.size)
          obtain ⟨m7, hm7⟩ : ∃ m7, (listed k I).length = m7 := ⟨_, rfl⟩
          rw [hm7] at hs7 ho7 ⊢
          have hi7 : InS w3 w3.heap.size A7 m7 (listed k I) := hs7
          have hfr : ∀ b off, A7 = some ⟨b, off, none⟩ → w2.heap.size ≤ b := fun b off e => by
            subst e
            exact (World.ownsRow.lt ho7 b rfl).1
          have hbA : Below w3.heap.size w3 (w3.alloc (.cells #[.slice A7 m7 c7] 25)) := (Below.refl _ _).alloc (Nat.le_refl _) _
          have hN3 : Hid (NewLw (w3.alloc (.cells #[.slice A7 m7 c7] 25)) w.heap.size (fun b => w.heap.size ≤ b) u3 (outL I ls k)) := hid (hN.out.below (hb13.trans (hbA.mono hb13.size)))
          have hI3 : Hid (InS (w3.alloc (.cells #[.slice A7 m7 c7] 25)) (w3.alloc (.cells #[.slice A7 m7 c7] 25)).heap.size A7 m7 (listed k I)) := hid (hi7.below hbA hbA.size)
          have hB3 : Hid (Blk (w3.alloc (.cells #[.slice A7 m7 c7] 25)) w.heap.size 24 #[.int .i64 (I : Int), .slice A n c]) := hid ((hB.out.below hb13 l1).alloc _)
          have hown : ∀ r, u3.ownBlock = some r → w.heap.size ≤ r ∧ r < wr.heap.size := fun r hr => by
            obtain ⟨vs, ho, -⟩ := hN.out
            exact World.ownsRow.lt ho r hr
          have Hown := hid hown
          have Hfr := hid hfr
          have hszA : w.heap.size ≤ (w3.alloc (.cells #[.slice A7 m7 c7] 25)).heap.size := by simp; have := hbw3.size; omega
          have hz2 := hb12.size
          have hz3 := hbw3.size
          have hbw4 := hbw3.alloc hz3 (.cells #[.slice A7 m7 c7] 25)
          have hl1 : w.heap.size < w3.heap.size := by have := hb13.size; omega
          clear hN hB c0 c1 c0' c1' c02 hs7 hi7 ho7 hfr hown hm7 hb1 hb2 hb3 hbA
          go_wp2_with (at_builtin; refine newLw_append rfl (by rfl) _ _ rfl w.heap.size _ _ _ rfl hN3.out w3.heap.size A7 m7 c7 (listed k I) rfl (Blk.new' rfl) hI3.out (fun hm b' off' e' => ⟨fun e3 => by have h1 := Hfr.out b' off' e'; have h2 := (Hown.out b' e3).2; omega, by have h1 := Hfr.out b' off' e'; omega⟩) (by omega) hszA ?_; intro v4 w4 hn4 hg4 hat4)
          have hb4 : Below w.heap.size w w4 := hbw4.grown hg4 hszA (fun r hr => (Hown.out r hr).1)
          have hB4 := hid (hB3.out.grown hg4 (fun e => hne e.symm))
          have hne4 : v4.ownBlock ≠ some w.heap.size := by
            rcases hat4 with h | h
            · rw [h]; exact hne
            · rw [h]; intro e; have := Option.some.inj e; simp at this; omega
          exact ⟨⟨k + 1, by omega, by go_num, hid (by rw [Hs.out]; exact hn4), hB4, hne4, hb4⟩, by simp [intOf]; omega⟩
        · rw [hrt, decide_eq_false h2, Bool.and_false] at hs
          simp only [Bool.false_eq_true, if_false, List.append_nil] at hs
          have Hs := hid hs
          clear hs hrt
          go_wp2_with (first | (go_at_call 52; refine (Hm.out _ (by omega) HLr.out).mono ?_; rintro e w1 ⟨rfl, hb1⟩; have l1' := Nat.lt_of_lt_of_le l1 hb1.size; have c0' := (hb1.cell (p := ⟨w.heap.size, 0, none⟩) l1).trans c0; have c1' := (hb1.cell (p := ⟨w.heap.size, 1, none⟩) l1).trans c1) | (go_at_call 91; refine (Hsp.out _ (by omega) (HLr.out.below hb1 hb1.size)).mono ?_; rintro e w2 ⟨rfl, hb2⟩))
          have hb12 := hb1.trans (hb2.mono hb1.size)
          exact ⟨⟨k + 1, by omega, by go_num, hid (by rw [Hs.out]; exact hN.out.below hb12), hid (hB.out.below hb12 l1), hne, hbw.trans (hb12.mono hszw)⟩, by simp [intOf]; omega⟩
      · rw [hrt, decide_eq_false h1, Bool.false_and] at hs
        simp only [Bool.false_eq_true, if_false, List.append_nil] at hs
        have Hs := hid hs
        clear hs hrt
        go_wp2_with (first | (go_at_call 52; refine (Hm.out _ (by omega) HLr.out).mono ?_; rintro e w1 ⟨rfl, hb1⟩))
        exact ⟨⟨k + 1, by omega, by go_num, hid (by rw [Hs.out]; exact hN.out.below hb1), hid (hB.out.below hb1 l1), hne, hbw.trans (hb1.mono hszw)⟩, by simp [intOf]; omega⟩
    · obtain rfl : k = E := by omega
      obtain ⟨A9, c9, rfl, hq9, -⟩ := hN.out.liq
      have hol := outL_len I ls k
      have hsr := rsorted_any (fun b => w.heap.size ≤ b) A9 (outL I ls k).length c9 (outL I ls k) wr hq9 (by omega) (fun l hl => by
        obtain ⟨x, -, rfl⟩ := List.mem_map.1 hl
        have := listed_len x I; omega)
      have hfin : Hid (allR I ls = sortL (outL I ls k)) := hid (by unfold allR; rw [HE.out])
      obtain ⟨n9, hn9⟩ : ∃ n9, (outL I ls k).length = n9 := ⟨_, rfl⟩
      obtain ⟨S9, hS9⟩ : ∃ S9, sortL (outL I ls k) = S9 := ⟨_, rfl⟩
      rw [hn9, hS9] at hsr
      rw [hS9] at hfin
      rw [hn9]
      clear hN hq9 hol hn9 hS9
      go_wp2_with (go_at_call 101; refine hsr.mono ?_; rintro e w2 ⟨v9, rfl, hn9, hb9⟩)
      refine bodyPost_ret (v := v9) (by first | (simp [results, Tryz.results64, go_sem]; done) | (simp [results, Tryz.results64, go_sem, *]; done) | (simp [results, Tryz.results64, go_sem, World.cell?_setCell_same', *]; done) | (simp [results, Tryz.results64, go_sem]; first | exact ⟨rfl, rfl⟩ | rfl)) rfl ⟨v9, rfl, by rw [hfin.out]; exact hn9.mono hszw (fun _ h => h), hbw.trans (hb9.mono hszw)⟩
end Go.Proofs.YtnpilfpackdimaaGreat
/- Plain law: tight blames are the minimal sets that hit all hires; the program's spare inn is the reference's. -/
namespace Go.Proofs.YtnpilfpackdimaaGreat
/-- A set has an inn of each hire. -/
def hitB (ls : List (List Int)) (x : Nat) : Bool := ls.all fun l => l.any (inB x)
theorem idxA_neg {α : Type} {q : α → Bool} {ls : List α} : idxA q ls < 0 ↔ ls.any q = false := by
  unfold idxA
  cases h : ls.findIdx? q with
  | none =>
    rw [List.findIdx?_eq_none_iff] at h
    constructor
    · intro _; rw [List.any_eq_false]; intro x hx; rw [h x hx]; decide
    · intro _; decide
  | some k =>
    rw [List.findIdx?_eq_some_iff_getElem] at h
    obtain ⟨h1, h2, -⟩ := h
    constructor
    · intro h; simp at h; omega
    · intro h
      have := List.any_eq_false.1 h _ (List.getElem_mem h1)
      exact absurd h2 this
theorem miss_neg {ls : List (List Int)} {x : Nat} : missI ls x < 0 ↔ hitB ls x = true := by
  unfold missI hitB
  rw [idxA_neg, any_not_all]
  simp
theorem miss_dec (ls : List (List Int)) (x : Nat) : decide (missI ls x < 0) = hitB ls x := by
  rw [Bool.eq_iff_iff, decide_eq_true_eq, miss_neg]
theorem clr_bit (x i j : Nat) : (clr x i).testBit j = (x.testBit j && !decide (j = i)) := by
  unfold clr
  rw [Nat.testBit_xor, Nat.testBit_or, Nat.testBit_two_pow]
  by_cases h : i = j
  · subst h; simp
  · have h' : ¬ j = i := fun e => h e.symm
    simp [h, h']
theorem hit_mono {ls : List (List Int)} {x y : Nat} (h : ∀ i, y.testBit i = true → x.testBit i = true) (hy : hitB ls y = true) : hitB ls x = true := by
  unfold hitB at *
  rw [List.all_eq_true] at *
  intro l hl
  obtain ⟨e, he, hb⟩ := List.any_eq_true.1 (hy l hl)
  exact List.any_eq_true.2 ⟨e, he, h _ hb⟩
theorem clr_sub (x i : Nat) : ∀ j, (clr x i).testBit j = true → x.testBit j = true := fun j h => by
  rw [clr_bit, Bool.and_eq_true] at h; exact h.1
theorem clr_lt {x i : Nat} (hx : x < 256) (hi : i < 8) : clr x i < 256 := by
  unfold clr
  exact Nat.xor_lt_two_pow (n := 8) (Nat.or_lt_two_pow hx (Nat.pow_lt_pow_right (by decide) hi)) (Nat.pow_lt_pow_right (by decide) hi)
/-- A set that cannot be made smaller by one inn is minimal. -/
theorem min_iff {ls : List (List Int)} {x I : Nat} (hI : I ≤ 8) (hx : x < 2 ^ I) : minB (hitB ls) x = true ↔ hitB ls x = true ∧ ∀ i, i < I → x.testBit i = true → hitB ls (clr x i) = false := by
  have hx8 : x < 256 := Nat.lt_of_lt_of_le hx (Nat.le_trans (Nat.pow_le_pow_right (by decide) hI) (by decide))
  rw [minB_iff]
  constructor
  · rintro ⟨h1, h2⟩
    refine ⟨h1, fun i hi hb => ?_⟩
    rw [Bool.eq_false_iff]
    intro hh
    have hne : clr x i ≠ x := fun e => by
      have := clr_bit x i i
      rw [e, hb] at this; simp at this
    have := h2 _ (clr_lt hx8 (by omega)) hh hne
    rw [(subB_iff (clr_lt hx8 (by omega))).2 (clr_sub x i)] at this; cases this
  · rintro ⟨h1, h2⟩
    refine ⟨h1, fun y hy hh hne => ?_⟩
    rw [Bool.eq_false_iff]
    intro hs
    have hs' := (subB_iff hy).1 hs
    obtain ⟨i, hi, hyi⟩ : ∃ i, x.testBit i = true ∧ y.testBit i = false := by
      refine Classical.byContradiction fun hn => hne ?_
      refine Nat.eq_of_testBit_eq fun i => ?_
      cases hxi : x.testBit i
      · cases hyi : y.testBit i
        · rfl
        · rw [hs' i hyi] at hxi; cases hxi
      · cases hyi : y.testBit i
        · exact absurd ⟨i, hxi, hyi⟩ hn
        · rfl
    have hiI : i < I := by
      rcases Nat.lt_or_ge i I with h | h
      · exact h
      · rw [Nat.testBit_lt_two_pow (Nat.lt_of_lt_of_le hx (Nat.pow_le_pow_right (by decide) h))] at hi; cases hi
    have hh2 : hitB ls (clr x i) = true := hit_mono (fun j hj => by
      rw [clr_bit, hs' j hj]
      have : j ≠ i := fun e => by rw [e, hyi] at hj; cases hj
      simp [this]) hh
    rw [h2 i hiI hi] at hh2; cases hh2
theorem spR_neg {I : Nat} {ls : List (List Int)} {x : Nat} : spR I ls x < 0 ↔ ∀ i, i < I → x.testBit i = true → hitB ls (clr x i) = false := by
  unfold spR
  rw [idxA_neg, List.any_eq_false]
  constructor
  · intro h i hi hb
    have := h i (List.mem_range.2 hi)
    rw [hb, miss_dec] at this
    simpa using this
  · intro h i hi
    rw [miss_dec]
    cases hb : x.testBit i
    · simp
    · rw [h i (List.mem_range.1 hi) hb]; decide
theorem rtB_min {I : Nat} {ls : List (List Int)} {x : Nat} (hI : I ≤ 8) (hx : x < 2 ^ I) : rtB I ls x = minB (hitB ls) x := by
  rw [Bool.eq_iff_iff, min_iff hI hx]
  unfold rtB
  rw [Bool.and_eq_true, decide_eq_true_eq, decide_eq_true_eq, miss_neg, spR_neg]
theorem find_range (q : Nat → Bool) : ∀ n, (List.range n).findIdx? q = (List.range n).find? q
  | 0 => rfl
  | n + 1 => by
    rw [List.range_succ, List.findIdx?_append, List.find?_append, find_range q n]
    cases h : (List.range n).find? q with
    | some k => simp
    | none =>
      simp only [Option.none_or, List.length_range]
      cases hq : q n <;> simp [List.findIdx?_cons, List.find?_cons, hq]
theorem find_range_more {q : Nat → Bool} {m n : Nat} (hmn : m ≤ n) (h : ∀ i, m ≤ i → q i = false) : (List.range n).find? q = (List.range m).find? q := by
  induction n with
  | zero => rw [Nat.le_zero.1 hmn]
  | succ n ih =>
    rcases Nat.eq_or_lt_of_le hmn with h1 | h1
    · rw [h1]
    · rw [List.range_succ, List.find?_append, ih (by omega)]
      simp [List.find?_cons, h n (by omega)]
theorem spO_eq {I : Nat} {ls : List (List Int)} {x : Nat} (hI : I ≤ 8) (hx : x < 2 ^ I) : spO ls x = if 0 ≤ spR I ls x then some (spR I ls x) else none := by
  have e1 : spO ls x = ((List.range I).find? fun i => x.testBit i && decide (missI ls (clr x i) < 0)).map fun i : Nat => (i : Int) := by
    unfold spO listed
    rw [List.find?_map, List.find?_filter]
    rw [← find_range_more (n := 8) hI (fun i hi => by rw [Nat.testBit_lt_two_pow (Nat.lt_of_lt_of_le hx (Nat.pow_le_pow_right (by decide) hi))]; rfl)]
    congr 2
    funext i
    rw [Bool.eq_iff_iff]
    simp
  rw [e1]
  unfold spR idxA
  rw [find_range]
  cases h : (List.range I).find? fun i => x.testBit i && decide (missI ls (clr x i) < 0) with
  | none => rfl
  | some k => simp
end Go.Proofs.YtnpilfpackdimaaGreat
/- Plain law: all tight blames of the program and of the reference are the minimal sets that hit all hires, in order. -/
namespace Go.Proofs.YtnpilfpackdimaaGreat
theorem sup_lt {I x y : Nat} (hy : ∀ i, y.testBit i = true → i < I) : y < 2 ^ I := by
  refine Nat.lt_pow_two_of_testBit y fun i hi => ?_
  rw [Bool.eq_false_iff]
  intro h
  have := hy i h
  omega
/-- A minimal set has inns of hires alone. -/
theorem min_in {ls : List (List Int)} {I x : Nat} (hv : ∀ l ∈ ls, isL (I : Int) 0 l = true) (hx8 : x < 256) (h : minB (hitB ls) x = true) : x < 2 ^ I := by
  refine sup_lt (x := 0) fun i hi => ?_
  have hi8 : i < 8 := by
    rcases Nat.lt_or_ge i 8 with h' | h'
    · exact h'
    · rw [Nat.testBit_lt_two_pow (Nat.lt_of_lt_of_le hx8 (Nat.pow_le_pow_right (n := 2) (by decide) h'))] at hi; cases hi
  obtain ⟨h1, h2⟩ := (min_iff (I := 8) (Nat.le_refl _) hx8).1 h
  have h3 := h2 i hi8 hi
  unfold hitB at h1 h3
  obtain ⟨l, hl, hln⟩ := List.all_eq_false.1 h3
  obtain ⟨e, he, hb⟩ := List.any_eq_true.1 (List.all_eq_true.1 h1 l hl)
  have hce : inB (clr x i) e = false := by
    rw [Bool.eq_false_iff]; intro hh
    exact hln (List.any_eq_true.2 ⟨e, he, hh⟩)
  have hb' : x.testBit e.toNat = true := hb
  have hce' : (clr x i).testBit e.toNat = false := hce
  rw [clr_bit, hb'] at hce'
  have hei : e.toNat = i := by simpa using hce'
  have := isL_bd (hv l hl) e he
  omega
theorem listed_more {I x : Nat} (hx : x < 2 ^ I) (hI : I ≤ 8) : listed x I = listed x 8 := by
  have h1 := isL_listed' x I
  have h2 := isL_listed' x 8
  refine isL_ext h1 h2 fun y => ?_
  rw [mem_listed, mem_listed]
  constructor
  · rintro ⟨i, rfl, hi, hb⟩; exact ⟨i, rfl, by omega, hb⟩
  · rintro ⟨i, rfl, hi, hb⟩
    refine ⟨i, rfl, ?_, hb⟩
    rcases Nat.lt_or_ge i I with h | h
    · exact h
    · rw [Nat.testBit_lt_two_pow (Nat.lt_of_lt_of_le hx (Nat.pow_le_pow_right (by decide) h))] at hb; cases hb
theorem listed_injI {I x y : Nat} (hI : I ≤ 8) (hx : x < 2 ^ I) (hy : y < 2 ^ I) (h : listed x I = listed y I) : x = y := by
  have := congrArg bitsL h
  rwa [bits_listed hx, bits_listed hy] at this
theorem pow_le256 {I x : Nat} (hI : I ≤ 8) (hx : x < 2 ^ I) : x < 256 := Nat.lt_of_lt_of_le hx (Nat.le_trans (Nat.pow_le_pow_right (by decide) hI) (by decide))
theorem outL_nodup {I : Nat} {ls : List (List Int)} (hI : I ≤ 8) : (outL I ls (2 ^ I)).Nodup := by
  unfold outL
  rw [List.Nodup, List.pairwise_map]
  refine List.Pairwise.imp_of_mem ?_ (List.Pairwise.sublist List.filter_sublist (List.nodup_range (n := 2 ^ I)))
  intro a b ha hb hne e
  have ha' := List.mem_range.1 (List.mem_filter.1 ha).1
  have hb' := List.mem_range.1 (List.mem_filter.1 hb).1
  exact hne (listed_injI hI ha' hb' e)
theorem allR_eq {I : Nat} {ls : List (List Int)} (hI : I ≤ 8) (hv : ∀ l ∈ ls, isL (I : Int) 0 l = true) : allR I ls = ordL (minB (hitB ls)) := by
  refine srt_ext (sortL_srt (outL_nodup hI)) (ordL_srt _) fun l => ?_
  unfold allR
  rw [mem_sortL, mem_ordL]
  unfold outL
  rw [List.mem_map]
  constructor
  · rintro ⟨x, hx, rfl⟩
    obtain ⟨h1, h2⟩ := List.mem_filter.1 hx
    have hx' := List.mem_range.1 h1
    rw [rtB_min hI hx'] at h2
    exact ⟨x, pow_le256 hI hx', h2, (listed_more hx' hI).symm⟩
  · rintro ⟨x, hx, hm, rfl⟩
    have hx' := min_in hv hx hm
    exact ⟨x, List.mem_filter.2 ⟨List.mem_range.2 hx', by rw [rtB_min hI hx']; exact hm⟩, listed_more hx' hI⟩
theorem min_congr {S H : Nat → Bool} (h1 : ∀ x, x < 256 → S x = true → H x = true) (h2 : ∀ x, x < 256 → minB H x = true → S x = true) : ∀ x, x < 256 → minB S x = minB H x := fun x hx => by
  rw [Bool.eq_iff_iff]
  constructor
  · intro h
    obtain ⟨hs, hm⟩ := minB_iff.1 h
    obtain ⟨y, hy, hmy, hyx⟩ := minB_below x hx (h1 x hx hs)
    by_cases e : y = x
    · rw [← e]; exact hmy
    · rw [hm y hy (h2 y hy hmy) e] at hyx; cases hyx
  · intro h
    obtain ⟨hs, hm⟩ := minB_iff.1 h
    exact minB_iff.2 ⟨h2 x hx h, fun y hy hsy hne => hm y hy (h1 y hy hsy) hne⟩
theorem hit_snoc (ls : List (List Int)) (l : List Int) (x : Nat) : hitB (ls ++ [l]) x = (hitB ls x && l.any (inB x)) := by
  unfold hitB; rw [List.all_append]; simp
theorem or_sub {b x e : Nat} (h : ∀ i, b.testBit i = true → x.testBit i = true) (he : x.testBit e = true) : ∀ i, (b ||| 2 ^ e).testBit i = true → x.testBit i = true := fun i hi => by
  rw [Nat.testBit_or, Nat.testBit_two_pow, Bool.or_eq_true, decide_eq_true_eq] at hi
  rcases hi with h' | h'
  · exact h i h'
  · rw [← h']; exact he
theorem or_lt {b e : Nat} (hb : b < 256) (he : e < 8) : b ||| 2 ^ e < 256 := Nat.or_lt_two_pow (n := 8) hb (Nat.pow_lt_pow_right (by decide) he)
/-- One hire more. -/
theorem berge {ls : List (List Int)} {l : List Int} (hl : ∀ x ∈ l, 0 ≤ x ∧ x < 8) : leastL (stepL (ordL (minB (hitB ls))) l) = ordL (minB (hitB (ls ++ [l]))) := by
  unfold leastL
  refine ordL_congr (min_congr (fun y hy h => ?_) (fun x hx h => ?_))
  · obtain ⟨z, hz, hzy⟩ := List.any_eq_true.1 h
    have hzy : bitsL z = y := by simpa using hzy
    obtain ⟨q, hq, hzq⟩ := List.mem_flatMap.1 hz
    obtain ⟨b, hb, hm, rfl⟩ := mem_ordL.1 hq
    have hbb : bitsL (listed b 8) = b := bits_listed (n := 8) hb
    have hmb := (minB_iff.1 hm).1
    unfold goOn1 at hzq
    rw [hbb] at hzq
    rw [hit_snoc]
    split at hzq
    · rename_i hany
      rw [List.mem_singleton.1 hzq, hbb] at hzy
      rw [← hzy, hmb, hany]; rfl
    · obtain ⟨e, he, rfl⟩ := List.mem_map.1 hzq
      have h8 := hl e he
      rw [bits_listed (n := 8) (or_lt hb (by omega))] at hzy
      rw [← hzy, hit_mono (fun i hi => by rw [Nat.testBit_or, hi]; rfl) hmb, Bool.true_and]
      exact List.any_eq_true.2 ⟨e, he, by unfold inB; rw [Nat.testBit_or, Nat.testBit_two_pow_self, Bool.or_true]⟩
  · obtain ⟨hh, hm⟩ := minB_iff.1 h
    rw [hit_snoc, Bool.and_eq_true] at hh
    obtain ⟨b, hb, hmb, hbx⟩ := minB_below x hx hh.1
    have hbs := (subB_iff hb).1 hbx
    have hbb : bitsL (listed b 8) = b := bits_listed (n := 8) hb
    have hbm : listed b 8 ∈ ordL (minB (hitB ls)) := mem_ordL.2 ⟨b, hb, hmb, rfl⟩
    cases hbl : l.any (inB b)
    · obtain ⟨e, he, hxe⟩ := List.any_eq_true.1 hh.2
      have h8 := hl e he
      have hsub := or_sub hbs hxe
      have hlt := or_lt hb (by omega : e.toNat < 8)
      have hhit : hitB (ls ++ [l]) (b ||| 2 ^ e.toNat) = true := by
        rw [hit_snoc, hit_mono (fun i hi => by rw [Nat.testBit_or, hi]; rfl) (minB_iff.1 hmb).1, Bool.true_and]
        exact List.any_eq_true.2 ⟨e, he, by unfold inB; rw [Nat.testBit_or, Nat.testBit_two_pow_self, Bool.or_true]⟩
      have e2 : b ||| 2 ^ e.toNat = x := Classical.byContradiction fun hne => by
        have := hm _ hlt hhit hne
        rw [(subB_iff hlt).2 hsub] at this; cases this
      refine List.any_eq_true.2 ⟨listed (b ||| 2 ^ e.toNat) 8, List.mem_flatMap.2 ⟨_, hbm, ?_⟩, ?_⟩
      · unfold goOn1
        rw [hbb, hbl]
        exact List.mem_map.2 ⟨e, he, rfl⟩
      · rw [bits_listed (n := 8) hlt, e2]; simp
    · have hhit : hitB (ls ++ [l]) b = true := by rw [hit_snoc, (minB_iff.1 hmb).1, hbl]; rfl
      have e2 : b = x := Classical.byContradiction fun hne => by
        have := hm _ hb hhit hne
        rw [hbx] at this; cases this
      refine List.any_eq_true.2 ⟨listed b 8, List.mem_flatMap.2 ⟨_, hbm, ?_⟩, ?_⟩
      · unfold goOn1
        rw [hbb, hbl]
        exact List.mem_singleton.2 rfl
      · rw [hbb, e2]; simp
theorem allP_snoc (ls : List (List Int)) (l : List Int) : allP (ls ++ [l]) = leastL (stepL (allP ls) l) := by
  unfold allP; rw [List.foldl_append]; rfl
theorem allP_nil : ordL (minB (hitB [])) = [[]] := by
  refine srt_ext (ordL_srt _) (List.pairwise_singleton _ _) fun l => ?_
  rw [mem_ordL, List.mem_singleton]
  have h0 : minB (hitB []) 0 = true := minB_iff.2 ⟨rfl, fun y hy _ hne => by
    rw [Bool.eq_false_iff]; intro h
    exact hne (Nat.le_zero.1 (subB_le hy h))⟩
  constructor
  · rintro ⟨x, hx, hm, rfl⟩
    have : x = 0 := Classical.byContradiction fun hne => by
      have := (minB_iff.1 hm).2 0 (by decide) rfl (fun e => hne e.symm)
      rw [(subB_iff (by decide)).2 (fun i hi => by rw [Nat.zero_testBit] at hi; cases hi)] at this; cases this
    subst this; rfl
  · rintro rfl
    exact ⟨0, by decide, h0, rfl⟩
theorem snoc_rec {α : Type} {p : List α → Prop} (h0 : p []) (h1 : ∀ l x, p l → p (l ++ [x])) (l : List α) : p l := by
  have : ∀ n (l : List α), l.length = n → p l := by
    intro n
    induction n with
    | zero => intro l hl; rw [List.eq_nil_of_length_eq_zero hl]; exact h0
    | succ n ih =>
      intro l hl
      have hne : l ≠ [] := by intro e; rw [e] at hl; cases hl
      rw [← List.dropLast_concat_getLast hne]
      exact h1 _ _ (ih _ (by rw [List.length_dropLast]; omega))
  exact this _ l rfl
/-- Hire by hire: all minimal sets that hit all hires. -/
theorem allP_eq {ls : List (List Int)} (hv : ∀ l ∈ ls, isL 8 0 l = true) : allP ls = ordL (minB (hitB ls)) := by
  induction ls using snoc_rec with
  | h0 => rw [allP_nil]; rfl
  | h1 l x ih =>
    rw [allP_snoc, ih (fun y hy => hv y (List.mem_append_left _ hy)), berge (fun y hy => isL_bd (hv x (List.mem_append_right _ (List.mem_singleton.2 rfl))) y hy)]
end Go.Proofs.YtnpilfpackdimaaGreat
/- Walks (reference): Blame, Fewest, All, listError. -/
namespace Go.Proofs.YtnpilfpackdimaaGreat
open Go.RowKit Go.Shelf
attribute [local go_sem] Oper.semAt_some
theorem allR_len {I : Nat} (ls : List (List Int)) (hI : I ≤ 8) : (allR I ls).length ≤ 256 := by
  unfold allR
  rw [sortL_len]
  exact Nat.le_trans (outL_len _ _ _) (Nat.le_trans (Nat.pow_le_pow_right (by decide) hI) (by decide))
/-- The first of the shortest lists. -/
def minF (b l : List Int) : List Int := if l.length < b.length then l else b
def minL (L : List (List Int)) : List Int := L.foldl minF (L.headD [])
def rblE (I : Int) (ls : List (List Int)) : Int := if chkBook I ls ≠ 0 then chkBook I ls else if (allR I.toNat ls).length = 0 then 21 else 0
def rblV (I : Int) (ls : List (List Int)) : List Int := if chkBook I ls ≠ 0 then [] else if (allR I.toNat ls).length = 0 then [] else minL (allR I.toNat ls)
theorem minF_take {L : List (List Int)} {k : Nat} {l : List Int} (h : L[k]? = some l) (b : List Int) : (L.take (k + 1)).foldl minF b = minF ((L.take k).foldl minF b) l := by
  rw [List.take_add_one, h, List.foldl_append]; rfl
set_option maxRecDepth 100000 in
set_option maxHeartbeats 1600000 in
theorem rblame_any (A : Option Addr) (n c : Nat) (ls : List (List Int)) (I : Int) (w : World) (hl : LiS w w.heap.size A n ls) (hn : n ≤ 1000000) (hw : ∀ l ∈ ls, l.length ≤ 1000000) :
    Calls Tryz.prog 19 #[.agg #[.int .i64 I, .slice A n c]] w fun e w' => ∃ A' m' c', e = .returned (.tuple #[.slice A' m' c', .int .i64 (rblE I ls)]) ∧ InS w' w'.heap.size A' m' (rblV I ls) ∧ Below w.heap.size w w' := by
  have HL := hid hl
  have HC := hid (fun W h => rcheckBook_any A n c ls I W h hn hw)
  have hb0 : Below w.heap.size w (w.alloc (.cells #[.int .i64 I, .slice A n c] 24)) := (Below.refl _ _).alloc (Nat.le_refl _) _
  clear hl hw
  by_cases he : chkBook I ls = 0
  · obtain ⟨J, rfl⟩ : ∃ J : Nat, I = J := ⟨I.toNat, by have := (book_good he).1; omega⟩
    have hJ8 : J ≤ 8 := by have := (book_good he).2.1; omega
    have hv : Hid (rblV J ls = if (allR J ls).length = 0 then [] else minL (allR J ls)) := hid (if_neg (by simpa using he))
    have hve : Hid (rblE J ls = if (allR J ls).length = 0 then 21 else 0) := hid (if_neg (by simpa using he))
    have HA := hid (fun W h => rallOf_any A n c ls J W h hn (book8 he) hJ8)
    rw [he] at HC
    have hLl := allR_len ls hJ8
    obtain ⟨L, hL⟩ : ∃ L, allR J ls = L := ⟨_, rfl⟩
    rw [hL] at HA hv hve hLl
    clear he hL
    go_enter Tryz.func19, Tryz.ntmps19
    go_wp2_with (fail)
    refine (HC.out _ (HL.out.below hb0 hb0.size)).mono ?_
    rintro e w1 ⟨rfl, hb1⟩
    have hbel : Below w.heap.size w w1 := Below.trans (by repeat' (first | with_reducible assumption | with_reducible exact Below.refl _ _ | refine Below.alloc ?_ ?_ _ | refine Below.setCell ?_ ?_ _ | refine Below.drew ?_ | refine below_drewN ?_ _ | (simp; done) | (simp; omega) | omega)) (hb1.mono (by first | (simp; done) | (simp; omega) | omega))
    have c0 : w1.cell? ⟨w.heap.size, 0, none⟩ = some (.int .i64 (J : Int)) := (hb1.cell (p := ⟨w.heap.size, 0, none⟩) (by first | (simp; done) | (simp; omega) | omega)).trans (by go_simp)
    have c1 : w1.cell? ⟨w.heap.size, 1, none⟩ = some (.slice A n c) := (hb1.cell (p := ⟨w.heap.size, 1, none⟩) (by first | (simp; done) | (simp; omega) | omega)).trans (by go_simp)
    have hq0 : w.heap.size < w1.heap.size := (by have := hb1.size; simp at this; omega)
    have HLw := hid (HL.out.below hbel hbel.size)
    clear hb1 hb0
    go_wp2_with (fail)
    refine (HA.out _ HLw.out).mono ?_
    rintro e w2 ⟨v, rfl, hn2, hb2⟩
    obtain ⟨A2, c2, rfl, hq2, -⟩ := hn2.liq
    have hlis := hid hq2.lis
    have hbe2 := hbel.trans (hb2.mono hbel.size)
    obtain ⟨m2, hm2⟩ : ∃ m2, L.length = m2 := ⟨_, rfl⟩
    rw [hm2] at hv hve hlis ⊢
    have Hm2 := hid hm2
    have hm256 : m2 ≤ 256 := by omega
    clear hLl
    clear hn2 hq2 hb2 hm2 c0 c1
    rcases Nat.eq_zero_or_pos m2 with h0 | h0
    · subst h0
      go_wp2
      refine bodyPost_ret (v := .tuple #[.slice none 0 0, .int .i64 21]) (by first | (simp [results, Tryz.results19, go_sem]; done) | (simp [results, Tryz.results19, go_sem, *]; done) | (simp [results, Tryz.results19, go_sem, World.cell?_setCell_same', *]; done) | (simp [results, Tryz.results19, go_sem]; first | exact ⟨rfl, rfl⟩ | rfl)) rfl ⟨none, 0, 0, by rw [hve.out]; rfl, by rw [hv.out]; exact Sl.none_, hbe2⟩
    · rw [if_neg (by omega)] at hv hve
      have h0i : ¬ ((m2 : Int) = 0) := by omega
      obtain ⟨b3, o3, x, A3, m3, c3, rfl, hb3, hm3, q3, hin3⟩ := hlis.out.at_ h0
      rw [Nat.add_zero] at q3
      have h0j : (0 : Int) < m2 := by omega
      have hhd : Hid (L.headD [] = x) := hid (by cases hL : L with | nil => rw [hL] at hm3; cases hm3 | cons y t => rw [hL] at hm3; simpa using hm3)
      have HI3 := hid hin3
      obtain ⟨W2, hW2⟩ : ∃ W : World, W = w2 := ⟨_, rfl⟩
      rw [← hW2] at hlis hbe2 q3 hb3 HI3 ⊢
      clear hin3 hm3 hW2
      go_wp2
      clear q3
      go_loopw [5, 6] (fun v i wr => ∃ (k : Nat) (A' : Option Addr) (m' c' : Nat), k ≤ m2 ∧ i = .int .i64 k ∧ v = .slice A' m' c' ∧ Hid (InS W2 W2.heap.size A' m' ((L.take k).foldl minF x)) ∧ wr = W2) (fun _ i _ => m2 - (intOf i).toNat)
      case atStart => exact ⟨0, A3, m3, c3, by omega, rfl, rfl, HI3, rfl⟩
      case round =>
        obtain ⟨k, A', m', c', hk, rfl, rfl, hin, rfl⟩ := hrel
        by_cases hlt : k < m2
        · obtain ⟨b4, o4, y, A4, m4, c4, h4e, hb4, hm4, q4, hin4⟩ := hlis.out.at_ hlt
          cases h4e
          have hlti : (k : Int) < m2 := by omega
          have hs0 := minF_take hm4 x
          obtain ⟨X, hX⟩ : ∃ X, (L.take k).foldl minF x = X := ⟨_, rfl⟩
          rw [hX] at hs0 hin
          have hl1 := hin.out.len
          have hl2 := hin4.len
          have hs : (L.take (k + 1)).foldl minF x = if y.length < X.length then y else X := hs0
          rw [hl1, hl2] at hs
          clear hs0 hX
          have HI4 := hid hin4
          clear hm4 hin4 hl1 hl2
          by_cases hc : m4 < m'
          · have hci : (m4 : Int) < m' := by omega
            rw [if_pos hc] at hs
            have Hs := hid hs
            clear hs
            go_wp2
            exact ⟨⟨k + 1, A4, m4, c4, by omega, by go_num, rfl, hid (by rw [Hs.out]; exact HI4.out), trivial⟩, by simp [intOf]; omega⟩
          · have hci : ¬ (m4 : Int) < m' := by omega
            rw [if_neg hc] at hs
            have Hs := hid hs
            clear hs
            go_wp2
            exact ⟨⟨k + 1, A', m', c', by omega, by go_num, rfl, hid (by rw [Hs.out]; exact hin.out), trivial⟩, by simp [intOf]; omega⟩
        · obtain rfl : k = m2 := by omega
          have hfin : Hid (minL L = (L.take k).foldl minF x) := hid (by unfold minL; rw [hhd.out, List.take_of_length_le (by rw [Hm2.out]; exact Nat.le_refl _)])
          go_wp2
          refine bodyPost_ret (v := .tuple #[.slice A' m' c', .int .i64 0]) (by first | (simp [results, Tryz.results19, go_sem]; done) | (simp [results, Tryz.results19, go_sem, *]; done) | (simp [results, Tryz.results19, go_sem, World.cell?_setCell_same', *]; done) | (simp [results, Tryz.results19, go_sem]; first | exact ⟨rfl, rfl⟩ | rfl)) rfl ⟨A', m', c', by rw [hve.out], by rw [hv.out, hfin.out]; exact hin.out, hbe2⟩
  · have hv : Hid (rblV I ls = []) := hid (if_pos he)
    have hve : Hid (rblE I ls = chkBook I ls) := hid (if_pos he)
    obtain ⟨ev, hev⟩ : ∃ ev, chkBook I ls = ev := ⟨_, rfl⟩
    rw [hev] at hve HC he
    have hbi : (ev != 0) = true := by simpa using he
    clear hev
    go_enter Tryz.func19, Tryz.ntmps19
    go_wp2_with (fail)
    refine (HC.out _ (HL.out.below hb0 hb0.size)).mono ?_
    rintro e w1 ⟨rfl, hb1⟩
    have hbel : Below w.heap.size w w1 := Below.trans (by repeat' (first | with_reducible assumption | with_reducible exact Below.refl _ _ | refine Below.alloc ?_ ?_ _ | refine Below.setCell ?_ ?_ _ | refine Below.drew ?_ | refine below_drewN ?_ _ | (simp; done) | (simp; omega) | omega)) (hb1.mono (by first | (simp; done) | (simp; omega) | omega))
    have c0 : w1.cell? ⟨w.heap.size, 0, none⟩ = some (.int .i64 I) := (hb1.cell (p := ⟨w.heap.size, 0, none⟩) (by first | (simp; done) | (simp; omega) | omega)).trans (by go_simp)
    have c1 : w1.cell? ⟨w.heap.size, 1, none⟩ = some (.slice A n c) := (hb1.cell (p := ⟨w.heap.size, 1, none⟩) (by first | (simp; done) | (simp; omega) | omega)).trans (by go_simp)
    have hq0 : w.heap.size < w1.heap.size := (by have := hb1.size; simp at this; omega)
    have HLw := hid (HL.out.below hbel hbel.size)
    clear hb1 hb0
    go_wp2_with (fail)
    refine (HC.out _ HLw.out).mono ?_
    rintro e w2 ⟨rfl, hb2⟩
    have hbe2 := hbel.trans (hb2.mono hbel.size)
    go_wp2
    refine bodyPost_ret (v := .tuple #[.slice none 0 0, .int .i64 ev]) (by first | (simp [results, Tryz.results19, go_sem]; done) | (simp [results, Tryz.results19, go_sem, *]; done) | (simp [results, Tryz.results19, go_sem, World.cell?_setCell_same', *]; done) | (simp [results, Tryz.results19, go_sem]; first | exact ⟨rfl, rfl⟩ | rfl)) rfl ?_
    exact ⟨none, 0, 0, by rw [hve.out], by rw [hv.out]; exact Sl.none_, hbe2⟩
set_option maxRecDepth 100000 in
set_option maxHeartbeats 1600000 in
theorem rfewest_any (A : Option Addr) (n c : Nat) (ls : List (List Int)) (I : Int) (w : World) (hl : LiS w w.heap.size A n ls) (hn : n ≤ 1000000) (hw : ∀ l ∈ ls, l.length ≤ 1000000) :
    Calls Tryz.prog 17 #[.agg #[.int .i64 I, .slice A n c]] w fun e w' => e = .returned (.tuple #[.int .i64 ((rblV I ls).length : Nat), .int .i64 (rblE I ls)]) ∧ Below w.heap.size w w' := by
  have HL := hid hl
  have HB := hid (fun w h => rblame_any A n c ls I w h hn hw)
  clear hl hw
  go_enter Tryz.func17, Tryz.ntmps17
  go_wp2_with (fail)
  refine (HB.out _ (HL.out.below (by repeat' (first | with_reducible assumption | with_reducible exact Below.refl _ _ | refine Below.alloc ?_ ?_ _ | refine Below.setCell ?_ ?_ _ | refine Below.drew ?_ | refine below_drewN ?_ _ | (simp; done) | (simp; omega) | omega)) (by first | (simp; done) | (simp; omega) | omega))).mono ?_
  rintro e w1 ⟨A', m', c', rfl, hin, hb1⟩
  have hbel : Below w.heap.size w w1 := Below.trans (by repeat' (first | with_reducible assumption | with_reducible exact Below.refl _ _ | refine Below.alloc ?_ ?_ _ | refine Below.setCell ?_ ?_ _ | refine Below.drew ?_ | refine below_drewN ?_ _ | (simp; done) | (simp; omega) | omega)) (hb1.mono (by first | (simp; done) | (simp; omega) | omega))
  have hlen := hid hin.len
  clear hin hb1
  go_wp2
  refine bodyPost_ret (v := .tuple #[.int .i64 (m' : Int), .int .i64 (rblE I ls)]) (by first | (simp [results, Tryz.results17, go_sem]; done) | (simp [results, Tryz.results17, go_sem, *]; done) | (simp [results, Tryz.results17, go_sem, World.cell?_setCell_same', *]; done) | (simp [results, Tryz.results17, go_sem]; first | exact ⟨rfl, rfl⟩ | rfl)) rfl ⟨by rw [hlen.out], hbel⟩
def ralV (I : Int) (ls : List (List Int)) : List (List Int) := if chkBook I ls ≠ 0 then [] else allR I.toNat ls
set_option maxRecDepth 100000 in
set_option maxHeartbeats 1600000 in
theorem rall_any (A : Option Addr) (n c : Nat) (ls : List (List Int)) (I : Int) (w : World) (hl : LiS w w.heap.size A n ls) (hn : n ≤ 1000000) (hw : ∀ l ∈ ls, l.length ≤ 1000000) :
    Calls Tryz.prog 27 #[.agg #[.int .i64 I, .slice A n c]] w fun e w' => ∃ v, e = .returned (.tuple #[v, .int .i64 (chkBook I ls)]) ∧ NewLw w' w.heap.size (fun b => w.heap.size ≤ b) v (ralV I ls) ∧ Below w.heap.size w w' := by
  have HL := hid hl
  have HC := hid (fun W h => rcheckBook_any A n c ls I W h hn hw)
  have hb0 : Below w.heap.size w (w.alloc (.cells #[.int .i64 I, .slice A n c] 24)) := (Below.refl _ _).alloc (Nat.le_refl _) _
  clear hl hw
  by_cases he : chkBook I ls = 0
  · obtain ⟨J, rfl⟩ : ∃ J : Nat, I = J := ⟨I.toNat, by have := (book_good he).1; omega⟩
    have hJ8 : J ≤ 8 := by have := (book_good he).2.1; omega
    have hv : Hid (ralV J ls = allR J ls) := hid (if_neg (by simpa using he))
    have HA := hid (fun W h => rallOf_any A n c ls J W h hn (book8 he) hJ8)
    rw [he] at HC ⊢
    obtain ⟨L, hL⟩ : ∃ L, allR J ls = L := ⟨_, rfl⟩
    rw [hL] at HA hv
    clear he hL
    go_enter Tryz.func27, Tryz.ntmps27
    go_wp2_with (fail)
    refine (HC.out _ (HL.out.below hb0 hb0.size)).mono ?_
    rintro e w1 ⟨rfl, hb1⟩
    have hbel : Below w.heap.size w w1 := Below.trans (by repeat' (first | with_reducible assumption | with_reducible exact Below.refl _ _ | refine Below.alloc ?_ ?_ _ | refine Below.setCell ?_ ?_ _ | refine Below.drew ?_ | refine below_drewN ?_ _ | (simp; done) | (simp; omega) | omega)) (hb1.mono (by first | (simp; done) | (simp; omega) | omega))
    have c0 : w1.cell? ⟨w.heap.size, 0, none⟩ = some (.int .i64 (J : Int)) := (hb1.cell (p := ⟨w.heap.size, 0, none⟩) (by first | (simp; done) | (simp; omega) | omega)).trans (by go_simp)
    have c1 : w1.cell? ⟨w.heap.size, 1, none⟩ = some (.slice A n c) := (hb1.cell (p := ⟨w.heap.size, 1, none⟩) (by first | (simp; done) | (simp; omega) | omega)).trans (by go_simp)
    have hq0 : w.heap.size < w1.heap.size := (by have := hb1.size; simp at this; omega)
    have HLw := hid (HL.out.below hbel hbel.size)
    clear hb1 hb0
    go_wp2_with (fail)
    refine (HA.out _ HLw.out).mono ?_
    rintro e w2 ⟨v, rfl, hn2, hb2⟩
    have Hn2 := hid hn2
    clear hn2
    go_wp2
    refine bodyPost_ret (v := .tuple #[v, .int .i64 0]) (by first | (simp [results, Tryz.results27, go_sem]; done) | (simp [results, Tryz.results27, go_sem, *]; done) | (simp [results, Tryz.results27, go_sem, World.cell?_setCell_same', *]; done) | (simp [results, Tryz.results27, go_sem]; first | exact ⟨rfl, rfl⟩ | rfl)) rfl ⟨v, rfl, by rw [hv.out]; exact Hn2.out.mono hbel.size (fun b h => Nat.le_trans hbel.size h), hbel.trans (hb2.mono hbel.size)⟩
  · have hv : Hid (ralV I ls = []) := hid (if_pos he)
    have hve : Hid (chkBook I ls = chkBook I ls) := hid rfl
    obtain ⟨ev, hev⟩ : ∃ ev, chkBook I ls = ev := ⟨_, rfl⟩
    rw [hev] at HC he ⊢
    have hbi : (ev != 0) = true := by simpa using he
    clear hev
    go_enter Tryz.func27, Tryz.ntmps27
    go_wp2_with (fail)
    refine (HC.out _ (HL.out.below hb0 hb0.size)).mono ?_
    rintro e w1 ⟨rfl, hb1⟩
    have hbel : Below w.heap.size w w1 := Below.trans (by repeat' (first | with_reducible assumption | with_reducible exact Below.refl _ _ | refine Below.alloc ?_ ?_ _ | refine Below.setCell ?_ ?_ _ | refine Below.drew ?_ | refine below_drewN ?_ _ | (simp; done) | (simp; omega) | omega)) (hb1.mono (by first | (simp; done) | (simp; omega) | omega))
    have c0 : w1.cell? ⟨w.heap.size, 0, none⟩ = some (.int .i64 I) := (hb1.cell (p := ⟨w.heap.size, 0, none⟩) (by first | (simp; done) | (simp; omega) | omega)).trans (by go_simp)
    have c1 : w1.cell? ⟨w.heap.size, 1, none⟩ = some (.slice A n c) := (hb1.cell (p := ⟨w.heap.size, 1, none⟩) (by first | (simp; done) | (simp; omega) | omega)).trans (by go_simp)
    have hq0 : w.heap.size < w1.heap.size := (by have := hb1.size; simp at this; omega)
    have HLw := hid (HL.out.below hbel hbel.size)
    clear hb1 hb0
    go_wp2_with (fail)
    refine (HC.out _ HLw.out).mono ?_
    rintro e w2 ⟨rfl, hb2⟩
    have hbe2 := hbel.trans (hb2.mono hbel.size)
    go_wp2
    refine bodyPost_ret (v := .tuple #[.slice none 0 0, .int .i64 ev]) (by first | (simp [results, Tryz.results27, go_sem]; done) | (simp [results, Tryz.results27, go_sem, *]; done) | (simp [results, Tryz.results27, go_sem, World.cell?_setCell_same', *]; done) | (simp [results, Tryz.results27, go_sem]; first | exact ⟨rfl, rfl⟩ | rfl)) rfl ⟨_, rfl, by rw [hv.out]; exact NewLw.nil _ _ _, hbe2⟩
end Go.Proofs.YtnpilfpackdimaaGreat
/- Walks: CheckApart, Apart, All, listed. -/
namespace Go.Proofs.YtnpilfpackdimaaGreat
open Go.RowKit Go.Shelf
attribute [local go_sem] Oper.semAt_some
/-- CheckApart's answer. -/
def capE (I : Int) (ls : List (List Int)) (hs : List Int) : Int := if chkBook I ls ≠ 0 then chkBook I ls else if isL ls.length 0 hs = false then 3 else if apP ls hs = false then 16 else 0
set_option maxRecDepth 100000 in
set_option maxHeartbeats 1600000 in
theorem checkApart_any (A B : Option Addr) (n c m d : Nat) (ls : List (List Int)) (hs : List Int) (I : Int) (w : World) (hl : LiS w w.heap.size A n ls) (hs0 : InS w w.heap.size B m hs) (hn : n ≤ 1000000) (hw : ∀ l ∈ ls, l.length ≤ 1000000) (hm : m ≤ 1000000) :
    Calls Tryz.prog 23 #[.agg #[.int .i64 I, .slice A n c], .slice B m d] w fun e w' => e = .returned (.int .i64 (capE I ls hs)) ∧ Below w.heap.size w w' := by
  have HL := hid hl
  have HS := hid hs0
  have HW := hid hw
  have hln := hid hl.1
  clear hl hs0 hw
  by_cases he : chkBook I ls = 0
  · obtain ⟨h1, h8, h10, hall⟩ := book_good he
    have HO := hid (fun w h => open_ok A none n c 0 0 ls [] I w h (lis_nil _ _) hn HW.out (by omega) (by simp) (by rw [openE_nil]; exact he))
    have hv : Hid (capE I ls hs = if isL ls.length 0 hs = false then 3 else if apP ls hs = false then 16 else 0) := hid (if_neg (by simpa using he))
    rw [hln.out] at hv
    have hn10 : n ≤ 10 := by rw [← hln.out]; exact h10
    have HR := hid (fun W h => rising_any B m d hs (n : Int) W h hm (by omega) (by omega))
    have H8 := hid (book8 he)
    have He := hid he
    clear he h1 h8 h10 hall
    cases hr : isL (n : Int) 0 hs
    · rw [hr] at hv HR
      clear hr
      go_enter Tryz.func23, Tryz.ntmps23
      go_wp2_with (fail)
      refine (HO.out _ (HL.out.below (by repeat' (first | with_reducible assumption | with_reducible exact Below.refl _ _ | refine Below.alloc ?_ ?_ _ | refine Below.setCell ?_ ?_ _ | refine Below.drew ?_ | refine below_drewN ?_ _ | (simp; done) | (simp; omega) | omega)) (by first | (simp; done) | (simp; omega) | omega))).mono ?_
      rintro e w1 ⟨g, rfl, hg, hd, hb1⟩
      have hbel : Below w.heap.size w w1 := Below.trans (by repeat' (first | with_reducible assumption | with_reducible exact Below.refl _ _ | refine Below.alloc ?_ ?_ _ | refine Below.setCell ?_ ?_ _ | refine Below.drew ?_ | refine below_drewN ?_ _ | (simp; done) | (simp; omega) | omega)) (hb1.mono (by first | (simp; done) | (simp; omega) | omega))
      have c1 : w1.cell? ⟨w.heap.size, 1, none⟩ = some (.slice A n c) := (hb1.cell (p := ⟨w.heap.size, 1, none⟩) (by first | (simp; done) | (simp; omega) | omega)).trans (by go_simp)
      have hq0 : w.heap.size < w1.heap.size := (by have := hb1.size; simp at this; omega)
      clear hd hb1
      go_wp2_with (fail)
      refine (HR.out _ (HS.out.below hbel hbel.size)).mono ?_
      rintro e w2 ⟨rfl, hb2⟩
      go_wp2
      refine bodyPost_ret (v := .int .i64 3) (by first | (simp [results, Tryz.results23, go_sem]; done) | (simp [results, Tryz.results23, go_sem, *]; done) | (simp [results, Tryz.results23, go_sem, World.cell?_setCell_same', *]; done) | (simp [results, Tryz.results23, go_sem]; first | exact ⟨rfl, rfl⟩ | rfl)) rfl ⟨by rw [hv.out]; rfl, hbel.trans (hb2.mono hbel.size)⟩
    · have hri : Hid (∀ i ∈ hs, 0 ≤ i ∧ i < (n : Int)) := hid (isL_bd hr)
      rw [hr] at hv HR
      have HA := hid (fun w g h1 h2 => apart_any g I A B n c m d ls hs w h1 h2 hn hm H8.out hri.out)
      clear hr
      cases ha : apP ls hs
      all_goals
        rw [ha] at hv HA
        clear ha
        go_enter Tryz.func23, Tryz.ntmps23
        go_wp2_with (fail)
        refine (HO.out _ (HL.out.below (by repeat' (first | with_reducible assumption | with_reducible exact Below.refl _ _ | refine Below.alloc ?_ ?_ _ | refine Below.setCell ?_ ?_ _ | refine Below.drew ?_ | refine below_drewN ?_ _ | (simp; done) | (simp; omega) | omega)) (by first | (simp; done) | (simp; omega) | omega))).mono ?_
        rintro e w1 ⟨g, rfl, hg, hd, hb1⟩
        have hbel : Below w.heap.size w w1 := Below.trans (by repeat' (first | with_reducible assumption | with_reducible exact Below.refl _ _ | refine Below.alloc ?_ ?_ _ | refine Below.setCell ?_ ?_ _ | refine Below.drew ?_ | refine below_drewN ?_ _ | (simp; done) | (simp; omega) | omega)) (hb1.mono (by first | (simp; done) | (simp; omega) | omega))
        have c1 : w1.cell? ⟨w.heap.size, 1, none⟩ = some (.slice A n c) := (hb1.cell (p := ⟨w.heap.size, 1, none⟩) (by first | (simp; done) | (simp; omega) | omega)).trans (by go_simp)
        have hq0 : w.heap.size < w1.heap.size := (by have := hb1.size; simp at this; omega)
        have HD := hid hd
        clear hd hb1
        go_wp2_with (fail)
        refine (HR.out _ (HS.out.below hbel hbel.size)).mono ?_
        rintro e w2 ⟨rfl, hb2⟩
        have hbe2 := hbel.trans (hb2.mono hbel.size)
        have hd2 := hid (HD.out.below hb2)
        clear hb2 c1
        go_wp2_with (fail)
        refine (HA.out _ _ hd2.out (HS.out.below hbe2 hbe2.size)).mono ?_
        rintro e w3 ⟨rfl, hb3⟩
        have hbe3 := hbe2.trans (hb3.mono hbe2.size)
        go_wp2
      · refine bodyPost_ret (v := .int .i64 16) (by first | (simp [results, Tryz.results23, go_sem]; done) | (simp [results, Tryz.results23, go_sem, *]; done) | (simp [results, Tryz.results23, go_sem, World.cell?_setCell_same', *]; done) | (simp [results, Tryz.results23, go_sem]; first | exact ⟨rfl, rfl⟩ | rfl)) rfl ⟨by rw [hv.out]; rfl, hbe3⟩
      · refine bodyPost_ret (v := .int .i64 0) (by first | (simp [results, Tryz.results23, go_sem]; done) | (simp [results, Tryz.results23, go_sem, *]; done) | (simp [results, Tryz.results23, go_sem, World.cell?_setCell_same', *]; done) | (simp [results, Tryz.results23, go_sem]; first | exact ⟨rfl, rfl⟩ | rfl)) rfl ⟨by rw [hv.out]; rfl, hbe3⟩
  · have hv : Hid (capE I ls hs = chkBook I ls) := hid (if_pos he)
    have HO := hid (fun w h => open_bad A none n c 0 0 ls [] I w h (lis_nil _ _) hn HW.out (by omega) (by simp) (by rw [openE_nil]; exact he))
    rw [openE_nil] at HO
    obtain ⟨ev, hev⟩ : ∃ ev, chkBook I ls = ev := ⟨_, rfl⟩
    rw [hev] at hv HO he
    have hbi : (ev != 0) = true := by simpa using he
    clear hev
    go_enter Tryz.func23, Tryz.ntmps23
    go_wp2_with (fail)
    refine (HO.out _ (HL.out.below (by repeat' (first | with_reducible assumption | with_reducible exact Below.refl _ _ | refine Below.alloc ?_ ?_ _ | refine Below.setCell ?_ ?_ _ | refine Below.drew ?_ | refine below_drewN ?_ _ | (simp; done) | (simp; omega) | omega)) (by first | (simp; done) | (simp; omega) | omega))).mono ?_
    rintro e w1 ⟨rfl, hb1⟩
    have hbel : Below w.heap.size w w1 := Below.trans (by repeat' (first | with_reducible assumption | with_reducible exact Below.refl _ _ | refine Below.alloc ?_ ?_ _ | refine Below.setCell ?_ ?_ _ | refine Below.drew ?_ | refine below_drewN ?_ _ | (simp; done) | (simp; omega) | omega)) (hb1.mono (by first | (simp; done) | (simp; omega) | omega))
    go_wp2
    refine bodyPost_ret (v := .int .i64 ev) (by first | (simp [results, Tryz.results23, go_sem]; done) | (simp [results, Tryz.results23, go_sem, *]; done) | (simp [results, Tryz.results23, go_sem, World.cell?_setCell_same', *]; done) | (simp [results, Tryz.results23, go_sem]; first | exact ⟨rfl, rfl⟩ | rfl)) rfl ⟨by rw [hv.out], hbel⟩
theorem make_i64 {L : Nat} (hL : L ≤ 100000) (w0 : World) : (Instr.makeSlice 25 (.int .i64 (L : Int)) (.int .i64 (L : Int))).run Tryz.prog w0 = .ok (.slice (some ⟨w0.heap.size, 0, none⟩) L L) (w0.alloc (.cells (madeCells #[.int .i64 0] L) 3)) := by
  obtain ⟨i, hi, hz0, hz1, hz2⟩ := info_parts' infoI
  have := run_makeSlice (P := Tryz.prog) (w := w0) 25 3 i (.int .i64 0) underL hi hz0 .i64 .i64 (L : Int) (L : Int) (by omega) (Int.le_refl _) (by rw [hz1]; omega) (by rw [hz2]; omega) (by omega)
  rw [this, hz1]
  simp
  rfl
theorem cop_src {w : World} {B n : Nat} {A : Option Addr} {xs : List Value} (h : Sl w B 1 A n xs) (hn : 0 < n) {w' : World} (hk : ∀ p : Addr, p.block < B → w'.cell? p = w.cell? p) : ∃ ad, A = some ad ∧ ∀ j v, xs[j]? = some v → w'.cell? (ad.add j) = some v := by
  obtain ⟨b, off, rfl, hb, hc⟩ := h.2 hn
  exact ⟨_, rfl, fun j v hv => by rw [add_at]; exact (hk _ hb).trans (hc j v hv)⟩
theorem splice_all {cur cs : List Value} (h : cs.length = cur.length) : splice cur 0 cs = cs := by
  unfold splice
  rw [List.take_zero, Nat.zero_add, List.drop_of_length_le (by omega)]; simp
def aprV (I : Int) (ls : List (List Int)) : List Int := if chkBook I ls ≠ 0 then [] else mostP ls [] 0
set_option maxRecDepth 100000 in
set_option maxHeartbeats 1600000 in
theorem apartF_any (A : Option Addr) (n c : Nat) (ls : List (List Int)) (I : Int) (w : World) (hl : LiS w w.heap.size A n ls) (hn : n ≤ 1000000) (hw : ∀ l ∈ ls, l.length ≤ 1000000) :
    Calls Tryz.prog 20 #[.agg #[.int .i64 I, .slice A n c]] w fun e w' => ∃ A' m', e = .returned (.tuple #[.slice A' m' m', .int .i64 (chkBook I ls)]) ∧ InS w' w'.heap.size A' m' (aprV I ls) ∧ Below w.heap.size w w' := by
  have HL := hid hl
  have HW := hid hw
  have hln := hid hl.1
  clear hl hw
  by_cases he : chkBook I ls = 0
  · obtain ⟨h1, h8, h10, hall⟩ := book_good he
    have HO := hid (fun w h => open_ok A none n c 0 0 ls [] I w h (lis_nil _ _) hn HW.out (by omega) (by simp) (by rw [openE_nil]; exact he))
    have hv : Hid (aprV I ls = mostP ls [] 0) := hid (if_neg (by simpa using he))
    have hn10 : n ≤ 10 := by rw [← hln.out]; exact h10
    have H8 := hid (book8 he)
    have HMo := hid (fun g w h => most_any g I A n c ls (by omega) H8.out (n - 0) none 0 0 [] 0 w rfl (by omega) h Sl.none_ (by omega) (fun _ => ⟨rfl, rfl⟩) (by omega) (by simp))
    have hmz : (((0 : Nat) : Int)) = 0 := rfl
    rw [hmz] at HMo
    have hml := mostP_len ls [] 0
    rw [hln.out] at hml
    obtain ⟨mv, hmv⟩ : ∃ mv, mostP ls [] 0 = mv := ⟨_, rfl⟩
    rw [hmv] at hv HMo hml
    have hI3 : (Tryz.prog.info? 3).map (·.size) = some 1 := by kernel_rfl
    rw [he]
    clear he h1 h8 h10 hall hmv hmz
    go_enter Tryz.func20, Tryz.ntmps20
    go_wp2_with (fail)
    refine (HO.out _ (HL.out.below (by repeat' (first | with_reducible assumption | with_reducible exact Below.refl _ _ | refine Below.alloc ?_ ?_ _ | refine Below.setCell ?_ ?_ _ | refine Below.drew ?_ | refine below_drewN ?_ _ | (simp; done) | (simp; omega) | omega)) (by first | (simp; done) | (simp; omega) | omega))).mono ?_
    rintro e w1 ⟨g, rfl, hg, hd, hb1⟩
    have hbel : Below w.heap.size w w1 := Below.trans (by repeat' (first | with_reducible assumption | with_reducible exact Below.refl _ _ | refine Below.alloc ?_ ?_ _ | refine Below.setCell ?_ ?_ _ | refine Below.drew ?_ | refine below_drewN ?_ _ | (simp; done) | (simp; omega) | omega)) (hb1.mono (by first | (simp; done) | (simp; omega) | omega))
    have HD := hid hd
    clear hd hb1
    go_wp2_with (fail)
    refine (HMo.out _ _ HD.out).mono ?_
    rintro e w2 ⟨A7, m, c7, rfl, hi2, hb2⟩
    have hbe2 := hbel.trans (hb2.mono hbel.size)
    have hz6 := hbe2.size
    have Hrl := hid hi2.len
    have HS7 := hid hi2
    have hm10 : m ≤ 10 := by have := hi2.len; simp at hml; omega
    have hmk := @make_i64 m (by omega)
    have hms : (madeCells #[.int .i64 0] m).size = m := by simp [madeCells]
    have hfit : 0 + (mv.flatMap cI).length ≤ (madeCells #[.int .i64 0] m).toList.length := by rw [flatI_len', Hrl.out]; simp [madeCells]
    have hfit2 : (mv.flatMap cI).length = (madeCells #[.int .i64 0] m).toList.length := by rw [flatI_len', Hrl.out]; simp [madeCells]
    clear hi2 hb2 hml
    go_wp2_with (refine wpList_copy_splice rfl _ _ 25 25 rfl 3 underL hI3 (some ⟨w2.heap.size, 0, none⟩) A7 m m m c7 rfl rfl w2.heap.size 0 (madeCells #[.int .i64 0] m).toList 3 (by rw [Array.toArray_toList]; exact heap_alloc_new _ _) (mv.flatMap cI) (by rw [flatI_len', Hrl.out]; exact (Nat.min_self _).symm) (fun h => ⟨rfl, cop_src HS7.out (by rw [flatI_len', Hrl.out] at h; exact h) (fun p hp => World.cell?_alloc_lt _ _ p hp)⟩) hfit (one_flatI _) w.heap.size w (hbe2.alloc hz6 _) hz6 ?_; intro W9 HG9 hb9)
    refine bodyPost_ret (v := .tuple #[.slice (some ⟨w2.heap.size, 0, none⟩) m m, .int .i64 0]) (by first | (simp [results, Tryz.results20, go_sem]; done) | (simp [results, Tryz.results20, go_sem, *]; done) | (simp [results, Tryz.results20, go_sem, World.cell?_setCell_same', *]; done) | (simp [results, Tryz.results20, go_sem]; first | exact ⟨rfl, rfl⟩ | rfl)) rfl ⟨some ⟨w2.heap.size, 0, none⟩, m, rfl, ?_, hb9⟩
    have hG := HG9.out
    rw [splice_all hfit2] at hG
    have hB9 : Blk W9 w2.heap.size 3 (mv.flatMap cI).toArray := hG
    have := ins_blk hB9 hB9.lt
    rw [hv.out]
    rw [Hrl.out] at this
    exact this
  · have hv : Hid (aprV I ls = []) := hid (if_pos he)
    have HO := hid (fun w h => open_bad A none n c 0 0 ls [] I w h (lis_nil _ _) hn HW.out (by omega) (by simp) (by rw [openE_nil]; exact he))
    rw [openE_nil] at HO
    obtain ⟨ev, hev⟩ : ∃ ev, chkBook I ls = ev := ⟨_, rfl⟩
    rw [hev] at HO he ⊢
    have hbi : (ev != 0) = true := by simpa using he
    clear hev
    go_enter Tryz.func20, Tryz.ntmps20
    go_wp2_with (fail)
    refine (HO.out _ (HL.out.below (by repeat' (first | with_reducible assumption | with_reducible exact Below.refl _ _ | refine Below.alloc ?_ ?_ _ | refine Below.setCell ?_ ?_ _ | refine Below.drew ?_ | refine below_drewN ?_ _ | (simp; done) | (simp; omega) | omega)) (by first | (simp; done) | (simp; omega) | omega))).mono ?_
    rintro e w1 ⟨rfl, hb1⟩
    have hbel : Below w.heap.size w w1 := Below.trans (by repeat' (first | with_reducible assumption | with_reducible exact Below.refl _ _ | refine Below.alloc ?_ ?_ _ | refine Below.setCell ?_ ?_ _ | refine Below.drew ?_ | refine below_drewN ?_ _ | (simp; done) | (simp; omega) | omega)) (hb1.mono (by first | (simp; done) | (simp; omega) | omega))
    go_wp2
    refine bodyPost_ret (v := .tuple #[.slice none 0 0, .int .i64 ev]) (by first | (simp [results, Tryz.results20, go_sem]; done) | (simp [results, Tryz.results20, go_sem, *]; done) | (simp [results, Tryz.results20, go_sem, World.cell?_setCell_same', *]; done) | (simp [results, Tryz.results20, go_sem]; first | exact ⟨rfl, rfl⟩ | rfl)) rfl ⟨none, 0, rfl, by rw [hv.out]; exact Sl.none_, hbel⟩
def allV (I : Int) (ls : List (List Int)) : List (List Int) := if chkBook I ls ≠ 0 then [] else allP ls
theorem lip_nil (w : World) (B : Nat) : LiP w B none 0 [] := ⟨rfl, [], Sl.none_, fun k l h => by simp at h⟩
set_option maxRecDepth 100000 in
set_option maxHeartbeats 1600000 in
theorem allF_any (A : Option Addr) (n c : Nat) (ls : List (List Int)) (I : Int) (w : World) (hl : LiS w w.heap.size A n ls) (hn : n ≤ 1000000) (hw : ∀ l ∈ ls, l.length ≤ 1000000) :
    Calls Tryz.prog 26 #[.agg #[.int .i64 I, .slice A n c]] w fun e w' => ∃ A' m' c', e = .returned (.tuple #[.slice A' m' c', .int .i64 (chkBook I ls)]) ∧ LiP w' w'.heap.size A' m' (allV I ls) ∧ Below w.heap.size w w' := by
  have HL := hid hl
  have HW := hid hw
  clear hl hw
  by_cases he : chkBook I ls = 0
  · have HO := hid (fun w h => open_ok A none n c 0 0 ls [] I w h (lis_nil _ _) hn HW.out (by omega) (by simp) (by rw [openE_nil]; exact he))
    have hv : Hid (allV I ls = allP ls) := hid (if_neg (by simpa using he))
    have HA := hid (fun g w h => all_any g I A n c ls w h hn (book8 he))
    obtain ⟨mv, hmv⟩ : ∃ mv, allP ls = mv := ⟨_, rfl⟩
    rw [hmv] at hv HA
    rw [he]
    clear he hmv
    go_enter Tryz.func26, Tryz.ntmps26
    go_wp2_with (fail)
    refine (HO.out _ (HL.out.below (by repeat' (first | with_reducible assumption | with_reducible exact Below.refl _ _ | refine Below.alloc ?_ ?_ _ | refine Below.setCell ?_ ?_ _ | refine Below.drew ?_ | refine below_drewN ?_ _ | (simp; done) | (simp; omega) | omega)) (by first | (simp; done) | (simp; omega) | omega))).mono ?_
    rintro e w1 ⟨g, rfl, hg, hd, hb1⟩
    have hbel : Below w.heap.size w w1 := Below.trans (by repeat' (first | with_reducible assumption | with_reducible exact Below.refl _ _ | refine Below.alloc ?_ ?_ _ | refine Below.setCell ?_ ?_ _ | refine Below.drew ?_ | refine below_drewN ?_ _ | (simp; done) | (simp; omega) | omega)) (hb1.mono (by first | (simp; done) | (simp; omega) | omega))
    have HD := hid hd
    clear hd hb1
    go_wp2_with (fail)
    refine (HA.out _ _ HD.out).mono ?_
    rintro e w2 ⟨A7, m, c7, rfl, -, hi2, hb2⟩
    have HI := hid hi2.lip
    clear hi2
    go_wp2
    refine bodyPost_ret (v := .tuple #[.slice A7 m c7, .int .i64 0]) (by first | (simp [results, Tryz.results26, go_sem]; done) | (simp [results, Tryz.results26, go_sem, *]; done) | (simp [results, Tryz.results26, go_sem, World.cell?_setCell_same', *]; done) | (simp [results, Tryz.results26, go_sem]; first | exact ⟨rfl, rfl⟩ | rfl)) rfl ⟨A7, m, c7, rfl, by rw [hv.out]; exact HI.out, hbel.trans (hb2.mono hbel.size)⟩
  · have hv : Hid (allV I ls = []) := hid (if_pos he)
    have HO := hid (fun w h => open_bad A none n c 0 0 ls [] I w h (lis_nil _ _) hn HW.out (by omega) (by simp) (by rw [openE_nil]; exact he))
    rw [openE_nil] at HO
    obtain ⟨ev, hev⟩ : ∃ ev, chkBook I ls = ev := ⟨_, rfl⟩
    rw [hev] at HO he ⊢
    have hbi : (ev != 0) = true := by simpa using he
    clear hev
    go_enter Tryz.func26, Tryz.ntmps26
    go_wp2_with (fail)
    refine (HO.out _ (HL.out.below (by repeat' (first | with_reducible assumption | with_reducible exact Below.refl _ _ | refine Below.alloc ?_ ?_ _ | refine Below.setCell ?_ ?_ _ | refine Below.drew ?_ | refine below_drewN ?_ _ | (simp; done) | (simp; omega) | omega)) (by first | (simp; done) | (simp; omega) | omega))).mono ?_
    rintro e w1 ⟨rfl, hb1⟩
    have hbel : Below w.heap.size w w1 := Below.trans (by repeat' (first | with_reducible assumption | with_reducible exact Below.refl _ _ | refine Below.alloc ?_ ?_ _ | refine Below.setCell ?_ ?_ _ | refine Below.drew ?_ | refine below_drewN ?_ _ | (simp; done) | (simp; omega) | omega)) (hb1.mono (by first | (simp; done) | (simp; omega) | omega))
    go_wp2
    refine bodyPost_ret (v := .tuple #[.slice none 0 0, .int .i64 ev]) (by first | (simp [results, Tryz.results26, go_sem]; done) | (simp [results, Tryz.results26, go_sem, *]; done) | (simp [results, Tryz.results26, go_sem, World.cell?_setCell_same', *]; done) | (simp [results, Tryz.results26, go_sem]; first | exact ⟨rfl, rfl⟩ | rfl)) rfl ⟨none, 0, 0, rfl, by rw [hv.out]; exact lip_nil _ _, hbel⟩
end Go.Proofs.YtnpilfpackdimaaGreat
/- Worlds that grew, but for one block. -/
namespace Go.Proofs.YtnpilfpackdimaaGreat
open Go.RowKit
theorem grownM_trans {w X Y : World} {M : Nat} {row : Option Nat} (h : w.grownBy X (some M)) (hg : X.grownBy Y row) (hr : ∀ r, row = some r → w.heap.size ≤ r ∨ r = M) : w.grownBy Y (some M) :=
  ⟨hg.os.trans h.os, hg.tape.trans h.tape, hg.output.trans h.output, Nat.le_trans h.size hg.size, fun k hk hne => (hg.block k (Nat.lt_of_lt_of_le hk h.size) (fun e => by rcases hr k e.symm with h1 | h1; omega; exact hne (by rw [h1]))).trans (h.block k hk hne)⟩
theorem grownM_below {w X : World} {M : Nat} (h : Below w.heap.size w X) : w.grownBy X (some M) := ⟨h.os, h.tape, h.output, h.size, fun k hk _ => h.block k hk⟩
theorem grown_of_below' {X Y : World} (h : Below X.heap.size X Y) : X.grownBy Y none := ⟨h.os, h.tape, h.output, h.size, fun k hk _ => h.block k hk⟩
theorem grownM_then {w X Y : World} {M : Nat} (h : w.grownBy X (some M)) (hb : Below X.heap.size X Y) : w.grownBy Y (some M) := grownM_trans h (grown_of_below' hb) (fun _ e => by cases e)
theorem grownM_setCell {w X : World} {M g o : Nat} (h : w.grownBy X (some M)) (hg : w.heap.size ≤ g ∨ g = M) (u : Value) : w.grownBy (X.setCell ⟨g, o, none⟩ u) (some M) :=
  ⟨h.os, h.tape, h.output, by have := h.size; simpa [World.setCell] using this, fun k hk hne => (Below.heap_setCell _ _ _ _ (by simp only; rintro rfl; rcases hg with h | h; omega; exact hne (by rw [h]))).trans (h.block k hk hne)⟩
theorem sl_grownM {w w' : World} {B size n M : Nat} {A : Option Addr} {xs : List Value} (h : Sl w B size A n xs) (hg : w.grownBy w' (some M)) (hB : B ≤ w.heap.size) (hM : B ≤ M) : Sl w' B size A n xs :=
  ⟨h.1, fun hn => by
    obtain ⟨b, off, e, hb, hc⟩ := h.2 hn
    exact ⟨b, off, e, hb, fun j u hu => (World.cell?_of_block (hg.block b (by omega) (fun e2 => by have := Option.some.inj e2; omega))).trans (hc j u hu)⟩⟩
theorem kpg_grownM {W W' : World} {M n₀ : Nat} {G : Nat → Prop} (h : W.grownBy W' (some M)) (hn : n₀ ≤ W.heap.size) (hG : G M) : KpG n₀ G W W' := ⟨h.size, fun k hk hk' => h.block k (by omega) (fun e => hk' (Option.some.inj e ▸ hG))⟩
/-- Below the block all is as it was. -/
theorem below_grownM {w w' : World} {M : Nat} (h : w.grownBy w' (some M)) (hM : M ≤ w.heap.size) : Below M w w' := ⟨h.os, h.tape, h.output, h.size, fun k hk => h.block k (by omega) (fun e => by have := Option.some.inj e; omega)⟩
theorem gcell {w w' : World} {M : Nat} (h : w.grownBy w' (some M)) : ∀ b o, b < w.heap.size → b ≠ M → w'.cell? ⟨b, o, none⟩ = w.cell? ⟨b, o, none⟩ := fun b o hb hne => World.cell?_of_block (h.block b hb (fun e => hne (Option.some.inj e)))
end Go.Proofs.YtnpilfpackdimaaGreat
/- Walks: Clone, DeleteFunc, EqualFunc of lists of sets; the first that is good. -/
namespace Go.Proofs.YtnpilfpackdimaaGreat
open Go.RowKit Go.Shelf
attribute [local go_sem] Oper.semAt_some
theorem eq_nilLL (a : Addr) (n c : Nat) (W : World) : (binOp .eql 22 (.slice (some a) n c) (.slice none 0 0)).run Tryz.prog W = .ok (.bool false) W := by
  have h : ∀ d : Nat, (Op.equalIn (d + 1) 22 (.slice (some a) n c) (.slice none 0 0)).run Tryz.prog W = .ok false W := fun d => by
    unfold Op.equalIn
    simp only [Sem.run_bind, run_underlying underLL, Result.andThen_ok]
    rfl
  simp only [binOp]
  simp [Op.equal, Op.maxDepth, h 9999]
set_option maxRecDepth 10000 in
set_option maxHeartbeats 800000 in
theorem cloneL_any (A : Option Addr) (n c : Nat) (ls : List (List Int)) (w : World) (hl : LiP w w.heap.size A n ls) (hn0 : 1 ≤ n) (hn : n ≤ 1000) :
    Calls Tryz.prog 82 #[.slice A n c] w fun e w' => ∃ v, e = .returned v ∧ NewLi w' w.heap.size v ls ∧ Below w.heap.size w w' := by
  obtain ⟨i0, hi0, hi1, hi2, hi3⟩ := info_parts' infoL
  have I0 := hid hi0; have I1 := hid hi1; have I2 := hid hi2; have I3 := hid hi3
  clear hi0 hi1 hi2 hi3
  obtain ⟨h1, vs, h2, h3⟩ := hl
  obtain ⟨b, off, rfl, hb, hc⟩ := h2.2 (by omega)
  have HS := hid h2
  have H3 := hid h3
  have Hc := hid hc
  have H1 := hid h1
  have hvl : vs.length = n := by have := h2.1; omega
  have Hvl := hid hvl
  have hone : ∀ u ∈ vs, u.oneCell' = true := fun u hu => by
    obtain ⟨j, hj⟩ := List.getElem?_of_mem hu
    have hjl := (List.getElem?_eq_some_iff.1 hj).1
    obtain ⟨A', m, c', e, -⟩ := h3 j (ls[j]'(by omega)) (List.getElem?_eq_getElem _)
    rw [hj] at e; cases e; rfl
  have Hone := hid hone
  clear h1 h2 h3 hc hvl hone
  have heq := eq_nilLL ⟨b, off, none⟩ n c w
  go_enter Tryz.func82, Tryz.ntmps82
  go_wp2_with (at_builtin; refine wpList_append_cap rfl _ _ 22 rfl w.heap.size 25 i0 _ 1 24 underLL I0.out I1.out I2.out I3.out rfl _ 0 [] rfl rfl (Or.inr ⟨_, rfl, fun j u hj => by simp at hj⟩) ⟨b, off, none⟩ n c vs rfl (by rw [Hvl.out, Nat.mul_one]) (fun j u hu => by rw [add_at]; exact (World.cell?_alloc_lt _ _ _ hb).trans (Hc.out j u hu)) hn0 (by unfold maxLen; omega) (by omega) (by simp) ?_; intro cap w2 ho2 hg2 hz2)
  obtain ⟨g, cap', hv, hg, hlt⟩ := World.ownsRow.form ho2 (by omega)
  cases hv
  have ho3 := hid ho2
  clear ho2
  go_wp2
  have hb2 : Below w.heap.size w w2 := below_grown0 ((Below.refl _ _).alloc (Nat.le_refl _) _) hg2 (Nat.le_refl _)
  refine bodyPost_ret (v := .slice (some ⟨w.heap.size + 1, 0, none⟩) n cap) (by simp [results, Tryz.results82, go_sem]) rfl ⟨_, rfl, ⟨vs, ?_, ?_, fun k l hk => ?_⟩, hb2⟩
  · have h9 := ho3.out
    rw [Nat.zero_add, World.size_alloc] at h9
    rw [H1.out]
    exact h9
  · rw [Hvl.out, H1.out]
  · have hkn : k < n := by have := (List.getElem?_eq_some_iff.1 hk).1; have := H1.out; omega
    obtain ⟨A', m, c', e, h4, h5⟩ := H3.out k l hk
    refine ⟨A', m, c', e, h4.below hb2 hb2.size, fun b' off' hA => ?_⟩
    have hlt' := h5 b' off' hA
    refine ⟨Nat.lt_of_lt_of_le hlt' hb2.size, fun e2 => ?_⟩
    have e3 : some (w.heap.size + 1) = some b' := e2
    have := Option.some.inj e3
    omega
theorem filt_next {α : Type} {p : α → Bool} {l : List α} {k : Nat} {x : α} (h : l[k]? = some x) : (l.take (k + 1)).filter p = (l.take k).filter p ++ (if p x then [x] else []) := by
  rw [List.take_add_one, h, List.filter_append]
  congr 1
  cases hp : p x <;> simp [hp]
theorem zeroL (W : World) : (zeroValue 25).run Tryz.prog W = .ok (.slice none 0 0) W := by go_simp
theorem zeroL_row (n : Nat) : (Builtin.zeroCells (Value.slice none 0 0).cells n).toList = List.replicate n (Value.slice none 0 0) := by
  have : (Value.slice none 0 0).cells = #[Value.slice none 0 0] := by rfl
  rw [this]
  simp [Builtin.zeroCells, Nat.mod_one, List.map_const']
set_option maxRecDepth 10000 in
set_option maxHeartbeats 4000000 in
theorem delL_any (w0 w : World) (q n cap : Nat) (ls : List (List Int)) (gf : Nat) (cb : Array Value) (eg : ∀ args w, (callFunc gf args).run Tryz.prog w = .ok (.enter gf args) w) (p : List Int → Bool) (hp : ∀ x ∈ ls, ∀ (A' : Option Addr) (m c' : Nat) (W : World), Below w0.heap.size w0 W → InS W W.heap.size A' m x → Calls Tryz.prog gf (#[.slice A' m c'] ++ cb) W fun e w' => e = .returned (.bool (p x)) ∧ Below W.heap.size W w') (hbw : Below w0.heap.size w0 w) (hN : NewLi w w0.heap.size (.slice (some ⟨q, 0, none⟩) n cap) ls) (hnl : ls.length = n) (hn : n ≤ 1000) :
    Calls Tryz.prog 81 #[.slice (some ⟨q, 0, none⟩) n cap, .func (.func gf) #[] cb] w fun e w' => ∃ A' n' c', e = .returned (.slice A' n' c') ∧ n' = (ls.filter fun x => !p x).length ∧ Below w0.heap.size w0 w' := by
  have hsz0 := hbw.size
  obtain ⟨A0, c0', e0, hlip⟩ := newLi_lip hN
  rw [hnl] at e0 hlip
  have hlis := hlip.lis
  cases e0
  obtain ⟨vs, ho, hat⟩ := hN
  rw [hnl] at ho
  obtain ⟨hvl, ⟨hx, -⟩ | ⟨q', cap', cur, e1, hq0, hgq, hnc, hcm, hcs, htk⟩⟩ := ho
  · cases hx
  cases e1
  have hq1 : q < w.heap.size := (Array.getElem?_eq_some_iff.1 hgq).1
  rw [Nat.mul_one] at hvl hcs htk
  have hpat : ∀ k, k < n → ∃ x A' m' c', vs[k]? = some (.slice A' m' c') ∧ ls[k]? = some x ∧ InS w w.heap.size A' m' x ∧ ∀ b off, A' = some ⟨b, off, none⟩ → b < w.heap.size ∧ q ≠ b := fun k hk => by
    have hx : ls[k]? = some (ls[k]'(by omega)) := List.getElem?_eq_getElem _
    obtain ⟨A', m', c', h1, h2, h3⟩ := hat.2 k _ hx
    exact ⟨_, A', m', c', h1, hx, h2, fun b off e => ⟨(h3 b off e).1, fun e2 => (h3 b off e).2 (by rw [← e2]; rfl)⟩⟩
  have Hpat := hid hpat
  have HP := hid hp
  have Hgq : Hid (Blk w q 25 cur) := hid hgq
  have Htk := hid htk
  have Hnl := hid hnl
  have Hiz := hid (idxFL_any gf cb eg p (some ⟨q, 0, none⟩) n cap ls w hlis (by omega) (fun x hx A' m c' W hW hin => hp x hx A' m c' W (hbw.trans (hW.mono hsz0)) hin))
  clear hpat hp hlis hlip hgq htk hat hnl
  cases hany : ls.any p
  · have Hz := hid (idxA_none hany)
    have hf : Hid (n = (ls.filter fun x => !p x).length) := hid (by
      rw [List.filter_eq_self.2 fun x hx => by have := List.any_eq_false.1 hany x hx; simpa using this, Hnl.out])
    clear hany
    go_enter Tryz.func81, Tryz.ntmps81
    go_wp2_with (go_at_call 104; refine (Hiz.out).mono ?_; rw [Hz.out]; rintro e w1 ⟨rfl, hb1⟩)
    refine bodyPost_ret (v := .slice (some ⟨q, 0, none⟩) n cap) (by first | (simp [results, Tryz.results81, go_sem]; done) | (simp [results, Tryz.results81, go_sem, *]; done) | (simp [results, Tryz.results81, go_sem, World.cell?_setCell_same', *]; done) | (simp [results, Tryz.results81, go_sem]; first | exact ⟨rfl, rfl⟩ | rfl)) rfl ⟨_, n, cap, rfl, hf.out, hbw.trans (hb1.mono hsz0)⟩
  · obtain ⟨i0, hi0, hiz, hi1, hi2⟩ : ∃ i0, i0 < n ∧ idxA p ls = i0 ∧ (ls.take i0).any p = false ∧ (∀ x, ls[i0]? = some x → p x = true) := by
      cases h : ls.findIdx? p with
      | none =>
        rw [List.findIdx?_eq_none_iff] at h
        obtain ⟨x, hx, hpx⟩ := List.any_eq_true.1 hany
        rw [h x hx] at hpx; cases hpx
      | some i0 =>
        have h9 := h
        rw [List.findIdx?_eq_some_iff_getElem] at h9
        obtain ⟨k1, k2, k3⟩ := h9
        refine ⟨i0, by have := Hnl.out; omega, by unfold idxA; rw [h], ?_, fun x hx => ?_⟩
        · rw [List.any_eq_false]
          intro x hx
          obtain ⟨t, ht, hte⟩ := List.getElem_of_mem hx
          rw [List.getElem_take] at hte
          rw [List.length_take] at ht
          have := k3 t (by omega)
          rw [hte] at this
          exact this
        · obtain ⟨ht2, e⟩ := List.getElem?_eq_some_iff.1 hx
          rw [e] at k2
          exact k2
    have Hz := hid hiz
    have hst : i0 = ((ls.take (i0 + 1)).filter fun x => !p x).length := by
      have hx : ls[i0]? = some (ls[i0]'(by have := Hnl.out; omega)) := List.getElem?_eq_getElem _
      rw [filt_next hx, hi2 _ hx]
      simp only [Bool.not_true, Bool.false_eq_true, if_false, List.append_nil]
      rw [List.filter_eq_self.2 fun x hx => by have := List.any_eq_false.1 hi1 x hx; simpa using this, List.length_take]
      have := Hnl.out
      omega
    have Hst := hid hst
    have z1 : IntKind.i64.wrap ((i0 : Int) + 1) = (i0 : Int) + 1 := IntWalk.i64_in _ (by omega)
    have hz2 : ¬ (i0 : Int) = -1 := by omega
    have hnni : ¬ i0 = cap := by omega
    clear hiz hi1 hi2 hany hst
    go_enter Tryz.func81, Tryz.ntmps81
    go_wp2_with (go_at_call 104; refine (Hiz.out).mono ?_; rw [Hz.out]; rintro e w1 ⟨rfl, hb1⟩)
    have hg1 : w.grownBy w1 (some q) := grownM_below hb1
    have B1 : Hid (Blk w1 q 25 cur) := hid (Hgq.out.below hb1 hq1)
    go_loopw [5, 6] (fun i j wr => ∃ (i' j' : Nat) (cu : Array Value), i' < j' ∧ j' ≤ n ∧ i = .int .i64 i' ∧ j = .int .i64 j' ∧ Hid (Blk wr q 25 cu) ∧ cu.size = cap ∧ Hid (i' = ((ls.take j').filter fun x => !p x).length) ∧ Hid (∀ t, j' ≤ t → t < n → cu[t]? = vs[t]?) ∧ w.grownBy wr (some q)) (fun _ j _ => n - (intOf j).toNat)
    case atStart =>
      refine ⟨i0, i0 + 1, cur, by omega, by omega, rfl, by go_num, B1, hcs, Hst, hid (fun t ht htn => ?_), hg1⟩
      rw [← Htk.out, List.getElem?_take_of_lt htn, Array.getElem?_toList]
    case round =>
      obtain ⟨i, j, cu, hij, hjn, rfl, rfl, hBq, hcu, hk1, hk2, hgw⟩ := hrel
      have hzw := hgw.size
      have hb0 : Below w0.heap.size w0 wr := hbw.grown hgw hsz0 (fun r hr => by cases hr; exact hq0)
      have hsz1 := hb0.size
      have lq : q < wr.heap.size := by omega
      by_cases hlt : j < n
      · obtain ⟨x, A', m', c', h2, h3, hin, hne⟩ := Hpat.out j hlt
        have hlti : (j : Int) < n := by omega
        have hcj := (hBq.out.cell j).trans ((hk2.out j (Nat.le_refl _) hlt).trans h2)
        have hinr : InS wr wr.heap.size A' m' x := hin.grown hgw (fun b off e e2 => (hne b off e).2 (Option.some.inj e2)) hgw.size
        have zj : IntKind.i64.wrap ((j : Int) + 1) = (j : Int) + 1 := IntWalk.i64_in _ (by omega)
        have zi : IntKind.i64.wrap ((i : Int) + 1) = (i : Int) + 1 := IntWalk.i64_in _ (by omega)
        have hc := HP.out x (List.mem_of_getElem? h3) A' m' c' wr hb0 hinr
        have H3 := hid h3
        clear hin hinr h2 h3 hne
        cases hqv : p x
        all_goals
          rw [hqv] at hc
          have Hqv := hid hqv
          clear hqv
        · have hci : i < cu.size := by omega
          have hcell : cu[i]? = some cu[i] := Array.getElem?_eq_getElem hci
          go_wp2_with (go_at_fn gf; refine hc.mono ?_; rintro e w5 ⟨rfl, hb5⟩; have B5 : Blk w5 q 25 cu := hBq.out.below hb5 lq; have d5 := (B5.cell i).trans hcell; have f5 := B5.frozen i; have l5 := B5.lt)
          have B5 : Blk w5 q 25 cu := hBq.out.below hb5 lq
          have hgw5 := grownM_setCell (o := i) (grownM_then hgw hb5) (.inr rfl : w.heap.size ≤ q ∨ q = q) (.slice A' m' c')
          have B6 := B5.set_ i (.slice A' m' c')
          have hlen : Hid (i + 1 = ((ls.take (j + 1)).filter fun x => !p x).length) := hid (by rw [filt_next H3.out, List.length_append, ← hk1.out, Hqv.out]; rfl)
          (first | exact ⟨⟨i + 1, j + 1, cu.setIfInBounds i (.slice A' m' c'), by omega, by omega, by go_num, by go_num, hid B6, by rw [Array.size_setIfInBounds]; exact hcu, hlen, hid (fun t ht htn => by rw [Array.getElem?_setIfInBounds_ne (by omega)]; exact hk2.out t (by omega) htn), hgw5⟩, (by first | (simp [intOf]; omega) | (simp [intOf]; done))⟩ | (refine ⟨?_, ?_⟩; (focus ((repeat apply Exists.intro); refine ⟨?_, rfl⟩; exact ⟨i + 1, j + 1, cu.setIfInBounds i (.slice A' m' c'), by omega, by omega, by go_num, by go_num, hid B6, by rw [Array.size_setIfInBounds]; exact hcu, hlen, hid (fun t ht htn => by rw [Array.getElem?_setIfInBounds_ne (by omega)]; exact hk2.out t (by omega) htn), hgw5⟩)); (first | (simp [intOf]; omega) | (simp [intOf]; done))))
        · go_wp2_with (go_at_fn gf; refine hc.mono ?_; rintro e w5 ⟨rfl, hb5⟩)
          have hgw5 := grownM_then hgw hb5
          have B5 : Hid (Blk w5 q 25 cu) := hid (hBq.out.below hb5 lq)
          have hlen : Hid (i = ((ls.take (j + 1)).filter fun x => !p x).length) := hid (by rw [filt_next H3.out, List.length_append, ← hk1.out, Hqv.out]; rfl)
          (first | exact ⟨⟨i, j + 1, cu, by omega, by omega, rfl, by go_num, B5, hcu, hlen, hid (fun t ht htn => hk2.out t (by omega) htn), hgw5⟩, (by first | (simp [intOf]; omega) | (simp [intOf]; done))⟩ | (refine ⟨?_, ?_⟩; (focus ((repeat apply Exists.intro); refine ⟨?_, rfl⟩; exact ⟨i, j + 1, cu, by omega, by omega, rfl, by go_num, B5, hcu, hlen, hid (fun t ht htn => hk2.out t (by omega) htn), hgw5⟩)); (first | (simp [intOf]; omega) | (simp [intOf]; done))))
      · obtain rfl : j = n := by omega
        have hlti : ¬ (j : Int) < j := by omega
        have hci : ¬ cap = i := by omega
        have hcl := run_clear_sz (P := Tryz.prog) wr 22 0 25 (.slice none 0 0) q i (j - i) (cap - i) cu 25 underLL (zeroL _) (by omega) hBq.out (List.replicate (j - i) (Value.slice none 0 0)) (zeroL_row _) (by rw [List.length_replicate]; omega) (fun v hv => by rw [(List.mem_replicate.1 hv).2]; rfl)
        have hbr := below_setRow hb0 hq0 (cu.toList.take i ++ List.replicate (j - i) (Value.slice none 0 0) ++ cu.toList.drop (i + (List.replicate (j - i) (Value.slice none 0 0)).length)).toArray
        generalize hZ : wr.setRow q (cu.toList.take i ++ List.replicate (j - i) (Value.slice none 0 0) ++ cu.toList.drop (i + (List.replicate (j - i) (Value.slice none 0 0)).length)).toArray = W9 at *
        have Hlen : Hid (i = (ls.filter fun x => !p x).length) := hid (by have := hk1.out; rwa [List.take_of_length_le (by rw [Hnl.out]; exact Nat.le_refl _)] at this)
        have hij2 : (i : Int) ≤ j := by omega
        clear hZ
        go_wp2
        refine bodyPost_ret (v := .slice (some ⟨q, 0, none⟩) i cap) (by first | (simp [results, Tryz.results81, go_sem]; done) | (simp [results, Tryz.results81, go_sem, *]; done) | (simp [results, Tryz.results81, go_sem, World.cell?_setCell_same', *]; done) | (simp [results, Tryz.results81, go_sem]; first | exact ⟨rfl, rfl⟩ | rfl)) rfl ⟨_, _, ⟨_, rfl⟩, Hlen.out, hbr⟩
set_option maxRecDepth 10000 in
theorem delL_nil (gf : Nat) (cb : Array Value) (eg : ∀ args w, (callFunc gf args).run Tryz.prog w = .ok (.enter gf args) w) (w : World) : Calls Tryz.prog 81 #[.slice none 0 0, .func (.func gf) #[] cb] w fun e w' => e = .returned (.slice none 0 0) ∧ Below w.heap.size w w' := by
  have h := idxFL_any gf cb eg (fun _ => false) none 0 0 [] w (lis_nil _ _) (by omega) (fun x hx => by cases hx)
  have hz : idxA (fun _ : List Int => false) [] = -1 := rfl
  rw [hz] at h
  clear hz
  go_enter Tryz.func81, Tryz.ntmps81
  go_wp2_with (go_at_call 104; refine h.mono ?_; rintro e w1 ⟨rfl, hb1⟩)
  refine bodyPost_ret (v := .slice none 0 0) (by first | (simp [results, Tryz.results81, go_sem]; done) | (simp [results, Tryz.results81, go_sem, *]; done) | (simp [results, Tryz.results81, go_sem, World.cell?_setCell_same', *]; done) | (simp [results, Tryz.results81, go_sem]; first | exact ⟨rfl, rfl⟩ | rfl)) rfl ⟨rfl, hb1⟩
theorem eq_nilNN (W : World) : (binOp .eql 22 (.slice none 0 0) (.slice none 0 0)).run Tryz.prog W = .ok (.bool true) W := by
  have h : ∀ d : Nat, (Op.equalIn (d + 1) 22 (.slice none 0 0) (.slice none 0 0)).run Tryz.prog W = .ok true W := fun d => by
    unfold Op.equalIn
    simp only [Sem.run_bind, run_underlying underLL, Result.andThen_ok]
    rfl
  simp only [binOp]
  simp [Op.equal, Op.maxDepth, h 9999]
set_option maxRecDepth 10000 in
theorem cloneL_nil (w : World) : Calls Tryz.prog 82 #[.slice none 0 0] w fun e w' => e = .returned (.slice none 0 0) ∧ w = w' := by
  have heq := eq_nilNN w
  go_enter Tryz.func82, Tryz.ntmps82
  go_wp2
  refine bodyPost_ret (v := .slice none 0 0) (by first | (simp [results, Tryz.results82, go_sem]; done) | (simp [results, Tryz.results82, go_sem, *]; done) | (simp [results, Tryz.results82, go_sem, World.cell?_setCell_same', *]; done) | (simp [results, Tryz.results82, go_sem]; first | exact ⟨rfl, rfl⟩ | rfl)) rfl ⟨rfl, rfl⟩
end Go.Proofs.YtnpilfpackdimaaGreat
/- Walks: listed, CheckAll, Forgotten. -/
namespace Go.Proofs.YtnpilfpackdimaaGreat
open Go.RowKit Go.Shelf
attribute [local go_sem] Oper.semAt_some run_store_func
/-- The error of a book and a list of sets. -/
def lisE (I : Int) (ls ss : List (List Int)) : Int := if chkBook I ls ≠ 0 then chkBook I ls else if 80 < ss.length then 6 else openE I ls ss
set_option maxRecDepth 100000 in
set_option maxHeartbeats 1600000 in
theorem listedP_bad (A B : Option Addr) (n c m d : Nat) (ls ss : List (List Int)) (I : Int) (w : World) (hl : LiS w w.heap.size A n ls) (hs : LiS w w.heap.size B m ss) (hn : n ≤ 1000000) (hw : ∀ l ∈ ls, l.length ≤ 1000000) (hm : m ≤ 1000000) (hws : ∀ l ∈ ss, l.length ≤ 1000000) (he : lisE I ls ss ≠ 0) :
    Calls Tryz.prog 73 #[.agg #[.int .i64 I, .slice A n c], .slice B m d] w fun e w' => e = .returned (.tuple #[.pointer none, .int .i64 (lisE I ls ss)]) ∧ Below w.heap.size w w' := by
  have HL := hid hl
  have HS := hid hs
  have HW := hid hw
  have hmm := hs.1
  clear hl hs
  by_cases hc : chkBook I ls = 0
  · have hv : lisE I ls ss = if 80 < ss.length then 6 else openE I ls ss := if_neg (by simpa using hc)
    rw [hmm] at hv
    have Hc := hid hc
    by_cases h80 : 80 < m
    · have h80i : (80 : Int) < m := by omega
      have hf : Hid (lisE I ls ss = 6) := hid (by rw [hv, if_pos h80])
      clear hv he hc
      go_enter Tryz.func73, Tryz.ntmps73
      go_wp2_with (fail)
      refine (checkBook_any A n c ls I _ (HL.out.below (by repeat' (first | with_reducible assumption | with_reducible exact Below.refl _ _ | refine Below.alloc ?_ ?_ _ | refine Below.setCell ?_ ?_ _ | refine Below.drew ?_ | refine below_drewN ?_ _ | (simp; done) | (simp; omega) | omega)) (by first | (simp; done) | (simp; omega) | omega)) hn HW.out).mono ?_
      rw [Hc.out]
      rintro e w1 ⟨rfl, hb1⟩
      have hbel : Below w.heap.size w w1 := Below.trans (by repeat' (first | with_reducible assumption | with_reducible exact Below.refl _ _ | refine Below.alloc ?_ ?_ _ | refine Below.setCell ?_ ?_ _ | refine Below.drew ?_ | refine below_drewN ?_ _ | (simp; done) | (simp; omega) | omega)) (hb1.mono (by first | (simp; done) | (simp; omega) | omega))
      go_wp2
      refine bodyPost_ret (v := .tuple #[.pointer none, .int .i64 6]) (by first | (simp [results, Tryz.results73, go_sem]; done) | (simp [results, Tryz.results73, go_sem, *]; done) | (simp [results, Tryz.results73, go_sem, World.cell?_setCell_same', *]; done) | (simp [results, Tryz.results73, go_sem]; first | exact ⟨rfl, rfl⟩ | rfl)) rfl ⟨by rw [hf.out], hbel⟩
    · have h80i : ¬ (80 : Int) < m := by omega
      rw [if_neg h80] at hv
      have HO := hid (fun w h1 h2 => open_bad A B n c m d ls ss I w h1 h2 hn hw hm hws (by rw [← hv]; exact he))
      rw [hv] at he
      obtain ⟨ev, hev⟩ : ∃ ev, openE I ls ss = ev := ⟨_, rfl⟩
      rw [hev] at HO hv
      have hf := hid hv
      clear hv he hc hev
      go_enter Tryz.func73, Tryz.ntmps73
      go_wp2_with (fail)
      refine (checkBook_any A n c ls I _ (HL.out.below (by repeat' (first | with_reducible assumption | with_reducible exact Below.refl _ _ | refine Below.alloc ?_ ?_ _ | refine Below.setCell ?_ ?_ _ | refine Below.drew ?_ | refine below_drewN ?_ _ | (simp; done) | (simp; omega) | omega)) (by first | (simp; done) | (simp; omega) | omega)) hn HW.out).mono ?_
      rw [Hc.out]
      rintro e w1 ⟨rfl, hb1⟩
      have hbel : Below w.heap.size w w1 := Below.trans (by repeat' (first | with_reducible assumption | with_reducible exact Below.refl _ _ | refine Below.alloc ?_ ?_ _ | refine Below.setCell ?_ ?_ _ | refine Below.drew ?_ | refine below_drewN ?_ _ | (simp; done) | (simp; omega) | omega)) (hb1.mono (by first | (simp; done) | (simp; omega) | omega))
      have c0 : w1.cell? ⟨w.heap.size, 0, none⟩ = some (.int .i64 I) := (hb1.cell (p := ⟨w.heap.size, 0, none⟩) (by first | (simp; done) | (simp; omega) | omega)).trans (by go_simp)
      have c1 : w1.cell? ⟨w.heap.size, 1, none⟩ = some (.slice A n c) := (hb1.cell (p := ⟨w.heap.size, 1, none⟩) (by first | (simp; done) | (simp; omega) | omega)).trans (by go_simp)
      have hq0 : w.heap.size < w1.heap.size := (by have := hb1.size; simp at this; omega)
      clear hb1
      go_wp2_with (fail)
      refine (HO.out _ (HL.out.below hbel hbel.size) (HS.out.below hbel hbel.size)).mono ?_
      rintro e w2 ⟨rfl, hb2⟩
      go_wp2
      refine bodyPost_ret (v := .tuple #[.pointer none, .int .i64 ev]) (by first | (simp [results, Tryz.results73, go_sem]; done) | (simp [results, Tryz.results73, go_sem, *]; done) | (simp [results, Tryz.results73, go_sem, World.cell?_setCell_same', *]; done) | (simp [results, Tryz.results73, go_sem]; first | exact ⟨rfl, rfl⟩ | rfl)) rfl ⟨by rw [hf.out], hbel.trans (hb2.mono hbel.size)⟩
  · have hf : Hid (lisE I ls ss = chkBook I ls) := hid (if_pos hc)
    obtain ⟨ev, hev⟩ : ∃ ev, chkBook I ls = ev := ⟨_, rfl⟩
    rw [hev] at hf hc
    have Hev := hid hev
    have hbi : (ev != 0) = true := by simpa using hc
    clear hev he
    go_enter Tryz.func73, Tryz.ntmps73
    go_wp2_with (fail)
    refine (checkBook_any A n c ls I _ (HL.out.below (by repeat' (first | with_reducible assumption | with_reducible exact Below.refl _ _ | refine Below.alloc ?_ ?_ _ | refine Below.setCell ?_ ?_ _ | refine Below.drew ?_ | refine below_drewN ?_ _ | (simp; done) | (simp; omega) | omega)) (by first | (simp; done) | (simp; omega) | omega)) hn HW.out).mono ?_
    rw [Hev.out]
    rintro e w1 ⟨rfl, hb1⟩
    have hbel : Below w.heap.size w w1 := Below.trans (by repeat' (first | with_reducible assumption | with_reducible exact Below.refl _ _ | refine Below.alloc ?_ ?_ _ | refine Below.setCell ?_ ?_ _ | refine Below.drew ?_ | refine below_drewN ?_ _ | (simp; done) | (simp; omega) | omega)) (hb1.mono (by first | (simp; done) | (simp; omega) | omega))
    go_wp2
    refine bodyPost_ret (v := .tuple #[.pointer none, .int .i64 ev]) (by first | (simp [results, Tryz.results73, go_sem]; done) | (simp [results, Tryz.results73, go_sem, *]; done) | (simp [results, Tryz.results73, go_sem, World.cell?_setCell_same', *]; done) | (simp [results, Tryz.results73, go_sem]; first | exact ⟨rfl, rfl⟩ | rfl)) rfl ⟨by rw [hf.out], hbel⟩
theorem lisE_good {I : Int} {ls ss : List (List Int)} (h : lisE I ls ss = 0) : chkBook I ls = 0 ∧ ss.length ≤ 80 ∧ openE I ls ss = 0 := by
  unfold lisE at h
  split at h
  · rename_i h1; exact absurd h h1
  · split at h
    · cases h
    · rename_i h1 h2
      exact ⟨by simpa using h1, by omega, h⟩
set_option maxRecDepth 100000 in
set_option maxHeartbeats 1600000 in
theorem listedP_ok (A B : Option Addr) (n c m d : Nat) (ls ss : List (List Int)) (I : Int) (w : World) (hl : LiS w w.heap.size A n ls) (hs : LiS w w.heap.size B m ss) (hn : n ≤ 1000000) (hw : ∀ l ∈ ls, l.length ≤ 1000000) (hm : m ≤ 1000000) (hws : ∀ l ∈ ss, l.length ≤ 1000000) (he : lisE I ls ss = 0) :
    Calls Tryz.prog 73 #[.agg #[.int .i64 I, .slice A n c], .slice B m d] w fun e w' => ∃ g, e = .returned (.tuple #[.pointer (some ⟨g, 0, none⟩), .int .i64 0]) ∧ w.heap.size ≤ g ∧ Desk w' g I A n c ls ∧ Below w.heap.size w w' := by
  have HL := hid hl
  have HS := hid hs
  have HW := hid hw
  have hmm := hs.1
  obtain ⟨hc, h80, ho⟩ := lisE_good he
  have h80i : ¬ (80 : Int) < m := by omega
  have HO := hid (fun w h1 h2 => open_ok A B n c m d ls ss I w h1 h2 hn hw hm hws ho)
  have Hc := hid hc
  clear hl hs he hc h80 ho hmm
  go_enter Tryz.func73, Tryz.ntmps73
  go_wp2_with (fail)
  refine (checkBook_any A n c ls I _ (HL.out.below (by repeat' (first | with_reducible assumption | with_reducible exact Below.refl _ _ | refine Below.alloc ?_ ?_ _ | refine Below.setCell ?_ ?_ _ | refine Below.drew ?_ | refine below_drewN ?_ _ | (simp; done) | (simp; omega) | omega)) (by first | (simp; done) | (simp; omega) | omega)) hn HW.out).mono ?_
  rw [Hc.out]
  rintro e w1 ⟨rfl, hb1⟩
  have hbel : Below w.heap.size w w1 := Below.trans (by repeat' (first | with_reducible assumption | with_reducible exact Below.refl _ _ | refine Below.alloc ?_ ?_ _ | refine Below.setCell ?_ ?_ _ | refine Below.drew ?_ | refine below_drewN ?_ _ | (simp; done) | (simp; omega) | omega)) (hb1.mono (by first | (simp; done) | (simp; omega) | omega))
  have c0 : w1.cell? ⟨w.heap.size, 0, none⟩ = some (.int .i64 I) := (hb1.cell (p := ⟨w.heap.size, 0, none⟩) (by first | (simp; done) | (simp; omega) | omega)).trans (by go_simp)
  have c1 : w1.cell? ⟨w.heap.size, 1, none⟩ = some (.slice A n c) := (hb1.cell (p := ⟨w.heap.size, 1, none⟩) (by first | (simp; done) | (simp; omega) | omega)).trans (by go_simp)
  have hq0 : w.heap.size < w1.heap.size := (by have := hb1.size; simp at this; omega)
  clear hb1
  go_wp2_with (fail)
  refine (HO.out _ (HL.out.below hbel hbel.size) (HS.out.below hbel hbel.size)).mono ?_
  rintro e w2 ⟨g, rfl, hg, hd, hb2⟩
  have hsz := hbel.size
  go_wp2
  refine bodyPost_ret (v := .tuple #[.pointer (some ⟨g, 0, none⟩), .int .i64 0]) (by first | (simp [results, Tryz.results73, go_sem]; done) | (simp [results, Tryz.results73, go_sem, *]; done) | (simp [results, Tryz.results73, go_sem, World.cell?_setCell_same', *]; done) | (simp [results, Tryz.results73, go_sem]; first | exact ⟨rfl, rfl⟩ | rfl)) rfl ⟨g, rfl, by omega, hd, hbel.trans (hb2.mono hbel.size)⟩
theorem checkAll1_any (A B : Option Addr) (n c m d : Nat) (a b : List Int) (w : World) (ha : InS w w.heap.size A n a) (hb : InS w w.heap.size B m b) (hn : n ≤ 1000000) :
    Calls Tryz.prog 86 #[.slice A n c, .slice B m d] w fun e w' => e = .returned (.bool (eqI a b)) ∧ Below w.heap.size w w' := by
  have hc := equal_any w A B n c m d a b ha hb hn
  obtain ⟨bv, hbv⟩ : ∃ bv, eqI a b = bv := ⟨_, rfl⟩
  rw [hbv] at hc ⊢
  clear hbv ha hb
  go_enter Tryz.func86, Tryz.ntmps86
  go_wp2_with (go_at_call 87; refine hc.mono ?_; rintro e w1 ⟨rfl, hb1⟩)
  go_ret
  exact ⟨rfl, hb1⟩
def eqLL (a b : List (List Int)) : Bool := decide (a = b)
set_option maxRecDepth 10000 in
set_option maxHeartbeats 1600000 in
theorem equalFunc_any (A B : Option Addr) (n c m d : Nat) (a b : List (List Int)) (w : World) (ha : LiS w w.heap.size A n a) (hb : LiS w w.heap.size B m b) (hn : n ≤ 1000000) (hw : ∀ l ∈ a, l.length ≤ 1000000) :
    Calls Tryz.prog 85 #[.slice A n c, .slice B m d, .func (.func 86) #[] #[]] w fun e w' => e = .returned (.bool (eqLL a b)) ∧ Below w.heap.size w w' := by
  have la := hid ha.1
  have lb := hid hb.1
  have HA := hid ha
  have HB := hid hb
  have HW := hid hw
  obtain ⟨ev, hev⟩ : ∃ ev, eqLL a b = ev := ⟨_, rfl⟩
  have Hev := hid hev
  rw [hev]
  clear ha hb hw hev
  by_cases hnm : n = m
  · subst hnm
    have t0 : ((n : Int) != (n : Int)) = false := by simp
    go_enter Tryz.func85, Tryz.ntmps85
    go_wp2
    go_loopw [17] (fun i wr => ∃ k : Nat, k ≤ n ∧ i = .int .i64 k ∧ Hid (a.take k = b.take k) ∧ Below w.heap.size w wr) (fun i _ => n - (intOf i).toNat)
    case atStart => exact ⟨0, by omega, rfl, hid (by simp), Below.refl _ _⟩
    case round =>
      obtain ⟨k, hk, rfl, heq, hbw⟩ := hrel
      have hszw := hbw.size
      by_cases hlt : k < n
      · obtain ⟨b1, o1, x, A1, m1, c1, rfl, hb1, hx, q1, hi1⟩ := (HA.out.below hbw hszw).at_ hlt
        obtain ⟨b2, o2, y, A2, m2, c2, rfl, hb2, hy, q2, hi2⟩ := (HB.out.below hbw hszw).at_ hlt
        have hlti : (k : Int) < n := by omega
        have hm1 : m1 ≤ 1000000 := by have := hi1.len; have := HW.out x (List.mem_of_getElem? hx); omega
        have Hx := hid hx
        have Hy := hid hy
        have HI1 := hid hi1
        have HI2 := hid hi2
        clear hx hy hi1 hi2
        by_cases hxy : x = y
        · subst hxy
          have he := hid (eqI_t.2 (rfl : x = x))
          have Hs := hid (take_eq_succ heq.out Hx.out Hy.out)
          go_wp2_with (go_at_call 86; refine (checkAll1_any A1 A2 m1 c1 m2 c2 x x _ HI1.out HI2.out hm1).mono ?_; rw [he.out]; rintro e w1 ⟨rfl, hb1⟩)
          exact ⟨⟨k + 1, by omega, by go_num, Hs, hbw.trans (hb1.mono hszw)⟩, by simp [intOf]; omega⟩
        · have he : Hid (eqI x y = false) := hid (by simpa [eqI] using hxy)
          have Hf : Hid (eqLL a b = false) := hid (decide_eq_false (ne_of_at Hx.out Hy.out hxy))
          go_wp2_with (go_at_call 86; refine (checkAll1_any A1 A2 m1 c1 m2 c2 x y _ HI1.out HI2.out hm1).mono ?_; rw [he.out]; rintro e w1 ⟨rfl, hb1⟩)
          refine bodyPost_ret (v := .bool false) (by first | (simp [results, Tryz.results85, go_sem]; done) | (simp [results, Tryz.results85, go_sem, *]; done) | (simp [results, Tryz.results85, go_sem, World.cell?_setCell_same', *]; done) | (simp [results, Tryz.results85, go_sem]; first | exact ⟨rfl, rfl⟩ | rfl)) rfl ⟨by rw [← Hev.out, Hf.out], hbw.trans (hb1.mono hszw)⟩
      · obtain rfl : k = n := by omega
        have Hf : Hid (eqLL a b = true) := hid (decide_eq_true (by
          have := heq.out
          rwa [List.take_of_length_le (by rw [la.out]; exact Nat.le_refl _), List.take_of_length_le (by rw [lb.out]; exact Nat.le_refl _)] at this))
        go_wp2
        refine bodyPost_ret (v := .bool true) (by first | (simp [results, Tryz.results85, go_sem]; done) | (simp [results, Tryz.results85, go_sem, *]; done) | (simp [results, Tryz.results85, go_sem, World.cell?_setCell_same', *]; done) | (simp [results, Tryz.results85, go_sem]; first | exact ⟨rfl, rfl⟩ | rfl)) rfl ⟨by rw [← Hev.out, Hf.out], hbw⟩
  · have hnmi : ¬ (n : Int) = m := by omega
    have Hf : Hid (eqLL a b = false) := hid (decide_eq_false (fun e => hnm (by rw [← la.out, ← lb.out, e])))
    have t0 : ((n : Int) != (m : Int)) = true := bne_iff_ne.2 hnmi
    go_enter Tryz.func85, Tryz.ntmps85
    go_wp2
    refine bodyPost_ret (v := .bool false) (by first | (simp [results, Tryz.results85, go_sem]; done) | (simp [results, Tryz.results85, go_sem, *]; done) | (simp [results, Tryz.results85, go_sem, World.cell?_setCell_same', *]; done) | (simp [results, Tryz.results85, go_sem]; first | exact ⟨rfl, rfl⟩ | rfl)) rfl ⟨by rw [← Hev.out, Hf.out], Below.refl _ _⟩
/-- CheckAll's answer. -/
def callE (I : Int) (ls ss : List (List Int)) : Int := if lisE I ls ss ≠ 0 then lisE I ls ss else if allP ls = ss then 0 else 14
theorem allP_short (ls : List (List Int)) : ∀ l ∈ allP ls, l.length ≤ 1000000 := fun l hl => by
  have := isL_len8 (allP_isL ls l hl) (by omega); omega
set_option maxRecDepth 100000 in
set_option maxHeartbeats 1600000 in
theorem checkAll_any (A B : Option Addr) (n c m d : Nat) (ls ss : List (List Int)) (I : Int) (w : World) (hl : LiS w w.heap.size A n ls) (hs : LiS w w.heap.size B m ss) (hn : n ≤ 1000000) (hw : ∀ l ∈ ls, l.length ≤ 1000000) (hm : m ≤ 1000000) (hws : ∀ l ∈ ss, l.length ≤ 1000000) :
    Calls Tryz.prog 33 #[.agg #[.int .i64 I, .slice A n c], .slice B m d] w fun e w' => e = .returned (.int .i64 (callE I ls ss)) ∧ Below w.heap.size w w' := by
  have HL := hid hl
  have HS := hid hs
  clear hl hs
  by_cases he : lisE I ls ss = 0
  · have HO := hid (fun w h1 h2 => listedP_ok A B n c m d ls ss I w h1 h2 hn hw hm hws he)
    have hv : Hid (callE I ls ss = if allP ls = ss then 0 else 14) := hid (if_neg (by simpa using he))
    have HA := hid (fun g w h => all_any g I A n c ls w h hn (book8 (lisE_good he).1))
    have hal := allP_len ls
    have hsh := allP_short ls
    have HE := hid (fun w A' n' c' (h1 : LiS w w.heap.size A' n' (allP ls)) h2 => equalFunc_any A' B n' c' m d (allP ls) ss w h1 h2 (by have := h1.1; omega) hsh)
    have hev : Hid (eqLL (allP ls) ss = decide (allP ls = ss)) := rfl
    obtain ⟨mv, hmv⟩ : ∃ mv, allP ls = mv := ⟨_, rfl⟩
    rw [hmv] at hv HA HE hev
    clear he hmv hal hsh
    by_cases hms : mv = ss
    all_goals
      first | rw [if_pos hms] at hv | rw [if_neg hms] at hv
      first | rw [decide_eq_true hms] at hev | rw [decide_eq_false hms] at hev
      clear hms
      go_enter Tryz.func33, Tryz.ntmps33
      go_wp2_with (fail)
      refine (HO.out _ (HL.out.below (by repeat' (first | with_reducible assumption | with_reducible exact Below.refl _ _ | refine Below.alloc ?_ ?_ _ | refine Below.setCell ?_ ?_ _ | refine Below.drew ?_ | refine below_drewN ?_ _ | (simp; done) | (simp; omega) | omega)) (by first | (simp; done) | (simp; omega) | omega)) (HS.out.below (by repeat' (first | with_reducible assumption | with_reducible exact Below.refl _ _ | refine Below.alloc ?_ ?_ _ | refine Below.setCell ?_ ?_ _ | refine Below.drew ?_ | refine below_drewN ?_ _ | (simp; done) | (simp; omega) | omega)) (by first | (simp; done) | (simp; omega) | omega))).mono ?_
      rintro e w1 ⟨g, rfl, hg, hd, hb1⟩
      have hbel : Below w.heap.size w w1 := Below.trans (by repeat' (first | with_reducible assumption | with_reducible exact Below.refl _ _ | refine Below.alloc ?_ ?_ _ | refine Below.setCell ?_ ?_ _ | refine Below.drew ?_ | refine below_drewN ?_ _ | (simp; done) | (simp; omega) | omega)) (hb1.mono (by first | (simp; done) | (simp; omega) | omega))
      have HD := hid hd
      clear hd hb1
      go_wp2_with (fail)
      refine (HA.out _ _ HD.out).mono ?_
      rintro e w2 ⟨A7, m7, c7, rfl, -, hi2, hb2⟩
      have hbe2 := hbel.trans (hb2.mono hbel.size)
      have HI := hid hi2.lis
      clear hi2 hb2
      go_wp2_with (fail)
      refine (HE.out _ A7 m7 c7 HI.out (HS.out.below hbe2 hbe2.size)).mono ?_
      rw [hev.out]
      rintro e w3 ⟨rfl, hb3⟩
      have hbe3 := hbe2.trans (hb3.mono hbe2.size)
      go_wp2
    · refine bodyPost_ret (v := .int .i64 0) (by first | (simp [results, Tryz.results33, go_sem]; done) | (simp [results, Tryz.results33, go_sem, *]; done) | (simp [results, Tryz.results33, go_sem, World.cell?_setCell_same', *]; done) | (simp [results, Tryz.results33, go_sem]; first | exact ⟨rfl, rfl⟩ | rfl)) rfl ⟨by rw [hv.out], hbe3⟩
    · refine bodyPost_ret (v := .int .i64 14) (by first | (simp [results, Tryz.results33, go_sem]; done) | (simp [results, Tryz.results33, go_sem, *]; done) | (simp [results, Tryz.results33, go_sem, World.cell?_setCell_same', *]; done) | (simp [results, Tryz.results33, go_sem]; first | exact ⟨rfl, rfl⟩ | rfl)) rfl ⟨by rw [hv.out], hbe3⟩
  · have hv : Hid (callE I ls ss = lisE I ls ss) := hid (if_pos he)
    have HO := hid (fun w h1 h2 => listedP_bad A B n c m d ls ss I w h1 h2 hn hw hm hws he)
    obtain ⟨ev, hev⟩ : ∃ ev, lisE I ls ss = ev := ⟨_, rfl⟩
    rw [hev] at hv HO he
    have hbi : (ev != 0) = true := by simpa using he
    clear hev
    go_enter Tryz.func33, Tryz.ntmps33
    go_wp2_with (fail)
    refine (HO.out _ (HL.out.below (by repeat' (first | with_reducible assumption | with_reducible exact Below.refl _ _ | refine Below.alloc ?_ ?_ _ | refine Below.setCell ?_ ?_ _ | refine Below.drew ?_ | refine below_drewN ?_ _ | (simp; done) | (simp; omega) | omega)) (by first | (simp; done) | (simp; omega) | omega)) (HS.out.below (by repeat' (first | with_reducible assumption | with_reducible exact Below.refl _ _ | refine Below.alloc ?_ ?_ _ | refine Below.setCell ?_ ?_ _ | refine Below.drew ?_ | refine below_drewN ?_ _ | (simp; done) | (simp; omega) | omega)) (by first | (simp; done) | (simp; omega) | omega))).mono ?_
    rintro e w1 ⟨rfl, hb1⟩
    have hbel : Below w.heap.size w w1 := Below.trans (by repeat' (first | with_reducible assumption | with_reducible exact Below.refl _ _ | refine Below.alloc ?_ ?_ _ | refine Below.setCell ?_ ?_ _ | refine Below.drew ?_ | refine below_drewN ?_ _ | (simp; done) | (simp; omega) | omega)) (hb1.mono (by first | (simp; done) | (simp; omega) | omega))
    go_wp2
    refine bodyPost_ret (v := .int .i64 ev) (by first | (simp [results, Tryz.results33, go_sem]; done) | (simp [results, Tryz.results33, go_sem, *]; done) | (simp [results, Tryz.results33, go_sem, World.cell?_setCell_same', *]; done) | (simp [results, Tryz.results33, go_sem]; first | exact ⟨rfl, rfl⟩ | rfl)) rfl ⟨by rw [hv.out], hbel⟩
end Go.Proofs.YtnpilfpackdimaaGreat
