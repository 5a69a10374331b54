/- Texts of the proof, laid together by program. -/
import Derived.Test.YtpgdfipikfbjeaaMa
import Derived.Test.YtpgdfipikfbjeaaMd
import Derived.Test.YtpgdfipikfbjeaaMe
import Derived.Test.YtpgdfipikfbjeaaMc
import Derived.RangeFuncNested
import Derived.OwnWalkIn
import Derived.Scope
set_option linter.unusedSimpArgs false
set_option linter.unusedVariables false
/- Worlds that grew, but for one block. -/
namespace Go.Proofs.Ytpgdfipikfbjeaa
open Go.RowKit
theorem grownM_trans {w X Y : World} {M : Nat} {row : Option Nat} (h : w.grownBy X (some M)) (hg : X.grownBy Y row) (hr : ∀ r, row = some r → w.heap.size ≤ r ∨ r = M) : w.grownBy Y (some M) :=
  ⟨hg.os.trans h.os, hg.tape.trans h.tape, hg.output.trans h.output, Nat.le_trans h.size hg.size, fun k hk hne => (hg.block k (Nat.lt_of_lt_of_le hk h.size) (fun e => by rcases hr k e.symm with h1 | h1; omega; exact hne (by rw [h1]))).trans (h.block k hk hne)⟩
theorem grownM_below {w X : World} {M : Nat} (h : Below w.heap.size w X) : w.grownBy X (some M) := ⟨h.os, h.tape, h.output, h.size, fun k hk _ => h.block k hk⟩
theorem grown_of_below' {X Y : World} (h : Below X.heap.size X Y) : X.grownBy Y none := ⟨h.os, h.tape, h.output, h.size, fun k hk _ => h.block k hk⟩
theorem grownM_then {w X Y : World} {M : Nat} (h : w.grownBy X (some M)) (hb : Below X.heap.size X Y) : w.grownBy Y (some M) := grownM_trans h (grown_of_below' hb) (fun _ e => by cases e)
theorem grownM_setCell {w X : World} {M g o : Nat} (h : w.grownBy X (some M)) (hg : w.heap.size ≤ g ∨ g = M) (u : Value) : w.grownBy (X.setCell ⟨g, o, none⟩ u) (some M) :=
  ⟨h.os, h.tape, h.output, by have := h.size; simpa [World.setCell] using this, fun k hk hne => (Below.heap_setCell _ _ _ _ (by simp only; rintro rfl; rcases hg with h | h; omega; exact hne (by rw [h]))).trans (h.block k hk hne)⟩
theorem sl_grownM {w w' : World} {B size n M : Nat} {A : Option Addr} {xs : List Value} (h : Sl w B size A n xs) (hg : w.grownBy w' (some M)) (hB : B ≤ w.heap.size) (hM : B ≤ M) : Sl w' B size A n xs :=
  ⟨h.1, fun hn => by
    obtain ⟨b, off, e, hb, hc⟩ := h.2 hn
    exact ⟨b, off, e, hb, fun j u hu => (World.cell?_of_block (hg.block b (by omega) (fun e2 => by have := Option.some.inj e2; omega))).trans (hc j u hu)⟩⟩
theorem kpg_grownM {W W' : World} {M n₀ : Nat} {G : Nat → Prop} (h : W.grownBy W' (some M)) (hn : n₀ ≤ W.heap.size) (hG : G M) : KpG n₀ G W W' := ⟨h.size, fun k hk hk' => h.block k (by omega) (fun e => hk' (Option.some.inj e ▸ hG))⟩
/-- Below the block all is as it was. -/
theorem below_grownM {w w' : World} {M : Nat} (h : w.grownBy w' (some M)) (hM : M ≤ w.heap.size) : Below M w w' := ⟨h.os, h.tape, h.output, h.size, fun k hk => h.block k (by omega) (fun e => by have := Option.some.inj e; omega)⟩
theorem gcell {w w' : World} {M : Nat} (h : w.grownBy w' (some M)) : ∀ b o, b < w.heap.size → b ≠ M → w'.cell? ⟨b, o, none⟩ = w.cell? ⟨b, o, none⟩ := fun b o hb hne => World.cell?_of_block (h.block b hb (fun e => hne (Option.some.inj e)))
end Go.Proofs.Ytpgdfipikfbjeaa
/- Walks: the reference's needed. -/
namespace Go.Proofs.Ytpgdfipikfbjeaa
open Go.RowKit
attribute [local go_sem] Oper.semAt_some
theorem InS.grownM {w w' : World} {n M : Nat} {A : Option Addr} {l : List Int} (h : InS w M A n l) (hg : w.grownBy w' (some M)) (hM : M ≤ w.heap.size) : InS w' M A n l := sl_grownM h hg hM (Nat.le_refl _)
theorem LiS.grownM {w w' : World} {n M : Nat} {A : Option Addr} {l : List (List Int)} (h : LiS w M A n l) (hg : w.grownBy w' (some M)) (hM : M ≤ w.heap.size) : LiS w' M A n l := h.below (below_grownM hg hM) (Nat.le_refl _)
theorem LiS.up {w : World} {n M : Nat} {A : Option Addr} {l : List (List Int)} (h : LiS w M A n l) (hM : M ≤ w.heap.size) : LiS w w.heap.size A n l := h.below (Below.refl _ _) hM
/-- The table: 0, or what is needed, plus 1. -/
def Tab (w : World) (M N : Nat) (f : Nat → Nat) : Prop := ∃ cs, Blk w M 3 cs ∧ cs.size = N ∧ ∀ x, x < N → ∃ v : Nat, cs[x]? = some (.int .i64 v) ∧ (v = 0 ∨ v = f x + 1)
theorem Tab.lt {w : World} {M N : Nat} {f : Nat → Nat} (h : Tab w M N f) : M < w.heap.size := by obtain ⟨cs, h, -⟩ := h; exact h.lt
theorem Tab.at_ {w : World} {M N : Nat} {f : Nat → Nat} (h : Tab w M N f) {x : Nat} (hx : x < N) : ∃ v : Nat, w.cell? ⟨M, x, none⟩ = some (.int .i64 v) ∧ (v = 0 ∨ v = f x + 1) := by
  obtain ⟨cs, h1, h2, h3⟩ := h
  obtain ⟨v, h4, h5⟩ := h3 x hx
  exact ⟨v, by rw [h1.cell]; exact h4, h5⟩
theorem Tab.frozen {w : World} {M N : Nat} {f : Nat → Nat} (h : Tab w M N f) (x : Nat) : w.frozen? ⟨M, x, none⟩ = false := by
  obtain ⟨cs, h1, -⟩ := h
  exact h1.frozen x
theorem Tab.below {w w' : World} {M N : Nat} {f : Nat → Nat} (h : Tab w M N f) (hb : Below w.heap.size w w') : Tab w' M N f := by
  obtain ⟨cs, h1, h2⟩ := h
  exact ⟨cs, h1.below hb h1.lt, h2⟩
theorem Tab.set_ {w : World} {M N : Nat} {f : Nat → Nat} (h : Tab w M N f) (x : Nat) (hx : x < N) (v : Int) (hv : v = f x + 1) : Tab (w.setCell ⟨M, x, none⟩ (.int .i64 v)) M N f := by
  obtain ⟨cs, h1, h2, h3⟩ := h
  refine ⟨_, h1.set_ x _, by simpa using h2, fun y hy => ?_⟩
  rw [Array.getElem?_setIfInBounds]
  by_cases hxy : x = y
  · subst hxy
    rw [if_pos rfl, if_pos (by omega)]
    exact ⟨f x + 1, by rw [hv]; rfl, .inr rfl⟩
  · rw [if_neg hxy]; exact h3 y hy
def NdPost (l : List (List Int)) (P n M left : Nat) (w : World) (e : Ending) (w' : World) : Prop := e = .returned (.int .i64 (need l P left)) ∧ w.grownBy w' (some M) ∧ Tab w' M (2 ^ n) (need l P)
set_option maxRecDepth 100000 in
set_option maxHeartbeats 4000000 in
theorem needed_any (P : Nat) (Mx : Int) (A : Option Addr) (n c : Nat) (l : List (List Int)) (M : Nat) (hP : P ≤ 5) (hn : n ≤ 16) (hw : ∀ x ∈ l, x.length ≤ 12) :
    ∀ (left : Nat), left < 2 ^ n → ∀ w : World, LiS w M A n l → Tab w M (2 ^ n) (need l P) →
      Calls Try.prog 98 #[.agg #[.int .i64 P, .int .i64 Mx], .slice A n c, .slice (some ⟨M, 0, none⟩) (2 ^ n) (2 ^ n), .int .i64 left] w (NdPost l P n M left w) := by
  have HW := hid hw
  clear hw
  have hpn : 2 ^ n ≤ 2 ^ 16 := Nat.pow_le_pow_right (by decide) hn
  have e16 : (2 : Nat) ^ 16 = 65536 := by decide
  have hpP : 2 ^ P ≤ 2 ^ 5 := Nat.pow_le_pow_right (by decide) hP
  have e5 : (2 : Nat) ^ 5 = 32 := by decide
  have hpP1 : 1 ≤ 2 ^ P := Nat.one_le_two_pow
  have e62 : (2 : Nat) ^ 62 = 4611686018427387904 := by decide
  have hPw := pow_wrap P (by omega)
  have hpPz : (2 : Int) ^ P = ((2 ^ P : Nat) : Int) := by push_cast; rfl
  unfold NdPost
  obtain ⟨N, hN⟩ : ∃ N, 2 ^ n = N := ⟨_, rfl⟩
  obtain ⟨R, hR⟩ : ∃ R, 2 ^ P = R := ⟨_, rfl⟩
  rw [hN] at hpn ⊢
  rw [hR] at hpP hpP1 hPw hpPz
  intro left
  induction left using Nat.strongRecOn with
  | _ left ih =>
    intro hleft w hl ht
    have IH := hid ih
    clear ih
    have hM := ht.lt
    have hlen : l.length = n := hl.1
    by_cases hz : left = 0
    · subst hz
      have hnd : need l P 0 = 0 := rfl
      rw [hnd]
      have HT := hid ht
      clear ht hl hN hR hpPz hPw hlen
      obtain ⟨W0, hW0⟩ : ∃ W0, w.alloc (.cells #[.int .i64 P, .int .i64 Mx] 23) = W0 := ⟨_, rfl⟩
      have hb0 : Below w.heap.size w W0 := by rw [← hW0]; exact (by repeat' (first | with_reducible assumption | with_reducible exact Below.refl _ _ | refine Below.alloc ?_ ?_ _ | refine Below.setCell ?_ ?_ _ | refine Below.drew ?_ | refine below_drewN ?_ _ | (simp; done) | (simp; omega) | omega))
      go_enter Try.func98, Try.ntmps98
      go_wp2
      refine bodyPost_ret (v := .int .i64 0) (by first | (simp [results, Try.results98, go_sem]; done) | (simp [results, Try.results98, go_sem, *]; done) | (simp [results, Try.results98, go_sem, World.cell?_setCell_same', *]; done) | (simp [results, Try.results98, go_sem]; first | exact ⟨rfl, rfl⟩ | rfl)) rfl ⟨rfl, ?_, ?_⟩
      · exact grownM_below hb0
      · exact HT.out.below hb0
    · have hl1 : 1 ≤ left := by omega
      have z1 : IntKind.i64.wrap ((left : Int) - 1) = (left : Int) - 1 := IntWalk.i64_in _ (by omega)
      have hand : bits .and .i64 (left : Int) ((left : Int) - 1) = ((left &&& (left - 1) : Nat) : Int) := by
        rw [show (left : Int) - 1 = ((left - 1 : Nat) : Int) by omega]; exact bits_and_i64_nat _ _ (by omega) (by omega)
      have hne := need_eq l P left
      rw [hR] at hne
      obtain ⟨q, hq⟩ : ∃ q, left &&& (left - 1) = q := ⟨_, rfl⟩
      rw [hq] at hand hne
      have hns : Hid (∀ i, foldN l P (need l P) left (i + 1) = stepN l P (need l P) left (foldN l P (need l P) left i) (i + 1)) := hid (fun _ => rfl)
      have hfl := hid (foldN_le l P (need l P) left)
      have HNE := hid hne
      have HT := hid ht
      have HL := hid hl
      have Hlen := hid hlen
      have hml : M ≤ w.heap.size := by omega
      have nle := hid (need_le l P)
      obtain ⟨v, c00, hv⟩ := ht.at_ hleft
      have hleftz : (left : Int) < N := by omega
      obtain ⟨W0, hW0⟩ : ∃ W0, w.alloc (.cells #[.int .i64 P, .int .i64 Mx] 23) = W0 := ⟨_, rfl⟩
      have hb0 : Below w.heap.size w W0 := by rw [← hW0]; exact (by repeat' (first | with_reducible assumption | with_reducible exact Below.refl _ _ | refine Below.alloc ?_ ?_ _ | refine Below.setCell ?_ ?_ _ | refine Below.drew ?_ | refine below_drewN ?_ _ | (simp; done) | (simp; omega) | omega))
      have bB : Blk W0 w.heap.size 23 #[.int .i64 P, .int .i64 Mx] := by rw [← hW0]; exact Blk.new' rfl
      have c0 := ((bcell hb0).1 M left hM).trans c00
      have lM : M < W0.heap.size := by have := hb0.size; omega
      have Hvv := hid hv
      clear ht hl hlen hN hR hne hq hv hpPz
      by_cases hq0 : q = 0
      · subst hq0
        have HN0 : Hid (need l P left = 0) := hid (by rw [HNE.out, if_pos rfl])
        go_enter Try.func98, Try.ntmps98
        go_wp2
        refine bodyPost_ret (v := .int .i64 0) (by first | (simp [results, Try.results98, go_sem]; done) | (simp [results, Try.results98, go_sem, *]; done) | (simp [results, Try.results98, go_sem, World.cell?_setCell_same', *]; done) | (simp [results, Try.results98, go_sem]; first | exact ⟨rfl, rfl⟩ | rfl)) rfl ⟨by rw [HN0.out]; rfl, grownM_below hb0, HT.out.below hb0⟩
      · by_cases hv0 : v = 0
        · subst hv0
          have HNE2 : Hid (need l P left = foldN l P (need l P) left (R - 1)) := hid (by rw [HNE.out, if_neg hq0])
          have p0 := bB.cell 0
          have p1 := bB.cell 1
          have lB := bB.lt
          go_enter Try.func98, Try.ntmps98
          go_wp2_with (fail)
          go_loopw [9, 10] (fun b i wr => ∃ j : Nat, 1 ≤ j ∧ j ≤ R ∧ i = .int .i64 (j : Int) ∧ b = .int .i64 (foldN l P (need l P) left (j - 1) : Nat) ∧ w.grownBy wr (some M) ∧ Hid (Tab wr M N (need l P)) ∧ Hid (Blk wr w.heap.size 23 #[.int .i64 P, .int .i64 Mx])) (fun _ i _ => R - (intOf i).toNat)
          case atStart => exact ⟨1, by omega, by omega, rfl, by rw [← Hlen.out]; rfl, grownM_below hb0, hid (HT.out.below hb0), hid bB⟩
          case round =>
            clear c0 p0 p1 lB lM bB hb0 hW0
            obtain ⟨j, hj1, hjR, rfl, rfl, hg, HTr, HBr⟩ := hrel
            have hgs := hg.size
            have bB := HBr.out
            have p0 := bB.cell 0
            have p1 := bB.cell 1
            have lB := bB.lt
            have lM := HTr.out.lt
            have hbest := hfl.out (j - 1)
            have hbest2 := Hlen.out
            by_cases hlt : j < R
            · have hltz : (j : Int) < R := by omega
              have hs1 := hns.out (j - 1)
              rw [show j - 1 + 1 = j by omega] at hs1
              obtain ⟨best, hbe⟩ : ∃ best, foldN l P (need l P) left (j - 1) = best := ⟨_, rfl⟩
              rw [hbe] at hbest hs1 ⊢
              have hb16 : best ≤ 16 := by omega
              have Hs1 := hid hs1
              have Hbe := hid hbe
              clear hs1 hbe hbest hbest2
              go_wp2_with (fail)
              refine (listed_any j P _ (by omega) (by omega)).mono ?_
              rintro e W1 ⟨v1, rfl, ho1, hb1⟩
              obtain ⟨A2, c2, hv1, hs2⟩ := sl_of_owns ho1
              subst hv1
              have hin : InS W1 W1.heap.size A2 (listed j P).length (listed j P) := hs2
              have hm2 := listed_len j P
              have hg1 := grownM_then hg hb1
              have ht1 := HTr.out.below hb1
              have bB1 := HBr.out.below hb1 lB
              have hL1 := HL.out.grownM hg1 hml
              obtain ⟨m2, hm2e⟩ : ∃ m2, (listed j P).length = m2 := ⟨_, rfl⟩
              rw [hm2e] at hin hm2 ⊢
              have Hin := hid hin
              have HL1 := hid hL1
              clear ho1 hs2 hin hL1 hm2e
              have hsz1 := hg1.size
              go_wp2_with (fail)
              refine (with_any A A2 n c m2 c2 l left (listed j P) W1 (HL1.out.up (by omega)) Hin.out (by omega) HW.out (by omega) (by omega)).mono ?_
              rintro e W2 ⟨rfl, rfl⟩
              have hB1 := withN_le l left (listed j P) n
              have hs2 := Hs1.out
              unfold stepN at hs2
              rw [Hlen.out] at hs2
              obtain ⟨B, hB⟩ : ∃ B, withN l left (listed j P) n = B := ⟨_, rfl⟩
              rw [hB] at hB1 hs2 ⊢
              have q0 := bB1.cell 0
              have q1 := bB1.cell 1
              have lB1 := bB1.lt
              have Hs2 := hid hs2
              have HT1 := hid ht1
              have HB1 := hid bB1
              clear hs2 ht1 hB bB1 hb1 p0 p1 lB bB
              by_cases hB0 : B = 0
              · subst hB0
                have hs3 : Hid (foldN l P (need l P) left j = best) := hid (by rw [Hs2.out, if_pos (.inl rfl)])
                clear hg
                go_wp2
                exact ⟨⟨j + 1, by omega, by omega, by go_num, by rw [show j + 1 - 1 = j by omega, hs3.out], hg1, HT1, HB1⟩, by simp [intOf]; omega⟩
              · have hBz : ((B : Int) == 0) = false := beq_false_of_ne (by omega)
                by_cases hBl : B = left
                · subst hBl
                  have hs3 : Hid (foldN l P (need l P) B j = best) := hid (by rw [Hs2.out, if_pos (.inr rfl)])
                  clear hg
                  go_wp2
                  exact ⟨⟨j + 1, by omega, by omega, by go_num, by rw [show j + 1 - 1 = j by omega, hs3.out], hg1, HT1, HB1⟩, by simp [intOf]; omega⟩
                · have hBlz : ((B : Int) == left) = false := beq_false_of_ne (by omega)
                  have hs3 : Hid (foldN l P (need l P) left j = min best (max (need l P B + 1) (need l P (left - B) + 1))) := hid (by rw [Hs2.out, if_neg (by omega)])
                  clear hg
                  go_wp2_with (fail)
                  refine (IH.out B (by omega) (by omega) W1 HL1.out HT1.out).mono ?_
                  rintro e W3 ⟨rfl, hg3, ht3⟩
                  have hnB := nle.out B
                  have hnL := nle.out (left - B)
                  rw [Hlen.out] at hnB hnL
                  obtain ⟨nb, hnb⟩ : ∃ nb, need l P B = nb := ⟨_, rfl⟩
                  obtain ⟨nl, hnl⟩ : ∃ nl, need l P (left - B) = nl := ⟨_, rfl⟩
                  have hs4 := hs3.out
                  rw [hnb] at hnB hs4 ⊢
                  rw [hnl] at hnL hs4
                  have hnb16 : nb ≤ 16 := by omega
                  have hnl16 : nl ≤ 16 := by omega
                  have Hs4 := hid hs4
                  have Hnl := hid hnl
                  have hg4 := grownM_trans hg1 hg3 (fun r e => .inr (Option.some.inj e).symm)
                  have hsz3 := hg3.size
                  have bB3 := HB1.out.grown hg3 (fun e => by have := Option.some.inj e; omega)
                  have r0 := bB3.cell 0
                  have r1 := bB3.cell 1
                  have lB3 := bB3.lt
                  have HB3 := hid bB3
                  have HT3 := hid ht3
                  have HL3 := hid (HL.out.grownM hg4 hml)
                  clear hs4 hnl hnb hg1 hg3 bB3 ht3 q0 q1 lB1
                  by_cases hlt2 : nb + 1 < best
                  · have hlt2z : (nb : Int) + 1 < best := by omega
                    have zLB : IntKind.i64.wrap ((left : Int) - B) = ((left - B : Nat) : Int) := by rw [show ((left - B : Nat) : Int) = (left : Int) - B by omega]; exact IntWalk.i64_in _ (by omega)
                    have Hlt2 := hid hlt2
                    go_wp2_with (fail)
                    refine (IH.out (left - B) (by omega) (by omega) W3 HL3.out HT3.out).mono ?_
                    rintro e W5 ⟨rfl, hg5, ht5⟩
                    rw [Hnl.out]
                    have hg6 := grownM_trans hg4 hg5 (fun r e => .inr (Option.some.inj e).symm)
                    have hsz5 := hg5.size
                    have bB5 := HB3.out.grown hg5 (fun e => by have := Option.some.inj e; omega)
                    have hmn : min (best : Int) (max (nb : Int) nl + 1) = ((foldN l P (need l P) left j : Nat) : Int) := by rw [Hs4.out]; omega
                    have Hmn := hid hmn
                    clear hg4 hg5 r0 r1 lB3 hmn zLB
                    go_wp2
                    rw [Hmn.out]
                    exact ⟨⟨j + 1, by omega, by omega, by go_num, by rw [show j + 1 - 1 = j by omega], hg6, hid ht5, hid bB5⟩, by simp [intOf]; omega⟩
                  · have hlt2z : ¬ (nb : Int) + 1 < best := by omega
                    have hs5 : Hid (foldN l P (need l P) left j = best) := hid (by rw [Hs4.out]; omega)
                    go_wp2
                    exact ⟨⟨j + 1, by omega, by omega, by go_num, by rw [show j + 1 - 1 = j by omega, hs5.out], hg4, HT3, HB3⟩, by simp [intOf]; omega⟩
            · obtain rfl : j = R := by omega
              rw [← HNE2.out]
              obtain ⟨K, hK⟩ : ∃ K, need l P left = K := ⟨_, rfl⟩
              have hK16 : K ≤ 16 := by have := nle.out left; omega
              have HK := hid hK
              clear hbest hbest2
              rw [hK]
              clear hK
              have fM := HTr.out.frozen left
              obtain ⟨v', c0, -⟩ := HTr.out.at_ hleft
              go_wp2
              refine bodyPost_ret (v := .int .i64 K) (by first | (simp [results, Try.results98, go_sem]; done) | (simp [results, Try.results98, go_sem, *]; done) | (simp [results, Try.results98, go_sem, World.cell?_setCell_same', *]; done) | (simp [results, Try.results98, go_sem]; first | exact ⟨rfl, rfl⟩ | rfl)) rfl ⟨by rw [HK.out], ?_, ?_⟩
              · refine grownM_setCell hg (.inr rfl) _
              · refine HTr.out.set_ left hleft _ ?_
                rw [HK.out]
        · have hvn : Hid (v = need l P left + 1) := hid (Hvv.out.resolve_left hv0)
          have hvp : (0 : Int) < v := by omega
          have hvs : v ≤ 1000 := by have := hvn.out; have := nle.out left; have := Hlen.out; omega
          have zv : IntKind.i64.wrap ((v : Int) - 1) = (v : Int) - 1 := IntWalk.i64_in _ (by omega)
          go_enter Try.func98, Try.ntmps98
          go_wp2
          refine bodyPost_ret (v := .int .i64 ((v : Int) - 1)) (by first | (simp [results, Try.results98, go_sem]; done) | (simp [results, Try.results98, go_sem, *]; done) | (simp [results, Try.results98, go_sem, World.cell?_setCell_same', *]; done) | (simp [results, Try.results98, go_sem]; first | exact ⟨rfl, rfl⟩ | rfl)) rfl ⟨by have := hvn.out; rw [show (v : Int) - 1 = (need l P left : Nat) by omega], grownM_below hb0, HT.out.below hb0⟩
end Go.Proofs.Ytpgdfipikfbjeaa
/- Walks: the reference's NeededOf. -/
namespace Go.Proofs.Ytpgdfipikfbjeaa
open Go.RowKit
attribute [local go_sem] Oper.semAt_some
theorem cases_len5 {P M : Nat} (hP : P ≤ 5) : (casesL P M).length ≤ 16 := by
  have : ∀ P : Fin 6, ∀ M : Fin 3, (casesL P.val M.val).length ≤ 16 := by decide +kernel
  rcases Nat.lt_or_ge M 3 with h | h
  · exact this ⟨P, by omega⟩ ⟨M, h⟩
  · have e : casesL P M = casesL P 2 := by unfold casesL; rw [if_pos (by omega), if_pos (by omega), if_pos (by omega), if_pos (by omega)]
    rw [e]; exact this ⟨P, by omega⟩ ⟨2, by omega⟩
/-- The cases that are among some, by bits: of the first k. -/
def pickN (CL sm : List (List Int)) : Nat → Nat
  | 0 => 0
  | k + 1 => pickN CL sm k ||| (if sm.any (eqI (CL.getD k [])) then 2 ^ k else 0)
theorem pickN_lt (CL sm : List (List Int)) : ∀ k, pickN CL sm k < 2 ^ k
  | 0 => by simp [pickN]
  | k + 1 => by
    have h := pickN_lt CL sm k
    have h2 : 2 ^ k < 2 ^ (k + 1) := Nat.pow_lt_pow_right (by decide) (by omega)
    unfold pickN
    refine Nat.or_lt_two_pow (by omega) ?_
    split <;> omega
/-- While number j of the others is under way. -/
def pickJ (CL sm : List (List Int)) (i j : Nat) : Nat := pickN CL sm i ||| (if (sm.take j).any (eqI (CL.getD i [])) then 2 ^ i else 0)
theorem pickJ_zero (CL sm : List (List Int)) (i : Nat) : pickJ CL sm i 0 = pickN CL sm i := by simp [pickJ]
theorem pickJ_full (CL sm : List (List Int)) (i : Nat) : pickJ CL sm i sm.length = pickN CL sm (i + 1) := by unfold pickJ; rw [List.take_length]; rfl
theorem any_take_succ {α : Type} {l : List α} {j : Nat} {x : α} {p : α → Bool} (h : l[j]? = some x) : (l.take (j + 1)).any p = ((l.take j).any p || p x) := by
  rw [List.take_add_one, h, List.any_append]; simp
theorem pickJ_no {CL sm : List (List Int)} {i j : Nat} {x : List Int} (h : sm[j]? = some x) (hc : eqI (CL.getD i []) x = false) : pickJ CL sm i (j + 1) = pickJ CL sm i j := by
  unfold pickJ; rw [any_take_succ h, hc, Bool.or_false]
theorem pickJ_yes {CL sm : List (List Int)} {i j : Nat} {x : List Int} (h : sm[j]? = some x) (hc : eqI (CL.getD i []) x = true) : pickJ CL sm i (j + 1) = pickJ CL sm i j ||| 2 ^ i := by
  unfold pickJ
  rw [any_take_succ h, hc, Bool.or_true, if_pos rfl, Nat.or_assoc]
  congr 1
  split
  · rw [Nat.or_self]
  · rw [Nat.zero_or]
theorem pickJ_lt (CL sm : List (List Int)) (i j : Nat) : pickJ CL sm i j < 2 ^ (i + 1) := by
  have h := pickN_lt CL sm i
  have h2 : 2 ^ i < 2 ^ (i + 1) := Nat.pow_lt_pow_right (by decide) (by omega)
  unfold pickJ
  refine Nat.or_lt_two_pow (by omega) ?_
  split <;> omega
theorem make_i64 {L : Nat} (hL : L ≤ 100000) (w0 : World) : (Instr.makeSlice 25 (.int .i64 (L : Int)) (.int .i64 (L : Int))).run Try.prog w0 = .ok (.slice (some ⟨w0.heap.size, 0, none⟩) L L) (w0.alloc (.cells (madeCells #[.int .i64 0] L) 3)) := by
  obtain ⟨i, hi, hz0, hz1, hz2⟩ := info_parts' info3
  have := run_makeSlice (P := Try.prog) (w := w0) 25 3 i (.int .i64 0) under25 hi hz0 .i64 .i64 (L : Int) (L : Int) (by omega) (Int.le_refl _) (by rw [hz1]; omega) (by rw [hz2]; omega) (by omega)
  rw [this, hz1]
  simp [Value.cells]
theorem Tab.new {w : World} {M N : Nat} {f : Nat → Nat} (h : Blk w M 3 (madeCells #[.int .i64 0] N)) : Tab w M N f := by
  refine ⟨_, h, size_madeCells _ _, fun x hx => ⟨0, ?_, .inl rfl⟩⟩
  rw [← Array.getElem?_toList, toList_madeCells_one, List.getElem?_replicate, if_pos hx]; rfl
/-- What some cases of a book need. -/
def needOf (P M : Nat) (sm : List (List Int)) : Nat := need (casesL P M) P (pickN (casesL P M) sm (casesL P M).length)
set_option maxRecDepth 100000 in
set_option maxHeartbeats 2000000 in
theorem neededOf_any (P M : Nat) (A : Option Addr) (n c : Nat) (sm : List (List Int)) (w : World) (hP : P ≤ 5) (hM : M ≤ 2) (hp : LiS w w.heap.size A n sm) (hn : n ≤ 1000000) :
    Calls Try.prog 80 #[.agg #[.int .i64 (P : Int), .int .i64 (M : Int)], .slice A n c] w fun e w' => e = .returned (.int .i64 (needOf P M sm)) ∧ Below w.heap.size w w' := by
  have hlen := hid hp.1
  obtain ⟨W0, hWb⟩ : ∃ W0, w.alloc (.cells #[.int .i64 (P : Int), .int .i64 (M : Int)] 23) = W0 := ⟨_, rfl⟩
  have bB : Blk W0 w.heap.size 23 #[.int .i64 (P : Int), .int .i64 (M : Int)] := by rw [← hWb]; exact Blk.new' rfl
  have hbel : Below w.heap.size w W0 := by rw [← hWb]; exact (Below.refl _ _).alloc (Nat.le_refl _) _
  have hsz := hbel.size
  have lB := bB.lt
  have p0 := bB.cell 0
  have p1 := bB.cell 1
  have HP := hid (hp.below hbel hsz)
  clear hp
  obtain ⟨CL, hCL⟩ : ∃ CL, casesL P M = CL := ⟨_, rfl⟩
  have hcl := cases_len5 (M := M) hP
  have hND : Hid (needOf P M sm = need CL P (pickN CL sm CL.length)) := hid (by unfold needOf; rw [hCL])
  rw [hCL] at hcl
  have HCL := hid hCL
  have hcb : Hid (∀ x ∈ CL, x.length ≤ 2) := hid (by rw [← hCL]; exact cases_short P M)
  clear hCL
  go_enter Try.func80, Try.ntmps80
  go_wp2_with (fail)
  refine (casesOf_any P M _ (by omega) hM).mono ?_
  rw [HCL.out]
  rintro e W1 ⟨v1, rfl, hn1, hb⟩
  have hst : Below W0.heap.size W0 W1 := Below.trans (by repeat' (first | with_reducible assumption | with_reducible exact Below.refl _ _ | refine Below.alloc ?_ ?_ _ | refine Below.setCell ?_ ?_ _ | refine Below.drew ?_ | refine below_drewN ?_ _ | (simp; done) | (simp; omega) | omega)) (hb.mono (by first | (simp; done) | (simp; omega) | omega))
  replace hbel := hbel.trans (hst.mono hsz)
  replace hsz := hbel.size
  replace bB := bB.below hst bB.lt
  clear p0 p1 lB
  have p0 := bB.cell 0
  have p1 := bB.cell 1
  have lB := bB.lt
  try clear hWb
  replace HP := hid (HP.out.below hst hst.size)
  have HN := hid (NewLi.mono hn1 (Nat.zero_le _) : NewLi W1 0 v1 CL)
  clear hb hst
  obtain ⟨W0, rfl⟩ : ∃ W0 : World, W0 = W1 := ⟨_, rfl⟩
  clear hn1
  obtain ⟨A1, c1, hv1, hLi, -⟩ := HN.out.lis
  subst hv1
  have HNN := hid HN.out
  have HLi := hid hLi
  have HPP := hid HP.out
  have HBB := hid bB
  clear hLi
  go_wp2_with (fail)
  clear p0 p1 lB bB
  go_loopw [6, 7] (fun v i wr => ∃ k : Nat, k ≤ CL.length ∧ i = .int .i64 k ∧ v = .int .i64 (pickN CL sm k : Nat) ∧ Below W0.heap.size W0 wr) (fun _ i _ => CL.length - (intOf i).toNat)
  case atStart => exact ⟨0, by omega, rfl, rfl, Below.refl _ _⟩
  case round =>
    obtain ⟨i, hi2, rfl, rfl, hbw⟩ := hrel
    by_cases hlt : i < CL.length
    · have hlti : (i : Int) < CL.length := by omega
      have Hbw := hid hbw
      clear hbw
      go_wp2_with (fail)
      go_loopw [6, 8] (fun v x wr => ∃ j : Nat, j ≤ n ∧ x = .int .i64 j ∧ v = .int .i64 (pickJ CL sm i j : Nat) ∧ Below W0.heap.size W0 wr) (fun _ x _ => n - (intOf x).toNat)
      case atStart => exact ⟨0, by omega, rfl, by rw [pickJ_zero], Hbw.out⟩
      case round =>
        clear Hbw
        obtain ⟨j, hj2, rfl, rfl, hbw⟩ := hrel
        have hszw := hbw.size
        by_cases hltj : j < n
        · have hltj2 : (j : Int) < n := by omega
          obtain ⟨g, c0, xi, Ai, mi, ci, hv2, -, hg, hxi, hci, hini, hbdi⟩ := HNN.out.at_ hlt
          cases hv2
          obtain ⟨g', off, xj, Aj, mj, cj, rfl, hg', hxj, hcj, hinj⟩ := HPP.out.at_ hltj
          have q0 := ((bcell hbw).1 g i hg).trans hci
          have q1 := ((bcell hbw).1 g' (off + j) hg').trans hcj
          have lg : g < wr.heap.size := by omega
          have lg' : g' < wr.heap.size := by omega
          have hmi : mi ≤ 2 := by have := hini.len; have := hcb.out xi (List.mem_of_getElem? hxi); omega
          have Hi := hid hini
          have Hj := hid hinj
          have Hxi : Hid (CL.getD i [] = xi) := hid (by rw [List.getD_eq_getElem?_getD, hxi]; rfl)
          have Hxj := hid hxj
          obtain ⟨bv, hbv⟩ : ∃ bv, eqI xi xj = bv := ⟨_, rfl⟩
          have Hbv := hid hbv
          have hpl := pickJ_lt CL sm i j
          clear hci hcj hini hinj hbdi hxi hxj hbv
          go_wp2_with (fail)
          refine wp_region_hd_all (fun W => Below wr.heap.size wr W) (by kernel_rfl) (by kernel_rfl) ((Below.refl _ _).drew) ?_
          iterate 8 (refine wpHd_val (v := ?_) (by rfl) (fun W hW => ?_) ?_; rotate_left; (· obtain ⟨hcW, hfW⟩ := bcell hW; go_simp; with_reducible rfl); simp only [Act.put, List.setIfInBounds_toArray, List.set_cons_zero, List.set_cons_succ])
          (refine wpHd_callB (by rfl) (fun W hW => same_any W Ai Aj mi ci mj cj xi xj (Hi.out.below (hbw.trans (hW.mono hszw)) (hbw.trans (hW.mono hszw)).size) (Hj.out.below (hbw.trans (hW.mono hszw)) (hbw.trans (hW.mono hszw)).size) (by omega)) (fun W hW => ?_) ?_; (· obtain ⟨hcW, hfW⟩ := bcell hW; go_simp); simp only [Act.put, List.setIfInBounds_toArray, List.set_cons_zero, List.set_cons_succ])
          rw [Hbv.out]
          refine wpHd_nil ?_
          intro W9 hW9
          have hbw9 := hbw.trans (hW9.mono hszw)
          cases bv
          · have hst : Hid (pickJ CL sm i (j + 1) = pickJ CL sm i j) := hid (pickJ_no Hxj.out (by rw [Hxi.out]; exact Hbv.out))
            go_wp2
            exact ⟨⟨j + 1, by omega, by go_num, by rw [hst.out], hbw9⟩, by simp [intOf]; omega⟩
          · have hst : Hid (pickJ CL sm i (j + 1) = pickJ CL sm i j ||| 2 ^ i) := hid (pickJ_yes Hxj.out (by rw [Hxi.out]; exact Hbv.out))
            obtain ⟨N, hN⟩ : ∃ N, pickJ CL sm i j = N := ⟨_, rfl⟩
            rw [hN] at hpl hst ⊢
            have hNl : N < 2 ^ 62 := Nat.lt_of_lt_of_le hpl (Nat.pow_le_pow_right (by decide) (by omega))
            have Hor : Hid (bits .or .i64 (N : Int) ((2 : Int) ^ i) = ((N ||| 2 ^ i : Nat) : Int)) := hid (by rw [show (2 : Int) ^ i = ((2 ^ i : Nat) : Int) by push_cast; rfl]; exact bits_or_i64_nat N (2 ^ i) hNl (Nat.pow_lt_pow_right (by decide) (by omega)))
            have hpw := pow_wrap i (by omega)
            clear hN hpl hNl
            go_wp2
            exact ⟨⟨j + 1, by omega, by go_num, by rw [hst.out, ← Hor.out], hbw9⟩, by simp [intOf]; omega⟩
        · obtain rfl : j = n := by omega
          have hst : Hid (pickJ CL sm i j = pickN CL sm (i + 1)) := hid (by rw [← pickJ_full, hlen.out])
          rw [hst.out]
          go_wp2
          exact ⟨⟨i + 1, by omega, by go_num, rfl, hbw⟩, by simp [intOf]; omega⟩
    · obtain rfl : i = CL.length := by omega
      have hszw := hbw.size
      have bB := HBB.out.below hbw HBB.out.lt
      have p0 := bB.cell 0
      have p1 := bB.cell 1
      have lB := bB.lt
      have hpl := pickN_lt CL sm CL.length
      have hpw := pow_wrap CL.length (by omega)
      obtain ⟨left, hleft⟩ : ∃ left, pickN CL sm CL.length = left := ⟨_, rfl⟩
      have hnd2 : Hid (needOf P M sm = need CL P left) := hid (by rw [hND.out, hleft])
      rw [hleft] at hpl ⊢
      obtain ⟨N, hN⟩ : ∃ N, 2 ^ CL.length = N := ⟨_, rfl⟩
      rw [hN] at hpw
      have hN6 : N ≤ 100000 := by
        have : 2 ^ CL.length ≤ 2 ^ 16 := Nat.pow_le_pow_right (by decide) hcl
        have e16 : (2 : Nat) ^ 16 = 65536 := by decide
        omega
      have HNd := hid hN
      clear hleft hN
      have hmk := @make_i64 N hN6
      go_wp2_with (fail)
      refine Sx.wp_region_el (fun W => Below wr.heap.size wr W) (fun _ _ h he => h.trans (he.mono h.size)) [0, 1, 2, 3, 4, 6] 3 (by kernel_rfl) (by kernel_rfl) ((Below.refl _ _).drew) ?_
      simp only [pick, List.getElem?_toArray, List.getElem?_cons_zero, List.getElem?_cons_succ]
      iterate 6 (refine Sx.wpE_val (v := ?_) (by rfl) (fun W hW => ?_) ?_; rotate_left; (· obtain ⟨hcW, hfW⟩ := bcell hW; go_simp; with_reducible rfl); simp only [Act.put, List.setIfInBounds_toArray, List.set_cons_zero, List.set_cons_succ])
      simp only [Sx.wpE]
      (refine Sx.wpM_one 5 _ (by simp only [List.getElem?_toArray, List.getElem?_cons_zero, List.getElem?_cons_succ]; rfl) (by kernel_rfl) (by rfl) ?_)
      intro X hX hS
      (go_simp; simp only [LUpon, Act.put]; try simp only [List.setIfInBounds_toArray, List.set_cons_zero, List.set_cons_succ])
      have hS1 : Below wr.heap.size wr (X.alloc (.cells (madeCells #[.int .i64 0] N) 3)) := hS.alloc hS.size _
      refine ⟨hS1, ?_⟩
      (refine Sx.wpM_one 7 _ (by simp only [List.getElem?_toArray, List.getElem?_cons_zero, List.getElem?_cons_succ]; rfl) (by kernel_rfl) (by rfl) ?_)
      intro Y hY hSY
      have hTab : Tab Y X.heap.size N (need CL P) := Tab.new ((Blk.new' rfl).below hY (by simp))
      have hLY : LiS Y X.heap.size A1 CL.length CL := HLi.out.below (hbw.trans (hSY.mono hszw)) (by have := hS.size; omega)
      have hXs := hS.size
      clear hmk hpw HBB bB p0 p1 lB
      (go_simp; simp only [LUpon, Act.put]; try simp only [List.setIfInBounds_toArray, List.set_cons_zero, List.set_cons_succ])
      have HNE := needed_any P M A1 CL.length c1 CL X.heap.size hP hcl (fun x hx => by have := hcb.out x hx; omega) left hpl Y hLY (by rw [HNd.out]; exact hTab)
      rw [HNd.out] at HNE
      refine HNE.mono ?_
      rintro e Z ⟨rfl, hg, -⟩
      refine ⟨_, rfl, hSY.grown hg hSY.size (fun r hr => by have := Option.some.inj hr; omega), ?_⟩
      (refine Sx.wpM_one 8 _ (by simp only [List.getElem?_toArray, List.getElem?_cons_zero, List.getElem?_cons_succ]; rfl) (by kernel_rfl) (by rfl) ?_)
      intro V hV hSV
      (go_simp; simp only [LUpon, Act.put]; try simp only [List.setIfInBounds_toArray, List.set_cons_zero, List.set_cons_succ])
      refine ⟨hSV, Sx.wpM_end (by kernel_rfl) ?_⟩
      intro V2 hV2 hSV2
      rw [← hnd2.out]
      go_wp2
      refine bodyPost_ret (v := .int .i64 (needOf P M sm)) (by first | (simp [results, Try.results80, go_sem]; done) | (simp [results, Try.results80, go_sem, *]; done) | (simp [results, Try.results80, go_sem, World.cell?_setCell_same', *]; done) | (simp [results, Try.results80, go_sem]; first | exact ⟨rfl, rfl⟩ | rfl)) rfl ⟨rfl, hbel.trans ((hbw.trans (hSV2.mono hszw)).mono hsz)⟩
end Go.Proofs.Ytpgdfipikfbjeaa
/- Walks: the reference's Needed, Divides. -/
namespace Go.Proofs.Ytpgdfipikfbjeaa
open Go.RowKit
attribute [local go_sem] Oper.semAt_some
/-- Needed's answer: how many, the error. -/
def needV (P M : Int) (pl : List (List Int)) (r : List Int) : Int := if leftE P M pl r ≠ 0 then 0 else needOf P.toNat M.toNat (toldL P.toNat M.toNat pl r)
theorem toldL_len {P M : Nat} (hP : P ≤ 8) (pl : List (List Int)) (r : List Int) : (toldL P M pl r).length ≤ 37 := by
  have h1 := List.length_filter_le (fun c => eqI (resL pl c) r) (casesL P M)
  have h2 := cases_len (M := M) hP
  unfold toldL; omega
set_option maxRecDepth 10000 in
set_option maxHeartbeats 1600000 in
theorem refNeeded_any (A B : Option Addr) (n c m d : Nat) (pl : List (List Int)) (r : List Int) (P M : Int) (w : World) (hp : LiS w w.heap.size A n pl) (hb : InS w w.heap.size B m r) (hn : n ≤ 12) (hw : ∀ l ∈ pl, l.length ≤ 12) :
    Calls Try.prog 33 #[.agg #[.int .i64 P, .int .i64 M], .slice A n c, .slice B m d] w fun e w' => e = .returned (.tuple #[.int .i64 (needV P M pl r), .int .i64 (leftE P M pl r)]) ∧ Below w.heap.size w w' := by
  obtain ⟨W0, hWb⟩ : ∃ W0, w.alloc (.cells #[.int .i64 P, .int .i64 M] 23) = W0 := ⟨_, rfl⟩
  have bB : Blk W0 w.heap.size 23 #[.int .i64 P, .int .i64 M] := by rw [← hWb]; exact Blk.new' rfl
  have hbel : Below w.heap.size w W0 := by rw [← hWb]; exact (Below.refl _ _).alloc (Nat.le_refl _) _
  have hsz := hbel.size
  have lB := bB.lt
  have p0 := bB.cell 0
  have p1 := bB.cell 1
  have HP := hid (hp.below hbel hsz)
  clear hp
  have HB := hid (hb.below hbel hsz)
  clear hb
  cases hc : (leftE P M pl r != 0)
  · have hc0 : leftE P M pl r = 0 := by simpa using hc
    obtain ⟨k1, k2, k3⟩ := leftE_zero hc0
    obtain ⟨g1, g2, g3⟩ := plan_good (errR_zero k1).1
    obtain ⟨g4, g5, g6, g7⟩ := book_good g1
    have Hc := hid hc0
    have hE1 : Hid (needV P M pl r = needOf P.toNat M.toNat (toldL P.toNat M.toNat pl r)) := hid (if_neg (by omega))
    clear hc hc0 k1 k3
    obtain ⟨Pn, rfl⟩ : ∃ Pn : Nat, P = Pn := ⟨P.toNat, by omega⟩
    obtain ⟨Mn, rfl⟩ : ∃ Mn : Nat, M = Mn := ⟨M.toNat, by omega⟩
    rw [Int.toNat_natCast, Int.toNat_natCast] at hE1
    have htl := hid (toldL_len (P := Pn) (M := Mn) (by omega) pl r)
    go_enter Try.func33, Try.ntmps33
    go_wp2_with (fail)
    refine (leftErr_any A B n c m d pl r _ _ _ (HP.out.below (by repeat' (first | with_reducible assumption | with_reducible exact Below.refl _ _ | refine Below.alloc ?_ ?_ _ | refine Below.setCell ?_ ?_ _ | refine Below.drew ?_ | refine below_drewN ?_ _ | (simp; done) | (simp; omega) | omega)) (by first | (simp; done) | (simp; omega) | omega)) (HB.out.below (by repeat' (first | with_reducible assumption | with_reducible exact Below.refl _ _ | refine Below.alloc ?_ ?_ _ | refine Below.setCell ?_ ?_ _ | refine Below.drew ?_ | refine below_drewN ?_ _ | (simp; done) | (simp; omega) | omega)) (by first | (simp; done) | (simp; omega) | omega)) hn hw).mono ?_
    rw [Hc.out]
    rintro e W1 ⟨rfl, hb⟩
    have hst : Below W0.heap.size W0 W1 := Below.trans (by repeat' (first | with_reducible assumption | with_reducible exact Below.refl _ _ | refine Below.alloc ?_ ?_ _ | refine Below.setCell ?_ ?_ _ | refine Below.drew ?_ | refine below_drewN ?_ _ | (simp; done) | (simp; omega) | omega)) (hb.mono (by first | (simp; done) | (simp; omega) | omega))
    replace hbel := hbel.trans (hst.mono hsz)
    replace hsz := hbel.size
    replace bB := bB.below hst bB.lt
    clear p0 p1 lB
    have p0 := bB.cell 0
    have p1 := bB.cell 1
    have lB := bB.lt
    try clear hWb
    replace HP := hid (HP.out.below hst hst.size)
    replace HB := hid (HB.out.below hst hst.size)
    clear hb hst
    obtain ⟨W0, rfl⟩ : ∃ W0 : World, W0 = W1 := ⟨_, rfl⟩
    go_wp2_with (fail)
    (refine Sx.wp_region_rel (fun W => Below W0.heap.size W0 W) (fun _ _ h he => h.trans (he.mono h.size)) [0, 1, 2, 3] [(4, []), (5, [0]), (6, [1]), (7, [])] (by kernel_rfl) (by kernel_rfl) (by kernel_rfl) (Below.refl _ _).drew ?_; simp only [pick, List.getElem?_toArray, List.getElem?_cons_zero, List.getElem?_cons_succ])
    iterate 4 (refine Sx.wpE_val (v := ?_) (by rfl) (fun W hW => ?_) ?_; rotate_left; (· obtain ⟨hcW, hfW⟩ := bcell hW; go_simp; with_reducible rfl); simp only [Act.put, List.setIfInBounds_toArray, List.set_cons_zero, List.set_cons_succ])
    simp only [Sx.wpE, Sx.pickD, List.getElem?_toArray, List.getElem?_cons_zero, List.getElem?_cons_succ]
    refine ⟨fun v W => ∃ B k, v = .slice B (toldL Pn Mn pl r).length k ∧ LiS W W.heap.size B (toldL Pn Mn pl r).length (toldL Pn Mn pl r), fun v W W' _ _ he ⟨B, k, h1, h2⟩ => ⟨B, k, h1, h2.below he he.size⟩, ?_, ?_⟩
    · simp only [List.filterMap_cons, List.filterMap_nil, List.nil_append, List.cons_append, List.getElem?_cons_zero, List.getElem?_cons_succ, Sx.Wi, Act.put, List.setIfInBounds_toArray, List.set_cons_zero, List.set_cons_succ]
      intro W hW
      refine Sx.ROp_call (f := 38) (by rfl) (by go_simp) ((toldOf_any A B n c m d pl r Pn Mn _ (by omega) (by omega) (HP.out.below hW hW.size) (HB.out.below hW hW.size) hn hw).mono ?_)
      rintro e W2 ⟨v2, rfl, hn2, hb2⟩
      obtain ⟨A3, c3, hv3, hs3, -⟩ := hn2.lis
      exact ⟨_, rfl, hW.trans (hb2.mono hW.size), hb2, A3, c3, hv3, hs3⟩
    simp only [List.filterMap_cons, List.filterMap_nil, List.nil_append, List.cons_append, List.getElem?_cons_zero, List.getElem?_cons_succ, Sx.Wi, Act.put, List.setIfInBounds_toArray, List.set_cons_zero, List.set_cons_succ]
    refine ⟨fun v _ => v = .int .i64 (needOf Pn Mn (toldL Pn Mn pl r) : Nat), fun _ _ _ _ _ _ h => h, ?_, ?_⟩
    · simp only [List.filterMap_cons, List.filterMap_nil, List.nil_append, List.cons_append, List.getElem?_cons_zero, List.getElem?_cons_succ, Sx.Wi, Act.put, List.setIfInBounds_toArray, List.set_cons_zero, List.set_cons_succ]
      rintro _ W ⟨hW, A3, c3, rfl, hs3⟩
      refine Sx.ROp_call (f := 80) (by rfl) (by go_simp) ((neededOf_any Pn Mn A3 (toldL Pn Mn pl r).length c3 _ W (by omega) (by omega) hs3 (by have := htl.out; omega)).mono ?_)
      rintro e W4 ⟨rfl, hb4⟩
      exact ⟨_, rfl, hW.trans (hb4.mono hW.size), hb4, rfl⟩
    simp only [List.filterMap_cons, List.filterMap_nil, List.nil_append, List.cons_append, List.getElem?_cons_zero, List.getElem?_cons_succ, Sx.Wi, Act.put, List.setIfInBounds_toArray, List.set_cons_zero, List.set_cons_succ]
    refine ⟨fun v _ => v = .int .i64 (needOf Pn Mn (toldL Pn Mn pl r) : Nat), fun _ _ _ _ _ _ h => h, ?_, ?_⟩
    · simp only [List.filterMap_cons, List.filterMap_nil, List.nil_append, List.cons_append, List.getElem?_cons_zero, List.getElem?_cons_succ, Sx.Wi, Act.put, List.setIfInBounds_toArray, List.set_cons_zero, List.set_cons_succ]
      rintro _ W ⟨hW, rfl⟩
      exact Sx.ROp_val _ (by rfl) (by go_simp) hW rfl
    simp only [List.filterMap_cons, List.filterMap_nil, List.nil_append, List.cons_append, List.getElem?_cons_zero, List.getElem?_cons_succ, Sx.Wi, Act.put, List.setIfInBounds_toArray, List.set_cons_zero, List.set_cons_succ]
    refine ⟨fun v _ => v = .int .i64 0, fun _ _ _ _ _ _ h => h, ?_, ?_⟩
    · simp only [List.filterMap_cons, List.filterMap_nil, List.nil_append, List.cons_append, List.getElem?_cons_zero, List.getElem?_cons_succ, Sx.Wi, Act.put, List.setIfInBounds_toArray, List.set_cons_zero, List.set_cons_succ]
      intro W hW
      exact Sx.ROp_val _ (by rfl) (by go_simp) hW rfl
    simp only [List.filterMap_cons, List.filterMap_nil, List.nil_append, List.cons_append, List.getElem?_cons_zero, List.getElem?_cons_succ, Sx.Wi, Act.put, List.setIfInBounds_toArray, List.set_cons_zero, List.set_cons_succ]
    rintro _ _ _ _ W4 ⟨⟨⟨⟨hbw4, A3, c3, rfl, -⟩, rfl⟩, rfl⟩, rfl⟩
    rw [← hE1.out]
    go_wp2
    refine bodyPost_ret (v := .tuple #[.int .i64 (needV Pn Mn pl r), .int .i64 0]) (by first | (simp [results, Try.results33, go_sem]; done) | (simp [results, Try.results33, go_sem, *]; done) | (simp [results, Try.results33, go_sem, World.cell?_setCell_same', *]; done) | (simp [results, Try.results33, go_sem]; first | exact ⟨rfl, rfl⟩ | rfl)) rfl ⟨by rw [Hc.out], hbel.trans (hbw4.mono hsz)⟩
  · have hc0 : leftE P M pl r ≠ 0 := by simpa using hc
    have hE : Hid (needV P M pl r = 0) := hid (if_pos hc0)
    have Hc := hid hc
    have hcc := hc
    clear hc0 hc
    go_enter Try.func33, Try.ntmps33
    go_wp2_with (fail)
    refine (leftErr_any A B n c m d pl r _ _ _ (HP.out.below (by repeat' (first | with_reducible assumption | with_reducible exact Below.refl _ _ | refine Below.alloc ?_ ?_ _ | refine Below.setCell ?_ ?_ _ | refine Below.drew ?_ | refine below_drewN ?_ _ | (simp; done) | (simp; omega) | omega)) (by first | (simp; done) | (simp; omega) | omega)) (HB.out.below (by repeat' (first | with_reducible assumption | with_reducible exact Below.refl _ _ | refine Below.alloc ?_ ?_ _ | refine Below.setCell ?_ ?_ _ | refine Below.drew ?_ | refine below_drewN ?_ _ | (simp; done) | (simp; omega) | omega)) (by first | (simp; done) | (simp; omega) | omega)) hn hw).mono ?_
    rintro e W1 ⟨rfl, hb⟩
    have hst : Below W0.heap.size W0 W1 := Below.trans (by repeat' (first | with_reducible assumption | with_reducible exact Below.refl _ _ | refine Below.alloc ?_ ?_ _ | refine Below.setCell ?_ ?_ _ | refine Below.drew ?_ | refine below_drewN ?_ _ | (simp; done) | (simp; omega) | omega)) (hb.mono (by first | (simp; done) | (simp; omega) | omega))
    replace hbel := hbel.trans (hst.mono hsz)
    replace hsz := hbel.size
    replace bB := bB.below hst bB.lt
    clear p0 p1 lB
    have p0 := bB.cell 0
    have p1 := bB.cell 1
    have lB := bB.lt
    try clear hWb
    replace HP := hid (HP.out.below hst hst.size)
    replace HB := hid (HB.out.below hst hst.size)
    clear hb hst
    obtain ⟨W0, rfl⟩ : ∃ W0 : World, W0 = W1 := ⟨_, rfl⟩
    go_wp2_with (fail)
    refine (leftErr_any A B n c m d pl r _ _ _ (HP.out.below (by repeat' (first | with_reducible assumption | with_reducible exact Below.refl _ _ | refine Below.alloc ?_ ?_ _ | refine Below.setCell ?_ ?_ _ | refine Below.drew ?_ | refine below_drewN ?_ _ | (simp; done) | (simp; omega) | omega)) (by first | (simp; done) | (simp; omega) | omega)) (HB.out.below (by repeat' (first | with_reducible assumption | with_reducible exact Below.refl _ _ | refine Below.alloc ?_ ?_ _ | refine Below.setCell ?_ ?_ _ | refine Below.drew ?_ | refine below_drewN ?_ _ | (simp; done) | (simp; omega) | omega)) (by first | (simp; done) | (simp; omega) | omega)) hn hw).mono ?_
    rintro e W1 ⟨rfl, hb⟩
    have hst : Below W0.heap.size W0 W1 := Below.trans (by repeat' (first | with_reducible assumption | with_reducible exact Below.refl _ _ | refine Below.alloc ?_ ?_ _ | refine Below.setCell ?_ ?_ _ | refine Below.drew ?_ | refine below_drewN ?_ _ | (simp; done) | (simp; omega) | omega)) (hb.mono (by first | (simp; done) | (simp; omega) | omega))
    replace hbel := hbel.trans (hst.mono hsz)
    replace hsz := hbel.size
    replace bB := bB.below hst bB.lt
    clear p0 p1 lB
    have p0 := bB.cell 0
    have p1 := bB.cell 1
    have lB := bB.lt
    try clear hWb
    replace HP := hid (HP.out.below hst hst.size)
    replace HB := hid (HB.out.below hst hst.size)
    clear hb hst
    obtain ⟨W0, rfl⟩ : ∃ W0 : World, W0 = W1 := ⟨_, rfl⟩
    go_wp2
    refine bodyPost_ret (v := .tuple #[.int .i64 0, .int .i64 (leftE P M pl r)]) (by first | (simp [results, Try.results33, go_sem]; done) | (simp [results, Try.results33, go_sem, *]; done) | (simp [results, Try.results33, go_sem, World.cell?_setCell_same', *]; done) | (simp [results, Try.results33, go_sem]; first | exact ⟨rfl, rfl⟩ | rfl)) rfl ⟨by rw [hE.out], hbel⟩
/-- A list of lists in memory whose lists all lie below. -/
def LiT (w : World) (B : Nat) (A : Option Addr) (n : Nat) (ls : List (List Int)) : Prop :=
  LiS w B A n ls ∧ ∀ k, k < n → ∀ b off A' m c, A = some ⟨b, off, none⟩ → w.cell? ⟨b, off + k, none⟩ = some (.slice A' m c) → ∀ b' off', A' = some ⟨b', off', none⟩ → b' < B
theorem LiT.below {w w' : World} {B B' n : Nat} {A : Option Addr} {ls : List (List Int)} (h : LiT w B A n ls) (hb : Below B w w') (hB : B ≤ B') : LiT w' B' A n ls := by
  refine ⟨h.1.below hb hB, fun k hk b off A' m c hA hc b' off' hA' => ?_⟩
  obtain ⟨b1, off1, l, A1, m1, c1, e, hb1, -⟩ := h.1.at_ hk
  rw [hA] at e; cases e
  rw [(bcell hb).1 b (off + k) hb1] at hc
  exact Nat.lt_of_lt_of_le (h.2 k hk b off A' m c hA hc b' off' hA') hB
theorem LiT.at_ {w : World} {B n : Nat} {A : Option Addr} {ls : List (List Int)} (h : LiT w B A n ls) {k : Nat} (hk : k < n) : ∃ b off l A' m c', A = some ⟨b, off, none⟩ ∧ b < B ∧ ls[k]? = some l ∧ w.cell? ⟨b, off + k, none⟩ = some (.slice A' m c') ∧ InS w B A' m l ∧ ∀ b' off', A' = some ⟨b', off', none⟩ → b' < B := by
  obtain ⟨b1, off1, l, A1, m1, c1, e, hb1, h1, h2, h3⟩ := h.1.at_ hk
  exact ⟨b1, off1, l, A1, m1, c1, e, hb1, h1, h2, h3, h.2 k hk b1 off1 A1 m1 c1 e h2⟩
theorem NewLi.lit {w : World} {base : Nat} {v : Value} {ls : List (List Int)} (h : NewLi w base v ls) : ∃ A c, v = .slice A ls.length c ∧ LiT w w.heap.size A ls.length ls := by
  obtain ⟨A, c, rfl, h1, -⟩ := h.lis
  refine ⟨A, c, rfl, h1, fun k hk b off A' m c' hA hc b' off' hA' => ?_⟩
  obtain ⟨g, c0, l, A1, m1, c1, e, -, h3, h4, h5, h6, h7⟩ := h.at_ hk
  cases e
  cases hA
  rw [Nat.zero_add, h5] at hc
  cases hc
  exact h7 b' off' hA'
/-- Those of some cases that a rod meets, or not. -/
def partL (sm : List (List Int)) (rod : List Int) (b : Bool) : List (List Int) := sm.filter fun c => meet c rod == b
def okP (P M : Nat) (sm : List (List Int)) (rod : List Int) (b : Bool) : Prop := (partL sm rod b).length = 0 ∨ needOf P M (partL sm rod b) < needOf P M sm
def divB (P M : Nat) (sm : List (List Int)) (rod : List Int) : Bool := ((partL sm rod false).length == 0 || decide (needOf P M (partL sm rod false) < needOf P M sm)) && ((partL sm rod true).length == 0 || decide (needOf P M (partL sm rod true) < needOf P M sm))
theorem divB_t {P M : Nat} {sm : List (List Int)} {rod : List Int} : divB P M sm rod = true ↔ okP P M sm rod false ∧ okP P M sm rod true := by
  unfold divB okP
  simp only [Bool.and_eq_true, Bool.or_eq_true, beq_iff_eq, decide_eq_true_eq]
theorem divB_f {P M : Nat} {sm : List (List Int)} {rod : List Int} (b : Bool) (h : ¬ okP P M sm rod b) : divB P M sm rod = false := by
  cases hd : divB P M sm rod
  · rfl
  · obtain ⟨h1, h2⟩ := divB_t.1 hd
    cases b
    · exact absurd h1 h
    · exact absurd h2 h
theorem needOf_le {P M : Nat} (hP : P ≤ 5) (sm : List (List Int)) : needOf P M sm ≤ 16 := Nat.le_trans (need_le _ _ _) (cases_len5 hP)
set_option maxRecDepth 10000 in
set_option maxHeartbeats 3000000 in
theorem divides_any (A B : Option Addr) (n c m d P M : Nat) (sm : List (List Int)) (rod : List Int) (w : World) (hP : P ≤ 5) (hM : M ≤ 2) (hp : LiT w w.heap.size A n sm) (hb : InS w w.heap.size B m rod) (hn : n ≤ 1000) (hw : ∀ l ∈ sm, l.length ≤ 12) (hm : m ≤ 1000000) :
    Calls Try.prog 37 #[.agg #[.int .i64 (P : Int), .int .i64 (M : Int)], .slice A n c, .slice B m d] w fun e w' => e = .returned (.bool (divB P M sm rod)) ∧ Below w.heap.size w w' := by
  have hlen := hid hp.1.1
  obtain ⟨W0, hWb⟩ : ∃ W0, w.alloc (.cells #[.int .i64 (P : Int), .int .i64 (M : Int)] 23) = W0 := ⟨_, rfl⟩
  have bB : Blk W0 w.heap.size 23 #[.int .i64 (P : Int), .int .i64 (M : Int)] := by rw [← hWb]; exact Blk.new' rfl
  have hbel : Below w.heap.size w W0 := by rw [← hWb]; exact (Below.refl _ _).alloc (Nat.le_refl _) _
  have hsz := hbel.size
  have lB := bB.lt
  have p0 := bB.cell 0
  have p1 := bB.cell 1
  have HP := hid (hp.below hbel hsz)
  clear hp
  have HB := hid (hb.below hbel hsz)
  clear hb
  go_enter Try.func37, Try.ntmps37
  go_wp2_with (fail)
  refine (neededOf_any P M A n c sm _ hP hM (HP.out.1.below (by repeat' (first | with_reducible assumption | with_reducible exact Below.refl _ _ | refine Below.alloc ?_ ?_ _ | refine Below.setCell ?_ ?_ _ | refine Below.drew ?_ | refine below_drewN ?_ _ | (simp; done) | (simp; omega) | omega)) (by first | (simp; done) | (simp; omega) | omega)) (by omega)).mono ?_
  rintro e W1 ⟨rfl, hb⟩
  have hst : Below W0.heap.size W0 W1 := Below.trans (by repeat' (first | with_reducible assumption | with_reducible exact Below.refl _ _ | refine Below.alloc ?_ ?_ _ | refine Below.setCell ?_ ?_ _ | refine Below.drew ?_ | refine below_drewN ?_ _ | (simp; done) | (simp; omega) | omega)) (hb.mono (by first | (simp; done) | (simp; omega) | omega))
  replace hbel := hbel.trans (hst.mono hsz)
  replace hsz := hbel.size
  replace bB := bB.below hst bB.lt
  clear p0 p1 lB
  have p0 := bB.cell 0
  have p1 := bB.cell 1
  have lB := bB.lt
  try clear hWb
  replace HP := hid (HP.out.below hst hst.size)
  replace HB := hid (HB.out.below hst hst.size)
  clear hb hst
  obtain ⟨W0, rfl⟩ : ∃ W0 : World, W0 = W1 := ⟨_, rfl⟩
  have HPP := hid HP.out
  have HBB := hid HB.out
  have HBX := hid bB
  obtain ⟨nd, hnd⟩ : ∃ nd, needOf P M sm = nd := ⟨_, rfl⟩
  have hnd16 : nd ≤ 16 := by rw [← hnd]; exact needOf_le hP sm
  have Hnd := hid hnd
  rw [hnd]
  clear hnd
  go_wp2_with (fail)
  clear p0 p1 lB bB
  go_loopw [8] (fun i wr => ∃ k : Nat, k ≤ 2 ∧ i = .int .i64 k ∧ Below W0.heap.size W0 wr ∧ Hid ((1 ≤ k → okP P M sm rod false) ∧ (2 ≤ k → okP P M sm rod true))) (fun i _ => 2 - (intOf i).toNat)
  case atStart => exact ⟨0, by omega, rfl, Below.refl _ _, hid ⟨fun h => by omega, fun h => by omega⟩⟩
  case round =>
    obtain ⟨k, hk2, rfl, hbw0, hok⟩ := hrel
    by_cases hlt : k < 2
    · have hltk : (k : Int) < 2 := by omega
      have Hbw0 := hid hbw0
      clear hbw0
      obtain ⟨b, hbk⟩ : ∃ b, ((k : Int) == 1) = b := ⟨_, rfl⟩
      go_wp2_with (fail)
      go_loopw [9, 10] (fun v i wr => ∃ j : Nat, j ≤ n ∧ i = .int .i64 j ∧ Below W0.heap.size W0 wr ∧ Hid (NewLi wr W0.heap.size v (partL (sm.take j) rod b))) (fun _ i _ => n - (intOf i).toNat)
      case atStart => exact ⟨0, by omega, rfl, Hbw0.out, hid (NewLi.nil _ _)⟩
      case round =>
        clear Hbw0
        obtain ⟨j, hj2, rfl, hbw, hown⟩ := hrel
        have hszw := hbw.size
        by_cases hltj : j < n
        · have hltj2 : (j : Int) < n := by omega
          obtain ⟨g, off, x, A2, m2, c2, rfl, hg, hx, hcj, hinj, hbd⟩ := HPP.out.at_ hltj
          have q0 := ((bcell hbw).1 g (off + j) hg).trans hcj
          have lg : g < wr.heap.size := by omega
          have hm2 : m2 ≤ 12 := by have := hinj.len; have := hw x (List.mem_of_getElem? hx); omega
          have Hin := hid hinj
          have Hbd := hid hbd
          have hst := hid (told_take (q := fun c => meet c rod == b) hx)
          have hfl : Hid ((partL (sm.take j) rod b).length ≤ 1000) := hid (by
            have h1 := List.length_filter_le (fun c => meet c rod == b) (sm.take j)
            have h2 := List.length_take_le j sm
            unfold partL; omega)
          obtain ⟨bv, hbv⟩ : ∃ bv, meet x rod = bv := ⟨_, rfl⟩
          have Hbv := hid hbv
          simp only [hbv] at hst
          clear hcj hinj hbd hx hbv
          obtain ⟨be, hbe⟩ : ∃ be, (bv == b) = be := ⟨_, rfl⟩
          rw [hbe] at hst
          cases be
          · go_wp2_with (go_at_call 85; refine (meet_any A2 B m2 c2 m d x rod _ (Hin.out.below hbw hszw) (HBB.out.below hbw hszw) (by omega) hm).mono ?_; rw [Hbv.out]; rintro e w1 ⟨rfl, rfl⟩)
            refine ⟨⟨j + 1, by omega, by go_num, hbw, hid ?_⟩, by simp [intOf]; omega⟩
            unfold partL
            rw [hst.out]
            simp only [Bool.false_eq_true, if_false, List.append_nil]
            exact hown.out
          · go_wp2_with (first | (go_at_call 85; refine (meet_any A2 B m2 c2 m d x rod _ (Hin.out.below hbw hszw) (HBB.out.below hbw hszw) (by omega) hm).mono ?_; rw [Hbv.out]; rintro e w1 ⟨rfl, rfl⟩) | (at_builtin; refine newLi_append rfl (by rfl) _ _ rfl W0.heap.size _ _ rfl (hown.out.below ((Below.refl _ _).alloc (Nat.le_refl _) (.cells #[.slice A2 m2 c2] 25))) wr.heap.size A2 m2 c2 x rfl (Blk.new' rfl) ((Hin.out.below hbw hszw).alloc' _) (fun b off e => ⟨(by have := Hbd.out b off e; simp; omega), fun e' => (by have := (hown.out.own_lt b e').1; have := Hbd.out b off e; omega)⟩) (by have := hfl.out; omega) (by simp; omega) ?_; intro v4 w4 hn4 hg4 hat4; have hb4 : Below W0.heap.size W0 w4 := (hbw.alloc hszw _).grown hg4 (by simp; omega) (fun r hr => (hown.out.own_lt r hr).1)))
            have hn5 := hid (show NewLi w4 W0.heap.size v4 (partL (sm.take (j + 1)) rod b) by unfold partL; rw [hst.out]; simp only [if_true]; exact hn4)
            (first | exact ⟨⟨j + 1, by omega, by go_num, hb4, hn5⟩, (by first | (simp [intOf]; omega) | (simp [intOf]; done))⟩ | (refine ⟨?_, ?_⟩; (focus ((repeat apply Exists.intro); refine ⟨?_, rfl⟩; exact ⟨j + 1, by omega, by go_num, hb4, hn5⟩)); (first | (simp [intOf]; omega) | (simp [intOf]; done))))
        · obtain rfl : j = n := by omega
          rw [show sm.take j = sm by rw [← hlen.out, List.take_length]] at hown
          have hnew : okP P M sm rod b → Hid ((1 ≤ k + 1 → okP P M sm rod false) ∧ (2 ≤ k + 1 → okP P M sm rod true)) := fun h => hid (by
            have h1 : k = 0 ∨ k = 1 := by omega
            rcases h1 with rfl | rfl
            · have : b = false := by rw [← hbk]; decide
              subst this
              exact ⟨fun _ => h, fun h => by omega⟩
            · have : b = true := by rw [← hbk]; decide
              subst this
              exact ⟨fun _ => hok.out.1 (by omega), fun _ => h⟩)
          have hpl : (partL sm rod b).length ≤ 1000 := by
            have h1 := List.length_filter_le (fun c => meet c rod == b) sm
            have h2 := hlen.out
            unfold partL; omega
          have hbad := hid (divB_f (P := P) (M := M) (sm := sm) (rod := rod) b)
          unfold okP at hbad
          obtain ⟨PL, hPL⟩ : ∃ PL, partL sm rod b = PL := ⟨_, rfl⟩
          replace hnew : (PL.length = 0 ∨ needOf P M PL < nd) → Hid ((1 ≤ k + 1 → okP P M sm rod false) ∧ (2 ≤ k + 1 → okP P M sm rod true)) := fun h => hnew (by unfold okP; rw [hPL, Hnd.out]; exact h)
          rw [hPL] at hown hbad hpl
          obtain ⟨A3, c3, hv3, hLi3, -⟩ := hown.out.lis
          subst hv3
          have HL3 := hid hLi3
          have Hok := hok
          clear hPL hLi3 hown hok hbk
          obtain ⟨pn, hpn⟩ : ∃ pn, PL.length = pn := ⟨_, rfl⟩
          rw [hpn] at HL3 hnew hbad hpl ⊢
          rw [Hnd.out] at hbad
          have bB := HBX.out.below hbw HBX.out.lt
          have p0 := bB.cell 0
          have p1 := bB.cell 1
          have lB := bB.lt
          clear hpn
          by_cases hp0 : pn = 0
          · subst hp0
            have hh := hnew (.inl rfl)
            clear hnew hbad
            go_wp2
            exact ⟨⟨k + 1, by omega, by go_num, hbw, hh⟩, by simp [intOf]; omega⟩
          · have hpz : (0 : Int) < pn := by omega
            obtain ⟨nd2, hnd2⟩ : ∃ nd2, needOf P M PL = nd2 := ⟨_, rfl⟩
            rw [hnd2] at hnew hbad
            have Hnd2 := hid hnd2
            clear hnd2
            by_cases hlt2 : nd2 < nd
            · have hlt3 : ¬ (nd : Int) ≤ nd2 := by omega
              have hh := hnew (.inr hlt2)
              clear hnew hbad
              go_wp2_with (go_at_call 80; refine (neededOf_any P M A3 pn c3 PL wr hP hM HL3.out (by omega)).mono ?_; rw [Hnd2.out]; rintro e w1 ⟨rfl, hb1⟩)
              exact ⟨⟨k + 1, by omega, by go_num, hbw.trans (hb1.mono hszw), hh⟩, by simp [intOf]; omega⟩
            · have hlt3 : (nd : Int) ≤ nd2 := by omega
              have hD := hid (hbad.out (by omega))
              clear hnew hbad
              go_wp2_with (go_at_call 80; refine (neededOf_any P M A3 pn c3 PL wr hP hM HL3.out (by omega)).mono ?_; rw [Hnd2.out]; rintro e w1 ⟨rfl, hb1⟩)
              refine bodyPost_ret (v := .bool false) (by first | (simp [results, Try.results37, go_sem]; done) | (simp [results, Try.results37, go_sem, *]; done) | (simp [results, Try.results37, go_sem, World.cell?_setCell_same', *]; done) | (simp [results, Try.results37, go_sem]; first | exact ⟨rfl, rfl⟩ | rfl)) rfl ⟨by rw [hD.out], hbel.trans ((hbw.trans (hb1.mono hszw)).mono hsz)⟩
    · obtain rfl : k = 2 := by omega
      have hD : Hid (divB P M sm rod = true) := hid (divB_t.2 ⟨hok.out.1 (by omega), hok.out.2 (by omega)⟩)
      go_wp2
      refine bodyPost_ret (v := .bool true) (by first | (simp [results, Try.results37, go_sem]; done) | (simp [results, Try.results37, go_sem, *]; done) | (simp [results, Try.results37, go_sem, World.cell?_setCell_same', *]; done) | (simp [results, Try.results37, go_sem]; first | exact ⟨rfl, rfl⟩ | rfl)) rfl ⟨by rw [hD.out], hbel.trans (hbw0.mono hsz)⟩
end Go.Proofs.Ytpgdfipikfbjeaa
/- Words over what a range-func keeps. Over any program. -/
namespace Go.Proofs.Ytpgdfipikfbjeaa
open Go.RowKit
theorem KpG.ownk {n₀ : Nat} {G : Nat → Prop} {A X Y : World} {row : Option Nat} (h : KpG n₀ G A X) (hg : X.grownBy Y row) (hr : ∀ r, row = some r → n₀ ≤ r) (hn : n₀ ≤ A.heap.size) : KpG n₀ G A Y :=
  ⟨Nat.le_trans h.1 hg.size, fun k hk hG => (hg.block k (by have := h.1; omega) (fun e => by have := hr k e.symm; omega)).trans (h.2 k hk hG)⟩
theorem KpG.blk {n₀ : Nat} {G : Nat → Prop} {A W : World} {g t : Nat} {cs : Array Value} (h : KpG n₀ G A W) (hb : Blk A g t cs) (hg : g < n₀) (hG : ¬ G g) : Blk W g t cs := (h.2 g hg hG).trans hb
theorem KpG.sl {n₀ : Nat} {G : Nat → Prop} {A W : World} {B s n : Nat} {a : Option Addr} {xs : List Value} (h : KpG n₀ G A W) (hs : Sl A B s a n xs) (hB : B ≤ n₀) (hG : ∀ k, k < B → ¬ G k) : Sl W B s a n xs :=
  hs.keep fun p hp => h.cell (by omega) (hG _ hp)
/-! Marks that a loop's rounds leave, each by a range over a function of its own. -/
def Marks (B M : Nat) (W : World) (ds : List Deferred) : Prop := ∃ Ds : List Nat, ds = Ds.map markOf ∧ Ds.Nodup ∧ ∀ D ∈ Ds, B ≤ D ∧ D < M ∧ W.heap[D]? = some (.deferred (some []))
theorem Marks.nil (B M : Nat) (W : World) : Marks B M W [] := ⟨[], rfl, List.nodup_nil, fun _ h => by cases h⟩
theorem Marks.step {B M M' : Nat} {W W' : World} {ds : List Deferred} (h : Marks B M W ds) (hM : M ≤ M') (hk : ∀ D, D < M → W.heap[D]? = some (.deferred (some [])) → W'.heap[D]? = some (.deferred (some []))) : Marks B M' W' ds := by
  obtain ⟨Ds, rfl, h1, h2⟩ := h
  exact ⟨Ds, rfl, h1, fun D hD => ⟨(h2 D hD).1, Nat.lt_of_lt_of_le (h2 D hD).2.1 hM, hk D (h2 D hD).2.1 (h2 D hD).2.2⟩⟩
theorem Marks.below {B M M' : Nat} {W W' : World} {ds : List Deferred} (h : Marks B M W ds) (hb : Below M W W') (hM : M ≤ M') : Marks B M' W' ds := h.step hM fun D hD h0 => (hb.block D hD).trans h0
theorem Marks.kp {B M n₀ : Nat} {G : Nat → Prop} {W W' : World} {ds : List Deferred} (h : Marks B M W ds) (hk : KpG n₀ G W W') (hM : M ≤ n₀) (hG : ∀ D, D < M → W.heap[D]? = some (.deferred (some [])) → ¬ G D) : Marks B M W' ds := h.step (Nat.le_refl _) fun D hD h0 => (hk.2 D (by omega) (hG D hD h0)).trans h0
theorem Marks.setCell {B M g t : Nat} {o : Nat} {cs : Array Value} {W : World} {ds : List Deferred} (h : Marks B M W ds) (hb : Blk W g t cs) (u : Value) : Marks B M (W.setCell ⟨g, o, none⟩ u) ds := h.step (Nat.le_refl _) fun D _ h0 =>
  (Below.heap_setCell _ _ _ _ (fun e => by simp at e; subst e; unfold Blk at hb; rw [hb] at h0; cases h0)).trans h0
theorem Marks.push {B M D : Nat} {W : World} {ds : List Deferred} (h : Marks B M W ds) (hB : B ≤ D) (hM : M ≤ D) (hD : W.heap[D]? = some (.deferred (some []))) : Marks B (D + 1) W ({ target := .collected D, args := #[] } :: ds) := by
  obtain ⟨Ds, rfl, h1, h2⟩ := h
  refine ⟨D :: Ds, rfl, List.nodup_cons.2 ⟨fun hm => by have := (h2 D hm).2.1; omega, h1⟩, fun D' hD' => ?_⟩
  rcases List.mem_cons.1 hD' with rfl | hm
  · exact ⟨hB, by omega, hD⟩
  · have := h2 D' hm
    exact ⟨this.1, by omega, this.2.2⟩
theorem Marks.leaves {B M : Nat} {P : Program} {n : Nat} {fn : Func} {tmps : Array Value} {R : Ending → World → Prop} {W : World} {ds : List Deferred} (h : Marks B M W ds)
    (hR : ∀ Ds w', (∀ D ∈ Ds, B ≤ D) → Off Ds W w' → ∃ v, (results fn tmps).run P w' = .ok v w' ∧ R (.returned v) w') : LeavesInM (Wd none) n P fn tmps R ds .returning W := by
  obtain ⟨Ds, rfl, h1, h2⟩ := h
  exact leavesM_marks Ds W h1 (fun D hD => (h2 D hD).2.2) (fun w' ho => hR Ds w' (fun D hD => (h2 D hD).1) ho)
end Go.Proofs.Ytpgdfipikfbjeaa
/- An append to a slice without room, as one step: what comes lies in a new block. Over any program. -/
namespace Go.Proofs.Ytpgdfipikfbjeaa
open Go.RowKit
section
variable {P : Program} (w : World)
/-- A slice without room: what it reads as. -/
def Full (w : World) (v : Value) (n : Nat) (xs : List Value) : Prop := (n = 0 ∧ v = .slice none 0 0) ∨ ∃ b, v = .slice (some b) n n ∧ ∀ j u, xs[j]? = some u → w.cell? (b.add j) = some u
theorem run_append_cap (base : Nat) (t ty e : TypeId) (i : TypeInfo) (z : Value) (size bytes : Nat) (ht : P.underlying t = some (.slice e)) (hi : P.info? e = some i) (hz : i.zero = some z)
    (hsize : i.size = size) (hby : i.bytes = bytes) (hzs : z.cells.size = size)
    (v : Value) (n : Nat) (xs : List Value) (hxs : xs.length = n * size) (hown : Full w v n xs)
    (a : Addr) (m c : Nat) (news : List Value) (hl : news.length = m * size) (hnews : ∀ j u, news[j]? = some u → w.cell? (a.add j) = some u)
    (hm : 0 < m) (h63 : n + m ≤ maxLen) (hbytes : (n + m) * bytes ≤ 140737488355328) (hbase : base ≤ w.heap.size) :
    ∃ cap w', (Builtin.append_ #[t, t] ty #[v, .slice (some a) m c]).run P w = .ok (.slice (some ⟨w.heap.size, 0, none⟩) (n + m) cap) w' ∧ w'.ownsRow base e size (.slice (some ⟨w.heap.size, 0, none⟩) (n + m) cap) (n + m) (xs ++ news) ∧ w.grownBy w' none ∧ w.heap.size < w'.heap.size := by
  subst hsize
  subst hby
  have hsmall : n + m ≤ 9223372036854775807 := by simp only [maxLen] at h63; omega
  have hlen : (xs ++ news).length = (n + m) * i.size := by rw [List.length_append, hxs, hl, Nat.add_mul]
  have grown : ∀ (old : Nat),
      (w.drew.alloc (.cells (xs.toArray ++ news.toArray ++ Builtin.zeroCells z.cells (grownCap w (n + m) old e - (n + m))) e)).ownsRow base e i.size
        (.slice (some ⟨w.heap.size, 0, none⟩) (n + m) (grownCap w (n + m) old e)) (n + m) (xs ++ news) ∧
      w.grownBy (w.drew.alloc (.cells (xs.toArray ++ news.toArray ++ Builtin.zeroCells z.cells (grownCap w (n + m) old e - (n + m))) e)) none ∧
      w.heap.size < (w.drew.alloc (.cells (xs.toArray ++ news.toArray ++ Builtin.zeroCells z.cells (grownCap w (n + m) old e - (n + m))) e)).heap.size := by
    intro old
    have hge := grownCap_ge w (n + m) old e
    have hcm : grownCap w (n + m) old e ≤ maxLen := grownCap_le_maxLen w (n + m) old e h63
    refine ⟨⟨hlen, .inr ⟨w.heap.size, _, _, rfl, hbase, heap_alloc_new w.drew _, hge, hcm, ?_, ?_⟩⟩, ⟨rfl, rfl, rfl, by simp, fun k hk _ => Below.heap_alloc w.drew _ k hk⟩, by simp⟩
    · simp only [Array.size_append, List.size_toArray, size_zeroCells, hzs, hxs, hl, ← Nat.add_mul]
      congr 1
      omega
    · simp only [Array.toList_append, List.append_assoc]
      rw [← List.append_assoc, ← hlen]
      exact List.take_left
  rcases hown with ⟨rfl, rfl⟩ | ⟨b, rfl, holds⟩
  · have hx : xs = [] := List.eq_nil_of_length_eq_zero (by simpa using hxs)
    subst hx
    have hr := run_append_nil (P := P) w t ty e i z ht hi hz a m c news hl hnews (by omega) (by omega) (by have hb := hbytes; simp only [Nat.zero_add] at hb; omega)
    have hgr := grown 0
    simp only [Nat.zero_add, List.nil_append, Array.empty_append] at hgr ⊢
    exact ⟨_, _, hr, hgr⟩
  · have hr := run_append_grow (P := P) w t ty e i z ht hi hz b n n xs hxs holds a m c news hl hnews (by omega) (by omega) (growslice_fits (by omega) hbytes)
    exact ⟨_, _, hr, grown n⟩
end
theorem wpList_append_cap {P : Program} {w : World} {ops : Array Oper} {rest : List Oper} {o : Oper} {a : Act} {Q : Exit → Act → World → Prop} (hgd : o.guard = none) (s x : Operand) (t : TypeId)
    (ho : o.op = .call { callee := .builtin .append, args := #[s, x], argTypes := #[t, t] })
    (base : Nat) (e : TypeId) (i : TypeInfo) (z : Value) (size bytes : Nat) (ht : P.underlying t = some (.slice e)) (hi : P.info? e = some i) (hz : i.zero = some z)
    (hsize : i.size = size) (hby : i.bytes = bytes) (hzs : z.cells.size = size)
    (v : Value) (n : Nat) (xs : List Value) (hs : a.eval s = v) (hxs : xs.length = n * size) (hown : Full w v n xs)
    (ad : Addr) (m c : Nat) (news : List Value) (hx : a.eval x = .slice (some ad) m c) (hl : news.length = m * size) (hnews : ∀ j u, news[j]? = some u → w.cell? (ad.add j) = some u)
    (hm : 0 < m) (h63 : n + m ≤ maxLen) (hbytes : (n + m) * bytes ≤ 140737488355328) (hbase : base ≤ w.heap.size)
    (h : ∀ cap w', w'.ownsRow base e size (.slice (some ⟨w.heap.size, 0, none⟩) (n + m) cap) (n + m) (xs ++ news) → w.grownBy w' none → w.heap.size < w'.heap.size → wpList P ops Q rest (a.put o.dst (.slice (some ⟨w.heap.size, 0, none⟩) (n + m) cap)) w') : wpList P ops Q (o :: rest) a w := by
  refine wpList_plain hgd fun K hK => ?_
  obtain ⟨cap, w', hr, h2, h3, h4⟩ := run_append_cap (P := P) w base t o.type e i z size bytes ht hi hz hsize hby hzs v n xs hxs hown ad m c news hl hnews hm h63 hbytes hbase
  unfold Oper.wp execOp
  simp only [ho, resolve, invoke, builtin, Sem.run_bind, Sem.run_pure, Result.andThen_ok, List.map_toArray, List.map_cons, List.map_nil, hs, hx, hr]
  exact hK _ _ (h cap w' h2 h3 h4)
theorem wpListIn_append_cap {F : Fence} {d : Nat} {P : Program} {w : World} {ops : Array Oper} {rest : List Oper} {o : Oper} {a : Act} {Q : Exit → Act → World → Prop} (hgd : o.guard = none) (s x : Operand) (t : TypeId)
    (ho : o.op = .call { callee := .builtin .append, args := #[s, x], argTypes := #[t, t] })
    (base : Nat) (e : TypeId) (i : TypeInfo) (z : Value) (size bytes : Nat) (ht : P.underlying t = some (.slice e)) (hi : P.info? e = some i) (hz : i.zero = some z)
    (hsize : i.size = size) (hby : i.bytes = bytes) (hzs : z.cells.size = size)
    (v : Value) (n : Nat) (xs : List Value) (hs : a.eval s = v) (hxs : xs.length = n * size) (hown : Full w v n xs)
    (ad : Addr) (m c : Nat) (news : List Value) (hx : a.eval x = .slice (some ad) m c) (hl : news.length = m * size) (hnews : ∀ j u, news[j]? = some u → w.cell? (ad.add j) = some u)
    (hm : 0 < m) (h63 : n + m ≤ maxLen) (hbytes : (n + m) * bytes ≤ 140737488355328) (hbase : base ≤ w.heap.size)
    (h : ∀ cap w', w'.ownsRow base e size (.slice (some ⟨w.heap.size, 0, none⟩) (n + m) cap) (n + m) (xs ++ news) → w.grownBy w' none → w.heap.size < w'.heap.size → wpListIn F d P ops Q rest (a.put o.dst (.slice (some ⟨w.heap.size, 0, none⟩) (n + m) cap)) w') : wpListIn F d P ops Q (o :: rest) a w := by
  refine wpListIn_plain hgd fun K hK' => ?_
  obtain ⟨cap, w', hrun, r1, r2, r3⟩ := run_append_cap (P := P) w base t o.type e i z size bytes ht hi hz hsize hby hzs v n xs hxs hown ad m c news hl hnews hm h63 hbytes hbase
  unfold Oper.wpIn
  refine ⟨?_, ?_⟩
  · simp [Oper.about, ho, resolve, Target.leads, Sem.run_pure]
  · rw [Oper.semAt_plain F _ _ (by rw [ho]; intro c hc'; cases hc')]
    simp [execOp, ho, resolve, invoke, builtin, hs, hx, hrun, Result.andThen]
    exact hK' _ _ (h cap w' r1 r2 r3)
theorem lupon_append_cap {P : Program} (w : World) {o : Oper} {a : Act} {K : Act → World → Prop} (s x : Operand) (t : TypeId)
    (ho : o.op = .call { callee := .builtin .append, args := #[s, x], argTypes := #[t, t] })
    (base : Nat) (e : TypeId) (i : TypeInfo) (z : Value) (size bytes : Nat) (ht : P.underlying t = some (.slice e)) (hi : P.info? e = some i) (hz : i.zero = some z)
    (hsize : i.size = size) (hby : i.bytes = bytes) (hzs : z.cells.size = size)
    (v : Value) (n : Nat) (xs : List Value) (hs : a.eval s = v) (hxs : xs.length = n * size) (hown : Full w v n xs)
    (ad : Addr) (m c : Nat) (news : List Value) (hx : a.eval x = .slice (some ad) m c) (hl : news.length = m * size) (hnews : ∀ j u, news[j]? = some u → w.cell? (ad.add j) = some u)
    (hm : 0 < m) (h63 : n + m ≤ maxLen) (hbytes : (n + m) * bytes ≤ 140737488355328) (hbase : base ≤ w.heap.size)
    (h : ∀ cap w', w'.ownsRow base e size (.slice (some ⟨w.heap.size, 0, none⟩) (n + m) cap) (n + m) (xs ++ news) → w.grownBy w' none → w.heap.size < w'.heap.size → K (a.put o.dst (.slice (some ⟨w.heap.size, 0, none⟩) (n + m) cap)) w') : LUpon P o a K ((execOp a.eval o).run P w) := by
  obtain ⟨cap, w', hr, h2, h3, h4⟩ := run_append_cap (P := P) w base t o.type e i z size bytes ht hi hz hsize hby hzs v n xs hxs hown ad m c news hl hnews hm h63 hbytes hbase
  unfold execOp
  simp only [ho, resolve, invoke, builtin, Sem.run_bind, Sem.run_pure, Result.andThen_ok, List.map_toArray, List.map_cons, List.map_nil, hs, hx, hr]
  exact h cap w' h2 h3 h4
theorem full_of_ins {w : World} {B n : Nat} {A : Option Addr} {l : List Int} (h : InS w B A n l) (h0 : n = 0 → A = none) : Full w (.slice A n n) n (l.flatMap cI) := by
  rcases Nat.eq_zero_or_pos n with h1 | h1
  · subst h1; rw [h0 rfl]; exact .inl ⟨rfl, rfl⟩
  · obtain ⟨b, off, e, _, hc⟩ := h.2 h1
    subst e
    exact .inr ⟨_, rfl, fun j u hu => by rw [add_at]; exact hc j u hu⟩
theorem below_grown0 {B : Nat} {a w w' : World} (h : Below B a w) (hg : w.grownBy w' none) (hB : B ≤ a.heap.size) : Below B a w' := h.trans ⟨hg.os, hg.tape, hg.output, hg.size, fun k hk => hg.block k (by have := h.size; omega) (by simp)⟩
theorem full_of_own {w : World} {base : Nat} {e : TypeId} {size n c : Nat} {A : Option Addr} {xs : List Value} (h : w.ownsRow base e size (.slice A n c) n xs) : Full w (.slice A n n) n xs := by
  rcases h.2 with ⟨e1, e2⟩ | ⟨g, cap, cur, e1, _⟩
  · cases e1; exact .inl ⟨rfl, rfl⟩
  · cases e1; exact .inr ⟨_, rfl, h.cells (g := g) rfl⟩
end Go.Proofs.Ytpgdfipikfbjeaa
/- A scope in which no goto is met, within a fence. Over any program. -/
namespace Go.Proofs.Ytpgdfipikfbjeaa
open Go.RowKit
section
variable {P : Program} {b : Frame} {a : Act} {k : List Item} {cs : List Frame} {w : World}
theorem stepR_scope {c : Code} : step P (lone (b.atR a (.code (.scope c) :: k)) cs w) = .next (lone (b.atR a (.code c :: .inScope c :: k)) cs w) :=
  step_lone_go (by simp [stepG, stepG.exec, Frame.atR])
theorem stepR_inScope {c : Code} : step P (lone (b.atR a (.inScope c :: k)) cs w) = .next (lone (b.atR a k) cs w) :=
  step_lone_go (by simp [stepG, stepG.exec, Frame.atR])
end
theorem wpIn_scope {F : Fence} {n : Nat} {P : Program} {Q : Exit → Act → World → Prop} {a : Act} {w : World} {c : Code} (h : c.wpIn F n P (Exit.noGoto Q) a w) : (Code.scope c).wpIn F n P Q a w := by
  intro b k cs hro hb hr
  have h0 : (lone (b.atR a (.code (.scope c) :: k)) cs w).fenced P F := fenced_calm hb hr rfl
  obtain ⟨e, a₁, w₁, hq, harr⟩ := h b (.inScope c :: k) cs hro hb hr
  cases e with
  | normal => exact ⟨.normal, a₁, w₁, hq, .head h0 stepR_scope (StepsIn.trans harr (.one (fenced_calm hb hr rfl) stepR_inScope))⟩
  | exit id =>
    have hx : exitTo id (.inScope c :: k) = exitTo id k := by simp [exitTo]
    exact ⟨.exit id, a₁, w₁, hq, fun k' hk => .head h0 stepR_scope (harr.1 k' (by rw [hx]; exact hk)),
      fun hr' hk => let ⟨k₁, h1, h2⟩ := harr.2 hr' (by rw [hx]; exact hk); ⟨k₁, h1, .head h0 stepR_scope h2⟩⟩
  | goto l => exact hq.elim
  | ret => exact ⟨_, a₁, w₁, hq, .of_steps (.one h0 stepR_scope) harr⟩
  | panic ch => exact ⟨_, a₁, w₁, hq, .of_steps (.one h0 stepR_scope) harr⟩
  | outgrown => exact ⟨_, a₁, w₁, hq, .of_steps (.one h0 stepR_scope) harr⟩
end Go.Proofs.Ytpgdfipikfbjeaa
