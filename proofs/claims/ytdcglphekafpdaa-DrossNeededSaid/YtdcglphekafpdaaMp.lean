/- Texts of the proof, laid together by program. -/
import Derived.Test.YtdcglphekafpdaaMm
namespace Go.Proofs.Ytdcglphekafpdaa
open Go.RowKit Go.Shelf
set_option maxRecDepth 100000 in
set_option maxHeartbeats 40000000 in
theorem needed_gt (w : World) (A : Option Addr) (n c : Nat) (row : List Mt) (a b : Int) (sure : Bool) (hr : MtS w w.heap.size A n row) (a0 : 0 ≤ a) (a1 : a ≤ 4294967295) (b0 : 0 ≤ b) (b1 : b ≤ 4294967295) (hck0 : checkRow row = 0) (hab : b % 1000001 < a % 1000001) :
    Calls Try.prog 10 #[.slice A n c, .int .u32 a, .int .u32 b, .bool sure] w fun e w' => e = .returned (.bool true) ∧ Below w.heap.size w w' := by
  have hlen := hr.len
  have HR := hid (fun V (h : Below w.heap.size w V) => hr.below h h.size)
  have h0 : Hid (decide (checkRow row = 0) = true) := hid (decide_eq_true hck0)
  obtain ⟨hk1, hk2, hok⟩ := checkRow_ok hck0
  have hn : n ≤ 12 := by omega
  clear hr hk1 hk2 hlen
  have hPre := hid hck0
  have hOk := hid hok
  clear hck0 hok
  go_enter Try.func10, Try.ntmps10
  go_wp2_with (first | (go_at_call 52; refine (fine_any _ A n c row (HR.out _ ?_)).mono ?_; (· exact (by repeat' (first | with_reducible assumption | with_reducible exact Below.refl _ _ | refine Below.alloc ?_ ?_ _ | refine Below.setCell ?_ ?_ _ | refine Below.drew ?_ | refine below_drewN ?_ _ | (simp; done) | (simp; omega) | omega))); rw [h0.out]; rintro e W1 ⟨rfl, hb⟩; have hbel : Below w.heap.size w W1 := Below.trans (by repeat' (first | with_reducible assumption | with_reducible exact Below.refl _ _ | refine Below.alloc ?_ ?_ _ | refine Below.setCell ?_ ?_ _ | refine Below.drew ?_ | refine below_drewN ?_ _ | (simp; done) | (simp; omega) | omega)) (hb.mono (by first | (simp; done) | (simp; omega) | omega))) | (go_at_call 51; refine (chosen_any _ (by omega) (by omega) _).mono ?_; rintro e W2 ⟨rfl, hw2⟩; subst hw2))
  clear hb
  have hsz : w.heap.size ≤ W1.heap.size := hbel.size
  · have l0 : 0 ≤ b % 1000001 := by omega
    have l1 : b % 1000001 ≤ 1000000 := by omega
    have h0' : 0 ≤ a % 1000001 := by omega
    have h1' : a % 1000001 ≤ 1000000 := by omega
    generalize a % 1000001 = hi at *
    generalize b % 1000001 = lo at *
    have hlh : lo ≤ hi := by omega
    clear hab a0 a1 b0 b1
    cases sure
    · rcases need_cases hPre.out l0 l1 false with ⟨e1, s1, m1, k1⟩ | ⟨e1, s1, k1⟩
      · rcases need_cases hPre.out h0' h1' false with ⟨e2, s2, m2, k2⟩ | ⟨e2, s2, k2⟩
        · have E2 := hid (And.intro s2 e2)
          clear s2 e2
          have hm2 := need_mono hOk.out l0 hlh false k2
          rcases need_cases hPre.out l0 l1 true with ⟨e3, s3, m3, k3⟩ | ⟨e3, s3, k3⟩
          · have E3 := hid (And.intro s3 e3)
            clear s3 e3
            have hm3 := need_sure hOk.out l0 k3
            obtain ⟨L, hL0⟩ : ∃ L, leftOf row ⟨neededAll false lo row, neededAll false lo row⟩ = L := ⟨_, rfl⟩
            have hge : lo ≤ L.hi := by
              have := (left_point (row := row) (x := neededAll false lo row)).2
              rw [hL0] at this
              rw [this]
              exact (neededAll_iff false l0 row hOk.out m1 k1).2 (Int.le_refl _)
            have hlt : ∀ M, 1 ≤ neededAll false lo row → leftOf row ⟨neededAll false lo row - 1, neededAll false lo row - 1⟩ = M → M.hi < lo := by
              intro M h1 hM
              have := (left_point (row := row) (x := neededAll false lo row - 1)).2
              rw [hM] at this
              rw [this]
              exact Int.not_le.1 fun h => absurd ((neededAll_iff false l0 row hOk.out (by omega) (by omega)).1 h) (by omega)
            generalize neededAll false lo row = N at *
            have hL := hid hL0
            have E1 := hid (And.intro s1 e1)
            clear hL0 s1 e1
            by_cases hz : N = 0
            · subst hz
              clear hlt
              go_wp2_with (fail)
              refine (dNeeded_any _ A n c row lo false (HR.out _ (by repeat' (first | with_reducible assumption | with_reducible exact Below.refl _ _ | refine Below.alloc ?_ ?_ _ | refine Below.setCell ?_ ?_ _ | refine Below.drew ?_ | refine below_drewN ?_ _ | (simp; done) | (simp; omega) | omega))) hn).mono ?_
              rw [E1.out.1, E1.out.2]
              rintro e V1 ⟨rfl, hb⟩
              have hbel : Below w.heap.size w V1 := Below.trans (by repeat' (first | with_reducible assumption | with_reducible exact Below.refl _ _ | refine Below.alloc ?_ ?_ _ | refine Below.setCell ?_ ?_ _ | refine Below.drew ?_ | refine below_drewN ?_ _ | (simp; done) | (simp; omega) | omega)) (hb.mono (by first | (simp; done) | (simp; omega) | omega))
              have hsz : w.heap.size ≤ V1.heap.size := hbel.size
              clear hb
              go_wp2_with (fail)
              refine (dNeeded_any _ A n c row hi false (HR.out _ (by repeat' (first | with_reducible assumption | with_reducible exact Below.refl _ _ | refine Below.alloc ?_ ?_ _ | refine Below.setCell ?_ ?_ _ | refine Below.drew ?_ | refine below_drewN ?_ _ | (simp; done) | (simp; omega) | omega))) hn).mono ?_
              rw [E2.out.1, E2.out.2]
              rintro e V2 ⟨rfl, hb⟩
              have hbel : Below w.heap.size w V2 := Below.trans (by repeat' (first | with_reducible assumption | with_reducible exact Below.refl _ _ | refine Below.alloc ?_ ?_ _ | refine Below.setCell ?_ ?_ _ | refine Below.drew ?_ | refine below_drewN ?_ _ | (simp; done) | (simp; omega) | omega)) (hb.mono (by first | (simp; done) | (simp; omega) | omega))
              have hsz : w.heap.size ≤ V2.heap.size := hbel.size
              clear hb
              go_wp2_with (fail)
              refine (dNeeded_any _ A n c row lo true (HR.out _ (by repeat' (first | with_reducible assumption | with_reducible exact Below.refl _ _ | refine Below.alloc ?_ ?_ _ | refine Below.setCell ?_ ?_ _ | refine Below.drew ?_ | refine below_drewN ?_ _ | (simp; done) | (simp; omega) | omega))) hn).mono ?_
              rw [E3.out.1, E3.out.2]
              rintro e V3 ⟨rfl, hb⟩
              have hbel : Below w.heap.size w V3 := Below.trans (by repeat' (first | with_reducible assumption | with_reducible exact Below.refl _ _ | refine Below.alloc ?_ ?_ _ | refine Below.setCell ?_ ?_ _ | refine Below.drew ?_ | refine below_drewN ?_ _ | (simp; done) | (simp; omega) | omega)) (hb.mono (by first | (simp; done) | (simp; omega) | omega))
              have hsz : w.heap.size ≤ V3.heap.size := hbel.size
              clear hb
              go_wp2_with (fail)
              refine (dNeeded_any _ A n c row lo false (HR.out _ (by repeat' (first | with_reducible assumption | with_reducible exact Below.refl _ _ | refine Below.alloc ?_ ?_ _ | refine Below.setCell ?_ ?_ _ | refine Below.drew ?_ | refine below_drewN ?_ _ | (simp; done) | (simp; omega) | omega))) hn).mono ?_
              rw [E1.out.1, E1.out.2]
              rintro e V4 ⟨rfl, hb⟩
              have hbel : Below w.heap.size w V4 := Below.trans (by repeat' (first | with_reducible assumption | with_reducible exact Below.refl _ _ | refine Below.alloc ?_ ?_ _ | refine Below.setCell ?_ ?_ _ | refine Below.drew ?_ | refine below_drewN ?_ _ | (simp; done) | (simp; omega) | omega)) (hb.mono (by first | (simp; done) | (simp; omega) | omega))
              have hsz : w.heap.size ≤ V4.heap.size := hbel.size
              clear hb
              go_wp2_with (fail)
              refine (to_any _ _ _).mono ?_
              rintro e V5 ⟨rfl, hb⟩
              have hbel : Below w.heap.size w V5 := Below.trans (by repeat' (first | with_reducible assumption | with_reducible exact Below.refl _ _ | refine Below.alloc ?_ ?_ _ | refine Below.setCell ?_ ?_ _ | refine Below.drew ?_ | refine below_drewN ?_ _ | (simp; done) | (simp; omega) | omega)) (hb.mono (by first | (simp; done) | (simp; omega) | omega))
              have hsz : w.heap.size ≤ V5.heap.size := hbel.size
              clear hb
              go_wp2_with (fail)
              refine (left53_any _ A n c row ⟨0, 0⟩ (HR.out _ (by repeat' (first | with_reducible assumption | with_reducible exact Below.refl _ _ | refine Below.alloc ?_ ?_ _ | refine Below.setCell ?_ ?_ _ | refine Below.drew ?_ | refine below_drewN ?_ _ | (simp; done) | (simp; omega) | omega))) hPre.out rfl).mono ?_
              rw [hL.out]
              rintro e V6 ⟨rfl, hb⟩
              have hbel : Below w.heap.size w V6 := Below.trans (by repeat' (first | with_reducible assumption | with_reducible exact Below.refl _ _ | refine Below.alloc ?_ ?_ _ | refine Below.setCell ?_ ?_ _ | refine Below.drew ?_ | refine below_drewN ?_ _ | (simp; done) | (simp; omega) | omega)) (hb.mono (by first | (simp; done) | (simp; omega) | omega))
              have hsz : w.heap.size ≤ V6.heap.size := hbel.size
              clear hb
              go_wp2_with (fail)
              refine (works_any _).mono ?_
              rintro e V7 ⟨rfl, hb⟩
              have hbel : Below w.heap.size w V7 := Below.trans (by repeat' (first | with_reducible assumption | with_reducible exact Below.refl _ _ | refine Below.alloc ?_ ?_ _ | refine Below.setCell ?_ ?_ _ | refine Below.drew ?_ | refine below_drewN ?_ _ | (simp; done) | (simp; omega) | omega)) (hb.mono (by first | (simp; done) | (simp; omega) | omega))
              have hsz : w.heap.size ≤ V7.heap.size := hbel.size
              clear hb
              go_wp2
              go_ret
              exact ⟨rfl, hbel⟩
            · obtain ⟨M, hM0⟩ : ∃ M, leftOf row ⟨N - 1, N - 1⟩ = M := ⟨_, rfl⟩
              have hM := hid hM0
              replace hlt := hlt M (by omega) hM0
              clear hM0
              have okN : okR ⟨N, N⟩ 1000000 = true := okR_t.2 ⟨m1, Int.le_refl _, k1⟩
              have okM1 : okR ⟨N - 1, N - 1⟩ 1000000 = true := okR_t.2 ⟨by show 0 ≤ N - 1; omega, Int.le_refl _, by show N - 1 ≤ 1000000; omega⟩
              go_wp2_with (fail)
              refine (dNeeded_any _ A n c row lo false (HR.out _ (by repeat' (first | with_reducible assumption | with_reducible exact Below.refl _ _ | refine Below.alloc ?_ ?_ _ | refine Below.setCell ?_ ?_ _ | refine Below.drew ?_ | refine below_drewN ?_ _ | (simp; done) | (simp; omega) | omega))) hn).mono ?_
              rw [E1.out.1, E1.out.2]
              rintro e V1 ⟨rfl, hb⟩
              have hbel : Below w.heap.size w V1 := Below.trans (by repeat' (first | with_reducible assumption | with_reducible exact Below.refl _ _ | refine Below.alloc ?_ ?_ _ | refine Below.setCell ?_ ?_ _ | refine Below.drew ?_ | refine below_drewN ?_ _ | (simp; done) | (simp; omega) | omega)) (hb.mono (by first | (simp; done) | (simp; omega) | omega))
              have hsz : w.heap.size ≤ V1.heap.size := hbel.size
              clear hb
              go_wp2_with (fail)
              refine (dNeeded_any _ A n c row hi false (HR.out _ (by repeat' (first | with_reducible assumption | with_reducible exact Below.refl _ _ | refine Below.alloc ?_ ?_ _ | refine Below.setCell ?_ ?_ _ | refine Below.drew ?_ | refine below_drewN ?_ _ | (simp; done) | (simp; omega) | omega))) hn).mono ?_
              rw [E2.out.1, E2.out.2]
              rintro e V2 ⟨rfl, hb⟩
              have hbel : Below w.heap.size w V2 := Below.trans (by repeat' (first | with_reducible assumption | with_reducible exact Below.refl _ _ | refine Below.alloc ?_ ?_ _ | refine Below.setCell ?_ ?_ _ | refine Below.drew ?_ | refine below_drewN ?_ _ | (simp; done) | (simp; omega) | omega)) (hb.mono (by first | (simp; done) | (simp; omega) | omega))
              have hsz : w.heap.size ≤ V2.heap.size := hbel.size
              clear hb
              go_wp2_with (fail)
              refine (dNeeded_any _ A n c row lo true (HR.out _ (by repeat' (first | with_reducible assumption | with_reducible exact Below.refl _ _ | refine Below.alloc ?_ ?_ _ | refine Below.setCell ?_ ?_ _ | refine Below.drew ?_ | refine below_drewN ?_ _ | (simp; done) | (simp; omega) | omega))) hn).mono ?_
              rw [E3.out.1, E3.out.2]
              rintro e V3 ⟨rfl, hb⟩
              have hbel : Below w.heap.size w V3 := Below.trans (by repeat' (first | with_reducible assumption | with_reducible exact Below.refl _ _ | refine Below.alloc ?_ ?_ _ | refine Below.setCell ?_ ?_ _ | refine Below.drew ?_ | refine below_drewN ?_ _ | (simp; done) | (simp; omega) | omega)) (hb.mono (by first | (simp; done) | (simp; omega) | omega))
              have hsz : w.heap.size ≤ V3.heap.size := hbel.size
              clear hb
              go_wp2_with (fail)
              refine (dNeeded_any _ A n c row lo false (HR.out _ (by repeat' (first | with_reducible assumption | with_reducible exact Below.refl _ _ | refine Below.alloc ?_ ?_ _ | refine Below.setCell ?_ ?_ _ | refine Below.drew ?_ | refine below_drewN ?_ _ | (simp; done) | (simp; omega) | omega))) hn).mono ?_
              rw [E1.out.1, E1.out.2]
              rintro e V4 ⟨rfl, hb⟩
              have hbel : Below w.heap.size w V4 := Below.trans (by repeat' (first | with_reducible assumption | with_reducible exact Below.refl _ _ | refine Below.alloc ?_ ?_ _ | refine Below.setCell ?_ ?_ _ | refine Below.drew ?_ | refine below_drewN ?_ _ | (simp; done) | (simp; omega) | omega)) (hb.mono (by first | (simp; done) | (simp; omega) | omega))
              have hsz : w.heap.size ≤ V4.heap.size := hbel.size
              clear hb
              go_wp2_with (fail)
              refine (to_any _ _ _).mono ?_
              rintro e V5 ⟨rfl, hb⟩
              have hbel : Below w.heap.size w V5 := Below.trans (by repeat' (first | with_reducible assumption | with_reducible exact Below.refl _ _ | refine Below.alloc ?_ ?_ _ | refine Below.setCell ?_ ?_ _ | refine Below.drew ?_ | refine below_drewN ?_ _ | (simp; done) | (simp; omega) | omega)) (hb.mono (by first | (simp; done) | (simp; omega) | omega))
              have hsz : w.heap.size ≤ V5.heap.size := hbel.size
              clear hb
              go_wp2_with (fail)
              refine (left53_any _ A n c row ⟨N, N⟩ (HR.out _ (by repeat' (first | with_reducible assumption | with_reducible exact Below.refl _ _ | refine Below.alloc ?_ ?_ _ | refine Below.setCell ?_ ?_ _ | refine Below.drew ?_ | refine below_drewN ?_ _ | (simp; done) | (simp; omega) | omega))) hPre.out okN).mono ?_
              rw [hL.out]
              rintro e V6 ⟨rfl, hb⟩
              have hbel : Below w.heap.size w V6 := Below.trans (by repeat' (first | with_reducible assumption | with_reducible exact Below.refl _ _ | refine Below.alloc ?_ ?_ _ | refine Below.setCell ?_ ?_ _ | refine Below.drew ?_ | refine below_drewN ?_ _ | (simp; done) | (simp; omega) | omega)) (hb.mono (by first | (simp; done) | (simp; omega) | omega))
              have hsz : w.heap.size ≤ V6.heap.size := hbel.size
              clear hb
              go_wp2_with (fail)
              refine (to_any _ _ _).mono ?_
              rintro e V7 ⟨rfl, hb⟩
              have hbel : Below w.heap.size w V7 := Below.trans (by repeat' (first | with_reducible assumption | with_reducible exact Below.refl _ _ | refine Below.alloc ?_ ?_ _ | refine Below.setCell ?_ ?_ _ | refine Below.drew ?_ | refine below_drewN ?_ _ | (simp; done) | (simp; omega) | omega)) (hb.mono (by first | (simp; done) | (simp; omega) | omega))
              have hsz : w.heap.size ≤ V7.heap.size := hbel.size
              clear hb
              go_wp2_with (fail)
              refine (left53_any _ A n c row ⟨(N - 1), (N - 1)⟩ (HR.out _ (by repeat' (first | with_reducible assumption | with_reducible exact Below.refl _ _ | refine Below.alloc ?_ ?_ _ | refine Below.setCell ?_ ?_ _ | refine Below.drew ?_ | refine below_drewN ?_ _ | (simp; done) | (simp; omega) | omega))) hPre.out okM1).mono ?_
              rw [hM.out]
              rintro e V8 ⟨rfl, hb⟩
              have hbel : Below w.heap.size w V8 := Below.trans (by repeat' (first | with_reducible assumption | with_reducible exact Below.refl _ _ | refine Below.alloc ?_ ?_ _ | refine Below.setCell ?_ ?_ _ | refine Below.drew ?_ | refine below_drewN ?_ _ | (simp; done) | (simp; omega) | omega)) (hb.mono (by first | (simp; done) | (simp; omega) | omega))
              have hsz : w.heap.size ≤ V8.heap.size := hbel.size
              clear hb
              go_wp2_with (fail)
              refine (works_any _).mono ?_
              rintro e V9 ⟨rfl, hb⟩
              have hbel : Below w.heap.size w V9 := Below.trans (by repeat' (first | with_reducible assumption | with_reducible exact Below.refl _ _ | refine Below.alloc ?_ ?_ _ | refine Below.setCell ?_ ?_ _ | refine Below.drew ?_ | refine below_drewN ?_ _ | (simp; done) | (simp; omega) | omega)) (hb.mono (by first | (simp; done) | (simp; omega) | omega))
              have hsz : w.heap.size ≤ V9.heap.size := hbel.size
              clear hb
              go_wp2
              go_ret
              exact ⟨rfl, hbel⟩
          · have E3 := hid (And.intro s3 e3)
            clear s3 e3
            obtain ⟨L, hL0⟩ : ∃ L, leftOf row ⟨neededAll false lo row, neededAll false lo row⟩ = L := ⟨_, rfl⟩
            have hge : lo ≤ L.hi := by
              have := (left_point (row := row) (x := neededAll false lo row)).2
              rw [hL0] at this
              rw [this]
              exact (neededAll_iff false l0 row hOk.out m1 k1).2 (Int.le_refl _)
            have hlt : ∀ M, 1 ≤ neededAll false lo row → leftOf row ⟨neededAll false lo row - 1, neededAll false lo row - 1⟩ = M → M.hi < lo := by
              intro M h1 hM
              have := (left_point (row := row) (x := neededAll false lo row - 1)).2
              rw [hM] at this
              rw [this]
              exact Int.not_le.1 fun h => absurd ((neededAll_iff false l0 row hOk.out (by omega) (by omega)).1 h) (by omega)
            generalize neededAll false lo row = N at *
            have hL := hid hL0
            have E1 := hid (And.intro s1 e1)
            clear hL0 s1 e1
            by_cases hz : N = 0
            · subst hz
              clear hlt
              go_wp2_with (fail)
              refine (dNeeded_any _ A n c row lo false (HR.out _ (by repeat' (first | with_reducible assumption | with_reducible exact Below.refl _ _ | refine Below.alloc ?_ ?_ _ | refine Below.setCell ?_ ?_ _ | refine Below.drew ?_ | refine below_drewN ?_ _ | (simp; done) | (simp; omega) | omega))) hn).mono ?_
              rw [E1.out.1, E1.out.2]
              rintro e V1 ⟨rfl, hb⟩
              have hbel : Below w.heap.size w V1 := Below.trans (by repeat' (first | with_reducible assumption | with_reducible exact Below.refl _ _ | refine Below.alloc ?_ ?_ _ | refine Below.setCell ?_ ?_ _ | refine Below.drew ?_ | refine below_drewN ?_ _ | (simp; done) | (simp; omega) | omega)) (hb.mono (by first | (simp; done) | (simp; omega) | omega))
              have hsz : w.heap.size ≤ V1.heap.size := hbel.size
              clear hb
              go_wp2_with (fail)
              refine (dNeeded_any _ A n c row hi false (HR.out _ (by repeat' (first | with_reducible assumption | with_reducible exact Below.refl _ _ | refine Below.alloc ?_ ?_ _ | refine Below.setCell ?_ ?_ _ | refine Below.drew ?_ | refine below_drewN ?_ _ | (simp; done) | (simp; omega) | omega))) hn).mono ?_
              rw [E2.out.1, E2.out.2]
              rintro e V2 ⟨rfl, hb⟩
              have hbel : Below w.heap.size w V2 := Below.trans (by repeat' (first | with_reducible assumption | with_reducible exact Below.refl _ _ | refine Below.alloc ?_ ?_ _ | refine Below.setCell ?_ ?_ _ | refine Below.drew ?_ | refine below_drewN ?_ _ | (simp; done) | (simp; omega) | omega)) (hb.mono (by first | (simp; done) | (simp; omega) | omega))
              have hsz : w.heap.size ≤ V2.heap.size := hbel.size
              clear hb
              go_wp2_with (fail)
              refine (dNeeded_any _ A n c row lo true (HR.out _ (by repeat' (first | with_reducible assumption | with_reducible exact Below.refl _ _ | refine Below.alloc ?_ ?_ _ | refine Below.setCell ?_ ?_ _ | refine Below.drew ?_ | refine below_drewN ?_ _ | (simp; done) | (simp; omega) | omega))) hn).mono ?_
              rw [E3.out.1, E3.out.2]
              rintro e V3 ⟨rfl, hb⟩
              have hbel : Below w.heap.size w V3 := Below.trans (by repeat' (first | with_reducible assumption | with_reducible exact Below.refl _ _ | refine Below.alloc ?_ ?_ _ | refine Below.setCell ?_ ?_ _ | refine Below.drew ?_ | refine below_drewN ?_ _ | (simp; done) | (simp; omega) | omega)) (hb.mono (by first | (simp; done) | (simp; omega) | omega))
              have hsz : w.heap.size ≤ V3.heap.size := hbel.size
              clear hb
              go_wp2_with (fail)
              refine (dNeeded_any _ A n c row lo false (HR.out _ (by repeat' (first | with_reducible assumption | with_reducible exact Below.refl _ _ | refine Below.alloc ?_ ?_ _ | refine Below.setCell ?_ ?_ _ | refine Below.drew ?_ | refine below_drewN ?_ _ | (simp; done) | (simp; omega) | omega))) hn).mono ?_
              rw [E1.out.1, E1.out.2]
              rintro e V4 ⟨rfl, hb⟩
              have hbel : Below w.heap.size w V4 := Below.trans (by repeat' (first | with_reducible assumption | with_reducible exact Below.refl _ _ | refine Below.alloc ?_ ?_ _ | refine Below.setCell ?_ ?_ _ | refine Below.drew ?_ | refine below_drewN ?_ _ | (simp; done) | (simp; omega) | omega)) (hb.mono (by first | (simp; done) | (simp; omega) | omega))
              have hsz : w.heap.size ≤ V4.heap.size := hbel.size
              clear hb
              go_wp2_with (fail)
              refine (to_any _ _ _).mono ?_
              rintro e V5 ⟨rfl, hb⟩
              have hbel : Below w.heap.size w V5 := Below.trans (by repeat' (first | with_reducible assumption | with_reducible exact Below.refl _ _ | refine Below.alloc ?_ ?_ _ | refine Below.setCell ?_ ?_ _ | refine Below.drew ?_ | refine below_drewN ?_ _ | (simp; done) | (simp; omega) | omega)) (hb.mono (by first | (simp; done) | (simp; omega) | omega))
              have hsz : w.heap.size ≤ V5.heap.size := hbel.size
              clear hb
              go_wp2_with (fail)
              refine (left53_any _ A n c row ⟨0, 0⟩ (HR.out _ (by repeat' (first | with_reducible assumption | with_reducible exact Below.refl _ _ | refine Below.alloc ?_ ?_ _ | refine Below.setCell ?_ ?_ _ | refine Below.drew ?_ | refine below_drewN ?_ _ | (simp; done) | (simp; omega) | omega))) hPre.out rfl).mono ?_
              rw [hL.out]
              rintro e V6 ⟨rfl, hb⟩
              have hbel : Below w.heap.size w V6 := Below.trans (by repeat' (first | with_reducible assumption | with_reducible exact Below.refl _ _ | refine Below.alloc ?_ ?_ _ | refine Below.setCell ?_ ?_ _ | refine Below.drew ?_ | refine below_drewN ?_ _ | (simp; done) | (simp; omega) | omega)) (hb.mono (by first | (simp; done) | (simp; omega) | omega))
              have hsz : w.heap.size ≤ V6.heap.size := hbel.size
              clear hb
              go_wp2_with (fail)
              refine (works_any _).mono ?_
              rintro e V7 ⟨rfl, hb⟩
              have hbel : Below w.heap.size w V7 := Below.trans (by repeat' (first | with_reducible assumption | with_reducible exact Below.refl _ _ | refine Below.alloc ?_ ?_ _ | refine Below.setCell ?_ ?_ _ | refine Below.drew ?_ | refine below_drewN ?_ _ | (simp; done) | (simp; omega) | omega)) (hb.mono (by first | (simp; done) | (simp; omega) | omega))
              have hsz : w.heap.size ≤ V7.heap.size := hbel.size
              clear hb
              go_wp2
              go_ret
              exact ⟨rfl, hbel⟩
            · obtain ⟨M, hM0⟩ : ∃ M, leftOf row ⟨N - 1, N - 1⟩ = M := ⟨_, rfl⟩
              have hM := hid hM0
              replace hlt := hlt M (by omega) hM0
              clear hM0
              have okN : okR ⟨N, N⟩ 1000000 = true := okR_t.2 ⟨m1, Int.le_refl _, k1⟩
              have okM1 : okR ⟨N - 1, N - 1⟩ 1000000 = true := okR_t.2 ⟨by show 0 ≤ N - 1; omega, Int.le_refl _, by show N - 1 ≤ 1000000; omega⟩
              go_wp2_with (fail)
              refine (dNeeded_any _ A n c row lo false (HR.out _ (by repeat' (first | with_reducible assumption | with_reducible exact Below.refl _ _ | refine Below.alloc ?_ ?_ _ | refine Below.setCell ?_ ?_ _ | refine Below.drew ?_ | refine below_drewN ?_ _ | (simp; done) | (simp; omega) | omega))) hn).mono ?_
              rw [E1.out.1, E1.out.2]
              rintro e V1 ⟨rfl, hb⟩
              have hbel : Below w.heap.size w V1 := Below.trans (by repeat' (first | with_reducible assumption | with_reducible exact Below.refl _ _ | refine Below.alloc ?_ ?_ _ | refine Below.setCell ?_ ?_ _ | refine Below.drew ?_ | refine below_drewN ?_ _ | (simp; done) | (simp; omega) | omega)) (hb.mono (by first | (simp; done) | (simp; omega) | omega))
              have hsz : w.heap.size ≤ V1.heap.size := hbel.size
              clear hb
              go_wp2_with (fail)
              refine (dNeeded_any _ A n c row hi false (HR.out _ (by repeat' (first | with_reducible assumption | with_reducible exact Below.refl _ _ | refine Below.alloc ?_ ?_ _ | refine Below.setCell ?_ ?_ _ | refine Below.drew ?_ | refine below_drewN ?_ _ | (simp; done) | (simp; omega) | omega))) hn).mono ?_
              rw [E2.out.1, E2.out.2]
              rintro e V2 ⟨rfl, hb⟩
              have hbel : Below w.heap.size w V2 := Below.trans (by repeat' (first | with_reducible assumption | with_reducible exact Below.refl _ _ | refine Below.alloc ?_ ?_ _ | refine Below.setCell ?_ ?_ _ | refine Below.drew ?_ | refine below_drewN ?_ _ | (simp; done) | (simp; omega) | omega)) (hb.mono (by first | (simp; done) | (simp; omega) | omega))
              have hsz : w.heap.size ≤ V2.heap.size := hbel.size
              clear hb
              go_wp2_with (fail)
              refine (dNeeded_any _ A n c row lo true (HR.out _ (by repeat' (first | with_reducible assumption | with_reducible exact Below.refl _ _ | refine Below.alloc ?_ ?_ _ | refine Below.setCell ?_ ?_ _ | refine Below.drew ?_ | refine below_drewN ?_ _ | (simp; done) | (simp; omega) | omega))) hn).mono ?_
              rw [E3.out.1, E3.out.2]
              rintro e V3 ⟨rfl, hb⟩
              have hbel : Below w.heap.size w V3 := Below.trans (by repeat' (first | with_reducible assumption | with_reducible exact Below.refl _ _ | refine Below.alloc ?_ ?_ _ | refine Below.setCell ?_ ?_ _ | refine Below.drew ?_ | refine below_drewN ?_ _ | (simp; done) | (simp; omega) | omega)) (hb.mono (by first | (simp; done) | (simp; omega) | omega))
              have hsz : w.heap.size ≤ V3.heap.size := hbel.size
              clear hb
              go_wp2_with (fail)
              refine (dNeeded_any _ A n c row lo false (HR.out _ (by repeat' (first | with_reducible assumption | with_reducible exact Below.refl _ _ | refine Below.alloc ?_ ?_ _ | refine Below.setCell ?_ ?_ _ | refine Below.drew ?_ | refine below_drewN ?_ _ | (simp; done) | (simp; omega) | omega))) hn).mono ?_
              rw [E1.out.1, E1.out.2]
              rintro e V4 ⟨rfl, hb⟩
              have hbel : Below w.heap.size w V4 := Below.trans (by repeat' (first | with_reducible assumption | with_reducible exact Below.refl _ _ | refine Below.alloc ?_ ?_ _ | refine Below.setCell ?_ ?_ _ | refine Below.drew ?_ | refine below_drewN ?_ _ | (simp; done) | (simp; omega) | omega)) (hb.mono (by first | (simp; done) | (simp; omega) | omega))
              have hsz : w.heap.size ≤ V4.heap.size := hbel.size
              clear hb
              go_wp2_with (fail)
              refine (to_any _ _ _).mono ?_
              rintro e V5 ⟨rfl, hb⟩
              have hbel : Below w.heap.size w V5 := Below.trans (by repeat' (first | with_reducible assumption | with_reducible exact Below.refl _ _ | refine Below.alloc ?_ ?_ _ | refine Below.setCell ?_ ?_ _ | refine Below.drew ?_ | refine below_drewN ?_ _ | (simp; done) | (simp; omega) | omega)) (hb.mono (by first | (simp; done) | (simp; omega) | omega))
              have hsz : w.heap.size ≤ V5.heap.size := hbel.size
              clear hb
              go_wp2_with (fail)
              refine (left53_any _ A n c row ⟨N, N⟩ (HR.out _ (by repeat' (first | with_reducible assumption | with_reducible exact Below.refl _ _ | refine Below.alloc ?_ ?_ _ | refine Below.setCell ?_ ?_ _ | refine Below.drew ?_ | refine below_drewN ?_ _ | (simp; done) | (simp; omega) | omega))) hPre.out okN).mono ?_
              rw [hL.out]
              rintro e V6 ⟨rfl, hb⟩
              have hbel : Below w.heap.size w V6 := Below.trans (by repeat' (first | with_reducible assumption | with_reducible exact Below.refl _ _ | refine Below.alloc ?_ ?_ _ | refine Below.setCell ?_ ?_ _ | refine Below.drew ?_ | refine below_drewN ?_ _ | (simp; done) | (simp; omega) | omega)) (hb.mono (by first | (simp; done) | (simp; omega) | omega))
              have hsz : w.heap.size ≤ V6.heap.size := hbel.size
              clear hb
              go_wp2_with (fail)
              refine (to_any _ _ _).mono ?_
              rintro e V7 ⟨rfl, hb⟩
              have hbel : Below w.heap.size w V7 := Below.trans (by repeat' (first | with_reducible assumption | with_reducible exact Below.refl _ _ | refine Below.alloc ?_ ?_ _ | refine Below.setCell ?_ ?_ _ | refine Below.drew ?_ | refine below_drewN ?_ _ | (simp; done) | (simp; omega) | omega)) (hb.mono (by first | (simp; done) | (simp; omega) | omega))
              have hsz : w.heap.size ≤ V7.heap.size := hbel.size
              clear hb
              go_wp2_with (fail)
              refine (left53_any _ A n c row ⟨(N - 1), (N - 1)⟩ (HR.out _ (by repeat' (first | with_reducible assumption | with_reducible exact Below.refl _ _ | refine Below.alloc ?_ ?_ _ | refine Below.setCell ?_ ?_ _ | refine Below.drew ?_ | refine below_drewN ?_ _ | (simp; done) | (simp; omega) | omega))) hPre.out okM1).mono ?_
              rw [hM.out]
              rintro e V8 ⟨rfl, hb⟩
              have hbel : Below w.heap.size w V8 := Below.trans (by repeat' (first | with_reducible assumption | with_reducible exact Below.refl _ _ | refine Below.alloc ?_ ?_ _ | refine Below.setCell ?_ ?_ _ | refine Below.drew ?_ | refine below_drewN ?_ _ | (simp; done) | (simp; omega) | omega)) (hb.mono (by first | (simp; done) | (simp; omega) | omega))
              have hsz : w.heap.size ≤ V8.heap.size := hbel.size
              clear hb
              go_wp2_with (fail)
              refine (works_any _).mono ?_
              rintro e V9 ⟨rfl, hb⟩
              have hbel : Below w.heap.size w V9 := Below.trans (by repeat' (first | with_reducible assumption | with_reducible exact Below.refl _ _ | refine Below.alloc ?_ ?_ _ | refine Below.setCell ?_ ?_ _ | refine Below.drew ?_ | refine below_drewN ?_ _ | (simp; done) | (simp; omega) | omega)) (hb.mono (by first | (simp; done) | (simp; omega) | omega))
              have hsz : w.heap.size ≤ V9.heap.size := hbel.size
              clear hb
              go_wp2
              go_ret
              exact ⟨rfl, hbel⟩
        · have E2 := hid (And.intro s2 e2)
          clear s2 e2
          rcases need_cases hPre.out l0 l1 true with ⟨e3, s3, m3, k3⟩ | ⟨e3, s3, k3⟩
          · have E3 := hid (And.intro s3 e3)
            clear s3 e3
            have hm3 := need_sure hOk.out l0 k3
            obtain ⟨L, hL0⟩ : ∃ L, leftOf row ⟨neededAll false lo row, neededAll false lo row⟩ = L := ⟨_, rfl⟩
            have hge : lo ≤ L.hi := by
              have := (left_point (row := row) (x := neededAll false lo row)).2
              rw [hL0] at this
              rw [this]
              exact (neededAll_iff false l0 row hOk.out m1 k1).2 (Int.le_refl _)
            have hlt : ∀ M, 1 ≤ neededAll false lo row → leftOf row ⟨neededAll false lo row - 1, neededAll false lo row - 1⟩ = M → M.hi < lo := by
              intro M h1 hM
              have := (left_point (row := row) (x := neededAll false lo row - 1)).2
              rw [hM] at this
              rw [this]
              exact Int.not_le.1 fun h => absurd ((neededAll_iff false l0 row hOk.out (by omega) (by omega)).1 h) (by omega)
            generalize neededAll false lo row = N at *
            have hL := hid hL0
            have E1 := hid (And.intro s1 e1)
            clear hL0 s1 e1
            by_cases hz : N = 0
            · subst hz
              clear hlt
              go_wp2_with (fail)
              refine (dNeeded_any _ A n c row lo false (HR.out _ (by repeat' (first | with_reducible assumption | with_reducible exact Below.refl _ _ | refine Below.alloc ?_ ?_ _ | refine Below.setCell ?_ ?_ _ | refine Below.drew ?_ | refine below_drewN ?_ _ | (simp; done) | (simp; omega) | omega))) hn).mono ?_
              rw [E1.out.1, E1.out.2]
              rintro e V1 ⟨rfl, hb⟩
              have hbel : Below w.heap.size w V1 := Below.trans (by repeat' (first | with_reducible assumption | with_reducible exact Below.refl _ _ | refine Below.alloc ?_ ?_ _ | refine Below.setCell ?_ ?_ _ | refine Below.drew ?_ | refine below_drewN ?_ _ | (simp; done) | (simp; omega) | omega)) (hb.mono (by first | (simp; done) | (simp; omega) | omega))
              have hsz : w.heap.size ≤ V1.heap.size := hbel.size
              clear hb
              go_wp2_with (fail)
              refine (dNeeded_any _ A n c row hi false (HR.out _ (by repeat' (first | with_reducible assumption | with_reducible exact Below.refl _ _ | refine Below.alloc ?_ ?_ _ | refine Below.setCell ?_ ?_ _ | refine Below.drew ?_ | refine below_drewN ?_ _ | (simp; done) | (simp; omega) | omega))) hn).mono ?_
              rw [E2.out.1, E2.out.2]
              rintro e V2 ⟨rfl, hb⟩
              have hbel : Below w.heap.size w V2 := Below.trans (by repeat' (first | with_reducible assumption | with_reducible exact Below.refl _ _ | refine Below.alloc ?_ ?_ _ | refine Below.setCell ?_ ?_ _ | refine Below.drew ?_ | refine below_drewN ?_ _ | (simp; done) | (simp; omega) | omega)) (hb.mono (by first | (simp; done) | (simp; omega) | omega))
              have hsz : w.heap.size ≤ V2.heap.size := hbel.size
              clear hb
              go_wp2_with (fail)
              refine (dNeeded_any _ A n c row lo true (HR.out _ (by repeat' (first | with_reducible assumption | with_reducible exact Below.refl _ _ | refine Below.alloc ?_ ?_ _ | refine Below.setCell ?_ ?_ _ | refine Below.drew ?_ | refine below_drewN ?_ _ | (simp; done) | (simp; omega) | omega))) hn).mono ?_
              rw [E3.out.1, E3.out.2]
              rintro e V3 ⟨rfl, hb⟩
              have hbel : Below w.heap.size w V3 := Below.trans (by repeat' (first | with_reducible assumption | with_reducible exact Below.refl _ _ | refine Below.alloc ?_ ?_ _ | refine Below.setCell ?_ ?_ _ | refine Below.drew ?_ | refine below_drewN ?_ _ | (simp; done) | (simp; omega) | omega)) (hb.mono (by first | (simp; done) | (simp; omega) | omega))
              have hsz : w.heap.size ≤ V3.heap.size := hbel.size
              clear hb
              go_wp2_with (fail)
              refine (dNeeded_any _ A n c row lo false (HR.out _ (by repeat' (first | with_reducible assumption | with_reducible exact Below.refl _ _ | refine Below.alloc ?_ ?_ _ | refine Below.setCell ?_ ?_ _ | refine Below.drew ?_ | refine below_drewN ?_ _ | (simp; done) | (simp; omega) | omega))) hn).mono ?_
              rw [E1.out.1, E1.out.2]
              rintro e V4 ⟨rfl, hb⟩
              have hbel : Below w.heap.size w V4 := Below.trans (by repeat' (first | with_reducible assumption | with_reducible exact Below.refl _ _ | refine Below.alloc ?_ ?_ _ | refine Below.setCell ?_ ?_ _ | refine Below.drew ?_ | refine below_drewN ?_ _ | (simp; done) | (simp; omega) | omega)) (hb.mono (by first | (simp; done) | (simp; omega) | omega))
              have hsz : w.heap.size ≤ V4.heap.size := hbel.size
              clear hb
              go_wp2_with (fail)
              refine (to_any _ _ _).mono ?_
              rintro e V5 ⟨rfl, hb⟩
              have hbel : Below w.heap.size w V5 := Below.trans (by repeat' (first | with_reducible assumption | with_reducible exact Below.refl _ _ | refine Below.alloc ?_ ?_ _ | refine Below.setCell ?_ ?_ _ | refine Below.drew ?_ | refine below_drewN ?_ _ | (simp; done) | (simp; omega) | omega)) (hb.mono (by first | (simp; done) | (simp; omega) | omega))
              have hsz : w.heap.size ≤ V5.heap.size := hbel.size
              clear hb
              go_wp2_with (fail)
              refine (left53_any _ A n c row ⟨0, 0⟩ (HR.out _ (by repeat' (first | with_reducible assumption | with_reducible exact Below.refl _ _ | refine Below.alloc ?_ ?_ _ | refine Below.setCell ?_ ?_ _ | refine Below.drew ?_ | refine below_drewN ?_ _ | (simp; done) | (simp; omega) | omega))) hPre.out rfl).mono ?_
              rw [hL.out]
              rintro e V6 ⟨rfl, hb⟩
              have hbel : Below w.heap.size w V6 := Below.trans (by repeat' (first | with_reducible assumption | with_reducible exact Below.refl _ _ | refine Below.alloc ?_ ?_ _ | refine Below.setCell ?_ ?_ _ | refine Below.drew ?_ | refine below_drewN ?_ _ | (simp; done) | (simp; omega) | omega)) (hb.mono (by first | (simp; done) | (simp; omega) | omega))
              have hsz : w.heap.size ≤ V6.heap.size := hbel.size
              clear hb
              go_wp2_with (fail)
              refine (works_any _).mono ?_
              rintro e V7 ⟨rfl, hb⟩
              have hbel : Below w.heap.size w V7 := Below.trans (by repeat' (first | with_reducible assumption | with_reducible exact Below.refl _ _ | refine Below.alloc ?_ ?_ _ | refine Below.setCell ?_ ?_ _ | refine Below.drew ?_ | refine below_drewN ?_ _ | (simp; done) | (simp; omega) | omega)) (hb.mono (by first | (simp; done) | (simp; omega) | omega))
              have hsz : w.heap.size ≤ V7.heap.size := hbel.size
              clear hb
              go_wp2
              go_ret
              exact ⟨rfl, hbel⟩
            · obtain ⟨M, hM0⟩ : ∃ M, leftOf row ⟨N - 1, N - 1⟩ = M := ⟨_, rfl⟩
              have hM := hid hM0
              replace hlt := hlt M (by omega) hM0
              clear hM0
              have okN : okR ⟨N, N⟩ 1000000 = true := okR_t.2 ⟨m1, Int.le_refl _, k1⟩
              have okM1 : okR ⟨N - 1, N - 1⟩ 1000000 = true := okR_t.2 ⟨by show 0 ≤ N - 1; omega, Int.le_refl _, by show N - 1 ≤ 1000000; omega⟩
              go_wp2_with (fail)
              refine (dNeeded_any _ A n c row lo false (HR.out _ (by repeat' (first | with_reducible assumption | with_reducible exact Below.refl _ _ | refine Below.alloc ?_ ?_ _ | refine Below.setCell ?_ ?_ _ | refine Below.drew ?_ | refine below_drewN ?_ _ | (simp; done) | (simp; omega) | omega))) hn).mono ?_
              rw [E1.out.1, E1.out.2]
              rintro e V1 ⟨rfl, hb⟩
              have hbel : Below w.heap.size w V1 := Below.trans (by repeat' (first | with_reducible assumption | with_reducible exact Below.refl _ _ | refine Below.alloc ?_ ?_ _ | refine Below.setCell ?_ ?_ _ | refine Below.drew ?_ | refine below_drewN ?_ _ | (simp; done) | (simp; omega) | omega)) (hb.mono (by first | (simp; done) | (simp; omega) | omega))
              have hsz : w.heap.size ≤ V1.heap.size := hbel.size
              clear hb
              go_wp2_with (fail)
              refine (dNeeded_any _ A n c row hi false (HR.out _ (by repeat' (first | with_reducible assumption | with_reducible exact Below.refl _ _ | refine Below.alloc ?_ ?_ _ | refine Below.setCell ?_ ?_ _ | refine Below.drew ?_ | refine below_drewN ?_ _ | (simp; done) | (simp; omega) | omega))) hn).mono ?_
              rw [E2.out.1, E2.out.2]
              rintro e V2 ⟨rfl, hb⟩
              have hbel : Below w.heap.size w V2 := Below.trans (by repeat' (first | with_reducible assumption | with_reducible exact Below.refl _ _ | refine Below.alloc ?_ ?_ _ | refine Below.setCell ?_ ?_ _ | refine Below.drew ?_ | refine below_drewN ?_ _ | (simp; done) | (simp; omega) | omega)) (hb.mono (by first | (simp; done) | (simp; omega) | omega))
              have hsz : w.heap.size ≤ V2.heap.size := hbel.size
              clear hb
              go_wp2_with (fail)
              refine (dNeeded_any _ A n c row lo true (HR.out _ (by repeat' (first | with_reducible assumption | with_reducible exact Below.refl _ _ | refine Below.alloc ?_ ?_ _ | refine Below.setCell ?_ ?_ _ | refine Below.drew ?_ | refine below_drewN ?_ _ | (simp; done) | (simp; omega) | omega))) hn).mono ?_
              rw [E3.out.1, E3.out.2]
              rintro e V3 ⟨rfl, hb⟩
              have hbel : Below w.heap.size w V3 := Below.trans (by repeat' (first | with_reducible assumption | with_reducible exact Below.refl _ _ | refine Below.alloc ?_ ?_ _ | refine Below.setCell ?_ ?_ _ | refine Below.drew ?_ | refine below_drewN ?_ _ | (simp; done) | (simp; omega) | omega)) (hb.mono (by first | (simp; done) | (simp; omega) | omega))
              have hsz : w.heap.size ≤ V3.heap.size := hbel.size
              clear hb
              go_wp2_with (fail)
              refine (dNeeded_any _ A n c row lo false (HR.out _ (by repeat' (first | with_reducible assumption | with_reducible exact Below.refl _ _ | refine Below.alloc ?_ ?_ _ | refine Below.setCell ?_ ?_ _ | refine Below.drew ?_ | refine below_drewN ?_ _ | (simp; done) | (simp; omega) | omega))) hn).mono ?_
              rw [E1.out.1, E1.out.2]
              rintro e V4 ⟨rfl, hb⟩
              have hbel : Below w.heap.size w V4 := Below.trans (by repeat' (first | with_reducible assumption | with_reducible exact Below.refl _ _ | refine Below.alloc ?_ ?_ _ | refine Below.setCell ?_ ?_ _ | refine Below.drew ?_ | refine below_drewN ?_ _ | (simp; done) | (simp; omega) | omega)) (hb.mono (by first | (simp; done) | (simp; omega) | omega))
              have hsz : w.heap.size ≤ V4.heap.size := hbel.size
              clear hb
              go_wp2_with (fail)
              refine (to_any _ _ _).mono ?_
              rintro e V5 ⟨rfl, hb⟩
              have hbel : Below w.heap.size w V5 := Below.trans (by repeat' (first | with_reducible assumption | with_reducible exact Below.refl _ _ | refine Below.alloc ?_ ?_ _ | refine Below.setCell ?_ ?_ _ | refine Below.drew ?_ | refine below_drewN ?_ _ | (simp; done) | (simp; omega) | omega)) (hb.mono (by first | (simp; done) | (simp; omega) | omega))
              have hsz : w.heap.size ≤ V5.heap.size := hbel.size
              clear hb
              go_wp2_with (fail)
              refine (left53_any _ A n c row ⟨N, N⟩ (HR.out _ (by repeat' (first | with_reducible assumption | with_reducible exact Below.refl _ _ | refine Below.alloc ?_ ?_ _ | refine Below.setCell ?_ ?_ _ | refine Below.drew ?_ | refine below_drewN ?_ _ | (simp; done) | (simp; omega) | omega))) hPre.out okN).mono ?_
              rw [hL.out]
              rintro e V6 ⟨rfl, hb⟩
              have hbel : Below w.heap.size w V6 := Below.trans (by repeat' (first | with_reducible assumption | with_reducible exact Below.refl _ _ | refine Below.alloc ?_ ?_ _ | refine Below.setCell ?_ ?_ _ | refine Below.drew ?_ | refine below_drewN ?_ _ | (simp; done) | (simp; omega) | omega)) (hb.mono (by first | (simp; done) | (simp; omega) | omega))
              have hsz : w.heap.size ≤ V6.heap.size := hbel.size
              clear hb
              go_wp2_with (fail)
              refine (to_any _ _ _).mono ?_
              rintro e V7 ⟨rfl, hb⟩
              have hbel : Below w.heap.size w V7 := Below.trans (by repeat' (first | with_reducible assumption | with_reducible exact Below.refl _ _ | refine Below.alloc ?_ ?_ _ | refine Below.setCell ?_ ?_ _ | refine Below.drew ?_ | refine below_drewN ?_ _ | (simp; done) | (simp; omega) | omega)) (hb.mono (by first | (simp; done) | (simp; omega) | omega))
              have hsz : w.heap.size ≤ V7.heap.size := hbel.size
              clear hb
              go_wp2_with (fail)
              refine (left53_any _ A n c row ⟨(N - 1), (N - 1)⟩ (HR.out _ (by repeat' (first | with_reducible assumption | with_reducible exact Below.refl _ _ | refine Below.alloc ?_ ?_ _ | refine Below.setCell ?_ ?_ _ | refine Below.drew ?_ | refine below_drewN ?_ _ | (simp; done) | (simp; omega) | omega))) hPre.out okM1).mono ?_
              rw [hM.out]
              rintro e V8 ⟨rfl, hb⟩
              have hbel : Below w.heap.size w V8 := Below.trans (by repeat' (first | with_reducible assumption | with_reducible exact Below.refl _ _ | refine Below.alloc ?_ ?_ _ | refine Below.setCell ?_ ?_ _ | refine Below.drew ?_ | refine below_drewN ?_ _ | (simp; done) | (simp; omega) | omega)) (hb.mono (by first | (simp; done) | (simp; omega) | omega))
              have hsz : w.heap.size ≤ V8.heap.size := hbel.size
              clear hb
              go_wp2_with (fail)
              refine (works_any _).mono ?_
              rintro e V9 ⟨rfl, hb⟩
              have hbel : Below w.heap.size w V9 := Below.trans (by repeat' (first | with_reducible assumption | with_reducible exact Below.refl _ _ | refine Below.alloc ?_ ?_ _ | refine Below.setCell ?_ ?_ _ | refine Below.drew ?_ | refine below_drewN ?_ _ | (simp; done) | (simp; omega) | omega)) (hb.mono (by first | (simp; done) | (simp; omega) | omega))
              have hsz : w.heap.size ≤ V9.heap.size := hbel.size
              clear hb
              go_wp2
              go_ret
              exact ⟨rfl, hbel⟩
          · have E3 := hid (And.intro s3 e3)
            clear s3 e3
            obtain ⟨L, hL0⟩ : ∃ L, leftOf row ⟨neededAll false lo row, neededAll false lo row⟩ = L := ⟨_, rfl⟩
            have hge : lo ≤ L.hi := by
              have := (left_point (row := row) (x := neededAll false lo row)).2
              rw [hL0] at this
              rw [this]
              exact (neededAll_iff false l0 row hOk.out m1 k1).2 (Int.le_refl _)
            have hlt : ∀ M, 1 ≤ neededAll false lo row → leftOf row ⟨neededAll false lo row - 1, neededAll false lo row - 1⟩ = M → M.hi < lo := by
              intro M h1 hM
              have := (left_point (row := row) (x := neededAll false lo row - 1)).2
              rw [hM] at this
              rw [this]
              exact Int.not_le.1 fun h => absurd ((neededAll_iff false l0 row hOk.out (by omega) (by omega)).1 h) (by omega)
            generalize neededAll false lo row = N at *
            have hL := hid hL0
            have E1 := hid (And.intro s1 e1)
            clear hL0 s1 e1
            by_cases hz : N = 0
            · subst hz
              clear hlt
              go_wp2_with (fail)
              refine (dNeeded_any _ A n c row lo false (HR.out _ (by repeat' (first | with_reducible assumption | with_reducible exact Below.refl _ _ | refine Below.alloc ?_ ?_ _ | refine Below.setCell ?_ ?_ _ | refine Below.drew ?_ | refine below_drewN ?_ _ | (simp; done) | (simp; omega) | omega))) hn).mono ?_
              rw [E1.out.1, E1.out.2]
              rintro e V1 ⟨rfl, hb⟩
              have hbel : Below w.heap.size w V1 := Below.trans (by repeat' (first | with_reducible assumption | with_reducible exact Below.refl _ _ | refine Below.alloc ?_ ?_ _ | refine Below.setCell ?_ ?_ _ | refine Below.drew ?_ | refine below_drewN ?_ _ | (simp; done) | (simp; omega) | omega)) (hb.mono (by first | (simp; done) | (simp; omega) | omega))
              have hsz : w.heap.size ≤ V1.heap.size := hbel.size
              clear hb
              go_wp2_with (fail)
              refine (dNeeded_any _ A n c row hi false (HR.out _ (by repeat' (first | with_reducible assumption | with_reducible exact Below.refl _ _ | refine Below.alloc ?_ ?_ _ | refine Below.setCell ?_ ?_ _ | refine Below.drew ?_ | refine below_drewN ?_ _ | (simp; done) | (simp; omega) | omega))) hn).mono ?_
              rw [E2.out.1, E2.out.2]
              rintro e V2 ⟨rfl, hb⟩
              have hbel : Below w.heap.size w V2 := Below.trans (by repeat' (first | with_reducible assumption | with_reducible exact Below.refl _ _ | refine Below.alloc ?_ ?_ _ | refine Below.setCell ?_ ?_ _ | refine Below.drew ?_ | refine below_drewN ?_ _ | (simp; done) | (simp; omega) | omega)) (hb.mono (by first | (simp; done) | (simp; omega) | omega))
              have hsz : w.heap.size ≤ V2.heap.size := hbel.size
              clear hb
              go_wp2_with (fail)
              refine (dNeeded_any _ A n c row lo true (HR.out _ (by repeat' (first | with_reducible assumption | with_reducible exact Below.refl _ _ | refine Below.alloc ?_ ?_ _ | refine Below.setCell ?_ ?_ _ | refine Below.drew ?_ | refine below_drewN ?_ _ | (simp; done) | (simp; omega) | omega))) hn).mono ?_
              rw [E3.out.1, E3.out.2]
              rintro e V3 ⟨rfl, hb⟩
              have hbel : Below w.heap.size w V3 := Below.trans (by repeat' (first | with_reducible assumption | with_reducible exact Below.refl _ _ | refine Below.alloc ?_ ?_ _ | refine Below.setCell ?_ ?_ _ | refine Below.drew ?_ | refine below_drewN ?_ _ | (simp; done) | (simp; omega) | omega)) (hb.mono (by first | (simp; done) | (simp; omega) | omega))
              have hsz : w.heap.size ≤ V3.heap.size := hbel.size
              clear hb
              go_wp2_with (fail)
              refine (dNeeded_any _ A n c row lo false (HR.out _ (by repeat' (first | with_reducible assumption | with_reducible exact Below.refl _ _ | refine Below.alloc ?_ ?_ _ | refine Below.setCell ?_ ?_ _ | refine Below.drew ?_ | refine below_drewN ?_ _ | (simp; done) | (simp; omega) | omega))) hn).mono ?_
              rw [E1.out.1, E1.out.2]
              rintro e V4 ⟨rfl, hb⟩
              have hbel : Below w.heap.size w V4 := Below.trans (by repeat' (first | with_reducible assumption | with_reducible exact Below.refl _ _ | refine Below.alloc ?_ ?_ _ | refine Below.setCell ?_ ?_ _ | refine Below.drew ?_ | refine below_drewN ?_ _ | (simp; done) | (simp; omega) | omega)) (hb.mono (by first | (simp; done) | (simp; omega) | omega))
              have hsz : w.heap.size ≤ V4.heap.size := hbel.size
              clear hb
              go_wp2_with (fail)
              refine (to_any _ _ _).mono ?_
              rintro e V5 ⟨rfl, hb⟩
              have hbel : Below w.heap.size w V5 := Below.trans (by repeat' (first | with_reducible assumption | with_reducible exact Below.refl _ _ | refine Below.alloc ?_ ?_ _ | refine Below.setCell ?_ ?_ _ | refine Below.drew ?_ | refine below_drewN ?_ _ | (simp; done) | (simp; omega) | omega)) (hb.mono (by first | (simp; done) | (simp; omega) | omega))
              have hsz : w.heap.size ≤ V5.heap.size := hbel.size
              clear hb
              go_wp2_with (fail)
              refine (left53_any _ A n c row ⟨0, 0⟩ (HR.out _ (by repeat' (first | with_reducible assumption | with_reducible exact Below.refl _ _ | refine Below.alloc ?_ ?_ _ | refine Below.setCell ?_ ?_ _ | refine Below.drew ?_ | refine below_drewN ?_ _ | (simp; done) | (simp; omega) | omega))) hPre.out rfl).mono ?_
              rw [hL.out]
              rintro e V6 ⟨rfl, hb⟩
              have hbel : Below w.heap.size w V6 := Below.trans (by repeat' (first | with_reducible assumption | with_reducible exact Below.refl _ _ | refine Below.alloc ?_ ?_ _ | refine Below.setCell ?_ ?_ _ | refine Below.drew ?_ | refine below_drewN ?_ _ | (simp; done) | (simp; omega) | omega)) (hb.mono (by first | (simp; done) | (simp; omega) | omega))
              have hsz : w.heap.size ≤ V6.heap.size := hbel.size
              clear hb
              go_wp2_with (fail)
              refine (works_any _).mono ?_
              rintro e V7 ⟨rfl, hb⟩
              have hbel : Below w.heap.size w V7 := Below.trans (by repeat' (first | with_reducible assumption | with_reducible exact Below.refl _ _ | refine Below.alloc ?_ ?_ _ | refine Below.setCell ?_ ?_ _ | refine Below.drew ?_ | refine below_drewN ?_ _ | (simp; done) | (simp; omega) | omega)) (hb.mono (by first | (simp; done) | (simp; omega) | omega))
              have hsz : w.heap.size ≤ V7.heap.size := hbel.size
              clear hb
              go_wp2
              go_ret
              exact ⟨rfl, hbel⟩
            · obtain ⟨M, hM0⟩ : ∃ M, leftOf row ⟨N - 1, N - 1⟩ = M := ⟨_, rfl⟩
              have hM := hid hM0
              replace hlt := hlt M (by omega) hM0
              clear hM0
              have okN : okR ⟨N, N⟩ 1000000 = true := okR_t.2 ⟨m1, Int.le_refl _, k1⟩
              have okM1 : okR ⟨N - 1, N - 1⟩ 1000000 = true := okR_t.2 ⟨by show 0 ≤ N - 1; omega, Int.le_refl _, by show N - 1 ≤ 1000000; omega⟩
              go_wp2_with (fail)
              refine (dNeeded_any _ A n c row lo false (HR.out _ (by repeat' (first | with_reducible assumption | with_reducible exact Below.refl _ _ | refine Below.alloc ?_ ?_ _ | refine Below.setCell ?_ ?_ _ | refine Below.drew ?_ | refine below_drewN ?_ _ | (simp; done) | (simp; omega) | omega))) hn).mono ?_
              rw [E1.out.1, E1.out.2]
              rintro e V1 ⟨rfl, hb⟩
              have hbel : Below w.heap.size w V1 := Below.trans (by repeat' (first | with_reducible assumption | with_reducible exact Below.refl _ _ | refine Below.alloc ?_ ?_ _ | refine Below.setCell ?_ ?_ _ | refine Below.drew ?_ | refine below_drewN ?_ _ | (simp; done) | (simp; omega) | omega)) (hb.mono (by first | (simp; done) | (simp; omega) | omega))
              have hsz : w.heap.size ≤ V1.heap.size := hbel.size
              clear hb
              go_wp2_with (fail)
              refine (dNeeded_any _ A n c row hi false (HR.out _ (by repeat' (first | with_reducible assumption | with_reducible exact Below.refl _ _ | refine Below.alloc ?_ ?_ _ | refine Below.setCell ?_ ?_ _ | refine Below.drew ?_ | refine below_drewN ?_ _ | (simp; done) | (simp; omega) | omega))) hn).mono ?_
              rw [E2.out.1, E2.out.2]
              rintro e V2 ⟨rfl, hb⟩
              have hbel : Below w.heap.size w V2 := Below.trans (by repeat' (first | with_reducible assumption | with_reducible exact Below.refl _ _ | refine Below.alloc ?_ ?_ _ | refine Below.setCell ?_ ?_ _ | refine Below.drew ?_ | refine below_drewN ?_ _ | (simp; done) | (simp; omega) | omega)) (hb.mono (by first | (simp; done) | (simp; omega) | omega))
              have hsz : w.heap.size ≤ V2.heap.size := hbel.size
              clear hb
              go_wp2_with (fail)
              refine (dNeeded_any _ A n c row lo true (HR.out _ (by repeat' (first | with_reducible assumption | with_reducible exact Below.refl _ _ | refine Below.alloc ?_ ?_ _ | refine Below.setCell ?_ ?_ _ | refine Below.drew ?_ | refine below_drewN ?_ _ | (simp; done) | (simp; omega) | omega))) hn).mono ?_
              rw [E3.out.1, E3.out.2]
              rintro e V3 ⟨rfl, hb⟩
              have hbel : Below w.heap.size w V3 := Below.trans (by repeat' (first | with_reducible assumption | with_reducible exact Below.refl _ _ | refine Below.alloc ?_ ?_ _ | refine Below.setCell ?_ ?_ _ | refine Below.drew ?_ | refine below_drewN ?_ _ | (simp; done) | (simp; omega) | omega)) (hb.mono (by first | (simp; done) | (simp; omega) | omega))
              have hsz : w.heap.size ≤ V3.heap.size := hbel.size
              clear hb
              go_wp2_with (fail)
              refine (dNeeded_any _ A n c row lo false (HR.out _ (by repeat' (first | with_reducible assumption | with_reducible exact Below.refl _ _ | refine Below.alloc ?_ ?_ _ | refine Below.setCell ?_ ?_ _ | refine Below.drew ?_ | refine below_drewN ?_ _ | (simp; done) | (simp; omega) | omega))) hn).mono ?_
              rw [E1.out.1, E1.out.2]
              rintro e V4 ⟨rfl, hb⟩
              have hbel : Below w.heap.size w V4 := Below.trans (by repeat' (first | with_reducible assumption | with_reducible exact Below.refl _ _ | refine Below.alloc ?_ ?_ _ | refine Below.setCell ?_ ?_ _ | refine Below.drew ?_ | refine below_drewN ?_ _ | (simp; done) | (simp; omega) | omega)) (hb.mono (by first | (simp; done) | (simp; omega) | omega))
              have hsz : w.heap.size ≤ V4.heap.size := hbel.size
              clear hb
              go_wp2_with (fail)
              refine (to_any _ _ _).mono ?_
              rintro e V5 ⟨rfl, hb⟩
              have hbel : Below w.heap.size w V5 := Below.trans (by repeat' (first | with_reducible assumption | with_reducible exact Below.refl _ _ | refine Below.alloc ?_ ?_ _ | refine Below.setCell ?_ ?_ _ | refine Below.drew ?_ | refine below_drewN ?_ _ | (simp; done) | (simp; omega) | omega)) (hb.mono (by first | (simp; done) | (simp; omega) | omega))
              have hsz : w.heap.size ≤ V5.heap.size := hbel.size
              clear hb
              go_wp2_with (fail)
              refine (left53_any _ A n c row ⟨N, N⟩ (HR.out _ (by repeat' (first | with_reducible assumption | with_reducible exact Below.refl _ _ | refine Below.alloc ?_ ?_ _ | refine Below.setCell ?_ ?_ _ | refine Below.drew ?_ | refine below_drewN ?_ _ | (simp; done) | (simp; omega) | omega))) hPre.out okN).mono ?_
              rw [hL.out]
              rintro e V6 ⟨rfl, hb⟩
              have hbel : Below w.heap.size w V6 := Below.trans (by repeat' (first | with_reducible assumption | with_reducible exact Below.refl _ _ | refine Below.alloc ?_ ?_ _ | refine Below.setCell ?_ ?_ _ | refine Below.drew ?_ | refine below_drewN ?_ _ | (simp; done) | (simp; omega) | omega)) (hb.mono (by first | (simp; done) | (simp; omega) | omega))
              have hsz : w.heap.size ≤ V6.heap.size := hbel.size
              clear hb
              go_wp2_with (fail)
              refine (to_any _ _ _).mono ?_
              rintro e V7 ⟨rfl, hb⟩
              have hbel : Below w.heap.size w V7 := Below.trans (by repeat' (first | with_reducible assumption | with_reducible exact Below.refl _ _ | refine Below.alloc ?_ ?_ _ | refine Below.setCell ?_ ?_ _ | refine Below.drew ?_ | refine below_drewN ?_ _ | (simp; done) | (simp; omega) | omega)) (hb.mono (by first | (simp; done) | (simp; omega) | omega))
              have hsz : w.heap.size ≤ V7.heap.size := hbel.size
              clear hb
              go_wp2_with (fail)
              refine (left53_any _ A n c row ⟨(N - 1), (N - 1)⟩ (HR.out _ (by repeat' (first | with_reducible assumption | with_reducible exact Below.refl _ _ | refine Below.alloc ?_ ?_ _ | refine Below.setCell ?_ ?_ _ | refine Below.drew ?_ | refine below_drewN ?_ _ | (simp; done) | (simp; omega) | omega))) hPre.out okM1).mono ?_
              rw [hM.out]
              rintro e V8 ⟨rfl, hb⟩
              have hbel : Below w.heap.size w V8 := Below.trans (by repeat' (first | with_reducible assumption | with_reducible exact Below.refl _ _ | refine Below.alloc ?_ ?_ _ | refine Below.setCell ?_ ?_ _ | refine Below.drew ?_ | refine below_drewN ?_ _ | (simp; done) | (simp; omega) | omega)) (hb.mono (by first | (simp; done) | (simp; omega) | omega))
              have hsz : w.heap.size ≤ V8.heap.size := hbel.size
              clear hb
              go_wp2_with (fail)
              refine (works_any _).mono ?_
              rintro e V9 ⟨rfl, hb⟩
              have hbel : Below w.heap.size w V9 := Below.trans (by repeat' (first | with_reducible assumption | with_reducible exact Below.refl _ _ | refine Below.alloc ?_ ?_ _ | refine Below.setCell ?_ ?_ _ | refine Below.drew ?_ | refine below_drewN ?_ _ | (simp; done) | (simp; omega) | omega)) (hb.mono (by first | (simp; done) | (simp; omega) | omega))
              have hsz : w.heap.size ≤ V9.heap.size := hbel.size
              clear hb
              go_wp2
              go_ret
              exact ⟨rfl, hbel⟩
      · rcases need_cases hPre.out h0' h1' false with ⟨e2, s2, m2, k2⟩ | ⟨e2, s2, k2⟩
        · exact absurd (need_mono hOk.out l0 hlh false k2) (by omega)
        · have E2 := hid (And.intro s2 e2)
          clear s2 e2
          rcases need_cases hPre.out l0 l1 true with ⟨e3, s3, m3, k3⟩ | ⟨e3, s3, k3⟩
          · exact absurd (need_sure hOk.out l0 k3) (by omega)
          · have E3 := hid (And.intro s3 e3)
            clear s3 e3
            obtain ⟨L, hL0⟩ : ∃ L, leftOf row ⟨1000000, 1000000⟩ = L := ⟨_, rfl⟩
            have hL := hid hL0
            have hlt : L.hi < lo := by
              have := (left_point (row := row) (x := 1000000)).2
              rw [hL0] at this
              rw [this]
              exact Int.not_le.1 fun h => absurd ((neededAll_iff false l0 row hOk.out (by omega) (by omega)).1 h) (by omega)
            have E1 := hid (And.intro s1 e1)
            clear hL0 s1 e1
            go_wp2_with (fail)
            refine (dNeeded_any _ A n c row lo false (HR.out _ (by repeat' (first | with_reducible assumption | with_reducible exact Below.refl _ _ | refine Below.alloc ?_ ?_ _ | refine Below.setCell ?_ ?_ _ | refine Below.drew ?_ | refine below_drewN ?_ _ | (simp; done) | (simp; omega) | omega))) hn).mono ?_
            rw [E1.out.1, E1.out.2]
            rintro e V1 ⟨rfl, hb⟩
            have hbel : Below w.heap.size w V1 := Below.trans (by repeat' (first | with_reducible assumption | with_reducible exact Below.refl _ _ | refine Below.alloc ?_ ?_ _ | refine Below.setCell ?_ ?_ _ | refine Below.drew ?_ | refine below_drewN ?_ _ | (simp; done) | (simp; omega) | omega)) (hb.mono (by first | (simp; done) | (simp; omega) | omega))
            have hsz : w.heap.size ≤ V1.heap.size := hbel.size
            clear hb
            go_wp2_with (fail)
            refine (dNeeded_any _ A n c row hi false (HR.out _ (by repeat' (first | with_reducible assumption | with_reducible exact Below.refl _ _ | refine Below.alloc ?_ ?_ _ | refine Below.setCell ?_ ?_ _ | refine Below.drew ?_ | refine below_drewN ?_ _ | (simp; done) | (simp; omega) | omega))) hn).mono ?_
            rw [E2.out.1, E2.out.2]
            rintro e V2 ⟨rfl, hb⟩
            have hbel : Below w.heap.size w V2 := Below.trans (by repeat' (first | with_reducible assumption | with_reducible exact Below.refl _ _ | refine Below.alloc ?_ ?_ _ | refine Below.setCell ?_ ?_ _ | refine Below.drew ?_ | refine below_drewN ?_ _ | (simp; done) | (simp; omega) | omega)) (hb.mono (by first | (simp; done) | (simp; omega) | omega))
            have hsz : w.heap.size ≤ V2.heap.size := hbel.size
            clear hb
            go_wp2_with (fail)
            refine (dNeeded_any _ A n c row lo true (HR.out _ (by repeat' (first | with_reducible assumption | with_reducible exact Below.refl _ _ | refine Below.alloc ?_ ?_ _ | refine Below.setCell ?_ ?_ _ | refine Below.drew ?_ | refine below_drewN ?_ _ | (simp; done) | (simp; omega) | omega))) hn).mono ?_
            rw [E3.out.1, E3.out.2]
            rintro e V3 ⟨rfl, hb⟩
            have hbel : Below w.heap.size w V3 := Below.trans (by repeat' (first | with_reducible assumption | with_reducible exact Below.refl _ _ | refine Below.alloc ?_ ?_ _ | refine Below.setCell ?_ ?_ _ | refine Below.drew ?_ | refine below_drewN ?_ _ | (simp; done) | (simp; omega) | omega)) (hb.mono (by first | (simp; done) | (simp; omega) | omega))
            have hsz : w.heap.size ≤ V3.heap.size := hbel.size
            clear hb
            go_wp2_with (fail)
            refine (dNeeded_any _ A n c row lo false (HR.out _ (by repeat' (first | with_reducible assumption | with_reducible exact Below.refl _ _ | refine Below.alloc ?_ ?_ _ | refine Below.setCell ?_ ?_ _ | refine Below.drew ?_ | refine below_drewN ?_ _ | (simp; done) | (simp; omega) | omega))) hn).mono ?_
            rw [E1.out.1, E1.out.2]
            rintro e V4 ⟨rfl, hb⟩
            have hbel : Below w.heap.size w V4 := Below.trans (by repeat' (first | with_reducible assumption | with_reducible exact Below.refl _ _ | refine Below.alloc ?_ ?_ _ | refine Below.setCell ?_ ?_ _ | refine Below.drew ?_ | refine below_drewN ?_ _ | (simp; done) | (simp; omega) | omega)) (hb.mono (by first | (simp; done) | (simp; omega) | omega))
            have hsz : w.heap.size ≤ V4.heap.size := hbel.size
            clear hb
            go_wp2_with (fail)
            refine (to_any _ _ _).mono ?_
            rintro e V5 ⟨rfl, hb⟩
            have hbel : Below w.heap.size w V5 := Below.trans (by repeat' (first | with_reducible assumption | with_reducible exact Below.refl _ _ | refine Below.alloc ?_ ?_ _ | refine Below.setCell ?_ ?_ _ | refine Below.drew ?_ | refine below_drewN ?_ _ | (simp; done) | (simp; omega) | omega)) (hb.mono (by first | (simp; done) | (simp; omega) | omega))
            have hsz : w.heap.size ≤ V5.heap.size := hbel.size
            clear hb
            go_wp2_with (fail)
            refine (left53_any _ A n c row ⟨1000000, 1000000⟩ (HR.out _ (by repeat' (first | with_reducible assumption | with_reducible exact Below.refl _ _ | refine Below.alloc ?_ ?_ _ | refine Below.setCell ?_ ?_ _ | refine Below.drew ?_ | refine below_drewN ?_ _ | (simp; done) | (simp; omega) | omega))) hPre.out rfl).mono ?_
            rw [hL.out]
            rintro e V6 ⟨rfl, hb⟩
            have hbel : Below w.heap.size w V6 := Below.trans (by repeat' (first | with_reducible assumption | with_reducible exact Below.refl _ _ | refine Below.alloc ?_ ?_ _ | refine Below.setCell ?_ ?_ _ | refine Below.drew ?_ | refine below_drewN ?_ _ | (simp; done) | (simp; omega) | omega)) (hb.mono (by first | (simp; done) | (simp; omega) | omega))
            have hsz : w.heap.size ≤ V6.heap.size := hbel.size
            clear hb
            go_wp2_with (fail)
            refine (works_any _).mono ?_
            rintro e V7 ⟨rfl, hb⟩
            have hbel : Below w.heap.size w V7 := Below.trans (by repeat' (first | with_reducible assumption | with_reducible exact Below.refl _ _ | refine Below.alloc ?_ ?_ _ | refine Below.setCell ?_ ?_ _ | refine Below.drew ?_ | refine below_drewN ?_ _ | (simp; done) | (simp; omega) | omega)) (hb.mono (by first | (simp; done) | (simp; omega) | omega))
            have hsz : w.heap.size ≤ V7.heap.size := hbel.size
            clear hb
            go_wp2
            go_ret
            exact ⟨rfl, hbel⟩
    · rcases need_cases hPre.out l0 l1 true with ⟨e1, s1, m1, k1⟩ | ⟨e1, s1, k1⟩
      · rcases need_cases hPre.out h0' h1' true with ⟨e2, s2, m2, k2⟩ | ⟨e2, s2, k2⟩
        · have E2 := hid (And.intro s2 e2)
          clear s2 e2
          have hm2 := need_mono hOk.out l0 hlh true k2
          rcases need_cases hPre.out l0 l1 false with ⟨e3, s3, m3, k3⟩ | ⟨e3, s3, k3⟩
          · have E3 := hid (And.intro s3 e3)
            clear s3 e3
            have hm3 := need_sure hOk.out l0 k1
            obtain ⟨L, hL0⟩ : ∃ L, leftOf row ⟨neededAll true lo row, neededAll true lo row⟩ = L := ⟨_, rfl⟩
            have hge : lo ≤ L.lo := by
              have := (left_point (row := row) (x := neededAll true lo row)).1
              rw [hL0] at this
              rw [this]
              exact (neededAll_iff true l0 row hOk.out m1 k1).2 (Int.le_refl _)
            have hlt : ∀ M, 1 ≤ neededAll true lo row → leftOf row ⟨neededAll true lo row - 1, neededAll true lo row - 1⟩ = M → M.lo < lo := by
              intro M h1 hM
              have := (left_point (row := row) (x := neededAll true lo row - 1)).1
              rw [hM] at this
              rw [this]
              exact Int.not_le.1 fun h => absurd ((neededAll_iff true l0 row hOk.out (by omega) (by omega)).1 h) (by omega)
            generalize neededAll true lo row = N at *
            have hL := hid hL0
            have E1 := hid (And.intro s1 e1)
            clear hL0 s1 e1
            by_cases hz : N = 0
            · subst hz
              clear hlt
              go_wp2_with (fail)
              refine (dNeeded_any _ A n c row lo true (HR.out _ (by repeat' (first | with_reducible assumption | with_reducible exact Below.refl _ _ | refine Below.alloc ?_ ?_ _ | refine Below.setCell ?_ ?_ _ | refine Below.drew ?_ | refine below_drewN ?_ _ | (simp; done) | (simp; omega) | omega))) hn).mono ?_
              rw [E1.out.1, E1.out.2]
              rintro e V1 ⟨rfl, hb⟩
              have hbel : Below w.heap.size w V1 := Below.trans (by repeat' (first | with_reducible assumption | with_reducible exact Below.refl _ _ | refine Below.alloc ?_ ?_ _ | refine Below.setCell ?_ ?_ _ | refine Below.drew ?_ | refine below_drewN ?_ _ | (simp; done) | (simp; omega) | omega)) (hb.mono (by first | (simp; done) | (simp; omega) | omega))
              have hsz : w.heap.size ≤ V1.heap.size := hbel.size
              clear hb
              go_wp2_with (fail)
              refine (dNeeded_any _ A n c row hi true (HR.out _ (by repeat' (first | with_reducible assumption | with_reducible exact Below.refl _ _ | refine Below.alloc ?_ ?_ _ | refine Below.setCell ?_ ?_ _ | refine Below.drew ?_ | refine below_drewN ?_ _ | (simp; done) | (simp; omega) | omega))) hn).mono ?_
              rw [E2.out.1, E2.out.2]
              rintro e V2 ⟨rfl, hb⟩
              have hbel : Below w.heap.size w V2 := Below.trans (by repeat' (first | with_reducible assumption | with_reducible exact Below.refl _ _ | refine Below.alloc ?_ ?_ _ | refine Below.setCell ?_ ?_ _ | refine Below.drew ?_ | refine below_drewN ?_ _ | (simp; done) | (simp; omega) | omega)) (hb.mono (by first | (simp; done) | (simp; omega) | omega))
              have hsz : w.heap.size ≤ V2.heap.size := hbel.size
              clear hb
              go_wp2_with (fail)
              refine (dNeeded_any _ A n c row lo true (HR.out _ (by repeat' (first | with_reducible assumption | with_reducible exact Below.refl _ _ | refine Below.alloc ?_ ?_ _ | refine Below.setCell ?_ ?_ _ | refine Below.drew ?_ | refine below_drewN ?_ _ | (simp; done) | (simp; omega) | omega))) hn).mono ?_
              rw [E1.out.1, E1.out.2]
              rintro e V3 ⟨rfl, hb⟩
              have hbel : Below w.heap.size w V3 := Below.trans (by repeat' (first | with_reducible assumption | with_reducible exact Below.refl _ _ | refine Below.alloc ?_ ?_ _ | refine Below.setCell ?_ ?_ _ | refine Below.drew ?_ | refine below_drewN ?_ _ | (simp; done) | (simp; omega) | omega)) (hb.mono (by first | (simp; done) | (simp; omega) | omega))
              have hsz : w.heap.size ≤ V3.heap.size := hbel.size
              clear hb
              go_wp2_with (fail)
              refine (dNeeded_any _ A n c row lo false (HR.out _ (by repeat' (first | with_reducible assumption | with_reducible exact Below.refl _ _ | refine Below.alloc ?_ ?_ _ | refine Below.setCell ?_ ?_ _ | refine Below.drew ?_ | refine below_drewN ?_ _ | (simp; done) | (simp; omega) | omega))) hn).mono ?_
              rw [E3.out.1, E3.out.2]
              rintro e V4 ⟨rfl, hb⟩
              have hbel : Below w.heap.size w V4 := Below.trans (by repeat' (first | with_reducible assumption | with_reducible exact Below.refl _ _ | refine Below.alloc ?_ ?_ _ | refine Below.setCell ?_ ?_ _ | refine Below.drew ?_ | refine below_drewN ?_ _ | (simp; done) | (simp; omega) | omega)) (hb.mono (by first | (simp; done) | (simp; omega) | omega))
              have hsz : w.heap.size ≤ V4.heap.size := hbel.size
              clear hb
              go_wp2_with (fail)
              refine (to_any _ _ _).mono ?_
              rintro e V5 ⟨rfl, hb⟩
              have hbel : Below w.heap.size w V5 := Below.trans (by repeat' (first | with_reducible assumption | with_reducible exact Below.refl _ _ | refine Below.alloc ?_ ?_ _ | refine Below.setCell ?_ ?_ _ | refine Below.drew ?_ | refine below_drewN ?_ _ | (simp; done) | (simp; omega) | omega)) (hb.mono (by first | (simp; done) | (simp; omega) | omega))
              have hsz : w.heap.size ≤ V5.heap.size := hbel.size
              clear hb
              go_wp2_with (fail)
              refine (left53_any _ A n c row ⟨0, 0⟩ (HR.out _ (by repeat' (first | with_reducible assumption | with_reducible exact Below.refl _ _ | refine Below.alloc ?_ ?_ _ | refine Below.setCell ?_ ?_ _ | refine Below.drew ?_ | refine below_drewN ?_ _ | (simp; done) | (simp; omega) | omega))) hPre.out rfl).mono ?_
              rw [hL.out]
              rintro e V6 ⟨rfl, hb⟩
              have hbel : Below w.heap.size w V6 := Below.trans (by repeat' (first | with_reducible assumption | with_reducible exact Below.refl _ _ | refine Below.alloc ?_ ?_ _ | refine Below.setCell ?_ ?_ _ | refine Below.drew ?_ | refine below_drewN ?_ _ | (simp; done) | (simp; omega) | omega)) (hb.mono (by first | (simp; done) | (simp; omega) | omega))
              have hsz : w.heap.size ≤ V6.heap.size := hbel.size
              clear hb
              go_wp2_with (fail)
              refine (works_any _).mono ?_
              rintro e V7 ⟨rfl, hb⟩
              have hbel : Below w.heap.size w V7 := Below.trans (by repeat' (first | with_reducible assumption | with_reducible exact Below.refl _ _ | refine Below.alloc ?_ ?_ _ | refine Below.setCell ?_ ?_ _ | refine Below.drew ?_ | refine below_drewN ?_ _ | (simp; done) | (simp; omega) | omega)) (hb.mono (by first | (simp; done) | (simp; omega) | omega))
              have hsz : w.heap.size ≤ V7.heap.size := hbel.size
              clear hb
              go_wp2
              go_ret
              exact ⟨rfl, hbel⟩
            · obtain ⟨M, hM0⟩ : ∃ M, leftOf row ⟨N - 1, N - 1⟩ = M := ⟨_, rfl⟩
              have hM := hid hM0
              replace hlt := hlt M (by omega) hM0
              clear hM0
              have okN : okR ⟨N, N⟩ 1000000 = true := okR_t.2 ⟨m1, Int.le_refl _, k1⟩
              have okM1 : okR ⟨N - 1, N - 1⟩ 1000000 = true := okR_t.2 ⟨by show 0 ≤ N - 1; omega, Int.le_refl _, by show N - 1 ≤ 1000000; omega⟩
              go_wp2_with (fail)
              refine (dNeeded_any _ A n c row lo true (HR.out _ (by repeat' (first | with_reducible assumption | with_reducible exact Below.refl _ _ | refine Below.alloc ?_ ?_ _ | refine Below.setCell ?_ ?_ _ | refine Below.drew ?_ | refine below_drewN ?_ _ | (simp; done) | (simp; omega) | omega))) hn).mono ?_
              rw [E1.out.1, E1.out.2]
              rintro e V1 ⟨rfl, hb⟩
              have hbel : Below w.heap.size w V1 := Below.trans (by repeat' (first | with_reducible assumption | with_reducible exact Below.refl _ _ | refine Below.alloc ?_ ?_ _ | refine Below.setCell ?_ ?_ _ | refine Below.drew ?_ | refine below_drewN ?_ _ | (simp; done) | (simp; omega) | omega)) (hb.mono (by first | (simp; done) | (simp; omega) | omega))
              have hsz : w.heap.size ≤ V1.heap.size := hbel.size
              clear hb
              go_wp2_with (fail)
              refine (dNeeded_any _ A n c row hi true (HR.out _ (by repeat' (first | with_reducible assumption | with_reducible exact Below.refl _ _ | refine Below.alloc ?_ ?_ _ | refine Below.setCell ?_ ?_ _ | refine Below.drew ?_ | refine below_drewN ?_ _ | (simp; done) | (simp; omega) | omega))) hn).mono ?_
              rw [E2.out.1, E2.out.2]
              rintro e V2 ⟨rfl, hb⟩
              have hbel : Below w.heap.size w V2 := Below.trans (by repeat' (first | with_reducible assumption | with_reducible exact Below.refl _ _ | refine Below.alloc ?_ ?_ _ | refine Below.setCell ?_ ?_ _ | refine Below.drew ?_ | refine below_drewN ?_ _ | (simp; done) | (simp; omega) | omega)) (hb.mono (by first | (simp; done) | (simp; omega) | omega))
              have hsz : w.heap.size ≤ V2.heap.size := hbel.size
              clear hb
              go_wp2_with (fail)
              refine (dNeeded_any _ A n c row lo true (HR.out _ (by repeat' (first | with_reducible assumption | with_reducible exact Below.refl _ _ | refine Below.alloc ?_ ?_ _ | refine Below.setCell ?_ ?_ _ | refine Below.drew ?_ | refine below_drewN ?_ _ | (simp; done) | (simp; omega) | omega))) hn).mono ?_
              rw [E1.out.1, E1.out.2]
              rintro e V3 ⟨rfl, hb⟩
              have hbel : Below w.heap.size w V3 := Below.trans (by repeat' (first | with_reducible assumption | with_reducible exact Below.refl _ _ | refine Below.alloc ?_ ?_ _ | refine Below.setCell ?_ ?_ _ | refine Below.drew ?_ | refine below_drewN ?_ _ | (simp; done) | (simp; omega) | omega)) (hb.mono (by first | (simp; done) | (simp; omega) | omega))
              have hsz : w.heap.size ≤ V3.heap.size := hbel.size
              clear hb
              go_wp2_with (fail)
              refine (dNeeded_any _ A n c row lo false (HR.out _ (by repeat' (first | with_reducible assumption | with_reducible exact Below.refl _ _ | refine Below.alloc ?_ ?_ _ | refine Below.setCell ?_ ?_ _ | refine Below.drew ?_ | refine below_drewN ?_ _ | (simp; done) | (simp; omega) | omega))) hn).mono ?_
              rw [E3.out.1, E3.out.2]
              rintro e V4 ⟨rfl, hb⟩
              have hbel : Below w.heap.size w V4 := Below.trans (by repeat' (first | with_reducible assumption | with_reducible exact Below.refl _ _ | refine Below.alloc ?_ ?_ _ | refine Below.setCell ?_ ?_ _ | refine Below.drew ?_ | refine below_drewN ?_ _ | (simp; done) | (simp; omega) | omega)) (hb.mono (by first | (simp; done) | (simp; omega) | omega))
              have hsz : w.heap.size ≤ V4.heap.size := hbel.size
              clear hb
              go_wp2_with (fail)
              refine (to_any _ _ _).mono ?_
              rintro e V5 ⟨rfl, hb⟩
              have hbel : Below w.heap.size w V5 := Below.trans (by repeat' (first | with_reducible assumption | with_reducible exact Below.refl _ _ | refine Below.alloc ?_ ?_ _ | refine Below.setCell ?_ ?_ _ | refine Below.drew ?_ | refine below_drewN ?_ _ | (simp; done) | (simp; omega) | omega)) (hb.mono (by first | (simp; done) | (simp; omega) | omega))
              have hsz : w.heap.size ≤ V5.heap.size := hbel.size
              clear hb
              go_wp2_with (fail)
              refine (left53_any _ A n c row ⟨N, N⟩ (HR.out _ (by repeat' (first | with_reducible assumption | with_reducible exact Below.refl _ _ | refine Below.alloc ?_ ?_ _ | refine Below.setCell ?_ ?_ _ | refine Below.drew ?_ | refine below_drewN ?_ _ | (simp; done) | (simp; omega) | omega))) hPre.out okN).mono ?_
              rw [hL.out]
              rintro e V6 ⟨rfl, hb⟩
              have hbel : Below w.heap.size w V6 := Below.trans (by repeat' (first | with_reducible assumption | with_reducible exact Below.refl _ _ | refine Below.alloc ?_ ?_ _ | refine Below.setCell ?_ ?_ _ | refine Below.drew ?_ | refine below_drewN ?_ _ | (simp; done) | (simp; omega) | omega)) (hb.mono (by first | (simp; done) | (simp; omega) | omega))
              have hsz : w.heap.size ≤ V6.heap.size := hbel.size
              clear hb
              go_wp2_with (fail)
              refine (to_any _ _ _).mono ?_
              rintro e V7 ⟨rfl, hb⟩
              have hbel : Below w.heap.size w V7 := Below.trans (by repeat' (first | with_reducible assumption | with_reducible exact Below.refl _ _ | refine Below.alloc ?_ ?_ _ | refine Below.setCell ?_ ?_ _ | refine Below.drew ?_ | refine below_drewN ?_ _ | (simp; done) | (simp; omega) | omega)) (hb.mono (by first | (simp; done) | (simp; omega) | omega))
              have hsz : w.heap.size ≤ V7.heap.size := hbel.size
              clear hb
              go_wp2_with (fail)
              refine (left53_any _ A n c row ⟨(N - 1), (N - 1)⟩ (HR.out _ (by repeat' (first | with_reducible assumption | with_reducible exact Below.refl _ _ | refine Below.alloc ?_ ?_ _ | refine Below.setCell ?_ ?_ _ | refine Below.drew ?_ | refine below_drewN ?_ _ | (simp; done) | (simp; omega) | omega))) hPre.out okM1).mono ?_
              rw [hM.out]
              rintro e V8 ⟨rfl, hb⟩
              have hbel : Below w.heap.size w V8 := Below.trans (by repeat' (first | with_reducible assumption | with_reducible exact Below.refl _ _ | refine Below.alloc ?_ ?_ _ | refine Below.setCell ?_ ?_ _ | refine Below.drew ?_ | refine below_drewN ?_ _ | (simp; done) | (simp; omega) | omega)) (hb.mono (by first | (simp; done) | (simp; omega) | omega))
              have hsz : w.heap.size ≤ V8.heap.size := hbel.size
              clear hb
              go_wp2_with (fail)
              refine (works_any _).mono ?_
              rintro e V9 ⟨rfl, hb⟩
              have hbel : Below w.heap.size w V9 := Below.trans (by repeat' (first | with_reducible assumption | with_reducible exact Below.refl _ _ | refine Below.alloc ?_ ?_ _ | refine Below.setCell ?_ ?_ _ | refine Below.drew ?_ | refine below_drewN ?_ _ | (simp; done) | (simp; omega) | omega)) (hb.mono (by first | (simp; done) | (simp; omega) | omega))
              have hsz : w.heap.size ≤ V9.heap.size := hbel.size
              clear hb
              go_wp2
              go_ret
              exact ⟨rfl, hbel⟩
          · exact absurd (need_sure hOk.out l0 k1) (by omega)
        · have E2 := hid (And.intro s2 e2)
          clear s2 e2
          rcases need_cases hPre.out l0 l1 false with ⟨e3, s3, m3, k3⟩ | ⟨e3, s3, k3⟩
          · have E3 := hid (And.intro s3 e3)
            clear s3 e3
            have hm3 := need_sure hOk.out l0 k1
            obtain ⟨L, hL0⟩ : ∃ L, leftOf row ⟨neededAll true lo row, neededAll true lo row⟩ = L := ⟨_, rfl⟩
            have hge : lo ≤ L.lo := by
              have := (left_point (row := row) (x := neededAll true lo row)).1
              rw [hL0] at this
              rw [this]
              exact (neededAll_iff true l0 row hOk.out m1 k1).2 (Int.le_refl _)
            have hlt : ∀ M, 1 ≤ neededAll true lo row → leftOf row ⟨neededAll true lo row - 1, neededAll true lo row - 1⟩ = M → M.lo < lo := by
              intro M h1 hM
              have := (left_point (row := row) (x := neededAll true lo row - 1)).1
              rw [hM] at this
              rw [this]
              exact Int.not_le.1 fun h => absurd ((neededAll_iff true l0 row hOk.out (by omega) (by omega)).1 h) (by omega)
            generalize neededAll true lo row = N at *
            have hL := hid hL0
            have E1 := hid (And.intro s1 e1)
            clear hL0 s1 e1
            by_cases hz : N = 0
            · subst hz
              clear hlt
              go_wp2_with (fail)
              refine (dNeeded_any _ A n c row lo true (HR.out _ (by repeat' (first | with_reducible assumption | with_reducible exact Below.refl _ _ | refine Below.alloc ?_ ?_ _ | refine Below.setCell ?_ ?_ _ | refine Below.drew ?_ | refine below_drewN ?_ _ | (simp; done) | (simp; omega) | omega))) hn).mono ?_
              rw [E1.out.1, E1.out.2]
              rintro e V1 ⟨rfl, hb⟩
              have hbel : Below w.heap.size w V1 := Below.trans (by repeat' (first | with_reducible assumption | with_reducible exact Below.refl _ _ | refine Below.alloc ?_ ?_ _ | refine Below.setCell ?_ ?_ _ | refine Below.drew ?_ | refine below_drewN ?_ _ | (simp; done) | (simp; omega) | omega)) (hb.mono (by first | (simp; done) | (simp; omega) | omega))
              have hsz : w.heap.size ≤ V1.heap.size := hbel.size
              clear hb
              go_wp2_with (fail)
              refine (dNeeded_any _ A n c row hi true (HR.out _ (by repeat' (first | with_reducible assumption | with_reducible exact Below.refl _ _ | refine Below.alloc ?_ ?_ _ | refine Below.setCell ?_ ?_ _ | refine Below.drew ?_ | refine below_drewN ?_ _ | (simp; done) | (simp; omega) | omega))) hn).mono ?_
              rw [E2.out.1, E2.out.2]
              rintro e V2 ⟨rfl, hb⟩
              have hbel : Below w.heap.size w V2 := Below.trans (by repeat' (first | with_reducible assumption | with_reducible exact Below.refl _ _ | refine Below.alloc ?_ ?_ _ | refine Below.setCell ?_ ?_ _ | refine Below.drew ?_ | refine below_drewN ?_ _ | (simp; done) | (simp; omega) | omega)) (hb.mono (by first | (simp; done) | (simp; omega) | omega))
              have hsz : w.heap.size ≤ V2.heap.size := hbel.size
              clear hb
              go_wp2_with (fail)
              refine (dNeeded_any _ A n c row lo true (HR.out _ (by repeat' (first | with_reducible assumption | with_reducible exact Below.refl _ _ | refine Below.alloc ?_ ?_ _ | refine Below.setCell ?_ ?_ _ | refine Below.drew ?_ | refine below_drewN ?_ _ | (simp; done) | (simp; omega) | omega))) hn).mono ?_
              rw [E1.out.1, E1.out.2]
              rintro e V3 ⟨rfl, hb⟩
              have hbel : Below w.heap.size w V3 := Below.trans (by repeat' (first | with_reducible assumption | with_reducible exact Below.refl _ _ | refine Below.alloc ?_ ?_ _ | refine Below.setCell ?_ ?_ _ | refine Below.drew ?_ | refine below_drewN ?_ _ | (simp; done) | (simp; omega) | omega)) (hb.mono (by first | (simp; done) | (simp; omega) | omega))
              have hsz : w.heap.size ≤ V3.heap.size := hbel.size
              clear hb
              go_wp2_with (fail)
              refine (dNeeded_any _ A n c row lo false (HR.out _ (by repeat' (first | with_reducible assumption | with_reducible exact Below.refl _ _ | refine Below.alloc ?_ ?_ _ | refine Below.setCell ?_ ?_ _ | refine Below.drew ?_ | refine below_drewN ?_ _ | (simp; done) | (simp; omega) | omega))) hn).mono ?_
              rw [E3.out.1, E3.out.2]
              rintro e V4 ⟨rfl, hb⟩
              have hbel : Below w.heap.size w V4 := Below.trans (by repeat' (first | with_reducible assumption | with_reducible exact Below.refl _ _ | refine Below.alloc ?_ ?_ _ | refine Below.setCell ?_ ?_ _ | refine Below.drew ?_ | refine below_drewN ?_ _ | (simp; done) | (simp; omega) | omega)) (hb.mono (by first | (simp; done) | (simp; omega) | omega))
              have hsz : w.heap.size ≤ V4.heap.size := hbel.size
              clear hb
              go_wp2_with (fail)
              refine (to_any _ _ _).mono ?_
              rintro e V5 ⟨rfl, hb⟩
              have hbel : Below w.heap.size w V5 := Below.trans (by repeat' (first | with_reducible assumption | with_reducible exact Below.refl _ _ | refine Below.alloc ?_ ?_ _ | refine Below.setCell ?_ ?_ _ | refine Below.drew ?_ | refine below_drewN ?_ _ | (simp; done) | (simp; omega) | omega)) (hb.mono (by first | (simp; done) | (simp; omega) | omega))
              have hsz : w.heap.size ≤ V5.heap.size := hbel.size
              clear hb
              go_wp2_with (fail)
              refine (left53_any _ A n c row ⟨0, 0⟩ (HR.out _ (by repeat' (first | with_reducible assumption | with_reducible exact Below.refl _ _ | refine Below.alloc ?_ ?_ _ | refine Below.setCell ?_ ?_ _ | refine Below.drew ?_ | refine below_drewN ?_ _ | (simp; done) | (simp; omega) | omega))) hPre.out rfl).mono ?_
              rw [hL.out]
              rintro e V6 ⟨rfl, hb⟩
              have hbel : Below w.heap.size w V6 := Below.trans (by repeat' (first | with_reducible assumption | with_reducible exact Below.refl _ _ | refine Below.alloc ?_ ?_ _ | refine Below.setCell ?_ ?_ _ | refine Below.drew ?_ | refine below_drewN ?_ _ | (simp; done) | (simp; omega) | omega)) (hb.mono (by first | (simp; done) | (simp; omega) | omega))
              have hsz : w.heap.size ≤ V6.heap.size := hbel.size
              clear hb
              go_wp2_with (fail)
              refine (works_any _).mono ?_
              rintro e V7 ⟨rfl, hb⟩
              have hbel : Below w.heap.size w V7 := Below.trans (by repeat' (first | with_reducible assumption | with_reducible exact Below.refl _ _ | refine Below.alloc ?_ ?_ _ | refine Below.setCell ?_ ?_ _ | refine Below.drew ?_ | refine below_drewN ?_ _ | (simp; done) | (simp; omega) | omega)) (hb.mono (by first | (simp; done) | (simp; omega) | omega))
              have hsz : w.heap.size ≤ V7.heap.size := hbel.size
              clear hb
              go_wp2
              go_ret
              exact ⟨rfl, hbel⟩
            · obtain ⟨M, hM0⟩ : ∃ M, leftOf row ⟨N - 1, N - 1⟩ = M := ⟨_, rfl⟩
              have hM := hid hM0
              replace hlt := hlt M (by omega) hM0
              clear hM0
              have okN : okR ⟨N, N⟩ 1000000 = true := okR_t.2 ⟨m1, Int.le_refl _, k1⟩
              have okM1 : okR ⟨N - 1, N - 1⟩ 1000000 = true := okR_t.2 ⟨by show 0 ≤ N - 1; omega, Int.le_refl _, by show N - 1 ≤ 1000000; omega⟩
              go_wp2_with (fail)
              refine (dNeeded_any _ A n c row lo true (HR.out _ (by repeat' (first | with_reducible assumption | with_reducible exact Below.refl _ _ | refine Below.alloc ?_ ?_ _ | refine Below.setCell ?_ ?_ _ | refine Below.drew ?_ | refine below_drewN ?_ _ | (simp; done) | (simp; omega) | omega))) hn).mono ?_
              rw [E1.out.1, E1.out.2]
              rintro e V1 ⟨rfl, hb⟩
              have hbel : Below w.heap.size w V1 := Below.trans (by repeat' (first | with_reducible assumption | with_reducible exact Below.refl _ _ | refine Below.alloc ?_ ?_ _ | refine Below.setCell ?_ ?_ _ | refine Below.drew ?_ | refine below_drewN ?_ _ | (simp; done) | (simp; omega) | omega)) (hb.mono (by first | (simp; done) | (simp; omega) | omega))
              have hsz : w.heap.size ≤ V1.heap.size := hbel.size
              clear hb
              go_wp2_with (fail)
              refine (dNeeded_any _ A n c row hi true (HR.out _ (by repeat' (first | with_reducible assumption | with_reducible exact Below.refl _ _ | refine Below.alloc ?_ ?_ _ | refine Below.setCell ?_ ?_ _ | refine Below.drew ?_ | refine below_drewN ?_ _ | (simp; done) | (simp; omega) | omega))) hn).mono ?_
              rw [E2.out.1, E2.out.2]
              rintro e V2 ⟨rfl, hb⟩
              have hbel : Below w.heap.size w V2 := Below.trans (by repeat' (first | with_reducible assumption | with_reducible exact Below.refl _ _ | refine Below.alloc ?_ ?_ _ | refine Below.setCell ?_ ?_ _ | refine Below.drew ?_ | refine below_drewN ?_ _ | (simp; done) | (simp; omega) | omega)) (hb.mono (by first | (simp; done) | (simp; omega) | omega))
              have hsz : w.heap.size ≤ V2.heap.size := hbel.size
              clear hb
              go_wp2_with (fail)
              refine (dNeeded_any _ A n c row lo true (HR.out _ (by repeat' (first | with_reducible assumption | with_reducible exact Below.refl _ _ | refine Below.alloc ?_ ?_ _ | refine Below.setCell ?_ ?_ _ | refine Below.drew ?_ | refine below_drewN ?_ _ | (simp; done) | (simp; omega) | omega))) hn).mono ?_
              rw [E1.out.1, E1.out.2]
              rintro e V3 ⟨rfl, hb⟩
              have hbel : Below w.heap.size w V3 := Below.trans (by repeat' (first | with_reducible assumption | with_reducible exact Below.refl _ _ | refine Below.alloc ?_ ?_ _ | refine Below.setCell ?_ ?_ _ | refine Below.drew ?_ | refine below_drewN ?_ _ | (simp; done) | (simp; omega) | omega)) (hb.mono (by first | (simp; done) | (simp; omega) | omega))
              have hsz : w.heap.size ≤ V3.heap.size := hbel.size
              clear hb
              go_wp2_with (fail)
              refine (dNeeded_any _ A n c row lo false (HR.out _ (by repeat' (first | with_reducible assumption | with_reducible exact Below.refl _ _ | refine Below.alloc ?_ ?_ _ | refine Below.setCell ?_ ?_ _ | refine Below.drew ?_ | refine below_drewN ?_ _ | (simp; done) | (simp; omega) | omega))) hn).mono ?_
              rw [E3.out.1, E3.out.2]
              rintro e V4 ⟨rfl, hb⟩
              have hbel : Below w.heap.size w V4 := Below.trans (by repeat' (first | with_reducible assumption | with_reducible exact Below.refl _ _ | refine Below.alloc ?_ ?_ _ | refine Below.setCell ?_ ?_ _ | refine Below.drew ?_ | refine below_drewN ?_ _ | (simp; done) | (simp; omega) | omega)) (hb.mono (by first | (simp; done) | (simp; omega) | omega))
              have hsz : w.heap.size ≤ V4.heap.size := hbel.size
              clear hb
              go_wp2_with (fail)
              refine (to_any _ _ _).mono ?_
              rintro e V5 ⟨rfl, hb⟩
              have hbel : Below w.heap.size w V5 := Below.trans (by repeat' (first | with_reducible assumption | with_reducible exact Below.refl _ _ | refine Below.alloc ?_ ?_ _ | refine Below.setCell ?_ ?_ _ | refine Below.drew ?_ | refine below_drewN ?_ _ | (simp; done) | (simp; omega) | omega)) (hb.mono (by first | (simp; done) | (simp; omega) | omega))
              have hsz : w.heap.size ≤ V5.heap.size := hbel.size
              clear hb
              go_wp2_with (fail)
              refine (left53_any _ A n c row ⟨N, N⟩ (HR.out _ (by repeat' (first | with_reducible assumption | with_reducible exact Below.refl _ _ | refine Below.alloc ?_ ?_ _ | refine Below.setCell ?_ ?_ _ | refine Below.drew ?_ | refine below_drewN ?_ _ | (simp; done) | (simp; omega) | omega))) hPre.out okN).mono ?_
              rw [hL.out]
              rintro e V6 ⟨rfl, hb⟩
              have hbel : Below w.heap.size w V6 := Below.trans (by repeat' (first | with_reducible assumption | with_reducible exact Below.refl _ _ | refine Below.alloc ?_ ?_ _ | refine Below.setCell ?_ ?_ _ | refine Below.drew ?_ | refine below_drewN ?_ _ | (simp; done) | (simp; omega) | omega)) (hb.mono (by first | (simp; done) | (simp; omega) | omega))
              have hsz : w.heap.size ≤ V6.heap.size := hbel.size
              clear hb
              go_wp2_with (fail)
              refine (to_any _ _ _).mono ?_
              rintro e V7 ⟨rfl, hb⟩
              have hbel : Below w.heap.size w V7 := Below.trans (by repeat' (first | with_reducible assumption | with_reducible exact Below.refl _ _ | refine Below.alloc ?_ ?_ _ | refine Below.setCell ?_ ?_ _ | refine Below.drew ?_ | refine below_drewN ?_ _ | (simp; done) | (simp; omega) | omega)) (hb.mono (by first | (simp; done) | (simp; omega) | omega))
              have hsz : w.heap.size ≤ V7.heap.size := hbel.size
              clear hb
              go_wp2_with (fail)
              refine (left53_any _ A n c row ⟨(N - 1), (N - 1)⟩ (HR.out _ (by repeat' (first | with_reducible assumption | with_reducible exact Below.refl _ _ | refine Below.alloc ?_ ?_ _ | refine Below.setCell ?_ ?_ _ | refine Below.drew ?_ | refine below_drewN ?_ _ | (simp; done) | (simp; omega) | omega))) hPre.out okM1).mono ?_
              rw [hM.out]
              rintro e V8 ⟨rfl, hb⟩
              have hbel : Below w.heap.size w V8 := Below.trans (by repeat' (first | with_reducible assumption | with_reducible exact Below.refl _ _ | refine Below.alloc ?_ ?_ _ | refine Below.setCell ?_ ?_ _ | refine Below.drew ?_ | refine below_drewN ?_ _ | (simp; done) | (simp; omega) | omega)) (hb.mono (by first | (simp; done) | (simp; omega) | omega))
              have hsz : w.heap.size ≤ V8.heap.size := hbel.size
              clear hb
              go_wp2_with (fail)
              refine (works_any _).mono ?_
              rintro e V9 ⟨rfl, hb⟩
              have hbel : Below w.heap.size w V9 := Below.trans (by repeat' (first | with_reducible assumption | with_reducible exact Below.refl _ _ | refine Below.alloc ?_ ?_ _ | refine Below.setCell ?_ ?_ _ | refine Below.drew ?_ | refine below_drewN ?_ _ | (simp; done) | (simp; omega) | omega)) (hb.mono (by first | (simp; done) | (simp; omega) | omega))
              have hsz : w.heap.size ≤ V9.heap.size := hbel.size
              clear hb
              go_wp2
              go_ret
              exact ⟨rfl, hbel⟩
          · exact absurd (need_sure hOk.out l0 k1) (by omega)
      · rcases need_cases hPre.out h0' h1' true with ⟨e2, s2, m2, k2⟩ | ⟨e2, s2, k2⟩
        · exact absurd (need_mono hOk.out l0 hlh true k2) (by omega)
        · have E2 := hid (And.intro s2 e2)
          clear s2 e2
          rcases need_cases hPre.out l0 l1 false with ⟨e3, s3, m3, k3⟩ | ⟨e3, s3, k3⟩
          · have E3 := hid (And.intro s3 e3)
            clear s3 e3
            obtain ⟨L, hL0⟩ : ∃ L, leftOf row ⟨1000000, 1000000⟩ = L := ⟨_, rfl⟩
            have hL := hid hL0
            have hlt : L.lo < lo := by
              have := (left_point (row := row) (x := 1000000)).1
              rw [hL0] at this
              rw [this]
              exact Int.not_le.1 fun h => absurd ((neededAll_iff true l0 row hOk.out (by omega) (by omega)).1 h) (by omega)
            have E1 := hid (And.intro s1 e1)
            clear hL0 s1 e1
            go_wp2_with (fail)
            refine (dNeeded_any _ A n c row lo true (HR.out _ (by repeat' (first | with_reducible assumption | with_reducible exact Below.refl _ _ | refine Below.alloc ?_ ?_ _ | refine Below.setCell ?_ ?_ _ | refine Below.drew ?_ | refine below_drewN ?_ _ | (simp; done) | (simp; omega) | omega))) hn).mono ?_
            rw [E1.out.1, E1.out.2]
            rintro e V1 ⟨rfl, hb⟩
            have hbel : Below w.heap.size w V1 := Below.trans (by repeat' (first | with_reducible assumption | with_reducible exact Below.refl _ _ | refine Below.alloc ?_ ?_ _ | refine Below.setCell ?_ ?_ _ | refine Below.drew ?_ | refine below_drewN ?_ _ | (simp; done) | (simp; omega) | omega)) (hb.mono (by first | (simp; done) | (simp; omega) | omega))
            have hsz : w.heap.size ≤ V1.heap.size := hbel.size
            clear hb
            go_wp2_with (fail)
            refine (dNeeded_any _ A n c row hi true (HR.out _ (by repeat' (first | with_reducible assumption | with_reducible exact Below.refl _ _ | refine Below.alloc ?_ ?_ _ | refine Below.setCell ?_ ?_ _ | refine Below.drew ?_ | refine below_drewN ?_ _ | (simp; done) | (simp; omega) | omega))) hn).mono ?_
            rw [E2.out.1, E2.out.2]
            rintro e V2 ⟨rfl, hb⟩
            have hbel : Below w.heap.size w V2 := Below.trans (by repeat' (first | with_reducible assumption | with_reducible exact Below.refl _ _ | refine Below.alloc ?_ ?_ _ | refine Below.setCell ?_ ?_ _ | refine Below.drew ?_ | refine below_drewN ?_ _ | (simp; done) | (simp; omega) | omega)) (hb.mono (by first | (simp; done) | (simp; omega) | omega))
            have hsz : w.heap.size ≤ V2.heap.size := hbel.size
            clear hb
            go_wp2_with (fail)
            refine (dNeeded_any _ A n c row lo true (HR.out _ (by repeat' (first | with_reducible assumption | with_reducible exact Below.refl _ _ | refine Below.alloc ?_ ?_ _ | refine Below.setCell ?_ ?_ _ | refine Below.drew ?_ | refine below_drewN ?_ _ | (simp; done) | (simp; omega) | omega))) hn).mono ?_
            rw [E1.out.1, E1.out.2]
            rintro e V3 ⟨rfl, hb⟩
            have hbel : Below w.heap.size w V3 := Below.trans (by repeat' (first | with_reducible assumption | with_reducible exact Below.refl _ _ | refine Below.alloc ?_ ?_ _ | refine Below.setCell ?_ ?_ _ | refine Below.drew ?_ | refine below_drewN ?_ _ | (simp; done) | (simp; omega) | omega)) (hb.mono (by first | (simp; done) | (simp; omega) | omega))
            have hsz : w.heap.size ≤ V3.heap.size := hbel.size
            clear hb
            go_wp2_with (fail)
            refine (dNeeded_any _ A n c row lo false (HR.out _ (by repeat' (first | with_reducible assumption | with_reducible exact Below.refl _ _ | refine Below.alloc ?_ ?_ _ | refine Below.setCell ?_ ?_ _ | refine Below.drew ?_ | refine below_drewN ?_ _ | (simp; done) | (simp; omega) | omega))) hn).mono ?_
            rw [E3.out.1, E3.out.2]
            rintro e V4 ⟨rfl, hb⟩
            have hbel : Below w.heap.size w V4 := Below.trans (by repeat' (first | with_reducible assumption | with_reducible exact Below.refl _ _ | refine Below.alloc ?_ ?_ _ | refine Below.setCell ?_ ?_ _ | refine Below.drew ?_ | refine below_drewN ?_ _ | (simp; done) | (simp; omega) | omega)) (hb.mono (by first | (simp; done) | (simp; omega) | omega))
            have hsz : w.heap.size ≤ V4.heap.size := hbel.size
            clear hb
            go_wp2_with (fail)
            refine (to_any _ _ _).mono ?_
            rintro e V5 ⟨rfl, hb⟩
            have hbel : Below w.heap.size w V5 := Below.trans (by repeat' (first | with_reducible assumption | with_reducible exact Below.refl _ _ | refine Below.alloc ?_ ?_ _ | refine Below.setCell ?_ ?_ _ | refine Below.drew ?_ | refine below_drewN ?_ _ | (simp; done) | (simp; omega) | omega)) (hb.mono (by first | (simp; done) | (simp; omega) | omega))
            have hsz : w.heap.size ≤ V5.heap.size := hbel.size
            clear hb
            go_wp2_with (fail)
            refine (left53_any _ A n c row ⟨1000000, 1000000⟩ (HR.out _ (by repeat' (first | with_reducible assumption | with_reducible exact Below.refl _ _ | refine Below.alloc ?_ ?_ _ | refine Below.setCell ?_ ?_ _ | refine Below.drew ?_ | refine below_drewN ?_ _ | (simp; done) | (simp; omega) | omega))) hPre.out rfl).mono ?_
            rw [hL.out]
            rintro e V6 ⟨rfl, hb⟩
            have hbel : Below w.heap.size w V6 := Below.trans (by repeat' (first | with_reducible assumption | with_reducible exact Below.refl _ _ | refine Below.alloc ?_ ?_ _ | refine Below.setCell ?_ ?_ _ | refine Below.drew ?_ | refine below_drewN ?_ _ | (simp; done) | (simp; omega) | omega)) (hb.mono (by first | (simp; done) | (simp; omega) | omega))
            have hsz : w.heap.size ≤ V6.heap.size := hbel.size
            clear hb
            go_wp2_with (fail)
            refine (works_any _).mono ?_
            rintro e V7 ⟨rfl, hb⟩
            have hbel : Below w.heap.size w V7 := Below.trans (by repeat' (first | with_reducible assumption | with_reducible exact Below.refl _ _ | refine Below.alloc ?_ ?_ _ | refine Below.setCell ?_ ?_ _ | refine Below.drew ?_ | refine below_drewN ?_ _ | (simp; done) | (simp; omega) | omega)) (hb.mono (by first | (simp; done) | (simp; omega) | omega))
            have hsz : w.heap.size ≤ V7.heap.size := hbel.size
            clear hb
            go_wp2
            go_ret
            exact ⟨rfl, hbel⟩
          · have E3 := hid (And.intro s3 e3)
            clear s3 e3
            obtain ⟨L, hL0⟩ : ∃ L, leftOf row ⟨1000000, 1000000⟩ = L := ⟨_, rfl⟩
            have hL := hid hL0
            have hlt : L.lo < lo := by
              have := (left_point (row := row) (x := 1000000)).1
              rw [hL0] at this
              rw [this]
              exact Int.not_le.1 fun h => absurd ((neededAll_iff true l0 row hOk.out (by omega) (by omega)).1 h) (by omega)
            have E1 := hid (And.intro s1 e1)
            clear hL0 s1 e1
            go_wp2_with (fail)
            refine (dNeeded_any _ A n c row lo true (HR.out _ (by repeat' (first | with_reducible assumption | with_reducible exact Below.refl _ _ | refine Below.alloc ?_ ?_ _ | refine Below.setCell ?_ ?_ _ | refine Below.drew ?_ | refine below_drewN ?_ _ | (simp; done) | (simp; omega) | omega))) hn).mono ?_
            rw [E1.out.1, E1.out.2]
            rintro e V1 ⟨rfl, hb⟩
            have hbel : Below w.heap.size w V1 := Below.trans (by repeat' (first | with_reducible assumption | with_reducible exact Below.refl _ _ | refine Below.alloc ?_ ?_ _ | refine Below.setCell ?_ ?_ _ | refine Below.drew ?_ | refine below_drewN ?_ _ | (simp; done) | (simp; omega) | omega)) (hb.mono (by first | (simp; done) | (simp; omega) | omega))
            have hsz : w.heap.size ≤ V1.heap.size := hbel.size
            clear hb
            go_wp2_with (fail)
            refine (dNeeded_any _ A n c row hi true (HR.out _ (by repeat' (first | with_reducible assumption | with_reducible exact Below.refl _ _ | refine Below.alloc ?_ ?_ _ | refine Below.setCell ?_ ?_ _ | refine Below.drew ?_ | refine below_drewN ?_ _ | (simp; done) | (simp; omega) | omega))) hn).mono ?_
            rw [E2.out.1, E2.out.2]
            rintro e V2 ⟨rfl, hb⟩
            have hbel : Below w.heap.size w V2 := Below.trans (by repeat' (first | with_reducible assumption | with_reducible exact Below.refl _ _ | refine Below.alloc ?_ ?_ _ | refine Below.setCell ?_ ?_ _ | refine Below.drew ?_ | refine below_drewN ?_ _ | (simp; done) | (simp; omega) | omega)) (hb.mono (by first | (simp; done) | (simp; omega) | omega))
            have hsz : w.heap.size ≤ V2.heap.size := hbel.size
            clear hb
            go_wp2_with (fail)
            refine (dNeeded_any _ A n c row lo true (HR.out _ (by repeat' (first | with_reducible assumption | with_reducible exact Below.refl _ _ | refine Below.alloc ?_ ?_ _ | refine Below.setCell ?_ ?_ _ | refine Below.drew ?_ | refine below_drewN ?_ _ | (simp; done) | (simp; omega) | omega))) hn).mono ?_
            rw [E1.out.1, E1.out.2]
            rintro e V3 ⟨rfl, hb⟩
            have hbel : Below w.heap.size w V3 := Below.trans (by repeat' (first | with_reducible assumption | with_reducible exact Below.refl _ _ | refine Below.alloc ?_ ?_ _ | refine Below.setCell ?_ ?_ _ | refine Below.drew ?_ | refine below_drewN ?_ _ | (simp; done) | (simp; omega) | omega)) (hb.mono (by first | (simp; done) | (simp; omega) | omega))
            have hsz : w.heap.size ≤ V3.heap.size := hbel.size
            clear hb
            go_wp2_with (fail)
            refine (dNeeded_any _ A n c row lo false (HR.out _ (by repeat' (first | with_reducible assumption | with_reducible exact Below.refl _ _ | refine Below.alloc ?_ ?_ _ | refine Below.setCell ?_ ?_ _ | refine Below.drew ?_ | refine below_drewN ?_ _ | (simp; done) | (simp; omega) | omega))) hn).mono ?_
            rw [E3.out.1, E3.out.2]
            rintro e V4 ⟨rfl, hb⟩
            have hbel : Below w.heap.size w V4 := Below.trans (by repeat' (first | with_reducible assumption | with_reducible exact Below.refl _ _ | refine Below.alloc ?_ ?_ _ | refine Below.setCell ?_ ?_ _ | refine Below.drew ?_ | refine below_drewN ?_ _ | (simp; done) | (simp; omega) | omega)) (hb.mono (by first | (simp; done) | (simp; omega) | omega))
            have hsz : w.heap.size ≤ V4.heap.size := hbel.size
            clear hb
            go_wp2_with (fail)
            refine (to_any _ _ _).mono ?_
            rintro e V5 ⟨rfl, hb⟩
            have hbel : Below w.heap.size w V5 := Below.trans (by repeat' (first | with_reducible assumption | with_reducible exact Below.refl _ _ | refine Below.alloc ?_ ?_ _ | refine Below.setCell ?_ ?_ _ | refine Below.drew ?_ | refine below_drewN ?_ _ | (simp; done) | (simp; omega) | omega)) (hb.mono (by first | (simp; done) | (simp; omega) | omega))
            have hsz : w.heap.size ≤ V5.heap.size := hbel.size
            clear hb
            go_wp2_with (fail)
            refine (left53_any _ A n c row ⟨1000000, 1000000⟩ (HR.out _ (by repeat' (first | with_reducible assumption | with_reducible exact Below.refl _ _ | refine Below.alloc ?_ ?_ _ | refine Below.setCell ?_ ?_ _ | refine Below.drew ?_ | refine below_drewN ?_ _ | (simp; done) | (simp; omega) | omega))) hPre.out rfl).mono ?_
            rw [hL.out]
            rintro e V6 ⟨rfl, hb⟩
            have hbel : Below w.heap.size w V6 := Below.trans (by repeat' (first | with_reducible assumption | with_reducible exact Below.refl _ _ | refine Below.alloc ?_ ?_ _ | refine Below.setCell ?_ ?_ _ | refine Below.drew ?_ | refine below_drewN ?_ _ | (simp; done) | (simp; omega) | omega)) (hb.mono (by first | (simp; done) | (simp; omega) | omega))
            have hsz : w.heap.size ≤ V6.heap.size := hbel.size
            clear hb
            go_wp2_with (fail)
            refine (works_any _).mono ?_
            rintro e V7 ⟨rfl, hb⟩
            have hbel : Below w.heap.size w V7 := Below.trans (by repeat' (first | with_reducible assumption | with_reducible exact Below.refl _ _ | refine Below.alloc ?_ ?_ _ | refine Below.setCell ?_ ?_ _ | refine Below.drew ?_ | refine below_drewN ?_ _ | (simp; done) | (simp; omega) | omega)) (hb.mono (by first | (simp; done) | (simp; omega) | omega))
            have hsz : w.heap.size ≤ V7.heap.size := hbel.size
            clear hb
            go_wp2
            go_ret
            exact ⟨rfl, hbel⟩
end Go.Proofs.Ytdcglphekafpdaa
