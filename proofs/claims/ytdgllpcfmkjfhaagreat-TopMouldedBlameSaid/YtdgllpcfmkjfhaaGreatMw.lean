/- Texts of the proof, laid together by program. -/
import Derived.Test.YtdgllpcfmkjfhaaGreatMv
set_option linter.unusedSimpArgs false
set_option linter.unusedVariables false
/- Walks: TopMouldedBlame, for all books and bits. -/
namespace Go.Proofs.YtdgllpcfmkjfhaaGreat.Bl
open Go.RowKit Go.Shelf Go.WideMaps
attribute [local go_sem] Oper.semAt_some
def WorksOk : Prop := ∀ w : World, Calls Tryz.prog 6 #[] w fun e w' => e = .returned (.bool true) ∧ Below w.heap.size w w'
set_option maxRecDepth 100000 in
set_option maxHeartbeats 16000000 in
theorem topMoulded_walk (HW : WorksOk) (S M : Int) (A : Option Addr) (n c : Nat) (ws : List (Int × Int)) (bits : Nat) (w : World) (hl : WtS w w.heap.size A n ws) (hbits : bits < 65536) :
    Calls Tryz.prog 3 #[.agg #[.int .i64 S, .int .i64 M, .slice A n c], .int .u16 (bits : Int)] w fun e w' => e = .returned (.bool true) ∧ Below w.heap.size w w' := by
  have hlen := hl.len
  have HL := hid hl
  have Hlen := hid hlen
  clear hl hlen
  by_cases h10 : 10 < n
  · have h10i : (10 : Int) < n := by omega
    go_enter Tryz.func3, Tryz.ntmps3
    go_wp2_with (go_at_call 6; refine (HW _).mono ?_; rintro e wz ⟨rfl, hbz⟩)
    refine bodyPost_ret (v := .bool true) (by first | (simp [results, Tryz.results3, go_sem]; done) | (simp [results, Tryz.results3, go_sem, *]; done) | (simp [results, Tryz.results3, go_sem, World.cell?_setCell_same', *]; done) | (simp [results, Tryz.results3, go_sem]; first | exact ⟨rfl, rfl⟩ | rfl)) rfl ⟨rfl, Below.trans (by repeat' (first | with_reducible assumption | with_reducible exact Below.refl _ _ | refine Below.alloc ?_ ?_ _ | refine Below.setCell ?_ ?_ _ | refine Below.drew ?_ | refine below_drewN ?_ _ | (simp; done) | (simp; omega) | omega)) (hbz.mono (by first | (simp; done) | (simp; omega) | omega))⟩
  have h10i : ¬ (10 : Int) < n := by omega
  obtain ⟨ch, hch⟩ : ∃ ch, mchk S M ws = ch := ⟨_, rfl⟩
  by_cases hc0 : ch = 0
  case neg =>
    have hci : (ch != 0) = true := by simpa using hc0
    have Hch := hid hch
    clear hch
    go_enter Tryz.func3, Tryz.ntmps3
    go_wp2_with (fail)
    refine (r2CheckBook_any S M A n c ws _ (HL.out.below (by repeat' (first | with_reducible assumption | with_reducible exact Below.refl _ _ | refine Below.alloc ?_ ?_ _ | refine Below.setCell ?_ ?_ _ | refine Below.drew ?_ | refine below_drewN ?_ _ | (simp; done) | (simp; omega) | omega)) (by first | (simp; done) | (simp; omega) | omega)) (by omega)).mono ?_
    rw [Hch.out]
    rintro e w1 ⟨rfl, hb1⟩
    have hbel : Below w.heap.size w w1 := Below.trans (by repeat' (first | with_reducible assumption | with_reducible exact Below.refl _ _ | refine Below.alloc ?_ ?_ _ | refine Below.setCell ?_ ?_ _ | refine Below.drew ?_ | refine below_drewN ?_ _ | (simp; done) | (simp; omega) | omega)) (hb1.mono (by first | (simp; done) | (simp; omega) | omega))
    go_wp2_with (go_at_call 6; refine (HW _).mono ?_; rintro e wz ⟨rfl, hbz⟩)
    refine bodyPost_ret (v := .bool true) (by first | (simp [results, Tryz.results3, go_sem]; done) | (simp [results, Tryz.results3, go_sem, *]; done) | (simp [results, Tryz.results3, go_sem, World.cell?_setCell_same', *]; done) | (simp [results, Tryz.results3, go_sem]; first | exact ⟨rfl, rfl⟩ | rfl)) rfl ⟨rfl, hbel.trans (hbz.mono hbel.size)⟩
  case pos =>
  subst hc0
  have hb := mchk_ok hch
  have Hch := hid hch
  have hs := hb.s
  have hm := hb.m
  have zSM : IntKind.i64.wrap (S + M) = S + M := IntWalk.i64_in _ (by omega)
  clear hch
  by_cases h8 : 8 < S + M
  · clear hb hs hm
    go_enter Tryz.func3, Tryz.ntmps3
    go_wp2_with (fail)
    refine (r2CheckBook_any S M A n c ws _ (HL.out.below (by repeat' (first | with_reducible assumption | with_reducible exact Below.refl _ _ | refine Below.alloc ?_ ?_ _ | refine Below.setCell ?_ ?_ _ | refine Below.drew ?_ | refine below_drewN ?_ _ | (simp; done) | (simp; omega) | omega)) (by first | (simp; done) | (simp; omega) | omega)) (by omega)).mono ?_
    rw [Hch.out]
    rintro e w1 ⟨rfl, hb1⟩
    have hbel : Below w.heap.size w w1 := Below.trans (by repeat' (first | with_reducible assumption | with_reducible exact Below.refl _ _ | refine Below.alloc ?_ ?_ _ | refine Below.setCell ?_ ?_ _ | refine Below.drew ?_ | refine below_drewN ?_ _ | (simp; done) | (simp; omega) | omega)) (hb1.mono (by first | (simp; done) | (simp; omega) | omega))
    have c0 : w1.cell? ⟨w.heap.size, 0, none⟩ = some (.int .i64 S) := (hb1.cell (p := ⟨w.heap.size, 0, none⟩) (by first | (simp; done) | (simp; omega) | omega)).trans (by go_simp)
    have c1 : w1.cell? ⟨w.heap.size, 1, none⟩ = some (.int .i64 M) := (hb1.cell (p := ⟨w.heap.size, 1, none⟩) (by first | (simp; done) | (simp; omega) | omega)).trans (by go_simp)
    have hq0 : w.heap.size < w1.heap.size := (by have := hb1.size; simp at this; omega)
    clear hb1
    go_wp2_with (go_at_call 6; refine (HW _).mono ?_; rintro e wz ⟨rfl, hbz⟩)
    refine bodyPost_ret (v := .bool true) (by first | (simp [results, Tryz.results3, go_sem]; done) | (simp [results, Tryz.results3, go_sem, *]; done) | (simp [results, Tryz.results3, go_sem, World.cell?_setCell_same', *]; done) | (simp [results, Tryz.results3, go_sem]; first | exact ⟨rfl, rfl⟩ | rfl)) rfl ⟨rfl, hbel.trans (hbz.mono hbel.size)⟩
  obtain ⟨s, rfl⟩ : ∃ s : Nat, S = s := ⟨S.toNat, by omega⟩
  obtain ⟨m, rfl⟩ : ∃ m : Nat, M = m := ⟨M.toNat, by omega⟩
  have h8n : s + m ≤ 8 := by omega
  have hn10 : n ≤ 10 := by omega
  obtain ⟨sm, hsm⟩ := small_blame hb h8n (by rw [Hlen.out]; exact hn10)
  have hapr := apr_list hb h8n (by rw [Hlen.out]; exact hn10)
  have hchk := hir_chk hb h8n (by rw [Hlen.out]; exact hn10)
  have hlap := fun l => list_apart hb h8n (by rw [Hlen.out]; exact hn10) (l := l)
  obtain ⟨ls, hls⟩ : ∃ ls, hirL (s : Int) ws = ls := ⟨_, rfl⟩
  obtain ⟨lw, hlw⟩ : ∃ lw, listW (sF ws) (mF ws) m s n = lw := ⟨_, rfl⟩
  have e1 := hsm.good
  have e2 := hsm.val
  have e3 := hsm.is
  have e4 := hsm.len
  have e5 := hsm.sh
  have e6 := hsm.mo
  have e7 := hsm.cov
  rw [hls] at e1 e2 hapr hchk hlap
  rw [Hlen.out] at e4 hapr hlap
  rw [hlw] at e4 hapr
  have hJ8 : 1 ≤ (s : Int) + m ∧ (s : Int) + m ≤ 8 := by omega
  have hls10 : ls.length = n := by rw [← hls, hir_len]; exact Hlen.out
  have hls8 : ∀ l ∈ ls, l.length ≤ 1000000 := fun l hl => by
    rw [← hls] at hl
    obtain ⟨x, -, rfl⟩ := List.mem_map.1 hl
    simp
  have hws : ∀ (k : Nat) (p q : Int), ws[k]? = some (p, q) → 0 ≤ p ∧ p < s ∧ 0 ≤ q ∧ q < m := fun k p q hk => by
    have := hb.w _ (List.mem_of_getElem? hk)
    omega
  have HB := hid hb
  have E1 := hid e1; have E2 := hid e2; have E3 := hid e3; have E4 := hid e4; have E5 := hid e5; have E6 := hid e6; have E7 := hid e7
  have Hapr := hid hapr; have Hchk := hid hchk; have Hlap := hid hlap; have Hls := hid hls; have Hlw := hid hlw
  have Hls10 := hid hls10; have Hls8 := hid hls8; have Hws := hid hws
  clear hb e1 e2 e3 e4 e5 e6 e7 hapr hchk hlap hls hlw hls10 hls8 hws hsm
  go_enter Tryz.func3, Tryz.ntmps3
  go_wp2_with (fail)
  refine (r2CheckBook_any s m A n c ws _ (HL.out.below (by repeat' (first | with_reducible assumption | with_reducible exact Below.refl _ _ | refine Below.alloc ?_ ?_ _ | refine Below.setCell ?_ ?_ _ | refine Below.drew ?_ | refine below_drewN ?_ _ | (simp; done) | (simp; omega) | omega)) (by first | (simp; done) | (simp; omega) | omega)) (by omega)).mono ?_
  rw [Hch.out]
  rintro e w1 ⟨rfl, hb1⟩
  have hbel : Below w.heap.size w w1 := Below.trans (by repeat' (first | with_reducible assumption | with_reducible exact Below.refl _ _ | refine Below.alloc ?_ ?_ _ | refine Below.setCell ?_ ?_ _ | refine Below.drew ?_ | refine below_drewN ?_ _ | (simp; done) | (simp; omega) | omega)) (hb1.mono (by first | (simp; done) | (simp; omega) | omega))
  have c0 : w1.cell? ⟨w.heap.size, 0, none⟩ = some (.int .i64 (s : Int)) := (hb1.cell (p := ⟨w.heap.size, 0, none⟩) (by first | (simp; done) | (simp; omega) | omega)).trans (by go_simp)
  have c1 : w1.cell? ⟨w.heap.size, 1, none⟩ = some (.int .i64 (m : Int)) := (hb1.cell (p := ⟨w.heap.size, 1, none⟩) (by first | (simp; done) | (simp; omega) | omega)).trans (by go_simp)
  have c2 : w1.cell? ⟨w.heap.size, 2, none⟩ = some (.slice A n c) := (hb1.cell (p := ⟨w.heap.size, 2, none⟩) (by first | (simp; done) | (simp; omega) | omega)).trans (by go_simp)
  have hq0 : w.heap.size < w1.heap.size := (by have := hb1.size; simp at this; omega)
  clear hb1 hs hm
  go_wp2
  obtain ⟨g, hg⟩ : ∃ g, w1.heap.size = g := ⟨_, rfl⟩
  obtain ⟨W0, hW0⟩ : ∃ W0, w1.alloc (.cells #[.int .i64 ((s : Int) + m), .slice none 0 0] 31) = W0 := ⟨_, rfl⟩
  have BX : Hid (Blk W0 g 31 #[.int .i64 ((s : Int) + m), .slice none 0 0]) := hid (by rw [← hW0]; exact Blk.new' hg)
  have hb0 : Below w1.heap.size w1 W0 := by rw [← hW0]; exact (Below.refl _ _).alloc (Nat.le_refl _) _
  have Hb0 : Hid (Below w.heap.size w W0) := hid (hbel.trans (hb0.mono hbel.size))
  have k0 : Hid (W0.cell? ⟨w.heap.size, 0, none⟩ = some (.int .i64 (s : Int))) := hid ((hb0.cell (p := ⟨w.heap.size, 0, none⟩) hq0).trans c0)
  have k1 : Hid (W0.cell? ⟨w.heap.size, 1, none⟩ = some (.int .i64 (m : Int))) := hid ((hb0.cell (p := ⟨w.heap.size, 1, none⟩) hq0).trans c1)
  have k2 : Hid (W0.cell? ⟨w.heap.size, 2, none⟩ = some (.slice A n c)) := hid ((hb0.cell (p := ⟨w.heap.size, 2, none⟩) hq0).trans c2)
  have hz0 : Hid (W0.heap.size = g + 1) := hid (by rw [← hW0]; simp [hg])
  have hpg : w.heap.size < g := by omega
  rw [hW0, hg]
  clear hW0 hb0 c0 c1 c2 hq0 hg hbel
  obtain ⟨pb, hpb⟩ : ∃ pb, w.heap.size = pb := ⟨_, rfl⟩
  go_loopw [6] (fun iv wr => ∃ k : Nat, k ≤ n ∧ iv = .int .i64 k ∧ (∃ (A8 : Option Addr) (c8 : Nat), Hid (Hir wr g (.slice A8 k c8) (hirL (s : Int) (ws.take k))) ∧ Hid (Blk wr g 31 #[.int .i64 ((s : Int) + m), .slice A8 k c8])) ∧ Hid (Below g W0 wr)) (fun iv _ => n - (intOf iv).toNat)
  case atStart => exact ⟨0, by omega, rfl, ⟨none, 0, hid (Hir.nil _ _), BX⟩, hid (Below.refl _ _)⟩
  case round =>
    obtain ⟨k, hk, rfl, ⟨A8, c8, HN, HBX⟩, hbr⟩ := hrel
    rw [hpb] at k0 k1 k2 hpg ⊢
    have q0 : wr.cell? ⟨pb, 0, none⟩ = some (.int .i64 (s : Int)) := (hbr.out.cell (p := ⟨pb, 0, none⟩) hpg).trans k0.out
    have q1 : wr.cell? ⟨pb, 1, none⟩ = some (.int .i64 (m : Int)) := (hbr.out.cell (p := ⟨pb, 1, none⟩) hpg).trans k1.out
    have q2 : wr.cell? ⟨pb, 2, none⟩ = some (.slice A n c) := (hbr.out.cell (p := ⟨pb, 2, none⟩) hpg).trans k2.out
    have lg := HBX.out.lt
    have lp : pb < wr.heap.size := by omega
    by_cases hlt : k < n
    · have hlti : (k : Int) < n := by omega
      obtain ⟨b, off, p, q, rfl, hb, hmk, d0, d1⟩ := HL.out.at_ hlt
      have hpq := Hws.out k p q hmk
      have zq : IntKind.i64.wrap ((s : Int) + q) = (s : Int) + q := IntWalk.i64_in _ (by omega)
      have hbg : b < g := by omega
      have htk := hid (hir_take (S := (s : Int)) hmk)
      have hlk : Hid ((hirL (s : Int) (ws.take k)).length = k) := hid (by rw [hir_len, List.length_take]; have := Hlen.out; omega)
      have D0 : Hid (W0.cell? ⟨b, off + k * 2, none⟩ = some (.int .i64 p)) := hid ((Hb0.out.cell (p := ⟨b, off + k * 2, none⟩) hb).trans d0)
      have D1 : Hid (W0.cell? ⟨b, off + k * 2 + 1, none⟩ = some (.int .i64 q)) := hid ((Hb0.out.cell (p := ⟨b, off + k * 2 + 1, none⟩) hb).trans d1)
      have HCR : Hid (CR W0 pb g s m (some ⟨b, off, none⟩) n c wr.drew) := hid (CR.ext (X := wr) ⟨hbr.out, q0, q1, q2, lp, lg, hpg, _, HBX.out.cell 1⟩ (Below.refl _ _).drew)
      have hE0 : Below wr.heap.size wr wr.drew := (Below.refl _ _).drew
      clear hmk hpq d0 d1 hb q0 q1
      go_wp2
      clear q2
      refine Sx.wp_region_el (CR W0 pb g s m (some ⟨b, off, none⟩) n c) (fun X Y h he => h.ext he) [0, 2, 3, 4, 5, 6, 7, 8, 9, 10, 11, 12, 13, 14, 15, 16] 6 (by kernel_rfl) (by kernel_rfl) HCR.out ?_
      simp only [pick, List.getElem?_toArray, List.getElem?_cons_zero, List.getElem?_cons_succ]
      iterate 16 (refine Sx.wpE_val (v := ?_) (by rfl) (fun W hW => ?_) ?_; rotate_left; (· (obtain ⟨q1, q2, q3, q4, q5, q6, q7, -⟩ := hW; have d0W := (q1.cell (p := ⟨b, off + k * 2, none⟩) hbg).trans D0.out; have d1W := (q1.cell (p := ⟨b, off + k * 2 + 1, none⟩) hbg).trans D1.out; have lbW : b < W.heap.size := by omega); go_simp; with_reducible rfl); simp only [Act.put, List.setIfInBounds_toArray, List.set_cons_zero, List.set_cons_succ])
      simp only [Sx.wpE]
      (refine Sx.wpM_two 1 17 _ _ (by simp only [List.getElem?_toArray, List.getElem?_cons_zero, List.getElem?_cons_succ]; rfl) (by simp only [List.getElem?_toArray, List.getElem?_cons_zero, List.getElem?_cons_succ]; rfl) (by kernel_rfl) (by rfl) (by rfl) ?_ ?_)
      · (intro X1 hx hs; have hE1 : Below wr.heap.size wr X1 := (hE0).trans (hx.mono (hE0).size); have cx := (HBX.out.below hE1 HBX.out.lt).cell 1; have lx := (HBX.out.below hE1 HBX.out.lt).lt; (go_simp; simp only [LUpon, Act.put]; try simp only [List.setIfInBounds_toArray, List.set_cons_zero, List.set_cons_succ]); refine ⟨hs, ?_⟩; clear cx lx)
        (refine Sx.wpM_one 17 _ (by simp only [List.getElem?_toArray, List.getElem?_cons_zero, List.getElem?_cons_succ]; rfl) (by kernel_rfl) (by rfl) ?_)
        (intro X2 hx hs; have e' := (hE1).trans (hx.mono (hE1).size); (go_simp; simp only [LUpon, Act.put]; try simp only [List.setIfInBounds_toArray, List.set_cons_zero, List.set_cons_succ]); have hq : Below (X2).heap.size X2 ((X2).alloc (.cells #[.int .i64 p, .int .i64 ((s : Int) + q)] 3)) := (Below.refl _ _).alloc (Nat.le_refl _) _; refine ⟨hs.ext hq, ?_⟩; have b1 : Blk ((X2).alloc (.cells #[.int .i64 p, .int .i64 ((s : Int) + q)] 3)) (X2).heap.size 3 #[.int .i64 p, .int .i64 ((s : Int) + q)] := Blk.new _ _ _; have hE2 := e'.trans (hq.mono e'.size); have hh1 : wr.heap.size ≤ (X2).heap.size := e'.size; generalize (X2).heap.size = h1 at *; generalize (X2).alloc (.cells #[.int .i64 p, .int .i64 ((s : Int) + q)] 3) = Y2 at *; clear hq hs hx e')
        (refine Sx.wpM_one 18 _ (by simp only [List.getElem?_toArray, List.getElem?_cons_zero, List.getElem?_cons_succ]; rfl) (by kernel_rfl) (by rfl) ?_)
        (intro X3 hx hs; have e' := (hE2).trans (hx.mono (hE2).size); (go_simp; simp only [LUpon, Act.put]; try simp only [List.setIfInBounds_toArray, List.set_cons_zero, List.set_cons_succ]); have hq : Below (X3).heap.size X3 ((X3).alloc (.cells #[.slice (some ⟨h1, 0, none⟩) 2 2] 34)) := (Below.refl _ _).alloc (Nat.le_refl _) _; refine ⟨hs.ext hq, ?_⟩; have b2 : Blk ((X3).alloc (.cells #[.slice (some ⟨h1, 0, none⟩) 2 2] 34)) (X3).heap.size 34 #[.slice (some ⟨h1, 0, none⟩) 2 2] := Blk.new _ _ _; replace b1 := (b1.below hx b1.lt).below hq (b1.below hx b1.lt).lt; have hE3 := e'.trans (hq.mono e'.size); generalize (X3).heap.size = h2 at *; generalize (X3).alloc (.cells #[.slice (some ⟨h1, 0, none⟩) 2 2] 34) = Y3 at *; clear hq hs hx e')
        (refine Sx.wpM_one 19 _ (by simp only [List.getElem?_toArray, List.getElem?_cons_zero, List.getElem?_cons_succ]; rfl) (by kernel_rfl) (by rfl) ?_)
        (intro X4 hx hs; have e9 := (hE3).trans (hx.mono (hE3).size); replace b1 := b1.below hx b1.lt; replace b2 := b2.below hx b2.lt; have hN := HN.out.below e9; have hbk := HBX.out.below e9 HBX.out.lt; refine lupon_hir _ _ rfl g (.slice A8 k c8) _ (by rfl) hN h2 h1 2 2 [p, (s : Int) + q] (by rfl) b2 ⟨rfl, fun _ => ⟨h1, 0, rfl, b1.lt, fun j u hu => by rw [Nat.zero_add, b1.cell]; simpa [cI] using hu⟩⟩ ⟨b1.lt, fun e => by have := (HN.out.ownLt _ e).2; omega⟩ (by omega) (by rw [hlk.out]; omega) (by have := e9.size; omega) ?_; intro v9 w9 ho9 hg9; have hg1 : Below (g + 1) X4 w9 := (Below.refl _ _).grown hg9 (by have := e9.size; omega) (fun r hr => (hN.ownLt r hr).1); have hs9 := hs.step hg1; have hb9 := hbk.below hg1 (Nat.lt_succ_self g); rw [← htk.out] at ho9; obtain ⟨A9, c9, e10, -⟩ := ho9.lis; rw [htk.out, List.length_append, hlk.out] at e10; subst e10; refine ⟨hs9, ?_⟩; clear hg1 hg9 hs hx e9 hN hbk b1 b2)
        (refine Sx.wpM_one 20 _ (by simp only [List.getElem?_toArray, List.getElem?_cons_zero, List.getElem?_cons_succ]; rfl) (by kernel_rfl) (by rfl) ?_)
        intro X5 hx5 hs5
        (go_simp; simp only [LUpon, Act.put]; try simp only [List.setIfInBounds_toArray, List.set_cons_zero, List.set_cons_succ])
        refine ⟨hs5, ?_⟩
        (refine Sx.wpM_one 21 _ (by simp only [List.getElem?_toArray, List.getElem?_cons_zero, List.getElem?_cons_succ]; rfl) (by kernel_rfl) (by rfl) ?_)
        intro X6 hx6 hs6
        have hb6 := (hb9.below hx5 hb9.lt).below hx6 (hb9.below hx5 hb9.lt).lt
        have ho6 := (ho9.below hx5).below hx6
        have f6 := hb6.frozen 1
        have l6 := hb6.lt
        obtain ⟨j1, j2, j3, j4, j5, j6, j7, x0, j8⟩ := id hs6
        (go_simp; simp only [LUpon, Act.put]; try simp only [List.setIfInBounds_toArray, List.set_cons_zero, List.set_cons_succ])
        refine ⟨hs6.put, ?_⟩
        have ho7 : Hir (X6.setCell ⟨g, 1, none⟩ (.slice A9 (k + 1) c9)) g (.slice A9 (k + 1) c9) (hirL (s : Int) (ws.take (k + 1))) := ho6.put
        have hb7 := hb6.set_ 1 (.slice A9 (k + 1) c9)
        refine Sx.wpM_end (by kernel_rfl) ?_
        intro X8 hx8 hs8
        have ho8 := hid (ho7.below hx8)
        have hb8 : Hid (Blk X8 g 31 #[.int .i64 ((s : Int) + m), .slice A9 (k + 1) c9]) := hid (hb7.below hx8 hb7.lt)
        have hr8 := hid hs8.1
        clear hb9 ho9 hs9 hb6 ho6 hs6 hs5 hx5 hx6 ho7 hb7 hx8 hs8 f6 l6 j1 j2 j3 j4 j5 j6 j7 j8
        go_wp2
        exact ⟨⟨k + 1, by omega, by go_num, ⟨A9, c9, ho8, hb8⟩, hr8⟩, by simp [intOf]; omega⟩
      · (intro X1 hx hs; have e' := (hE0).trans (hx.mono (hE0).size); (go_simp; simp only [LUpon, Act.put]; try simp only [List.setIfInBounds_toArray, List.set_cons_zero, List.set_cons_succ]); have hq : Below (X1).heap.size X1 ((X1).alloc (.cells #[.int .i64 p, .int .i64 ((s : Int) + q)] 3)) := (Below.refl _ _).alloc (Nat.le_refl _) _; refine ⟨hs.ext hq, ?_⟩; have b1 : Blk ((X1).alloc (.cells #[.int .i64 p, .int .i64 ((s : Int) + q)] 3)) (X1).heap.size 3 #[.int .i64 p, .int .i64 ((s : Int) + q)] := Blk.new _ _ _; have hE1 := e'.trans (hq.mono e'.size); have hh1 : wr.heap.size ≤ (X1).heap.size := e'.size; generalize (X1).heap.size = h1 at *; generalize (X1).alloc (.cells #[.int .i64 p, .int .i64 ((s : Int) + q)] 3) = Y1 at *; clear hq hs hx e')
        (refine Sx.wpM_two 1 18 _ _ (by simp only [List.getElem?_toArray, List.getElem?_cons_zero, List.getElem?_cons_succ]; rfl) (by simp only [List.getElem?_toArray, List.getElem?_cons_zero, List.getElem?_cons_succ]; rfl) (by kernel_rfl) (by rfl) (by rfl) ?_ ?_)
        · (intro X2 hx hs; have hE2 : Below wr.heap.size wr X2 := (hE1).trans (hx.mono (hE1).size); have cx := (HBX.out.below hE2 HBX.out.lt).cell 1; have lx := (HBX.out.below hE2 HBX.out.lt).lt; (go_simp; simp only [LUpon, Act.put]; try simp only [List.setIfInBounds_toArray, List.set_cons_zero, List.set_cons_succ]); refine ⟨hs, ?_⟩; clear cx lx)
          replace b1 := b1.below hx b1.lt
          (refine Sx.wpM_one 18 _ (by simp only [List.getElem?_toArray, List.getElem?_cons_zero, List.getElem?_cons_succ]; rfl) (by kernel_rfl) (by rfl) ?_)
          (intro X3 hx hs; have e' := (hE2).trans (hx.mono (hE2).size); (go_simp; simp only [LUpon, Act.put]; try simp only [List.setIfInBounds_toArray, List.set_cons_zero, List.set_cons_succ]); have hq : Below (X3).heap.size X3 ((X3).alloc (.cells #[.slice (some ⟨h1, 0, none⟩) 2 2] 34)) := (Below.refl _ _).alloc (Nat.le_refl _) _; refine ⟨hs.ext hq, ?_⟩; have b2 : Blk ((X3).alloc (.cells #[.slice (some ⟨h1, 0, none⟩) 2 2] 34)) (X3).heap.size 34 #[.slice (some ⟨h1, 0, none⟩) 2 2] := Blk.new _ _ _; replace b1 := (b1.below hx b1.lt).below hq (b1.below hx b1.lt).lt; have hE3 := e'.trans (hq.mono e'.size); generalize (X3).heap.size = h2 at *; generalize (X3).alloc (.cells #[.slice (some ⟨h1, 0, none⟩) 2 2] 34) = Y3 at *; clear hq hs hx e')
          (refine Sx.wpM_one 19 _ (by simp only [List.getElem?_toArray, List.getElem?_cons_zero, List.getElem?_cons_succ]; rfl) (by kernel_rfl) (by rfl) ?_)
          (intro X4 hx hs; have e9 := (hE3).trans (hx.mono (hE3).size); replace b1 := b1.below hx b1.lt; replace b2 := b2.below hx b2.lt; have hN := HN.out.below e9; have hbk := HBX.out.below e9 HBX.out.lt; refine lupon_hir _ _ rfl g (.slice A8 k c8) _ (by rfl) hN h2 h1 2 2 [p, (s : Int) + q] (by rfl) b2 ⟨rfl, fun _ => ⟨h1, 0, rfl, b1.lt, fun j u hu => by rw [Nat.zero_add, b1.cell]; simpa [cI] using hu⟩⟩ ⟨b1.lt, fun e => by have := (HN.out.ownLt _ e).2; omega⟩ (by omega) (by rw [hlk.out]; omega) (by have := e9.size; omega) ?_; intro v9 w9 ho9 hg9; have hg1 : Below (g + 1) X4 w9 := (Below.refl _ _).grown hg9 (by have := e9.size; omega) (fun r hr => (hN.ownLt r hr).1); have hs9 := hs.step hg1; have hb9 := hbk.below hg1 (Nat.lt_succ_self g); rw [← htk.out] at ho9; obtain ⟨A9, c9, e10, -⟩ := ho9.lis; rw [htk.out, List.length_append, hlk.out] at e10; subst e10; refine ⟨hs9, ?_⟩; clear hg1 hg9 hs hx e9 hN hbk b1 b2)
          (refine Sx.wpM_one 20 _ (by simp only [List.getElem?_toArray, List.getElem?_cons_zero, List.getElem?_cons_succ]; rfl) (by kernel_rfl) (by rfl) ?_)
          intro X5 hx5 hs5
          (go_simp; simp only [LUpon, Act.put]; try simp only [List.setIfInBounds_toArray, List.set_cons_zero, List.set_cons_succ])
          refine ⟨hs5, ?_⟩
          (refine Sx.wpM_one 21 _ (by simp only [List.getElem?_toArray, List.getElem?_cons_zero, List.getElem?_cons_succ]; rfl) (by kernel_rfl) (by rfl) ?_)
          intro X6 hx6 hs6
          have hb6 := (hb9.below hx5 hb9.lt).below hx6 (hb9.below hx5 hb9.lt).lt
          have ho6 := (ho9.below hx5).below hx6
          have f6 := hb6.frozen 1
          have l6 := hb6.lt
          obtain ⟨j1, j2, j3, j4, j5, j6, j7, x0, j8⟩ := id hs6
          (go_simp; simp only [LUpon, Act.put]; try simp only [List.setIfInBounds_toArray, List.set_cons_zero, List.set_cons_succ])
          refine ⟨hs6.put, ?_⟩
          have ho7 : Hir (X6.setCell ⟨g, 1, none⟩ (.slice A9 (k + 1) c9)) g (.slice A9 (k + 1) c9) (hirL (s : Int) (ws.take (k + 1))) := ho6.put
          have hb7 := hb6.set_ 1 (.slice A9 (k + 1) c9)
          refine Sx.wpM_end (by kernel_rfl) ?_
          intro X8 hx8 hs8
          have ho8 := hid (ho7.below hx8)
          have hb8 : Hid (Blk X8 g 31 #[.int .i64 ((s : Int) + m), .slice A9 (k + 1) c9]) := hid (hb7.below hx8 hb7.lt)
          have hr8 := hid hs8.1
          clear hb9 ho9 hs9 hb6 ho6 hs6 hs5 hx5 hx6 ho7 hb7 hx8 hs8 f6 l6 j1 j2 j3 j4 j5 j6 j7 j8
          go_wp2
          exact ⟨⟨k + 1, by omega, by go_num, ⟨A9, c9, ho8, hb8⟩, hr8⟩, by simp [intOf]; omega⟩
        · (intro X2 hx hs; have e' := (hE1).trans (hx.mono (hE1).size); (go_simp; simp only [LUpon, Act.put]; try simp only [List.setIfInBounds_toArray, List.set_cons_zero, List.set_cons_succ]); have hq : Below (X2).heap.size X2 ((X2).alloc (.cells #[.slice (some ⟨h1, 0, none⟩) 2 2] 34)) := (Below.refl _ _).alloc (Nat.le_refl _) _; refine ⟨hs.ext hq, ?_⟩; have b2 : Blk ((X2).alloc (.cells #[.slice (some ⟨h1, 0, none⟩) 2 2] 34)) (X2).heap.size 34 #[.slice (some ⟨h1, 0, none⟩) 2 2] := Blk.new _ _ _; replace b1 := (b1.below hx b1.lt).below hq (b1.below hx b1.lt).lt; have hE2 := e'.trans (hq.mono e'.size); generalize (X2).heap.size = h2 at *; generalize (X2).alloc (.cells #[.slice (some ⟨h1, 0, none⟩) 2 2] 34) = Y2 at *; clear hq hs hx e')
          (refine Sx.wpM_one 1 _ (by simp only [List.getElem?_toArray, List.getElem?_cons_zero, List.getElem?_cons_succ]; rfl) (by kernel_rfl) (by rfl) ?_)
          (intro X3 hx hs; have hE3 : Below wr.heap.size wr X3 := (hE2).trans (hx.mono (hE2).size); have cx := (HBX.out.below hE3 HBX.out.lt).cell 1; have lx := (HBX.out.below hE3 HBX.out.lt).lt; (go_simp; simp only [LUpon, Act.put]; try simp only [List.setIfInBounds_toArray, List.set_cons_zero, List.set_cons_succ]); refine ⟨hs, ?_⟩; clear cx lx)
          replace b1 := b1.below hx b1.lt
          replace b2 := b2.below hx b2.lt
          (refine Sx.wpM_one 19 _ (by simp only [List.getElem?_toArray, List.getElem?_cons_zero, List.getElem?_cons_succ]; rfl) (by kernel_rfl) (by rfl) ?_)
          (intro X4 hx hs; have e9 := (hE3).trans (hx.mono (hE3).size); replace b1 := b1.below hx b1.lt; replace b2 := b2.below hx b2.lt; have hN := HN.out.below e9; have hbk := HBX.out.below e9 HBX.out.lt; refine lupon_hir _ _ rfl g (.slice A8 k c8) _ (by rfl) hN h2 h1 2 2 [p, (s : Int) + q] (by rfl) b2 ⟨rfl, fun _ => ⟨h1, 0, rfl, b1.lt, fun j u hu => by rw [Nat.zero_add, b1.cell]; simpa [cI] using hu⟩⟩ ⟨b1.lt, fun e => by have := (HN.out.ownLt _ e).2; omega⟩ (by omega) (by rw [hlk.out]; omega) (by have := e9.size; omega) ?_; intro v9 w9 ho9 hg9; have hg1 : Below (g + 1) X4 w9 := (Below.refl _ _).grown hg9 (by have := e9.size; omega) (fun r hr => (hN.ownLt r hr).1); have hs9 := hs.step hg1; have hb9 := hbk.below hg1 (Nat.lt_succ_self g); rw [← htk.out] at ho9; obtain ⟨A9, c9, e10, -⟩ := ho9.lis; rw [htk.out, List.length_append, hlk.out] at e10; subst e10; refine ⟨hs9, ?_⟩; clear hg1 hg9 hs hx e9 hN hbk b1 b2)
          (refine Sx.wpM_one 20 _ (by simp only [List.getElem?_toArray, List.getElem?_cons_zero, List.getElem?_cons_succ]; rfl) (by kernel_rfl) (by rfl) ?_)
          intro X5 hx5 hs5
          (go_simp; simp only [LUpon, Act.put]; try simp only [List.setIfInBounds_toArray, List.set_cons_zero, List.set_cons_succ])
          refine ⟨hs5, ?_⟩
          (refine Sx.wpM_one 21 _ (by simp only [List.getElem?_toArray, List.getElem?_cons_zero, List.getElem?_cons_succ]; rfl) (by kernel_rfl) (by rfl) ?_)
          intro X6 hx6 hs6
          have hb6 := (hb9.below hx5 hb9.lt).below hx6 (hb9.below hx5 hb9.lt).lt
          have ho6 := (ho9.below hx5).below hx6
          have f6 := hb6.frozen 1
          have l6 := hb6.lt
          obtain ⟨j1, j2, j3, j4, j5, j6, j7, x0, j8⟩ := id hs6
          (go_simp; simp only [LUpon, Act.put]; try simp only [List.setIfInBounds_toArray, List.set_cons_zero, List.set_cons_succ])
          refine ⟨hs6.put, ?_⟩
          have ho7 : Hir (X6.setCell ⟨g, 1, none⟩ (.slice A9 (k + 1) c9)) g (.slice A9 (k + 1) c9) (hirL (s : Int) (ws.take (k + 1))) := ho6.put
          have hb7 := hb6.set_ 1 (.slice A9 (k + 1) c9)
          refine Sx.wpM_end (by kernel_rfl) ?_
          intro X8 hx8 hs8
          have ho8 := hid (ho7.below hx8)
          have hb8 : Hid (Blk X8 g 31 #[.int .i64 ((s : Int) + m), .slice A9 (k + 1) c9]) := hid (hb7.below hx8 hb7.lt)
          have hr8 := hid hs8.1
          clear hb9 ho9 hs9 hb6 ho6 hs6 hs5 hx5 hx6 ho7 hb7 hx8 hs8 f6 l6 j1 j2 j3 j4 j5 j6 j7 j8
          go_wp2
          exact ⟨⟨k + 1, by omega, by go_num, ⟨A9, c9, ho8, hb8⟩, hr8⟩, by simp [intOf]; omega⟩
    · obtain rfl : n = k := by omega
      have HbR : Hid (Below w.heap.size w wr) := hid (Hb0.out.trans (hbr.out.mono (by omega)))
      have htw : ws.take n = ws := List.take_of_length_le (by rw [Hlen.out]; exact Nat.le_refl _)
      obtain ⟨A', c', e8, hli⟩ := HN.out.lis
      rw [htw, Hls.out, Hls10.out] at e8 hli
      cases e8
      have Hli := hid hli
      clear hli htw
      go_wp2_with (fail)
      refine (mList_any s m A n c ws wr (HL.out.below HbR.out HbR.out.size) HB.out).mono ?_
      rw [Hlw.out]
      rintro e w2 ⟨A1, n1, d1, rfl, hin1, hb2⟩
      have hn1 : Hid (lw.length = n1) := hid (by have := hin1.len; rwa [toI_len] at this)
      have Hin1 := hid hin1
      have Hb2 := hid hb2
      have p0 : w2.cell? ⟨g, 0, none⟩ = some (.int .i64 ((s : Int) + m)) := (hb2.cell (p := ⟨g, 0, none⟩) lg).trans (HBX.out.cell 0)
      have p1 : w2.cell? ⟨g, 1, none⟩ = some (.slice A8 n c8) := (hb2.cell (p := ⟨g, 1, none⟩) lg).trans (HBX.out.cell 1)
      have lg2 : g < w2.heap.size := Nat.lt_of_lt_of_le lg hb2.size
      have Hli2 := hid (Hli.out.below hb2 hb2.size)
      have Q0 := hid q0; have Q1 := hid q1; have Q2 := hid q2
      clear hin1 hb2 q0 q1 q2
      go_wp2_with (fail)
      refine (apartF_any A8 n c8 ls ((s : Int) + m) w2 Hli2.out (by omega) Hls8.out).mono ?_
      rw [Hchk.out, Hapr.out]
      rintro e w3 ⟨A2, n2, rfl, hin2, hb3⟩
      have hn2 : Hid (n2 = n1) := hid (by have := hin2.len; rw [toI_len, hn1.out] at this; exact this.symm)
      have Hin2 := hid hin2
      have Hb3 := hid (Hb2.out.trans (hb3.mono Hb2.out.size))
      have p0' : w3.cell? ⟨g, 0, none⟩ = some (.int .i64 ((s : Int) + m)) := (hb3.cell (p := ⟨g, 0, none⟩) lg2).trans p0
      have p1' : w3.cell? ⟨g, 1, none⟩ = some (.slice A8 n c8) := (hb3.cell (p := ⟨g, 1, none⟩) lg2).trans p1
      have lg3 : g < w3.heap.size := Nat.lt_of_lt_of_le lg2 hb3.size
      have Hin1c := hid (Hin1.out.below hb3 hb3.size)
      have Hli3 := hid (Hli2.out.below hb3 hb3.size)
      clear hin2 hb3 p0 p1 lg2
      have hfv : fewV ((s : Int) + m) ls = (n1 : Int) := by unfold fewV; rw [E2.out, E4.out, hn1.out]
      have hfe : fewE ((s : Int) + m) ls = 0 := by unfold fewE; rw [E1.out]
      go_wp2_with (fail)
      refine (fewest_any A8 n c8 ls ((s : Int) + m) w3 Hli3.out (by omega) Hls8.out).mono ?_
      rw [hfv, hfe]
      rintro e w4 ⟨rfl, hb4⟩
      have Hb4 := hid (Hb3.out.trans (hb4.mono Hb3.out.size))
      have p0 : w4.cell? ⟨g, 0, none⟩ = some (.int .i64 ((s : Int) + m)) := (hb4.cell (p := ⟨g, 0, none⟩) lg3).trans p0'
      have p1 : w4.cell? ⟨g, 1, none⟩ = some (.slice A8 n c8) := (hb4.cell (p := ⟨g, 1, none⟩) lg3).trans p1'
      have lg4 : g < w4.heap.size := Nat.lt_of_lt_of_le lg3 hb4.size
      have Hin1d := hid (Hin1c.out.below hb4 hb4.size)
      have Hin2d := hid (Hin2.out.below hb4 hb4.size)
      have Hli4 := hid (Hli3.out.below hb4 hb4.size)
      clear hb4 p0' p1' lg3 hfv hfe
      go_wp2_with (fail)
      refine (blame_any A8 n c8 ls ((s : Int) + m) w4 Hli4.out (by omega) Hls8.out).mono ?_
      rw [E1.out, E2.out]
      rintro e w5 ⟨A3, n3, c3, rfl, hin3, hb5⟩
      obtain rfl : n1 = n3 := by have := hin3.len; rw [E4.out, hn1.out] at this; exact this
      obtain rfl := hn2.out.symm
      have Hin3 := hid hin3
      have Hb5 := hid (Hb4.out.trans (hb5.mono Hb4.out.size))
      have p0' : w5.cell? ⟨g, 0, none⟩ = some (.int .i64 ((s : Int) + m)) := (hb5.cell (p := ⟨g, 0, none⟩) lg4).trans p0
      have p1' : w5.cell? ⟨g, 1, none⟩ = some (.slice A8 n c8) := (hb5.cell (p := ⟨g, 1, none⟩) lg4).trans p1
      have lg5 : g < w5.heap.size := Nat.lt_of_lt_of_le lg4 hb5.size
      have Hin1e := hid (Hin1d.out.below hb5 hb5.size)
      have Hin2e := hid (Hin2d.out.below hb5 hb5.size)
      have Hli5 := hid (Hli4.out.below hb5 hb5.size)
      clear hin3 hb5 p0 p1 lg4
      have hn8 : n1 ≤ 8 := by have h1 := isL_len8 E3.out (by omega); have h2 := E4.out; have h3 := hn1.out; omega
      have heqI : eqI (toI lw) (toI lw) = true := eqI_t.2 rfl
      have t0 : ((n1 : Int) != (n1 : Int)) = false := by simp
      go_wp2_with (fail)
      refine (ints_any w5 A1 A2 n1 d1 n1 n1 (toI lw) (toI lw) Hin1e.out Hin2e.out (by omega)).mono ?_
      rw [heqI]
      rintro e w6 ⟨rfl, hb6⟩
      have Hb6 := hid (Hb5.out.trans (hb6.mono Hb5.out.size))
      have p0 : w6.cell? ⟨g, 0, none⟩ = some (.int .i64 ((s : Int) + m)) := (hb6.cell (p := ⟨g, 0, none⟩) lg5).trans p0'
      have lg6 : g < w6.heap.size := Nat.lt_of_lt_of_le lg5 hb6.size
      have Hin3b := hid (Hin3.out.below hb6 hb6.size)
      have P1 := hid p1'
      have Hli6 := hid (Hli5.out.below hb6 hb6.size)
      have HP1 := hid ((hb6.cell (p := ⟨g, 1, none⟩) lg5).trans p1')
      have HP0 := hid p0
      clear hb6 p0' p1' lg5 P1 heqI
      go_wp2_with (fail)
      refine (isSet_any A3 n1 c3 sm ((s : Int) + m) w6 Hin3b.out (by omega)).mono ?_
      rw [E3.out]
      rintro e w7 ⟨rfl, hb7⟩
      have Hb7 := hid (Hb6.out.trans (hb7.mono Hb6.out.size))
      have HQ0 : Hid (w7.cell? ⟨pb, 0, none⟩ = some (.int .i64 (s : Int))) := hid ((Hb7.out.cell (p := ⟨pb, 0, none⟩) lp).trans Q0.out)
      have HQ1 : Hid (w7.cell? ⟨pb, 1, none⟩ = some (.int .i64 (m : Int))) := hid ((Hb7.out.cell (p := ⟨pb, 1, none⟩) lp).trans Q1.out)
      have HQ2 : Hid (w7.cell? ⟨pb, 2, none⟩ = some (.slice A n c)) := hid ((Hb7.out.cell (p := ⟨pb, 2, none⟩) lp).trans Q2.out)
      have HP0' : Hid (w7.cell? ⟨g, 0, none⟩ = some (.int .i64 ((s : Int) + m))) := hid ((hb7.cell (p := ⟨g, 0, none⟩) lg6).trans HP0.out)
      have HP1' : Hid (w7.cell? ⟨g, 1, none⟩ = some (.slice A8 n c8)) := hid ((hb7.cell (p := ⟨g, 1, none⟩) lg6).trans HP1.out)
      have lg7 : Hid (g < w7.heap.size) := hid (Nat.lt_of_lt_of_le lg6 hb7.size)
      have lp7 : Hid (pb < w7.heap.size) := hid (Nat.lt_of_lt_of_le lp Hb7.out.size)
      have Hin3c := hid (Hin3b.out.below hb7 hb7.size)
      have Hli7 := hid (Hli6.out.below hb7 hb7.size)
      have HbW : Hid (Below w.heap.size w w7) := hid (HbR.out.trans (Hb7.out.mono HbR.out.size))
      have Hsl : Hid (sm.length = n1) := hid (by rw [E4.out, hn1.out])
      clear hb7 p0 lg6 HP0 HP1 Hb2 Hb3 Hb4 Hb5 Hb6 Hb7 Q0 Q1 Q2 Hin1 Hin1c Hin1d Hin1e Hin2 Hin2d Hin2e Hli Hli2 Hli3 Hli4 Hli5 Hli6 Hin3 Hin3b lg lp hbr HN HBX t0
      go_wp2
      go_loopw [15, 16, 17] (fun u v iv wr => ∃ k : Nat, k ≤ n1 ∧ iv = .int .i64 k ∧ Hid (wr.ownsRow w7.heap.size 3 1 u (shopsL (s : Int) (sm.take k)).length ((shopsL (s : Int) (sm.take k)).flatMap cI)) ∧ Hid (wr.ownsRow w7.heap.size 3 1 v (mouldsL (s : Int) (sm.take k)).length ((mouldsL (s : Int) (sm.take k)).flatMap cI)) ∧ Hid (Apart u v) ∧ Hid (Below w7.heap.size w7 wr)) (fun _ _ iv _ => n1 - (intOf iv).toNat)
      case atStart => exact ⟨0, by omega, rfl, hid (World.ownsRow_nil _ _ _ _), hid (World.ownsRow_nil _ _ _ _), hid (fun q h => by cases h), hid (Below.refl _ _)⟩
      case round =>
        obtain ⟨k, hk, rfl, HS, HM, HA, hbr⟩ := hrel
        by_cases hlt : k < n1
        · have hlti : (k : Int) < n1 := by omega
          obtain ⟨b3, o3, x, rfl, hb3, hx, cx⟩ := (Hin3c.out).at_ hlt
          have hk0 : (0 : Int) ≤ k := by omega
          have hxb := (isL_iff.1 E3.out).1 x (List.mem_of_getElem? hx)
          have htk := hid (show sm.take (k + 1) = sm.take k ++ [x] by rw [List.take_add_one, hx]; rfl)
          have d3 : wr.cell? ⟨b3, o3 + k, none⟩ = some (.int .i64 x) := (hbr.out.cell (p := ⟨b3, o3 + k, none⟩) hb3).trans cx
          have q0 : wr.cell? ⟨pb, 0, none⟩ = some (.int .i64 (s : Int)) := (hbr.out.cell (p := ⟨pb, 0, none⟩) lp7.out).trans HQ0.out
          have lb3 : b3 < wr.heap.size := Nat.lt_of_lt_of_le hb3 hbr.out.size
          have lpb : pb < wr.heap.size := Nat.lt_of_lt_of_le lp7.out hbr.out.size
          have hls : (shopsL (s : Int) (sm.take k)).length ≤ 1000 ∧ (mouldsL (s : Int) (sm.take k)).length ≤ 1000 := by
            have := parts_len (s : Int) (sm.take k)
            have : (sm.take k).length ≤ k := List.length_take_le _ _
            omega
          have Cx := hid cx
          clear hx cx
          by_cases hxs : x < (s : Int)
          · have hput := shops_put (S := (s : Int)) (l := sm.take k) hxs
            have Hp1 := hid hput.1
            have Hp2 := hid hput.2
            clear hput
            go_wp2
            refine wp_region_hd_all (fun W => Below wr.heap.size wr W) (by kernel_rfl) (by kernel_rfl) ((Below.refl _ _).drew) ?_
            iterate 7 (refine wpHd_val (v := ?_) (by rfl) (fun W hW => ?_) ?_; rotate_left; (· obtain ⟨hcW, hfW⟩ := bcell hW; go_simp; with_reducible rfl); simp only [Act.put, List.setIfInBounds_toArray, List.set_cons_zero, List.set_cons_succ])
            refine wpHd_nil ?_
            intro W9 hW9
            have d39 := (hW9.cell (p := ⟨b3, o3 + k, none⟩) lb3).trans d3
            have lb39 : b3 < W9.heap.size := Nat.lt_of_lt_of_le lb3 hW9.size
            have hbr9 := hid (hbr.out.trans (hW9.mono hbr.out.size))
            have HS9 := hid (owns_below HS.out hW9)
            have HM9 := hid (owns_below HM.out hW9)
            have hz9 := hbr9.out.size
            clear hW9 d3 q0 lb3 lpb
            go_wp2_with (at_builtin; refine wpl_ins (by rfl) _ _ rfl w7.heap.size u15 _ _ rfl (HS9.out.alloc (.cells #[.int .i64 x] 3)) W9.heap.size x (by rfl) (Blk.new' (by simp)) (by omega) (by simp; omega) ?_; intro v9 w9 ho9 hg9 hob9)
            have hb9 : Below w7.heap.size w7 w9 := (hbr9.out.alloc hz9 _).grown hg9 (by simp; omega) (fun r hr => (World.ownsRow.lt HS9.out r hr).1)
            have hst := app_step HA.out HM9.out hg9 (by simpa using hob9)
            have ho9' : w9.ownsRow w7.heap.size 3 1 v9 (shopsL (s : Int) (sm.take (k + 1))).length ((shopsL (s : Int) (sm.take (k + 1))).flatMap cI) := by
              rw [htk.out, Hp1.out, List.length_append, List.flatMap_append]; exact ho9
            have hm9' : w9.ownsRow w7.heap.size 3 1 u16 (mouldsL (s : Int) (sm.take (k + 1))).length ((mouldsL (s : Int) (sm.take (k + 1))).flatMap cI) := by
              rw [htk.out, Hp2.out]; exact hst.1
            exact ⟨⟨k + 1, by omega, by go_num, hid ho9', hid hm9', hid hst.2, hid hb9⟩, by simp [intOf]; omega⟩
          · have hput := moulds_put (S := (s : Int)) (l := sm.take k) hxs
            have Hp1 := hid hput.1
            have Hp2 := hid hput.2
            have zx : IntKind.i64.wrap (x - (s : Int)) = x - (s : Int) := IntWalk.i64_in _ (by omega)
            clear hput
            go_wp2
            refine wp_region_hd_all (fun W => Below wr.heap.size wr W) (by kernel_rfl) (by kernel_rfl) ((Below.refl _ _).drew) ?_
            iterate 7 (refine wpHd_val (v := ?_) (by rfl) (fun W hW => ?_) ?_; rotate_left; (· obtain ⟨hcW, hfW⟩ := bcell hW; go_simp; with_reducible rfl); simp only [Act.put, List.setIfInBounds_toArray, List.set_cons_zero, List.set_cons_succ])
            refine wpHd_nil ?_
            intro W9 hW9
            have d39 := (hW9.cell (p := ⟨b3, o3 + k, none⟩) lb3).trans d3
            have q09 := (hW9.cell (p := ⟨pb, 0, none⟩) lpb).trans q0
            have lb39 : b3 < W9.heap.size := Nat.lt_of_lt_of_le lb3 hW9.size
            have lp9 : pb < W9.heap.size := Nat.lt_of_lt_of_le lpb hW9.size
            have hbr9 := hid (hbr.out.trans (hW9.mono hbr.out.size))
            have HS9 := hid (owns_below HS.out hW9)
            have HM9 := hid (owns_below HM.out hW9)
            have hz9 := hbr9.out.size
            have hD : Below W9.heap.size W9 W9.drew := (Below.refl _ _).drew
            clear hW9 d3 q0 lb3 lpb
            go_wp2
            clear d39 lb39 q09 lp9
            refine Sx.wp_region_el (fun W => Below w7.heap.size w7 W) (fun X Y h he => h.trans (he.mono h.size)) [0, 1, 2, 3, 4, 5, 6, 7] 3 (by kernel_rfl) (by kernel_rfl) (hbr9.out.drew) ?_
            simp only [pick, List.getElem?_toArray, List.getElem?_cons_zero, List.getElem?_cons_succ]
            iterate 8 (refine Sx.wpE_val (v := ?_) (by rfl) (fun W hW => ?_) ?_; rotate_left; (· (have g3 := (hW.cell (p := ⟨b3, o3 + k, none⟩) hb3).trans Cx.out; have g4 := Nat.lt_of_lt_of_le hb3 hW.size; have g5 := (hW.cell (p := ⟨pb, 0, none⟩) lp7.out).trans HQ0.out; have g6 := Nat.lt_of_lt_of_le lp7.out hW.size); go_simp; with_reducible rfl); simp only [Act.put, List.setIfInBounds_toArray, List.set_cons_zero, List.set_cons_succ])
            simp only [Sx.wpE]
            (refine Sx.wpM_one 8 _ (by simp only [List.getElem?_toArray, List.getElem?_cons_zero, List.getElem?_cons_succ]; rfl) (by kernel_rfl) (by rfl) ?_)
            intro Y0 hu0 hs0
            have e0 := hD.trans (hu0.mono hD.size)
            (go_simp; simp only [LUpon, Act.put]; try simp only [List.setIfInBounds_toArray, List.set_cons_zero, List.set_cons_succ])
            have hxa : Below Y0.heap.size Y0 (Y0.alloc (.cells #[.int .i64 (x - (s : Int))] 3)) := (Below.refl _ _).alloc (Nat.le_refl _) _
            refine ⟨hs0.trans (hxa.mono hs0.size), ?_⟩
            have bz : Blk (Y0.alloc (.cells #[.int .i64 (x - (s : Int))] 3)) Y0.heap.size 3 #[.int .i64 (x - (s : Int))] := Blk.new _ _ _
            have e1 := e0.trans (hxa.mono e0.size)
            generalize Y0.heap.size = h0 at *
            generalize Y0.alloc (.cells #[.int .i64 (x - (s : Int))] 3) = Y1 at *
            clear hxa hu0 hs0 e0
            (refine Sx.wpM_one 9 _ (by simp only [List.getElem?_toArray, List.getElem?_cons_zero, List.getElem?_cons_succ]; rfl) (by kernel_rfl) (by rfl) ?_)
            intro Y2 hu2 hs2
            have e2 := e1.trans (hu2.mono e1.size)
            have hM2 := owns_below HM9.out e2
            have hS2 := owns_below HS9.out e2
            have hbz := bz.below hu2 bz.lt
            refine lupon_ins _ _ rfl w7.heap.size u16 _ _ (by rfl) hM2 h0 (x - (s : Int)) (by rfl) hbz (by omega) hs2.size ?_
            intro v9 w9 ho9 hg9 hob9
            have hs9 : Below w7.heap.size w7 w9 := hs2.grown hg9 hs2.size (fun r hr => (World.ownsRow.lt hM2 r hr).1)
            have hst := app_step0 HA.out.symm hS2 hg9 hob9
            refine ⟨hs9, ?_⟩
            have ho9' : Hid (w9.ownsRow w7.heap.size 3 1 v9 (mouldsL (s : Int) (sm.take (k + 1))).length ((mouldsL (s : Int) (sm.take (k + 1))).flatMap cI)) := hid (by
              rw [htk.out, Hp2.out, List.length_append, List.flatMap_append]; exact ho9)
            have hm9' : Hid (w9.ownsRow w7.heap.size 3 1 u15 (shopsL (s : Int) (sm.take (k + 1))).length ((shopsL (s : Int) (sm.take (k + 1))).flatMap cI)) := hid (by
              rw [htk.out, Hp1.out]; exact hst.1)
            have hap9 := hid hst.2.symm
            clear hst ho9 hg9 hob9 hM2 hS2 hbz hs2 hu2 e2 bz e1 hs9
            (refine Sx.wpM_one 10 _ (by simp only [List.getElem?_toArray, List.getElem?_cons_zero, List.getElem?_cons_succ]; rfl) (by kernel_rfl) (by rfl) ?_)
            intro Y3 hu3 hs3
            (go_simp; simp only [LUpon, Act.put]; try simp only [List.setIfInBounds_toArray, List.set_cons_zero, List.set_cons_succ])
            refine ⟨hs3, ?_⟩
            have ho3 := hid (owns_below ho9'.out hu3)
            have hm3 := hid (owns_below hm9'.out hu3)
            refine Sx.wpM_end (by kernel_rfl) ?_
            intro Y4 hu4 hs4
            have ho4 := hid (owns_below ho3.out hu4)
            have hm4 := hid (owns_below hm3.out hu4)
            have Hs4 := hid hs4
            clear ho9' hm9' ho3 hm3 hu3 hu4 hs3 hs4
            go_wp2
            exact ⟨⟨k + 1, by omega, by go_num, hm4, ho4, hap9, Hs4⟩, by simp [intOf]; omega⟩
        · obtain rfl : n1 = k := by omega
          have htk : sm.take n1 = sm := List.take_of_length_le (by rw [Hsl.out]; exact Nat.le_refl _)
          have hS := HS.out
          have hM := HM.out
          rw [htk] at hS hM
          obtain ⟨A4, c4, rfl, hs4, -⟩ := own_src hS
          obtain ⟨A5, c5, rfl, hm5, -⟩ := own_src hM
          have hs4 : InS wr wr.heap.size A4 (shopsL (s : Int) sm).length (shopsL (s : Int) sm) := hs4
          have hm5 : InS wr wr.heap.size A5 (mouldsL (s : Int) sm).length (mouldsL (s : Int) sm) := hm5
          obtain ⟨n4, hn4⟩ : ∃ v, (shopsL (s : Int) sm).length = v := ⟨_, rfl⟩
          obtain ⟨n5, hn5⟩ : ∃ v, (mouldsL (s : Int) sm).length = v := ⟨_, rfl⟩
          have hcnt : n4 + n5 = n1 := by rw [← hn4, ← hn5, parts_len, Hsl.out]
          have Hcnt : Hid ((n4 : Int) + (n5 : Int) = (n1 : Int)) := hid (by omega)
          have hn45 : n4 ≤ 8 ∧ n5 ≤ 8 := by omega
          rw [hn4] at hs4 ⊢
          rw [hn5] at hm5 ⊢
          have Hs4 := hid hs4
          have Hm5 := hid hm5
          have q0 : wr.cell? ⟨pb, 0, none⟩ = some (.int .i64 (s : Int)) := (hbr.out.cell (p := ⟨pb, 0, none⟩) lp7.out).trans HQ0.out
          have q1 : wr.cell? ⟨pb, 1, none⟩ = some (.int .i64 (m : Int)) := (hbr.out.cell (p := ⟨pb, 1, none⟩) lp7.out).trans HQ1.out
          have q2 : wr.cell? ⟨pb, 2, none⟩ = some (.slice A n c) := (hbr.out.cell (p := ⟨pb, 2, none⟩) lp7.out).trans HQ2.out
          have lpb : pb < wr.heap.size := Nat.lt_of_lt_of_le lp7.out hbr.out.size
          have HbX : Hid (Below w.heap.size w wr) := hid (HbW.out.trans (hbr.out.mono HbW.out.size))
          clear hS hM hs4 hm5 hn4 hn5 htk HS HM HA hcnt
          go_wp2_with (fail)
          refine (mCheckCover_any s m A n c ws A4 A5 n4 c4 n5 c5 (shopsL (s : Int) sm) (mouldsL (s : Int) sm) wr (HL.out.below HbX.out HbX.out.size) HB.out Hs4.out Hm5.out (by omega) (by omega) E5.out E6.out E7.out).mono ?_
          rw [Hcnt.out]
          rintro e w8 ⟨rfl, hb8⟩
          have Hb8 := hid (HbX.out.trans (hb8.mono HbX.out.size))
          have HbY := hid (hbr.out.trans (hb8.mono hbr.out.size))
          have g2 : w8.cell? ⟨pb, 2, none⟩ = some (.slice A n c) := (hb8.cell (p := ⟨pb, 2, none⟩) lpb).trans q2
          have lp8 : pb < w8.heap.size := Nat.lt_of_lt_of_le lpb hb8.size
          have zb : IntKind.i64.wrap (bits : Int) = (bits : Int) := IntWalk.i64_in _ (by omega)
          clear q0 q1 q2 lpb hb8
          go_wp2_with (fail)
          refine (rlisted_any bits n w8 (by omega) (by omega)).mono ?_
          rintro e w9 ⟨v20, rfl, hv20, hb9⟩
          obtain ⟨A6, c6, rfl, h6, -⟩ := own_src hv20
          obtain ⟨L, hL⟩ : ∃ L, (List.range n).filter (fun i => bits.testBit i) = L := ⟨_, rfl⟩
          have hLl : listed bits n = toI L := by rw [← hL]; rfl
          have h6 : InS w9 w9.heap.size A6 (listed bits n).length (listed bits n) := h6
          have hiL := isL_listed' bits n
          have h66 := listed_len bits n
          rw [hLl] at h6 hiL h66 ⊢
          obtain ⟨n6, hn6e⟩ : ∃ v, (toI L).length = v := ⟨_, rfl⟩
          rw [hn6e] at h6 h66 ⊢
          have hn6 : n6 ≤ 1000 := by omega
          have H6 := hid h6
          have HiL := hid hiL
          have Hb9 := hid (Hb8.out.trans (hb9.mono Hb8.out.size))
          have HbZ := hid (HbY.out.trans (hb9.mono HbY.out.size))
          have q0 : w9.cell? ⟨pb, 0, none⟩ = some (.int .i64 (s : Int)) := (HbZ.out.cell (p := ⟨pb, 0, none⟩) lp7.out).trans HQ0.out
          have q1 : w9.cell? ⟨pb, 1, none⟩ = some (.int .i64 (m : Int)) := (HbZ.out.cell (p := ⟨pb, 1, none⟩) lp7.out).trans HQ1.out
          have q2 : w9.cell? ⟨pb, 2, none⟩ = some (.slice A n c) := (HbZ.out.cell (p := ⟨pb, 2, none⟩) lp7.out).trans HQ2.out
          have p0 : w9.cell? ⟨g, 0, none⟩ = some (.int .i64 ((s : Int) + m)) := (HbZ.out.cell (p := ⟨g, 0, none⟩) lg7.out).trans HP0'.out
          have p1 : w9.cell? ⟨g, 1, none⟩ = some (.slice A8 n c8) := (HbZ.out.cell (p := ⟨g, 1, none⟩) lg7.out).trans HP1'.out
          have lp9 : pb < w9.heap.size := Nat.lt_of_lt_of_le lp7.out HbZ.out.size
          have lg9 : g < w9.heap.size := Nat.lt_of_lt_of_le lg7.out HbZ.out.size
          obtain ⟨hv, hhv⟩ : ∃ v, hungL ws L (fun _ _ => false) = v := ⟨_, rfl⟩
          have t1 : ((n1 : Int) == (n1 : Int)) = true := by simp
          clear h6 hiL h66 hn6e hLl hL hb9 g2 lp8 hn45
          cases hv
          · have Hhv := hid hhv
            clear hhv
            have HCL : Hid (∀ W, Below w9.heap.size w9 W → Calls Tryz.prog 15 #[.agg #[.int .i64 (s : Int), .int .i64 (m : Int), .slice A n c], .slice A6 n6 c6] W fun e w' => e = .returned (.int .i64 18) ∧ Below W.heap.size W w') := hid (fun W hW => (mCheckList_any s m A A6 n c n6 c6 ws L W (HL.out.below (Hb9.out.trans (hW.mono Hb9.out.size)) (Nat.le_trans Hb9.out.size hW.size)) HB.out (H6.out.below hW hW.size) HiL.out hn6).mono (by rw [Hhv.out]; exact fun e w' h => h))
            have HCA : Hid (∀ W, Below w9.heap.size w9 W → Calls Tryz.prog 16 #[.agg #[.int .i64 ((s : Int) + m), .slice A8 n c8], .slice A6 n6 c6] W fun e w' => e = .returned (.int .i64 16) ∧ Below W.heap.size W w') := hid (fun W hW => (checkApart_any A8 A6 n c8 n6 c6 ls (toI L) ((s : Int) + m) W (Hli7.out.below (HbZ.out.trans (hW.mono HbZ.out.size)) (Nat.le_trans HbZ.out.size hW.size)) (H6.out.below hW hW.size) (by omega) Hls8.out (by omega)).mono (by rw [Hlap.out L HiL.out, Hhv.out]; exact fun e w' h => h))
            have HCW : Hid (∀ W, Below w9.heap.size w9 W → Calls Tryz.prog 6 #[] W fun e w' => e = .returned (.bool true) ∧ Below W.heap.size W w') := hid (fun W _ => HW W)
            clear hv20
            go_wp2
            refine wp_region_hd_all (fun W => Below w9.heap.size w9 W) (by kernel_rfl) (by kernel_rfl) ((Below.refl _ _).drew) ?_
            iterate 10 (refine wpHd_val (v := ?_) (by rfl) (fun W hW => ?_) ?_; rotate_left; (· obtain ⟨hcW, hfW⟩ := bcell hW; go_simp; with_reducible rfl); simp only [Act.put, List.setIfInBounds_toArray, List.set_cons_zero, List.set_cons_succ])
            (refine wpHd_callB (by rfl) (fun W hW => (HCL.out W hW)) (fun W hW => ?_) ?_; (· obtain ⟨hcW, hfW⟩ := bcell hW; go_simp); simp only [Act.put, List.setIfInBounds_toArray, List.set_cons_zero, List.set_cons_succ])
            iterate 3 (refine wpHd_val (v := ?_) (by rfl) (fun W hW => ?_) ?_; rotate_left; (· obtain ⟨hcW, hfW⟩ := bcell hW; go_simp; with_reducible rfl); simp only [Act.put, List.setIfInBounds_toArray, List.set_cons_zero, List.set_cons_succ])
            (refine wpHd_callB (by rfl) (fun W hW => (HCA.out W hW)) (fun W hW => ?_) ?_; (· obtain ⟨hcW, hfW⟩ := bcell hW; go_simp); simp only [Act.put, List.setIfInBounds_toArray, List.set_cons_zero, List.set_cons_succ])
            iterate 4 (refine wpHd_val (v := ?_) (by rfl) (fun W hW => ?_) ?_; rotate_left; (· obtain ⟨hcW, hfW⟩ := bcell hW; go_simp; with_reducible rfl); simp only [Act.put, List.setIfInBounds_toArray, List.set_cons_zero, List.set_cons_succ])
            (refine wpHd_callB (by rfl) (fun W hW => (HCW.out W hW)) (fun W hW => ?_) ?_; (· obtain ⟨hcW, hfW⟩ := bcell hW; go_simp); simp only [Act.put, List.setIfInBounds_toArray, List.set_cons_zero, List.set_cons_succ])
            iterate 2 (refine wpHd_val (v := ?_) (by rfl) (fun W hW => ?_) ?_; rotate_left; (· obtain ⟨hcW, hfW⟩ := bcell hW; go_simp; with_reducible rfl); simp only [Act.put, List.setIfInBounds_toArray, List.set_cons_zero, List.set_cons_succ])
            refine wpHd_nil ?_
            intro Wz hWz
            have hbz := Hb9.out.trans (hWz.mono Hb9.out.size)
            clear p0 p1 q0 q1 q2 lg9 lp9 hWz
            go_wp2
            refine bodyPost_ret (v := .bool true) (by first | (simp [results, Tryz.results3, go_sem]; done) | (simp [results, Tryz.results3, go_sem, *]; done) | (simp [results, Tryz.results3, go_sem, World.cell?_setCell_same', *]; done) | (simp [results, Tryz.results3, go_sem]; first | exact ⟨rfl, rfl⟩ | rfl)) rfl ⟨rfl, hbz⟩
          · have Hhv := hid hhv
            clear hhv
            have HCL : Hid (∀ W, Below w9.heap.size w9 W → Calls Tryz.prog 15 #[.agg #[.int .i64 (s : Int), .int .i64 (m : Int), .slice A n c], .slice A6 n6 c6] W fun e w' => e = .returned (.int .i64 0) ∧ Below W.heap.size W w') := hid (fun W hW => (mCheckList_any s m A A6 n c n6 c6 ws L W (HL.out.below (Hb9.out.trans (hW.mono Hb9.out.size)) (Nat.le_trans Hb9.out.size hW.size)) HB.out (H6.out.below hW hW.size) HiL.out hn6).mono (by rw [Hhv.out]; exact fun e w' h => h))
            have HCA : Hid (∀ W, Below w9.heap.size w9 W → Calls Tryz.prog 16 #[.agg #[.int .i64 ((s : Int) + m), .slice A8 n c8], .slice A6 n6 c6] W fun e w' => e = .returned (.int .i64 0) ∧ Below W.heap.size W w') := hid (fun W hW => (checkApart_any A8 A6 n c8 n6 c6 ls (toI L) ((s : Int) + m) W (Hli7.out.below (HbZ.out.trans (hW.mono HbZ.out.size)) (Nat.le_trans HbZ.out.size hW.size)) (H6.out.below hW hW.size) (by omega) Hls8.out (by omega)).mono (by rw [Hlap.out L HiL.out, Hhv.out]; exact fun e w' h => h))
            have HCW : Hid (∀ W, Below w9.heap.size w9 W → Calls Tryz.prog 6 #[] W fun e w' => e = .returned (.bool true) ∧ Below W.heap.size W w') := hid (fun W _ => HW W)
            clear hv20
            go_wp2
            refine wp_region_hd_all (fun W => Below w9.heap.size w9 W) (by kernel_rfl) (by kernel_rfl) ((Below.refl _ _).drew) ?_
            iterate 10 (refine wpHd_val (v := ?_) (by rfl) (fun W hW => ?_) ?_; rotate_left; (· obtain ⟨hcW, hfW⟩ := bcell hW; go_simp; with_reducible rfl); simp only [Act.put, List.setIfInBounds_toArray, List.set_cons_zero, List.set_cons_succ])
            (refine wpHd_callB (by rfl) (fun W hW => (HCL.out W hW)) (fun W hW => ?_) ?_; (· obtain ⟨hcW, hfW⟩ := bcell hW; go_simp); simp only [Act.put, List.setIfInBounds_toArray, List.set_cons_zero, List.set_cons_succ])
            iterate 3 (refine wpHd_val (v := ?_) (by rfl) (fun W hW => ?_) ?_; rotate_left; (· obtain ⟨hcW, hfW⟩ := bcell hW; go_simp; with_reducible rfl); simp only [Act.put, List.setIfInBounds_toArray, List.set_cons_zero, List.set_cons_succ])
            (refine wpHd_callB (by rfl) (fun W hW => (HCA.out W hW)) (fun W hW => ?_) ?_; (· obtain ⟨hcW, hfW⟩ := bcell hW; go_simp); simp only [Act.put, List.setIfInBounds_toArray, List.set_cons_zero, List.set_cons_succ])
            iterate 4 (refine wpHd_val (v := ?_) (by rfl) (fun W hW => ?_) ?_; rotate_left; (· obtain ⟨hcW, hfW⟩ := bcell hW; go_simp; with_reducible rfl); simp only [Act.put, List.setIfInBounds_toArray, List.set_cons_zero, List.set_cons_succ])
            (refine wpHd_callB (by rfl) (fun W hW => (HCW.out W hW)) (fun W hW => ?_) ?_; (· obtain ⟨hcW, hfW⟩ := bcell hW; go_simp); simp only [Act.put, List.setIfInBounds_toArray, List.set_cons_zero, List.set_cons_succ])
            iterate 2 (refine wpHd_val (v := ?_) (by rfl) (fun W hW => ?_) ?_; rotate_left; (· obtain ⟨hcW, hfW⟩ := bcell hW; go_simp; with_reducible rfl); simp only [Act.put, List.setIfInBounds_toArray, List.set_cons_zero, List.set_cons_succ])
            refine wpHd_nil ?_
            intro Wz hWz
            have hbz := Hb9.out.trans (hWz.mono Hb9.out.size)
            clear p0 p1 q0 q1 q2 lg9 lp9 hWz
            go_wp2
            refine bodyPost_ret (v := .bool true) (by first | (simp [results, Tryz.results3, go_sem]; done) | (simp [results, Tryz.results3, go_sem, *]; done) | (simp [results, Tryz.results3, go_sem, World.cell?_setCell_same', *]; done) | (simp [results, Tryz.results3, go_sem]; first | exact ⟨rfl, rfl⟩ | rfl)) rfl ⟨rfl, hbz⟩
end Go.Proofs.YtdgllpcfmkjfhaaGreat.Bl
