/- Texts of the proof, laid together by program. -/
import Derived.Test.YtpgdfipikfbjeaaMh
import Derived.ChangeKeysEq
import Derived.Test.YtpgdfipikfbjeaaMq
import Derived.Laws.CopyOwn
set_option linter.unusedSimpArgs false
set_option linter.unusedVariables false
/- Walks: the results of a plan in a case. -/
namespace Go.Proofs.Ytpgdfipikfbjeaa
open Go.RowKit Go.Shelf
attribute [local go_sem] Oper.semAt_some
theorem cells3 : Try.prog.cellsOf 3 = 1 := by kernel_rfl
theorem eqItem1 (W : World) (d i : Nat) (xs ys : Array Value) (is : List Nat) (a : Int) (hx : xs[i]? = some (.int .i64 a)) (hy : ys[i]? = some (.int .i64 0)) (r : Bool) (hr : (Op.eqItems (d + 1) 3 1 xs ys is).run Try.prog W = .ok r W) : (Op.eqItems (d + 1) 3 1 xs ys (i :: is)).run Try.prog W = .ok (a == 0 && r) W := by
  simp only [Op.eqItems, Nat.mul_one]
  have e1 : (part 3 xs i).run Try.prog W = .ok (.int .i64 a) W := by go_simp
  have e2 : (part 3 ys i).run Try.prog W = .ok (.int .i64 0) W := by go_simp
  have e3 : (Op.equalIn (d + 1) 3 (.int .i64 a) (.int .i64 0)).run Try.prog W = .ok (a == 0) W := by go_simp
  simp only [Sem.run_bind, e1, e2, e3, Result.andThen_ok]
  cases h : (a == 0)
  · simp
  · simpa using hr
/-- No plate of the eight is in the list. -/
def noneB (l : List Int) : Bool := (List.range 8).all fun j => !has l (j : Int)
set_option maxRecDepth 10000 in
theorem eq82 (W : World) (d : Nat) (l : List Int) : (Op.equalIn (d + 2) 82 (.agg #[mk1 l 0, mk1 l 1, mk1 l 2, mk1 l 3, mk1 l 4, mk1 l 5, mk1 l 6, mk1 l 7]) (.agg #[.int .i64 0, .int .i64 0, .int .i64 0, .int .i64 0, .int .i64 0, .int .i64 0, .int .i64 0, .int .i64 0])).run Try.prog W =
    .ok (noneB l) W := by
  obtain ⟨i0, hi0, hi1, hi2, hi3⟩ := info_parts' info3
  rw [run_equalIn_array W (d + 1) (t := 82) (e := 3) (n := 8) (i := i0) _ _ (by kernel_rfl) hi0, cells3]
  rw [show List.range 8 = [0, 1, 2, 3, 4, 5, 6, 7] from rfl]
  refine (eqItem1 W d 0 _ _ _ _ rfl rfl _ (eqItem1 W d 1 _ _ _ _ rfl rfl _ (eqItem1 W d 2 _ _ _ _ rfl rfl _ (eqItem1 W d 3 _ _ _ _ rfl rfl _ (eqItem1 W d 4 _ _ _ _ rfl rfl _ (eqItem1 W d 5 _ _ _ _ rfl rfl _ (eqItem1 W d 6 _ _ _ _ rfl rfl _ (eqItem1 W d 7 _ _ _ _ rfl rfl true ?_)))))))).trans ?_
  · simp [Op.eqItems]
  · have e : ∀ i : Nat, ((if has l (i : Int) = true then (1 : Int) else 0) == 0) = !has l (i : Int) := fun i => by cases has l (i : Int) <;> rfl
    simp only [noneB, e]
    simp [List.range, List.range.loop]
theorem noneB_meet {bad r : List Int} (hb : ∀ x ∈ bad, 0 ≤ x ∧ x < 8) (h : noneB bad = true) : meet r bad = false := by
  unfold meet
  rw [List.any_eq_false]
  intro x _ hh
  have hm := has_iff.1 hh
  have := hb x hm
  have h2 := List.all_eq_true.1 h x.toNat (List.mem_range.2 (by omega))
  rw [show ((x.toNat : Nat) : Int) = x by omega, hh] at h2
  cases h2
theorem meetAt_comm (a b : List Int) (i : Nat) : meetAt a b i = meetAt b a i := Bool.and_comm _ _
theorem meet_marks' {r bad : List Int} (hb : ∀ x ∈ bad, 0 ≤ x ∧ x < 8) : (List.range 8).any (meetAt r bad) = meet r bad := by
  rw [meet_comm, meet_marks hb]
  congr 1
  funext i
  exact meetAt_comm _ _ _
theorem rods_at {w : World} {B n : Nat} {A : Option Addr} {pl : List (List Int)} (h : Sl w B 8 A n (pl.flatMap rodC)) {k : Nat} {r : List Int} (hr : pl[k]? = some r) : ∃ b off, A = some ⟨b, off, none⟩ ∧ b < B ∧ ∀ i, i < 8 → w.cell? ⟨b, off + k * 8 + i, none⟩ = some (mk1 r i) := by
  have hl := h.1
  rw [flat_len (s := 8) rodC_len] at hl
  have hk := (List.getElem?_eq_some_iff.1 hr).1
  obtain ⟨b, off, e, hb, hc⟩ := h.2 (by omega)
  refine ⟨b, off, e, hb, fun i hi => ?_⟩
  rw [Nat.add_assoc]
  refine hc (k * 8 + i) _ ?_
  rw [flat_at (s := 8) rodC_len pl k i r hr hi]
  have : (mkA r)[i]? = some (mk1 r i) := mkA_at hi
  unfold rodC
  rw [Array.getElem?_toList]
  exact this
set_option maxRecDepth 100000 in
set_option maxHeartbeats 4000000 in
theorem results_any (g P M : Nat) (CL pl : List (List Int)) (mp : Nat) (B : Option Addr) (m d : Nat) (bad : List Int) (w : World) (hB : Bench w g P M CL pl mp) (hb : InS w w.heap.size B m bad) (hm : m ≤ 1000000) (hbb : ∀ x ∈ bad, 0 ≤ x ∧ x < 8) (hn : pl.length ≤ 8) :
    Calls Try.prog 65 #[.pointer (some ⟨g, 0, none⟩), .slice B m d] w fun e w' => ∃ v, e = .returned v ∧ w'.ownsRow w.heap.size 3 1 v pl.length ((resL pl bad).flatMap cI) ∧ Below w.heap.size w w' := by
  obtain ⟨i0, hi0, hi1, hi2, hi3⟩ := info_parts' info3
  have I0 := hid hi0; have I1 := hid hi1; have I2 := hid hi2; have I3 := hid hi3
  clear hi0 hi1 hi2 hi3
  obtain ⟨A1, c1, A2, c2, hG, hC, hR, -⟩ := hB
  have HG := hid hG
  have HR := hid hR
  have HBI := hid hb
  have Hbb := hid hbb
  clear hG hC hR hb hbb
  go_enter Try.func65, Try.ntmps65
  go_wp2_with (fail)
  refine (marked_any B m d bad _ HBI.out hm Hbb.out).mono ?_
  rintro e W1 ⟨rfl, hb1⟩
  obtain ⟨Wa, hWa⟩ : ∃ Wa, W1.alloc (.cells #[mk1 bad 0, mk1 bad 1, mk1 bad 2, mk1 bad 3, mk1 bad 4, mk1 bad 5, mk1 bad 6, mk1 bad 7] 82) = Wa := ⟨_, rfl⟩
  have hba : Below w.heap.size w Wa := by rw [← hWa]; exact hb1.alloc hb1.size _
  have hz1 := hb1.size
  have lg := HG.out.lt
  have r2 := (HG.out.below hba lg).cell 3
  have lga : g < Wa.heap.size := by have := hba.size; omega
  obtain ⟨T6, hT6⟩ : ∃ T6, W1.heap.size = T6 := ⟨_, rfl⟩
  have HO6 : Hid (Blk Wa T6 82 (mkA bad)) := hid (by rw [← hWa]; exact Blk.new' hT6)
  simp only [mkA]
  go_wp2_with (fail)
  clear hWa r2 hb1
  go_loopw [5, 17] (fun v i wr => ∃ k : Nat, k ≤ pl.length ∧ i = .int .i64 k ∧ Below w.heap.size w wr ∧ Hid (wr.ownsRow Wa.heap.size 3 1 v k ((resL (pl.take k) bad).flatMap cI)) ∧ Below Wa.heap.size Wa wr) (fun _ i _ => pl.length - (intOf i).toNat)
  case atStart => exact ⟨0, by omega, rfl, hba, hid (World.ownsRow_nil _ _ _ _), Below.refl _ _⟩
  case round =>
    obtain ⟨k, hk, rfl, hbw, ho, hbb⟩ := hrel
    have hzw := hbb.size
    by_cases hkn : k < pl.length
    · obtain ⟨r, hr⟩ : ∃ r, pl[k]? = some r := ⟨_, List.getElem?_eq_getElem hkn⟩
      obtain ⟨b0, o0, hA2, hb0, hcs⟩ := rods_at HR.out hr
      subst hA2
      have hkni : (k : Int) < pl.length := by omega
      have lb0 : b0 < wr.heap.size := by have := hbw.size; omega
      have hcw : ∀ i, i < 8 → wr.cell? ⟨b0, o0 + k * 8 + i, none⟩ = some (mk1 r i) := fun i hi => (hbw.cell (p := ⟨b0, o0 + k * 8 + i, none⟩) hb0).trans (hcs i hi)
      have e0 := hcw 0 (by omega)
      have e1 := hcw 1 (by omega)
      have e2 := hcw 2 (by omega)
      have e3 := hcw 3 (by omega)
      have e4 := hcw 4 (by omega)
      have e5 := hcw 5 (by omega)
      have e6 := hcw 6 (by omega)
      have e7 := hcw 7 (by omega)
      rw [Nat.add_zero] at e0
      clear hcw hcs
      have HO := hid ho
      have lT6 := HO6.out.lt
      obtain ⟨T8, hT8⟩ : ∃ T8, wr.heap.size = T8 := ⟨_, rfl⟩
      obtain ⟨Wc, hWc⟩ : ∃ Wc, wr.alloc (.cells #[mk1 r 0, mk1 r 1, mk1 r 2, mk1 r 3, mk1 r 4, mk1 r 5, mk1 r 6, mk1 r 7] 82) = Wc := ⟨_, rfl⟩
      have hbc : Below wr.heap.size wr Wc := by rw [← hWc]; exact (by repeat' (first | with_reducible assumption | with_reducible exact Below.refl _ _ | refine Below.alloc ?_ ?_ _ | refine Below.setCell ?_ ?_ _ | refine Below.drew ?_ | refine below_drewN ?_ _ | (simp; done) | (simp; omega) | omega))
      have B6c : Blk Wc T6 82 (mkA bad) := (HO6.out.below hbb lT6).below hbc (by omega)
      have B8c : Blk Wc T8 82 (mkA r) := by rw [← hWc]; exact Blk.new' hT8
      have l6 := B6c.lt
      have l8 := B8c.lt
      have f0 := B6c.cell 0
      have f1 := B6c.cell 1
      have f2 := B6c.cell 2
      have f3 := B6c.cell 3
      have f4 := B6c.cell 4
      have f5 := B6c.cell 5
      have f6 := B6c.cell 6
      have f7 := B6c.cell 7
      have g0 := B8c.cell 0
      have g1 := B8c.cell 1
      have g2 := B8c.cell 2
      have g3 := B8c.cell 3
      have g4 := B8c.cell 4
      have g5 := B8c.cell 5
      have g6 := B8c.cell 6
      have g7 := B8c.cell 7
      simp only [mkA, List.getElem?_toArray, List.getElem?_cons_zero, List.getElem?_cons_succ] at f0 f1 f2 f3 f4 f5 f6 f7 g0 g1 g2 g3 g4 g5 g6 g7
      have hbw2 : Below w.heap.size w Wc := hbw.trans (hbc.mono hbw.size)
      have hba2 : Below Wa.heap.size Wa Wc := hbb.trans (hbc.mono hzw)
      have ho2 := hid (owns_below HO.out hbc)
      clear ho HO
      have heq := eq82 Wc 9998 bad
      have hz2 := hba2.size
      have hz0 := hbw2.size
      cases hnb : noneB bad
      · rw [hnb] at heq
        have hmm : (List.range 8).any (meetAt r bad) = meet r bad := meet_marks' Hbb.out
        have Hmm := hid hmm
        clear hmm
        cases hmt : meet r bad
        · have hres : (resL (pl.take (k + 1)) bad).flatMap cI = (resL (pl.take k) bad).flatMap cI ++ [.int .i64 0] := by rw [resL_take bad hr]; unfold meetI; rw [hmt]; rfl
          have Hmt := hid (Hmm.out.trans hmt)
          have Hres := hid hres
          clear hmt Hmm hr hres
          go_wp2_with (first | (go_at_call 75; refine (meets_any r bad _).mono ?_; rw [Hmt.out]; rintro e w1 ⟨rfl, hb1⟩; have hs1 := hb1.size; have ho1 := hid (owns_below ho2.out hb1); have hbw1 : Below w.heap.size w w1 := hbw2.trans (hb1.mono hz0); have hba1 : Below Wa.heap.size Wa w1 := hba2.trans (hb1.mono hz2); have hzz : Wa.heap.size ≤ w1.heap.size := hba1.size; have hzw1 : w.heap.size ≤ w1.heap.size := hbw1.size) | (at_builtin; refine wpList_append_own _ rfl _ _ 25 rfl Wa.heap.size 3 i0 _ 1 8 under25 I0.out I1.out I2.out I3.out rfl (by decide) _ k _ rfl (ho1.out.alloc (.cells #[.int .i64 0] 3)) ⟨w1.heap.size, 0, none⟩ 1 1 [.int .i64 0] rfl rfl (fun j u hj => World.news_of_block (Blk.new' (by simp)) j u hj) (one1 _) (by unfold maxLen; omega) (by omega) (by simp; omega) ?_; intro v' w3 ho3 hg3 hv3))
          have hb3 : Below w.heap.size w w3 := (hbw1.alloc hbw1.size _).grown hg3 (by simp; have := hbw1.size; omega) (fun r hr => by have := (World.ownsRow.lt ho1.out r hr).1; have := hba.size; omega)
          have hb4 : Below Wa.heap.size Wa w3 := (hba1.alloc hba1.size _).grown hg3 (by simp; omega) (fun r hr => (World.ownsRow.lt ho1.out r hr).1)
          exact ⟨⟨k + 1, by omega, by go_num, hb3, hid (by rw [Hres.out]; exact ho3), hb4⟩, by simp [intOf]; omega⟩
        · have hres : (resL (pl.take (k + 1)) bad).flatMap cI = (resL (pl.take k) bad).flatMap cI ++ [.int .i64 1] := by rw [resL_take bad hr]; unfold meetI; rw [hmt]; rfl
          have Hmt := hid (Hmm.out.trans hmt)
          have Hres := hid hres
          clear hmt Hmm hr hres
          go_wp2_with (first | (go_at_call 75; refine (meets_any r bad _).mono ?_; rw [Hmt.out]; rintro e w1 ⟨rfl, hb1⟩; have hs1 := hb1.size; have ho1 := hid (owns_below ho2.out hb1); have hbw1 : Below w.heap.size w w1 := hbw2.trans (hb1.mono hz0); have hba1 : Below Wa.heap.size Wa w1 := hba2.trans (hb1.mono hz2); have hzz : Wa.heap.size ≤ w1.heap.size := hba1.size; have hzw1 : w.heap.size ≤ w1.heap.size := hbw1.size) | (at_builtin; refine wpList_append_own _ rfl _ _ 25 rfl Wa.heap.size 3 i0 _ 1 8 under25 I0.out I1.out I2.out I3.out rfl (by decide) _ k _ rfl (ho1.out.alloc (.cells #[.int .i64 1] 3)) ⟨w1.heap.size, 0, none⟩ 1 1 [.int .i64 1] rfl rfl (fun j u hj => World.news_of_block (Blk.new' (by simp)) j u hj) (one1 _) (by unfold maxLen; omega) (by omega) (by simp; omega) ?_; intro v' w3 ho3 hg3 hv3))
          have hb3 : Below w.heap.size w w3 := (hbw1.alloc hbw1.size _).grown hg3 (by simp; have := hbw1.size; omega) (fun r hr => by have := (World.ownsRow.lt ho1.out r hr).1; have := hba.size; omega)
          have hb4 : Below Wa.heap.size Wa w3 := (hba1.alloc hba1.size _).grown hg3 (by simp; omega) (fun r hr => (World.ownsRow.lt ho1.out r hr).1)
          exact ⟨⟨k + 1, by omega, by go_num, hb3, hid (by rw [Hres.out]; exact ho3), hb4⟩, by simp [intOf]; omega⟩
      · have hm0 := noneB_meet (r := r) Hbb.out hnb
        rw [hnb] at heq
        have hres : (resL (pl.take (k + 1)) bad).flatMap cI = (resL (pl.take k) bad).flatMap cI ++ [.int .i64 0] := by rw [resL_take bad hr]; unfold meetI; rw [hm0]; rfl
        go_wp2_with (at_builtin; refine wpList_append_own _ rfl _ _ 25 rfl Wa.heap.size 3 i0 _ 1 8 under25 I0.out I1.out I2.out I3.out rfl (by decide) _ k _ rfl (ho2.out.alloc (.cells #[.int .i64 0] 3)) ⟨Wc.heap.size, 0, none⟩ 1 1 [.int .i64 0] rfl rfl (fun j u hj => World.news_of_block (Blk.new' (by simp)) j u hj) (one1 _) (by unfold maxLen; omega) (by omega) (by simp; omega) ?_; intro v' w3 ho3 hg3 hv3)
        have hb3 : Below w.heap.size w w3 := (hbw2.alloc hbw2.size _).grown hg3 (by simp; have := hbw2.size; omega) (fun r hr => by have := (World.ownsRow.lt ho2.out r hr).1; have := hba.size; omega)
        have hb4 : Below Wa.heap.size Wa w3 := (hba2.alloc hba2.size _).grown hg3 (by simp; omega) (fun r hr => (World.ownsRow.lt ho2.out r hr).1)
        exact ⟨⟨k + 1, by omega, by go_num, hb3, hid (by rw [hres]; exact ho3), hb4⟩, by simp [intOf]; omega⟩
    · obtain rfl : k = pl.length := by omega
      have hlti : ¬ ((pl.length : Nat) : Int) < pl.length := by omega
      go_wp2
      refine bodyPost_ret (v := u5) (by first | (simp [results, Try.results65, go_sem]; done) | (simp [results, Try.results65, go_sem, *]; done) | (simp [results, Try.results65, go_sem, World.cell?_setCell_same', *]; done) | (simp [results, Try.results65, go_sem]; first | exact ⟨rfl, rfl⟩ | rfl)) rfl ⟨u5, rfl, ?_, hbw⟩
      have ho := ho.out
      rw [List.take_length] at ho
      exact owns_mono ho hba.size
end Go.Proofs.Ytpgdfipikfbjeaa
/- Walks: open. -/
namespace Go.Proofs.Ytpgdfipikfbjeaa
open Go.RowKit Go.Shelf
attribute [local go_sem] Oper.semAt_some
/-- The first place whose list is so; none: -1. -/
def idxL (q : List Int → Bool) (ls : List (List Int)) : Int := match ls.findIdx? q with | some k => (k : Int) | none => -1
theorem idxL_hit {q : List Int → Bool} {ls : List (List Int)} {k : Nat} {x : List Int} (h : (ls.take k).all (fun y => !q y) = true) (hx : ls[k]? = some x) (hq : q x = true) : idxL q ls = k := by
  unfold idxL
  have : ls.findIdx? q = some k := by
    rw [List.findIdx?_eq_some_iff_getElem]
    obtain ⟨hk, e⟩ := List.getElem?_eq_some_iff.1 hx
    refine ⟨hk, by rw [e]; exact hq, fun j hj => ?_⟩
    have h2 := List.all_eq_true.1 h ls[j] (List.mem_of_getElem? (i := j) (by rw [List.getElem?_take_of_lt hj]; exact List.getElem?_eq_getElem _))
    simpa using h2
  rw [this]
theorem idxL_none {q : List Int → Bool} {ls : List (List Int)} (h : ls.all (fun y => !q y) = true) : idxL q ls = -1 := by
  unfold idxL
  have : ls.findIdx? q = none := by
    rw [List.findIdx?_eq_none_iff]
    intro x hx
    have h2 := List.all_eq_true.1 h x hx
    simpa using h2
  rw [this]
set_option maxHeartbeats 400000 in
theorem opclo_any (A : Option Addr) (n c : Nat) (l : List Int) (P : Int) (b1 : Nat) (w : World) (hl : InS w w.heap.size A n l) (hn : n ≤ 1000000) (h1 : 1 ≤ P) (h8 : P ≤ 8) (c1 : w.cell? ⟨b1, 0, none⟩ = some (.int .i64 P)) :
    Calls Try.prog 92 #[.slice A n c, .pointer (some ⟨b1, 0, none⟩)] w fun e w' => e = .returned (.bool (!isL P 0 l)) ∧ Below w.heap.size w w' := by
  have HL := hid hl
  clear hl
  cases hq : isL P 0 l
  all_goals
    have Hq := hid hq
    clear hq
    go_enter Try.func92, Try.ntmps92
    go_wp2_with (go_at_call 86; refine (rising_any A n c l P _ HL.out hn h1 h8).mono ?_; rw [Hq.out]; rintro e w1 ⟨rfl, hb1⟩)
    go_ret
    exact ⟨rfl, hb1⟩
set_option maxHeartbeats 400000 in
theorem idxOp_any (A : Option Addr) (n c : Nat) (ls : List (List Int)) (w : World) (hl : LiS w w.heap.size A n ls) (hn : n ≤ 1000) (P : Int) (b1 : Nat) (h1 : 1 ≤ P) (h8 : P ≤ 8) (hw : ∀ l ∈ ls, l.length ≤ 12) (hb1w : b1 < w.heap.size) (c1 : w.cell? ⟨b1, 0, none⟩ = some (.int .i64 P)) :
    Calls Try.prog 104 #[.slice A n c, .func (.func 92) #[] #[.pointer (some ⟨b1, 0, none⟩)]] w fun e w' => e = .returned (.int .i64 (idxL (fun y => !isL P 0 y) ls)) ∧ Below w.heap.size w w' := by
  have HL := hid hl
  have hlen := hid hl.1
  obtain ⟨iv, hiv⟩ : ∃ iv, idxL (fun y => !isL P 0 y) ls = iv := ⟨_, rfl⟩
  have Hiv := hid hiv
  rw [hiv]
  clear hl hiv
  go_enter Try.func104, Try.ntmps104
  go_wp2
  go_loopw [8] (fun i wr => ∃ k : Nat, k ≤ n ∧ i = .int .i64 k ∧ Hid ((ls.take k).all (fun y => !(fun y => !isL P 0 y) y) = true) ∧ Below w.heap.size w wr) (fun i _ => n - (intOf i).toNat)
  case atStart => exact ⟨0, by omega, rfl, rfl, Below.refl _ _⟩
  case round =>
    obtain ⟨k, hk, rfl, hall, hbw⟩ := hrel
    have hzw := hbw.size
    by_cases hlt : k < n
    · obtain ⟨b, off, x, A', m, c', rfl, hb, hx, c0, hin⟩ := (HL.out.below hbw hzw).at_ hlt
      have Hx := hid hx
      have HI := hid hin
      have hlti : (k : Int) < n := by omega
      clear hx hin
      cases hq : (fun y => !isL P 0 y) x
      · have Hq := hid hq
        clear hq
        go_wp2_with (go_at_call 92; refine (opclo_any A' m c' x P b1 _ HI.out (by have := HI.out.len; have := hw x (List.mem_of_getElem? Hx.out); omega) h1 h8 ((hbw.cell (p := ⟨b1, 0, none⟩) hb1w).trans c1)).mono ?_; rw [Hq.out]; rintro e w1 ⟨rfl, hb1⟩)
        have hbw1 : Below w.heap.size w w1 := hbw.trans (hb1.mono hzw)
        exact ⟨⟨k + 1, by omega, by go_num, hid (all_take_succ hall.out Hx.out (by rw [Hq.out]; rfl)), hbw1⟩, by simp [intOf]; omega⟩
      · have Hq := hid hq
        clear hq
        go_wp2_with (go_at_call 92; refine (opclo_any A' m c' x P b1 _ HI.out (by have := HI.out.len; have := hw x (List.mem_of_getElem? Hx.out); omega) h1 h8 ((hbw.cell (p := ⟨b1, 0, none⟩) hb1w).trans c1)).mono ?_; rw [Hq.out]; rintro e w1 ⟨rfl, hb1⟩)
        have hbw1 : Below w.heap.size w w1 := hbw.trans (hb1.mono hzw)
        go_ret
        exact ⟨by rw [← Hiv.out, idxL_hit hall.out Hx.out Hq.out]; rfl, hbw1⟩
    · have hfin : Hid (idxL (fun y => !isL P 0 y) ls = -1) := hid (idxL_none (by have := hall.out; rwa [List.take_of_length_le (by rw [hlen.out]; omega)] at this))
      have hlti : ¬ (k : Int) < n := by omega
      go_wp2
      go_ret
      exact ⟨by rw [← Hiv.out, hfin.out]; rfl, hbw⟩
end Go.Proofs.Ytpgdfipikfbjeaa
/- Walks: open, seen. -/
namespace Go.Proofs.Ytpgdfipikfbjeaa
open Go.RowKit Go.Shelf
attribute [local go_sem] Oper.semAt_some
theorem idxL_neg {q : List Int → Bool} {ls : List (List Int)} (h : ls.all (fun y => !q y) = true) : idxL q ls < 0 := by rw [idxL_none h]; decide
theorem idxL_pos {q : List Int → Bool} {ls : List (List Int)} (h : ls.all (fun y => !q y) = false) : 0 ≤ idxL q ls := by
  unfold idxL
  cases h2 : ls.findIdx? q with
  | some k => simp
  | none =>
    rw [List.findIdx?_eq_none_iff] at h2
    rw [List.all_eq_true.2 (fun x hx => by simpa using h2 x hx)] at h
    cases h
set_option maxHeartbeats 400000 in
theorem conOp_any (A : Option Addr) (n c : Nat) (ls : List (List Int)) (P : Int) (b1 : Nat) (w : World) (hl : LiS w w.heap.size A n ls) (hn : n ≤ 1000) (h1 : 1 ≤ P) (h8 : P ≤ 8) (hw : ∀ l ∈ ls, l.length ≤ 12) (hb1w : b1 < w.heap.size) (c1 : w.cell? ⟨b1, 0, none⟩ = some (.int .i64 P)) :
    Calls Try.prog 91 #[.slice A n c, .func (.func 92) #[] #[.pointer (some ⟨b1, 0, none⟩)]] w fun e w' => e = .returned (.bool (!ls.all (isL P 0))) ∧ Below w.heap.size w w' := by
  have e0 : (ls.all fun y => !(fun y => !isL P 0 y) y) = ls.all (isL P 0) := by simp
  cases hg : ls.all (isL P 0)
  · have Hz : Hid (0 ≤ idxL (fun y => !isL P 0 y) ls) := hid (idxL_pos (by rw [e0]; exact hg))
    clear hg e0
    go_enter Try.func91, Try.ntmps91
    go_wp2_with (first | (go_at_call 104; refine (idxOp_any A n c ls _ hl hn P b1 h1 h8 hw hb1w c1).mono ?_; rintro e w1 ⟨rfl, hb1⟩; have hz2 := Hz.out))
    go_ret
    exact ⟨by first | rfl | (simp; done) | simp [hz2], hb1⟩
  · have Hz : Hid (idxL (fun y => !isL P 0 y) ls < 0) := hid (idxL_neg (by rw [e0]; exact hg))
    clear hg e0
    go_enter Try.func91, Try.ntmps91
    go_wp2_with (first | (go_at_call 104; refine (idxOp_any A n c ls _ hl hn P b1 h1 h8 hw hb1w c1).mono ?_; rintro e w1 ⟨rfl, hb1⟩; have hz2 := Hz.out; have hz3 : ¬ 0 ≤ idxL (fun y => !isL P 0 y) ls := by omega))
    go_ret
    exact ⟨by first | rfl | (simp; done) | simp [hz3], hb1⟩
set_option maxRecDepth 10000 in
set_option maxHeartbeats 1600000 in
theorem open_bad (A : Option Addr) (n c : Nat) (pl : List (List Int)) (P M : Int) (w : World) (hp : LiS w w.heap.size A n pl) (hn : n ≤ 12) (hw : ∀ l ∈ pl, l.length ≤ 12) (hbad : checkPlan P M pl ≠ 0) :
    Calls Try.prog 64 #[.agg #[.int .i64 P, .int .i64 M], .slice A n c] w fun e w' => e = .returned (.tuple #[.pointer none, .int .i64 (checkPlan P M pl)]) ∧ Below w.heap.size w w' := by
  have hlen := hp.1
  obtain ⟨W0, hWb⟩ : ∃ W0, w.alloc (.cells #[.int .i64 P, .int .i64 M] 23) = W0 := ⟨_, rfl⟩
  have bB : Blk W0 w.heap.size 23 #[.int .i64 P, .int .i64 M] := by rw [← hWb]; exact Blk.new' rfl
  have hbel : Below w.heap.size w W0 := by rw [← hWb]; exact (Below.refl _ _).alloc (Nat.le_refl _) _
  have hsz := hbel.size
  have lB := bB.lt
  have p0 := bB.cell 0
  have p1 := bB.cell 1
  have HP := hid (hp.below hbel hsz)
  clear hp
  by_cases hb : checkBook P M ≠ 0
  · have hE := hid (show checkPlan P M pl = checkBook P M from if_pos hb)
    have Hb := hid hb
    have hbi : (checkBook P M == 0) = false := by simpa using hb
    have hbi2 : ¬ checkBook P M = 0 := hb
    clear hb hbad
    go_enter Try.func64, Try.ntmps64
    go_wp2_with (fail)
    refine (checkBook_any P M _).mono ?_
    rintro e W1 ⟨rfl, hb⟩
    have hst : Below W0.heap.size W0 W1 := Below.trans (by repeat' (first | with_reducible assumption | with_reducible exact Below.refl _ _ | refine Below.alloc ?_ ?_ _ | refine Below.setCell ?_ ?_ _ | refine Below.drew ?_ | refine below_drewN ?_ _ | (simp; done) | (simp; omega) | omega)) (hb.mono (by first | (simp; done) | (simp; omega) | omega))
    replace hbel := hbel.trans (hst.mono hsz)
    replace hsz := hbel.size
    replace bB := bB.below hst bB.lt
    clear p0 p1 lB
    have p0 := bB.cell 0
    have p1 := bB.cell 1
    have lB := bB.lt
    try clear hWb
    replace HP := hid (HP.out.below hst hst.size)
    clear hb hst
    obtain ⟨W0, rfl⟩ : ∃ W0 : World, W0 = W1 := ⟨_, rfl⟩
    go_wp2
    refine bodyPost_ret (v := .tuple #[.pointer none, .int .i64 (checkBook P M)]) (by first | (simp [results, Try.results64, go_sem]; done) | (simp [results, Try.results64, go_sem, *]; done) | (simp [results, Try.results64, go_sem, World.cell?_setCell_same', *]; done) | (simp [results, Try.results64, go_sem]; first | exact ⟨rfl, rfl⟩ | rfl)) rfl ⟨by rw [hE.out], hbel⟩
  · have hb0 : checkBook P M = 0 := by simpa using hb
    obtain ⟨g4, g5, g6, g7⟩ := book_good hb0
    have Hb := hid hb0
    clear hb hb0
    by_cases h8 : 8 < n
    · have hE := hid (show checkPlan P M pl = 6 by unfold checkPlan; rw [if_neg (by rw [Hb.out]; simp), if_pos (by omega)])
      have h8i : (8 : Int) < n := by omega
      clear hbad
      go_enter Try.func64, Try.ntmps64
      go_wp2_with (fail)
      refine (checkBook_any P M _).mono ?_
      rw [Hb.out]
      rintro e W1 ⟨rfl, hb⟩
      have hst : Below W0.heap.size W0 W1 := Below.trans (by repeat' (first | with_reducible assumption | with_reducible exact Below.refl _ _ | refine Below.alloc ?_ ?_ _ | refine Below.setCell ?_ ?_ _ | refine Below.drew ?_ | refine below_drewN ?_ _ | (simp; done) | (simp; omega) | omega)) (hb.mono (by first | (simp; done) | (simp; omega) | omega))
      replace hbel := hbel.trans (hst.mono hsz)
      replace hsz := hbel.size
      replace bB := bB.below hst bB.lt
      clear p0 p1 lB
      have p0 := bB.cell 0
      have p1 := bB.cell 1
      have lB := bB.lt
      try clear hWb
      replace HP := hid (HP.out.below hst hst.size)
      clear hb hst
      obtain ⟨W0, rfl⟩ : ∃ W0 : World, W0 = W1 := ⟨_, rfl⟩
      go_wp2
      refine bodyPost_ret (v := .tuple #[.pointer none, .int .i64 6]) (by first | (simp [results, Try.results64, go_sem]; done) | (simp [results, Try.results64, go_sem, *]; done) | (simp [results, Try.results64, go_sem, World.cell?_setCell_same', *]; done) | (simp [results, Try.results64, go_sem]; first | exact ⟨rfl, rfl⟩ | rfl)) rfl ⟨by rw [hE.out], hbel⟩
    · have hal : pl.all (isL P 0) = false := by
        cases h : pl.all (isL P 0) with
        | false => rfl
        | true => exact absurd (by unfold checkPlan; rw [if_neg (by rw [Hb.out]; simp), if_neg (by omega), if_neg (by rw [h]; simp)]) hbad
      have hE := hid (show checkPlan P M pl = 3 by unfold checkPlan; rw [if_neg (by rw [Hb.out]; simp), if_neg (by omega), if_pos hal])
      have Ha := hid hal
      have h8i : ¬ (8 : Int) < n := by omega
      clear hal hbad
      go_enter Try.func64, Try.ntmps64
      go_wp2_with (fail)
      refine (checkBook_any P M _).mono ?_
      rw [Hb.out]
      rintro e W1 ⟨rfl, hb⟩
      have hst : Below W0.heap.size W0 W1 := Below.trans (by repeat' (first | with_reducible assumption | with_reducible exact Below.refl _ _ | refine Below.alloc ?_ ?_ _ | refine Below.setCell ?_ ?_ _ | refine Below.drew ?_ | refine below_drewN ?_ _ | (simp; done) | (simp; omega) | omega)) (hb.mono (by first | (simp; done) | (simp; omega) | omega))
      replace hbel := hbel.trans (hst.mono hsz)
      replace hsz := hbel.size
      replace bB := bB.below hst bB.lt
      clear p0 p1 lB
      have p0 := bB.cell 0
      have p1 := bB.cell 1
      have lB := bB.lt
      try clear hWb
      replace HP := hid (HP.out.below hst hst.size)
      clear hb hst
      obtain ⟨W0, rfl⟩ : ∃ W0 : World, W0 = W1 := ⟨_, rfl⟩
      go_wp2_with (fail)
      refine (conOp_any A n c pl P w.heap.size _ (HP.out.below (by repeat' (first | with_reducible assumption | with_reducible exact Below.refl _ _ | refine Below.alloc ?_ ?_ _ | refine Below.setCell ?_ ?_ _ | refine Below.drew ?_ | refine below_drewN ?_ _ | (simp; done) | (simp; omega) | omega)) (by first | (simp; done) | (simp; omega) | omega)) (by omega) g4 g5 hw lB p0).mono ?_
      rw [Ha.out]
      rintro e W1 ⟨rfl, hb⟩
      have hst : Below W0.heap.size W0 W1 := Below.trans (by repeat' (first | with_reducible assumption | with_reducible exact Below.refl _ _ | refine Below.alloc ?_ ?_ _ | refine Below.setCell ?_ ?_ _ | refine Below.drew ?_ | refine below_drewN ?_ _ | (simp; done) | (simp; omega) | omega)) (hb.mono (by first | (simp; done) | (simp; omega) | omega))
      replace hbel := hbel.trans (hst.mono hsz)
      replace hsz := hbel.size
      replace bB := bB.below hst bB.lt
      clear p0 p1 lB
      have p0 := bB.cell 0
      have p1 := bB.cell 1
      have lB := bB.lt
      try clear hWb
      replace HP := hid (HP.out.below hst hst.size)
      clear hb hst
      obtain ⟨W0, rfl⟩ : ∃ W0 : World, W0 = W1 := ⟨_, rfl⟩
      go_wp2
      refine bodyPost_ret (v := .tuple #[.pointer none, .int .i64 3]) (by first | (simp [results, Try.results64, go_sem]; done) | (simp [results, Try.results64, go_sem, *]; done) | (simp [results, Try.results64, go_sem, World.cell?_setCell_same', *]; done) | (simp [results, Try.results64, go_sem]; first | exact ⟨rfl, rfl⟩ | rfl)) rfl ⟨by rw [hE.out], hbel⟩
set_option maxRecDepth 10000 in
set_option maxHeartbeats 1600000 in
theorem open_ok (A : Option Addr) (n c : Nat) (pl : List (List Int)) (P M : Nat) (w : World) (hp : LiS w w.heap.size A n pl) (hw : ∀ l ∈ pl, l.length ≤ 12) (hok : checkPlan P M pl = 0) :
    Calls Try.prog 64 #[.agg #[.int .i64 (P : Int), .int .i64 (M : Int)], .slice A n c] w fun e w' => ∃ g mp, e = .returned (.tuple #[.pointer (some ⟨g, 0, none⟩), .int .i64 0]) ∧ Bench w' g P M (casesL P M) pl mp ∧ w'.heap[mp]? = some (.map #[] 0) ∧ w.heap.size ≤ mp ∧ Below w.heap.size w w' := by
  obtain ⟨g1, g2, g3⟩ := plan_good hok
  obtain ⟨g4, g5, g6, g7⟩ := book_good g1
  have hlen := hp.1
  have h8i : ¬ (8 : Int) < n := by omega
  have Hb := hid g1
  have Ha := hid g3
  have hbd : ∀ l ∈ pl, ∀ x ∈ l, 0 ≤ x ∧ x < 8 := fun l hl x hx => by
    have := isL_bd (List.all_eq_true.1 g3 l hl) x hx
    omega
  have Hbd := hid hbd
  clear g1 g3 hbd hok
  obtain ⟨W0, hWb⟩ : ∃ W0, w.alloc (.cells #[.int .i64 (P : Int), .int .i64 (M : Int)] 23) = W0 := ⟨_, rfl⟩
  have bB : Blk W0 w.heap.size 23 #[.int .i64 (P : Int), .int .i64 (M : Int)] := by rw [← hWb]; exact Blk.new' rfl
  have hbel : Below w.heap.size w W0 := by rw [← hWb]; exact (Below.refl _ _).alloc (Nat.le_refl _) _
  have hsz := hbel.size
  have lB := bB.lt
  have p0 := bB.cell 0
  have p1 := bB.cell 1
  have HP := hid (hp.below hbel hsz)
  clear hp
  go_enter Try.func64, Try.ntmps64
  go_wp2_with (fail)
  refine (checkBook_any P M _).mono ?_
  rw [Hb.out]
  rintro e W1 ⟨rfl, hb⟩
  have hst : Below W0.heap.size W0 W1 := Below.trans (by repeat' (first | with_reducible assumption | with_reducible exact Below.refl _ _ | refine Below.alloc ?_ ?_ _ | refine Below.setCell ?_ ?_ _ | refine Below.drew ?_ | refine below_drewN ?_ _ | (simp; done) | (simp; omega) | omega)) (hb.mono (by first | (simp; done) | (simp; omega) | omega))
  replace hbel := hbel.trans (hst.mono hsz)
  replace hsz := hbel.size
  replace bB := bB.below hst bB.lt
  clear p0 p1 lB
  have p0 := bB.cell 0
  have p1 := bB.cell 1
  have lB := bB.lt
  try clear hWb
  replace HP := hid (HP.out.below hst hst.size)
  clear hb hst
  obtain ⟨W0, rfl⟩ : ∃ W0 : World, W0 = W1 := ⟨_, rfl⟩
  go_wp2_with (fail)
  refine (conOp_any A n c pl P w.heap.size _ (HP.out.below (by repeat' (first | with_reducible assumption | with_reducible exact Below.refl _ _ | refine Below.alloc ?_ ?_ _ | refine Below.setCell ?_ ?_ _ | refine Below.drew ?_ | refine below_drewN ?_ _ | (simp; done) | (simp; omega) | omega)) (by first | (simp; done) | (simp; omega) | omega)) (by omega) g4 g5 hw lB p0).mono ?_
  rw [Ha.out]
  rintro e W1 ⟨rfl, hb⟩
  have hst : Below W0.heap.size W0 W1 := Below.trans (by repeat' (first | with_reducible assumption | with_reducible exact Below.refl _ _ | refine Below.alloc ?_ ?_ _ | refine Below.setCell ?_ ?_ _ | refine Below.drew ?_ | refine below_drewN ?_ _ | (simp; done) | (simp; omega) | omega)) (hb.mono (by first | (simp; done) | (simp; omega) | omega))
  replace hbel := hbel.trans (hst.mono hsz)
  replace hsz := hbel.size
  replace bB := bB.below hst bB.lt
  clear p0 p1 lB
  have p0 := bB.cell 0
  have p1 := bB.cell 1
  have lB := bB.lt
  try clear hWb
  replace HP := hid (HP.out.below hst hst.size)
  clear hb hst
  obtain ⟨W0, rfl⟩ : ∃ W0 : World, W0 = W1 := ⟨_, rfl⟩
  have hP8 : P ≤ 8 := by omega
  have hM2 : M ≤ 2 := by omega
  have hn8 : n ≤ 8 := by omega
  have HPn := hid HP.out
  go_wp2_with (fail)
  refine (newBench_any P M A n c pl _ hP8 hM2 (HP.out.below (by repeat' (first | with_reducible assumption | with_reducible exact Below.refl _ _ | refine Below.alloc ?_ ?_ _ | refine Below.setCell ?_ ?_ _ | refine Below.drew ?_ | refine below_drewN ?_ _ | (simp; done) | (simp; omega) | omega)) (by first | (simp; done) | (simp; omega) | omega)) hn8 hw Hbd.out).mono ?_
  rintro e W1 ⟨g, mp, rfl, hgg, hmm, hB, hM0, hb⟩
  have hzz := hbel.size
  have hst : Below W0.heap.size W0 W1 := Below.trans (by repeat' (first | with_reducible assumption | with_reducible exact Below.refl _ _ | refine Below.alloc ?_ ?_ _ | refine Below.setCell ?_ ?_ _ | refine Below.drew ?_ | refine below_drewN ?_ _ | (simp; done) | (simp; omega) | omega)) (hb.mono (by first | (simp; done) | (simp; omega) | omega))
  replace hbel := hbel.trans (hst.mono hsz)
  replace hsz := hbel.size
  replace bB := bB.below hst bB.lt
  clear p0 p1 lB
  have p0 := bB.cell 0
  have p1 := bB.cell 1
  have lB := bB.lt
  try clear hWb
  replace HP := hid (HP.out.below hst hst.size)
  have HBn := hid hB
  have HM0 := hid hM0
  have hmw : w.heap.size ≤ mp := by have := hsz; have := hbel.size; omega
  clear hB hM0 hgg hmm
  clear hb hst
  obtain ⟨W0, rfl⟩ : ∃ W0 : World, W0 = W1 := ⟨_, rfl⟩
  go_wp2
  refine bodyPost_ret (v := .tuple #[.pointer (some ⟨g, 0, none⟩), .int .i64 0]) (by first | (simp [results, Try.results64, go_sem]; done) | (simp [results, Try.results64, go_sem, *]; done) | (simp [results, Try.results64, go_sem, World.cell?_setCell_same', *]; done) | (simp [results, Try.results64, go_sem]; first | exact ⟨rfl, rfl⟩ | rfl)) rfl ⟨g, mp, rfl, HBn.out, HM0.out, hmw, hbel⟩
set_option maxRecDepth 10000 in
set_option maxHeartbeats 1600000 in
theorem seen_bad (A B : Option Addr) (n c m d : Nat) (pl : List (List Int)) (r : List Int) (P M : Int) (w : World) (hp : LiS w w.heap.size A n pl) (hb : InS w w.heap.size B m r) (hn : n ≤ 12) (hw : ∀ l ∈ pl, l.length ≤ 12) (hbad : errR P M pl r ≠ 0) :
    Calls Try.prog 70 #[.agg #[.int .i64 P, .int .i64 M], .slice A n c, .slice B m d] w fun e w' => e = .returned (.tuple #[.pointer none, .int .i64 (errR P M pl r)]) ∧ Below w.heap.size w w' := by
  have hlen := hp.1
  have hlr := hb.len
  obtain ⟨W0, hWb⟩ : ∃ W0, w.alloc (.cells #[.int .i64 P, .int .i64 M] 23) = W0 := ⟨_, rfl⟩
  have bB : Blk W0 w.heap.size 23 #[.int .i64 P, .int .i64 M] := by rw [← hWb]; exact Blk.new' rfl
  have hbel : Below w.heap.size w W0 := by rw [← hWb]; exact (Below.refl _ _).alloc (Nat.le_refl _) _
  have hsz := hbel.size
  have lB := bB.lt
  have p0 := bB.cell 0
  have p1 := bB.cell 1
  have HP := hid (hp.below hbel hsz)
  clear hp
  have HB := hid (hb.below hbel hsz)
  clear hb
  by_cases hb : checkPlan P M pl ≠ 0
  · have hE := hid (show errR P M pl r = checkPlan P M pl from if_pos hb)
    have hbi : (checkPlan P M pl == 0) = false := by simpa using hb
    have hbi2 : ¬ checkPlan P M pl = 0 := hb
    have Hb := hid hb
    clear hb hbad
    go_enter Try.func70, Try.ntmps70
    go_wp2_with (fail)
    refine (open_bad A n c pl P M _ (HP.out.below (by repeat' (first | with_reducible assumption | with_reducible exact Below.refl _ _ | refine Below.alloc ?_ ?_ _ | refine Below.setCell ?_ ?_ _ | refine Below.drew ?_ | refine below_drewN ?_ _ | (simp; done) | (simp; omega) | omega)) (by first | (simp; done) | (simp; omega) | omega)) hn hw Hb.out).mono ?_
    rintro e W1 ⟨rfl, hb⟩
    have hst : Below W0.heap.size W0 W1 := Below.trans (by repeat' (first | with_reducible assumption | with_reducible exact Below.refl _ _ | refine Below.alloc ?_ ?_ _ | refine Below.setCell ?_ ?_ _ | refine Below.drew ?_ | refine below_drewN ?_ _ | (simp; done) | (simp; omega) | omega)) (hb.mono (by first | (simp; done) | (simp; omega) | omega))
    replace hbel := hbel.trans (hst.mono hsz)
    replace hsz := hbel.size
    replace bB := bB.below hst bB.lt
    clear p0 p1 lB
    have p0 := bB.cell 0
    have p1 := bB.cell 1
    have lB := bB.lt
    try clear hWb
    replace HP := hid (HP.out.below hst hst.size)
    replace HB := hid (HB.out.below hst hst.size)
    clear hb hst
    obtain ⟨W0, rfl⟩ : ∃ W0 : World, W0 = W1 := ⟨_, rfl⟩
    go_wp2
    refine bodyPost_ret (v := .tuple #[.pointer none, .int .i64 (checkPlan P M pl)]) (by first | (simp [results, Try.results70, go_sem]; done) | (simp [results, Try.results70, go_sem, *]; done) | (simp [results, Try.results70, go_sem, World.cell?_setCell_same', *]; done) | (simp [results, Try.results70, go_sem]; first | exact ⟨rfl, rfl⟩ | rfl)) rfl ⟨by rw [hE.out], hbel⟩
  · have hb0 : checkPlan P M pl = 0 := by simpa using hb
    obtain ⟨g1, g2, g3⟩ := plan_good hb0
    obtain ⟨g4, g5, g6, g7⟩ := book_good g1
    obtain ⟨Pn, rfl⟩ : ∃ Pn : Nat, P = Pn := ⟨P.toNat, by omega⟩
    obtain ⟨Mn, rfl⟩ : ∃ Mn : Nat, M = Mn := ⟨M.toNat, by omega⟩
    have Hb := hid hb0
    clear hb hb0 g1 g3
    by_cases hle : m = n
    · have hal : r.all (inR 0 1) = false := by
        cases h : r.all (inR 0 1) with
        | false => rfl
        | true => exact absurd (by unfold errR; rw [if_neg (by rw [Hb.out]; simp), if_neg (by omega), if_neg (by rw [h]; simp)]) hbad
      have hE := hid (show errR Pn Mn pl r = 3 by unfold errR; rw [if_neg (by rw [Hb.out]; simp), if_neg (by omega), if_pos hal])
      have Ha := hid hal
      clear hal hbad
      obtain rfl : n = m := hle.symm
      go_enter Try.func70, Try.ntmps70
      go_wp2_with (fail)
      refine (open_ok A n c pl Pn Mn _ (HP.out.below (by repeat' (first | with_reducible assumption | with_reducible exact Below.refl _ _ | refine Below.alloc ?_ ?_ _ | refine Below.setCell ?_ ?_ _ | refine Below.drew ?_ | refine below_drewN ?_ _ | (simp; done) | (simp; omega) | omega)) (by first | (simp; done) | (simp; omega) | omega)) hw Hb.out).mono ?_
      rintro e W1 ⟨g, mp, rfl, hB, hM0, hmm, hb⟩
      have hzz := hbel.size
      have hst : Below W0.heap.size W0 W1 := Below.trans (by repeat' (first | with_reducible assumption | with_reducible exact Below.refl _ _ | refine Below.alloc ?_ ?_ _ | refine Below.setCell ?_ ?_ _ | refine Below.drew ?_ | refine below_drewN ?_ _ | (simp; done) | (simp; omega) | omega)) (hb.mono (by first | (simp; done) | (simp; omega) | omega))
      replace hbel := hbel.trans (hst.mono hsz)
      replace hsz := hbel.size
      replace bB := bB.below hst bB.lt
      clear p0 p1 lB
      have p0 := bB.cell 0
      have p1 := bB.cell 1
      have lB := bB.lt
      try clear hWb
      replace HP := hid (HP.out.below hst hst.size)
      replace HB := hid (HB.out.below hst hst.size)
      have hmw : w.heap.size ≤ mp := by have := hbel.size; omega
      clear hmm
      have HBn := hid hB
      clear hB
      have HM0 := hid hM0
      clear hM0
      clear hb hst
      obtain ⟨W0, rfl⟩ : ∃ W0 : World, W0 = W1 := ⟨_, rfl⟩
      clear HBn HM0
      go_wp2_with (fail)
      refine (within_any B n d r 0 1 _ (HB.out.below (by repeat' (first | with_reducible assumption | with_reducible exact Below.refl _ _ | refine Below.alloc ?_ ?_ _ | refine Below.setCell ?_ ?_ _ | refine Below.drew ?_ | refine below_drewN ?_ _ | (simp; done) | (simp; omega) | omega)) (by first | (simp; done) | (simp; omega) | omega)) (by omega)).mono ?_
      rw [Ha.out]
      rintro e W1 ⟨rfl, hb⟩
      have hst : Below W0.heap.size W0 W1 := Below.trans (by repeat' (first | with_reducible assumption | with_reducible exact Below.refl _ _ | refine Below.alloc ?_ ?_ _ | refine Below.setCell ?_ ?_ _ | refine Below.drew ?_ | refine below_drewN ?_ _ | (simp; done) | (simp; omega) | omega)) (hb.mono (by first | (simp; done) | (simp; omega) | omega))
      replace hbel := hbel.trans (hst.mono hsz)
      replace hsz := hbel.size
      replace bB := bB.below hst bB.lt
      clear p0 p1 lB
      have p0 := bB.cell 0
      have p1 := bB.cell 1
      have lB := bB.lt
      try clear hWb
      replace HP := hid (HP.out.below hst hst.size)
      replace HB := hid (HB.out.below hst hst.size)
      clear hb hst
      obtain ⟨W0, rfl⟩ : ∃ W0 : World, W0 = W1 := ⟨_, rfl⟩
      go_wp2
      refine bodyPost_ret (v := .tuple #[.pointer none, .int .i64 3]) (by first | (simp [results, Try.results70, go_sem]; done) | (simp [results, Try.results70, go_sem, *]; done) | (simp [results, Try.results70, go_sem, World.cell?_setCell_same', *]; done) | (simp [results, Try.results70, go_sem]; first | exact ⟨rfl, rfl⟩ | rfl)) rfl ⟨by rw [hE.out], hbel⟩
    · have hE := hid (show errR Pn Mn pl r = 15 by unfold errR; rw [if_neg (by rw [Hb.out]; simp), if_pos (by omega)])
      have hlei : ¬ (m : Int) = n := by omega
      clear hbad
      go_enter Try.func70, Try.ntmps70
      go_wp2_with (fail)
      refine (open_ok A n c pl Pn Mn _ (HP.out.below (by repeat' (first | with_reducible assumption | with_reducible exact Below.refl _ _ | refine Below.alloc ?_ ?_ _ | refine Below.setCell ?_ ?_ _ | refine Below.drew ?_ | refine below_drewN ?_ _ | (simp; done) | (simp; omega) | omega)) (by first | (simp; done) | (simp; omega) | omega)) hw Hb.out).mono ?_
      rintro e W1 ⟨g, mp, rfl, hB, hM0, hmm, hb⟩
      have hzz := hbel.size
      have hst : Below W0.heap.size W0 W1 := Below.trans (by repeat' (first | with_reducible assumption | with_reducible exact Below.refl _ _ | refine Below.alloc ?_ ?_ _ | refine Below.setCell ?_ ?_ _ | refine Below.drew ?_ | refine below_drewN ?_ _ | (simp; done) | (simp; omega) | omega)) (hb.mono (by first | (simp; done) | (simp; omega) | omega))
      replace hbel := hbel.trans (hst.mono hsz)
      replace hsz := hbel.size
      replace bB := bB.below hst bB.lt
      clear p0 p1 lB
      have p0 := bB.cell 0
      have p1 := bB.cell 1
      have lB := bB.lt
      try clear hWb
      replace HP := hid (HP.out.below hst hst.size)
      replace HB := hid (HB.out.below hst hst.size)
      have hmw : w.heap.size ≤ mp := by have := hbel.size; omega
      clear hmm
      have HBn := hid hB
      clear hB
      have HM0 := hid hM0
      clear hM0
      clear hb hst
      obtain ⟨W0, rfl⟩ : ∃ W0 : World, W0 = W1 := ⟨_, rfl⟩
      clear HBn HM0
      go_wp2
      refine bodyPost_ret (v := .tuple #[.pointer none, .int .i64 15]) (by first | (simp [results, Try.results70, go_sem]; done) | (simp [results, Try.results70, go_sem, *]; done) | (simp [results, Try.results70, go_sem, World.cell?_setCell_same', *]; done) | (simp [results, Try.results70, go_sem]; first | exact ⟨rfl, rfl⟩ | rfl)) rfl ⟨by rw [hE.out], hbel⟩
theorem Bench.below {W W' : World} {g P M mp : Nat} {CL pl : List (List Int)} (h : Bench W g P M CL pl mp) (hb : Below W.heap.size W W') : Bench W' g P M CL pl mp := by
  obtain ⟨A1, c1, A2, c2, h1, h2, h3, h4⟩ := h
  exact ⟨A1, c1, A2, c2, h1.below hb h1.lt, h2.below hb hb.size, h3.below' hb hb.size, h4⟩
set_option maxRecDepth 10000 in
set_option maxHeartbeats 1600000 in
theorem seen_ok (A B : Option Addr) (n c m d : Nat) (pl : List (List Int)) (r : List Int) (P M : Nat) (w : World) (hp : LiS w w.heap.size A n pl) (hb : InS w w.heap.size B m r) (hn : n ≤ 12) (hw : ∀ l ∈ pl, l.length ≤ 12) (hok : errR P M pl r = 0) :
    Calls Try.prog 70 #[.agg #[.int .i64 (P : Int), .int .i64 (M : Int)], .slice A n c, .slice B m d] w fun e w' => ∃ g mp, e = .returned (.tuple #[.pointer (some ⟨g, 0, none⟩), .int .i64 0]) ∧ Bench w' g P M (casesL P M) pl mp ∧ w'.heap[mp]? = some (.map #[] 0) ∧ w.heap.size ≤ mp ∧ Below w.heap.size w w' := by
  obtain ⟨k1, k2, k3⟩ := errR_zero hok
  have hlen := hp.1
  have hlr := hb.len
  obtain rfl : n = m := by omega
  have Hb := hid k1
  have Ha := hid k3
  clear k1 k3 hok
  obtain ⟨W0, hWb⟩ : ∃ W0, w.alloc (.cells #[.int .i64 (P : Int), .int .i64 (M : Int)] 23) = W0 := ⟨_, rfl⟩
  have bB : Blk W0 w.heap.size 23 #[.int .i64 (P : Int), .int .i64 (M : Int)] := by rw [← hWb]; exact Blk.new' rfl
  have hbel : Below w.heap.size w W0 := by rw [← hWb]; exact (Below.refl _ _).alloc (Nat.le_refl _) _
  have hsz := hbel.size
  have lB := bB.lt
  have p0 := bB.cell 0
  have p1 := bB.cell 1
  have HP := hid (hp.below hbel hsz)
  clear hp
  have HB := hid (hb.below hbel hsz)
  clear hb
  go_enter Try.func70, Try.ntmps70
  go_wp2_with (fail)
  refine (open_ok A n c pl P M _ (HP.out.below (by repeat' (first | with_reducible assumption | with_reducible exact Below.refl _ _ | refine Below.alloc ?_ ?_ _ | refine Below.setCell ?_ ?_ _ | refine Below.drew ?_ | refine below_drewN ?_ _ | (simp; done) | (simp; omega) | omega)) (by first | (simp; done) | (simp; omega) | omega)) hw Hb.out).mono ?_
  rintro e W1 ⟨g, mp, rfl, hB, hM0, hmm, hb⟩
  have hzz := hbel.size
  have hst : Below W0.heap.size W0 W1 := Below.trans (by repeat' (first | with_reducible assumption | with_reducible exact Below.refl _ _ | refine Below.alloc ?_ ?_ _ | refine Below.setCell ?_ ?_ _ | refine Below.drew ?_ | refine below_drewN ?_ _ | (simp; done) | (simp; omega) | omega)) (hb.mono (by first | (simp; done) | (simp; omega) | omega))
  replace hbel := hbel.trans (hst.mono hsz)
  replace hsz := hbel.size
  replace bB := bB.below hst bB.lt
  clear p0 p1 lB
  have p0 := bB.cell 0
  have p1 := bB.cell 1
  have lB := bB.lt
  try clear hWb
  replace HP := hid (HP.out.below hst hst.size)
  replace HB := hid (HB.out.below hst hst.size)
  have hmw : w.heap.size ≤ mp := by have := hbel.size; omega
  clear hmm
  have HBn := hid hB
  clear hB
  have HM0 := hid hM0
  clear hM0
  clear hb hst
  obtain ⟨W0, rfl⟩ : ∃ W0 : World, W0 = W1 := ⟨_, rfl⟩
  go_wp2_with (fail)
  refine (within_any B n d r 0 1 _ (HB.out.below (by repeat' (first | with_reducible assumption | with_reducible exact Below.refl _ _ | refine Below.alloc ?_ ?_ _ | refine Below.setCell ?_ ?_ _ | refine Below.drew ?_ | refine below_drewN ?_ _ | (simp; done) | (simp; omega) | omega)) (by first | (simp; done) | (simp; omega) | omega)) (by omega)).mono ?_
  rw [Ha.out]
  rintro e W1 ⟨rfl, hb⟩
  have hst : Below W0.heap.size W0 W1 := Below.trans (by repeat' (first | with_reducible assumption | with_reducible exact Below.refl _ _ | refine Below.alloc ?_ ?_ _ | refine Below.setCell ?_ ?_ _ | refine Below.drew ?_ | refine below_drewN ?_ _ | (simp; done) | (simp; omega) | omega)) (hb.mono (by first | (simp; done) | (simp; omega) | omega))
  replace hbel := hbel.trans (hst.mono hsz)
  replace hsz := hbel.size
  replace bB := bB.below hst bB.lt
  clear p0 p1 lB
  have p0 := bB.cell 0
  have p1 := bB.cell 1
  have lB := bB.lt
  try clear hWb
  replace HP := hid (HP.out.below hst hst.size)
  replace HB := hid (HB.out.below hst hst.size)
  replace HBn := hid (HBn.out.below hst)
  replace HM0 := hid ((hst.block mp (Array.getElem?_eq_some_iff.1 HM0.out).1).trans HM0.out)
  clear hb hst
  obtain ⟨W0, rfl⟩ : ∃ W0 : World, W0 = W1 := ⟨_, rfl⟩
  go_wp2
  refine bodyPost_ret (v := .tuple #[.pointer (some ⟨g, 0, none⟩), .int .i64 0]) (by first | (simp [results, Try.results70, go_sem]; done) | (simp [results, Try.results70, go_sem, *]; done) | (simp [results, Try.results70, go_sem, World.cell?_setCell_same', *]; done) | (simp [results, Try.results70, go_sem]; first | exact ⟨rfl, rfl⟩ | rfl)) rfl ⟨g, mp, rfl, HBn.out, HM0.out, hmw, hbel⟩
end Go.Proofs.Ytpgdfipikfbjeaa
/- Plain law: the sums of OnesCount64, at sixteen bits. -/
namespace Go.Proofs.Ytpgdfipikfbjeaa
/-- The sums of OnesCount64. -/
def on1 (x : Nat) : Nat := (x / 2 &&& 6148914691236517205) + (x &&& 6148914691236517205)
def on2 (x : Nat) : Nat := (x / 4 &&& 3689348814741910323) + (x &&& 3689348814741910323)
def on3 (x : Nat) : Nat := (x / 16 + x) &&& 1085102592571150095
def on4 (x : Nat) : Nat := x + x / 256
def on5 (x : Nat) : Nat := x + x / 65536
def on6 (x : Nat) : Nat := x + x / 4294967296
def onesN (x : Nat) : Nat := on6 (on5 (on4 (on3 (on2 (on1 x))))) &&& 127
/-- How many bits of a byte are set. -/
def cntF (x : Nat) : Nat := x % 2 + (x / 2 % 2 + (x / 4 % 2 + (x / 8 % 2 + (x / 16 % 2 + (x / 32 % 2 + (x / 64 % 2 + x / 128 % 2))))))
def onCk (x : Nat) : Bool := Nat.beq (on3 (on2 (on1 x))) (256 * cntF (x / 256) + cntF (x % 256))
def onCkr : Nat → Nat → Bool
  | 0, _ => true
  | k + 1, x => bif onCk x then onCkr k (x + 1) else false
theorem onCkr_at : ∀ {k x y : Nat}, onCkr k x = true → x ≤ y → y < x + k → onCk y = true
  | 0, _, _, _, h1, h2 => by omega
  | k + 1, x, y, h, h1, h2 => by
    have h' : (bif onCk x then onCkr k (x + 1) else false) = true := h
    cases hc : onCk x with
    | false => rw [hc] at h'; cases h'
    | true =>
      rw [hc] at h'
      by_cases e : y = x
      · subst e; exact hc
      · exact onCkr_at h' (by omega) (by omega)
theorem onCk0 : (List.range 16).all (fun a => onCkr 256 (256 * (a + 0))) = true := by decide +kernel
theorem onCk1 : (List.range 16).all (fun a => onCkr 256 (256 * (a + 16))) = true := by decide +kernel
theorem onCk2 : (List.range 16).all (fun a => onCkr 256 (256 * (a + 32))) = true := by decide +kernel
theorem onCk3 : (List.range 16).all (fun a => onCkr 256 (256 * (a + 48))) = true := by decide +kernel
theorem onCk4 : (List.range 16).all (fun a => onCkr 256 (256 * (a + 64))) = true := by decide +kernel
theorem onCk5 : (List.range 16).all (fun a => onCkr 256 (256 * (a + 80))) = true := by decide +kernel
theorem onCk6 : (List.range 16).all (fun a => onCkr 256 (256 * (a + 96))) = true := by decide +kernel
theorem onCk7 : (List.range 16).all (fun a => onCkr 256 (256 * (a + 112))) = true := by decide +kernel
theorem onCk8 : (List.range 16).all (fun a => onCkr 256 (256 * (a + 128))) = true := by decide +kernel
theorem onCk9 : (List.range 16).all (fun a => onCkr 256 (256 * (a + 144))) = true := by decide +kernel
theorem onCk10 : (List.range 16).all (fun a => onCkr 256 (256 * (a + 160))) = true := by decide +kernel
theorem onCk11 : (List.range 16).all (fun a => onCkr 256 (256 * (a + 176))) = true := by decide +kernel
theorem onCk12 : (List.range 16).all (fun a => onCkr 256 (256 * (a + 192))) = true := by decide +kernel
theorem onCk13 : (List.range 16).all (fun a => onCkr 256 (256 * (a + 208))) = true := by decide +kernel
theorem onCk14 : (List.range 16).all (fun a => onCkr 256 (256 * (a + 224))) = true := by decide +kernel
theorem onCk15 : (List.range 16).all (fun a => onCkr 256 (256 * (a + 240))) = true := by decide +kernel
theorem onCk_at {x : Nat} (hx : x < 65536) : onCk x = true := by
  have key : ∀ c, (List.range 16).all (fun a => onCkr 256 (256 * (a + c))) = true → 256 * c ≤ x → x < 256 * (c + 16) → onCk x = true := fun c h h1 h2 => by
    have := List.all_eq_true.1 h (x / 256 - c) (List.mem_range.2 (by omega))
    exact onCkr_at this (by omega) (by omega)
  have hc : x / 4096 < 16 := by omega
  rcases (by omega : x / 4096 = 0 ∨ x / 4096 = 1 ∨ x / 4096 = 2 ∨ x / 4096 = 3 ∨ x / 4096 = 4 ∨ x / 4096 = 5 ∨ x / 4096 = 6 ∨ x / 4096 = 7 ∨ x / 4096 = 8 ∨ x / 4096 = 9 ∨ x / 4096 = 10 ∨ x / 4096 = 11 ∨ x / 4096 = 12 ∨ x / 4096 = 13 ∨ x / 4096 = 14 ∨ x / 4096 = 15) with h | h | h | h | h | h | h | h | h | h | h | h | h | h | h | h
  · exact key 0 onCk0 (by omega) (by omega)
  · exact key 16 onCk1 (by omega) (by omega)
  · exact key 32 onCk2 (by omega) (by omega)
  · exact key 48 onCk3 (by omega) (by omega)
  · exact key 64 onCk4 (by omega) (by omega)
  · exact key 80 onCk5 (by omega) (by omega)
  · exact key 96 onCk6 (by omega) (by omega)
  · exact key 112 onCk7 (by omega) (by omega)
  · exact key 128 onCk8 (by omega) (by omega)
  · exact key 144 onCk9 (by omega) (by omega)
  · exact key 160 onCk10 (by omega) (by omega)
  · exact key 176 onCk11 (by omega) (by omega)
  · exact key 192 onCk12 (by omega) (by omega)
  · exact key 208 onCk13 (by omega) (by omega)
  · exact key 224 onCk14 (by omega) (by omega)
  · exact key 240 onCk15 (by omega) (by omega)
theorem bit_mod (x i : Nat) : (if x.testBit i = true then 1 else 0) = x / 2 ^ i % 2 := by
  rw [Nat.testBit_eq_decide_div_mod_eq]
  have : x / 2 ^ i % 2 < 2 := Nat.mod_lt _ (by omega)
  by_cases h : x / 2 ^ i % 2 = 1
  · simp [h]
  · simp [h]; omega
theorem cnt_bytes (x : Nat) : cnt x 16 = cntF (x / 256) + cntF (x % 256) := by
  simp only [cnt, bit_mod, cntF, Nat.reducePow, Nat.div_one, Nat.zero_add]
  have l0 : x % 256 % 2 = x % 2 := by omega
  have l1 : x % 256 / 2 % 2 = x / 2 % 2 := by omega
  have h1 : x / 256 / 2 % 2 = x / 512 % 2 := by omega
  have l2 : x % 256 / 4 % 2 = x / 4 % 2 := by omega
  have h2 : x / 256 / 4 % 2 = x / 1024 % 2 := by omega
  have l3 : x % 256 / 8 % 2 = x / 8 % 2 := by omega
  have h3 : x / 256 / 8 % 2 = x / 2048 % 2 := by omega
  have l4 : x % 256 / 16 % 2 = x / 16 % 2 := by omega
  have h4 : x / 256 / 16 % 2 = x / 4096 % 2 := by omega
  have l5 : x % 256 / 32 % 2 = x / 32 % 2 := by omega
  have h5 : x / 256 / 32 % 2 = x / 8192 % 2 := by omega
  have l6 : x % 256 / 64 % 2 = x / 64 % 2 := by omega
  have h6 : x / 256 / 64 % 2 = x / 16384 % 2 := by omega
  have l7 : x % 256 / 128 % 2 = x / 128 % 2 := by omega
  have h7 : x / 256 / 128 % 2 = x / 32768 % 2 := by omega
  rw [l0, l1, l2, l3, l4, l5, l6, l7, h1, h2, h3, h4, h5, h6, h7]
  omega
theorem cntF_le (x : Nat) : cntF x ≤ 8 := by unfold cntF; omega
theorem onesN_eq {x : Nat} (hx : x < 65536) : onesN x = cnt x 16 := by
  have h := Nat.eq_of_beq_eq_true (onCk_at hx)
  rw [cnt_bytes]
  have hA := cntF_le (x / 256)
  have hB := cntF_le (x % 256)
  unfold onesN
  rw [h]
  generalize cntF (x / 256) = A at hA ⊢
  generalize cntF (x % 256) = B at hB ⊢
  rw [show (127 : Nat) = 2 ^ 7 - 1 from rfl, Nat.and_two_pow_sub_one_eq_mod]
  have e4 : on4 (256 * A + B) = 257 * A + B := by unfold on4; omega
  have e5 : on5 (257 * A + B) = 257 * A + B := by unfold on5; omega
  have e6 : on6 (257 * A + B) = 257 * A + B := by unfold on6; omega
  rw [e4, e5, e6]
  show (257 * A + B) % 128 = A + B
  omega
end Go.Proofs.Ytpgdfipikfbjeaa
/- Walks: bits.OnesCount64 of sixteen bits. -/
namespace Go.Proofs.Ytpgdfipikfbjeaa
open Go.RowKit Go.Shelf
attribute [local go_sem] Oper.semAt_some
set_option maxHeartbeats 1000000 in
theorem and_u64 (a b : Nat) (ha : a < 2 ^ 62) (hb : b < 2 ^ 63) : Go.bits .and .u64 (a : Int) (b : Int) = ((a &&& b : Nat) : Int) := by
  have hx : a &&& b < 2 ^ 62 := Nat.lt_of_le_of_lt Nat.and_le_left ha
  have e62 : (2 : Nat) ^ 62 = 4611686018427387904 := by decide
  have e63 : (2 : Nat) ^ 63 = 9223372036854775808 := by decide
  rw [e62] at ha hx
  rw [e63] at hb
  have h1 : (BitVec.ofInt 64 (a : Int)).toNat = a := by
    rw [BitVec.ofInt_natCast, BitVec.toNat_ofNat]; exact Nat.mod_eq_of_lt (by omega)
  have h2 : (BitVec.ofInt 64 (b : Int)).toNat = b := by
    rw [BitVec.ofInt_natCast, BitVec.toNat_ofNat]; exact Nat.mod_eq_of_lt (by omega)
  show IntKind.u64.wrap ((BitVec.ofInt 64 (a : Int) &&& BitVec.ofInt 64 (b : Int)).toNat : Int) = _
  rw [BitVec.toNat_and, h1, h2, IntKind.wrap_u64]
  omega
theorem u64_nat {a : Nat} (h : a < 1000000000) : IntKind.u64.wrap (a : Int) = a := by rw [IntKind.wrap_u64]; omega
set_option maxHeartbeats 4000000 in
set_option maxRecDepth 100000 in
theorem ones_any (x : Nat) (w : World) (hx : x < 65536) : Calls Try.prog 97 #[.int .u64 (x : Int)] w fun e w' => e = .returned (.int .i64 (cnt x 16 : Nat)) ∧ w = w' := by
  have e62 : (2 : Nat) ^ 62 = 4611686018427387904 := by decide
  have e63 : (2 : Nat) ^ 63 = 9223372036854775808 := by decide
  obtain ⟨r, hr⟩ : ∃ r, cnt x 16 = r := ⟨_, rfl⟩
  have Hr := hid ((onesN_eq hx).trans hr)
  rw [hr]
  clear hr
  obtain ⟨f1, hf1⟩ : ∃ f1, on1 x = f1 := ⟨_, rfl⟩
  have b1 : f1 < 131072 := by
    have q1 : x / 2 &&& 6148914691236517205 ≤ x / 2 := Nat.and_le_left
    have q2 : x &&& 6148914691236517205 ≤ x := Nat.and_le_left
    rw [← hf1]; unfold on1; omega
  have s1 : IntKind.u64.wrap (Go.bits .and .u64 ((x : Int) / 2) 6148914691236517205 + Go.bits .and .u64 (x : Int) 6148914691236517205) = (f1 : Int) := by
    rw [show ((x : Int) / 2) = ((x / 2 : Nat) : Int) by omega, show (6148914691236517205 : Int) = ((6148914691236517205 : Nat) : Int) from rfl, and_u64 _ _ (by omega) (by omega), and_u64 _ _ (by omega) (by omega), ← Int.natCast_add]
    rw [← hf1] at b1 ⊢
    exact u64_nat (by unfold on1 at b1; omega)
  obtain ⟨f2, hf2⟩ : ∃ f2, on2 f1 = f2 := ⟨_, rfl⟩
  have b2 : f2 < 262144 := by
    have q1 : f1 / 4 &&& 3689348814741910323 ≤ f1 / 4 := Nat.and_le_left
    have q2 : f1 &&& 3689348814741910323 ≤ f1 := Nat.and_le_left
    rw [← hf2]; unfold on2; omega
  have s2 : IntKind.u64.wrap (Go.bits .and .u64 ((f1 : Int) / 4) 3689348814741910323 + Go.bits .and .u64 (f1 : Int) 3689348814741910323) = (f2 : Int) := by
    rw [show ((f1 : Int) / 4) = ((f1 / 4 : Nat) : Int) by omega, show (3689348814741910323 : Int) = ((3689348814741910323 : Nat) : Int) from rfl, and_u64 _ _ (by omega) (by omega), and_u64 _ _ (by omega) (by omega), ← Int.natCast_add]
    rw [← hf2] at b2 ⊢
    exact u64_nat (by unfold on2 at b2; omega)
  obtain ⟨f3, hf3⟩ : ∃ f3, on3 f2 = f3 := ⟨_, rfl⟩
  have b3 : f3 < 524288 := by
    have q1 : (f2 / 16 + f2) &&& 1085102592571150095 ≤ f2 / 16 + f2 := Nat.and_le_left
    rw [← hf3]; unfold on3; omega
  have s3 : Go.bits .and .u64 (IntKind.u64.wrap ((f2 : Int) / 16 + f2)) 1085102592571150095 = (f3 : Int) := by
    rw [show ((f2 : Int) / 16 + f2) = ((f2 / 16 + f2 : Nat) : Int) by omega, u64_nat (by omega), show (1085102592571150095 : Int) = ((1085102592571150095 : Nat) : Int) from rfl, and_u64 _ _ (by omega) (by omega), ← hf3]
    rfl
  obtain ⟨f4, hf4⟩ : ∃ f4, on4 f3 = f4 := ⟨_, rfl⟩
  have b4 : f4 < 1048576 := by rw [← hf4]; unfold on4; omega
  have s4 : IntKind.u64.wrap ((f3 : Int) + f3 / 256) = (f4 : Int) := by
    rw [show ((f3 : Int) + f3 / 256) = ((f3 + f3 / 256 : Nat) : Int) by omega, u64_nat (by omega), ← hf4]; rfl
  obtain ⟨f5, hf5⟩ : ∃ f5, on5 f4 = f5 := ⟨_, rfl⟩
  have b5 : f5 < 2097152 := by rw [← hf5]; unfold on5; omega
  have s5 : IntKind.u64.wrap ((f4 : Int) + f4 / 65536) = (f5 : Int) := by
    rw [show ((f4 : Int) + f4 / 65536) = ((f4 + f4 / 65536 : Nat) : Int) by omega, u64_nat (by omega), ← hf5]; rfl
  obtain ⟨f6, hf6⟩ : ∃ f6, on6 f5 = f6 := ⟨_, rfl⟩
  have b6 : f6 < 4194304 := by rw [← hf6]; unfold on6; omega
  have s6 : IntKind.u64.wrap ((f5 : Int) + f5 / 4294967296) = (f6 : Int) := by
    rw [show ((f5 : Int) + f5 / 4294967296) = ((f5 + f5 / 4294967296 : Nat) : Int) by omega, u64_nat (by omega), ← hf6]; rfl
  have s7 : Go.bits .and .i64 (f6 : Int) 127 = (r : Int) := by
    rw [show (127 : Int) = ((127 : Nat) : Int) from rfl, bits_and_i64_nat _ _ (by omega) (by omega), ← Hr.out]
    unfold onesN
    rw [hf1, hf2, hf3, hf4, hf5, hf6]
  have s8 : IntKind.i64.wrap (f6 : Int) = f6 := IntWalk.i64_in _ (by omega)
  clear hf1 hf2 hf3 hf4 hf5 hf6 b1 b2 b3 b4 b5 b6
  go_enter Try.func97, Try.ntmps97
  go_wp2
  go_ret
  exact ⟨rfl, rfl⟩
end Go.Proofs.Ytpgdfipikfbjeaa
/- Walks: Cases, CheckPlan, Results, Bound. -/
namespace Go.Proofs.Ytpgdfipikfbjeaa
open Go.RowKit Go.Shelf
attribute [local go_sem] Oper.semAt_some
theorem cop_src {w : World} {B n : Nat} {A : Option Addr} {xs : List Value} (h : Sl w B 1 A n xs) (hn : 0 < n) {w' : World} (hk : ∀ p : Addr, p.block < B → w'.cell? p = w.cell? p) : ∃ ad, A = some ad ∧ ∀ j v, xs[j]? = some v → w'.cell? (ad.add j) = some v := by
  obtain ⟨b, off, rfl, hb, hc⟩ := h.2 hn
  exact ⟨_, rfl, fun j v hv => by rw [add_at]; exact (hk _ hb).trans (hc j v hv)⟩
theorem splice_all {cur cs : List Value} (h : cs.length = cur.length) : splice cur 0 cs = cs := by
  unfold splice
  rw [List.take_zero, Nat.zero_add, List.drop_of_length_le (by omega)]; simp
theorem LiS.nil_ (w : World) (B : Nat) : LiS w B none 0 [] := ⟨rfl, [], Sl.none_, fun k l h => by simp at h⟩
theorem LiT.nil_ (w : World) (B : Nat) : LiT w B none 0 [] := ⟨LiS.nil_ w B, fun k hk => by omega⟩
set_option maxRecDepth 10000 in
set_option maxHeartbeats 1600000 in
theorem cases_any (P M : Int) (w : World) : Calls Try.prog 53 #[.agg #[.int .i64 P, .int .i64 M]] w fun e w' => ∃ A n c, e = .returned (.tuple #[.slice A n c, .int .i64 (checkBook P M)]) ∧ LiT w' w'.heap.size A n (caseV P M) ∧ Below w.heap.size w w' := by
  obtain ⟨W0, hWb⟩ : ∃ W0, w.alloc (.cells #[.int .i64 P, .int .i64 M] 23) = W0 := ⟨_, rfl⟩
  have bB : Blk W0 w.heap.size 23 #[.int .i64 P, .int .i64 M] := by rw [← hWb]; exact Blk.new' rfl
  have hbel : Below w.heap.size w W0 := by rw [← hWb]; exact (Below.refl _ _).alloc (Nat.le_refl _) _
  have hsz := hbel.size
  have lB := bB.lt
  have p0 := bB.cell 0
  have p1 := bB.cell 1
  by_cases hb : checkBook P M ≠ 0
  · have hV := hid (show caseV P M = [] from if_neg hb)
    have hbi : (checkBook P M == 0) = false := by simpa using hb
    have hbi2 : ¬ checkBook P M = 0 := hb
    clear hb
    go_enter Try.func53, Try.ntmps53
    go_wp2_with (fail)
    refine (checkBook_any P M _).mono ?_
    rintro e W1 ⟨rfl, hb⟩
    have hst : Below W0.heap.size W0 W1 := Below.trans (by repeat' (first | with_reducible assumption | with_reducible exact Below.refl _ _ | refine Below.alloc ?_ ?_ _ | refine Below.setCell ?_ ?_ _ | refine Below.drew ?_ | refine below_drewN ?_ _ | (simp; done) | (simp; omega) | omega)) (hb.mono (by first | (simp; done) | (simp; omega) | omega))
    replace hbel := hbel.trans (hst.mono hsz)
    replace hsz := hbel.size
    replace bB := bB.below hst bB.lt
    clear p0 p1 lB
    have p0 := bB.cell 0
    have p1 := bB.cell 1
    have lB := bB.lt
    try clear hWb
    clear hb hst
    obtain ⟨W0, rfl⟩ : ∃ W0 : World, W0 = W1 := ⟨_, rfl⟩
    go_wp2
    refine bodyPost_ret (v := .tuple #[.slice none 0 0, .int .i64 (checkBook P M)]) (by first | (simp [results, Try.results53, go_sem]; done) | (simp [results, Try.results53, go_sem, *]; done) | (simp [results, Try.results53, go_sem, World.cell?_setCell_same', *]; done) | (simp [results, Try.results53, go_sem]; first | exact ⟨rfl, rfl⟩ | rfl)) rfl ⟨none, 0, 0, rfl, by rw [hV.out]; exact LiT.nil_ _ _, hbel⟩
  · have hb0 : checkBook P M = 0 := by simpa using hb
    obtain ⟨g4, g5, g6, g7⟩ := book_good hb0
    have hV := hid (show caseV P M = casesL P.toNat M.toNat from if_pos hb0)
    have Hb := hid hb0
    clear hb hb0
    obtain ⟨Pn, rfl⟩ : ∃ Pn : Nat, P = Pn := ⟨P.toNat, by omega⟩
    obtain ⟨Mn, rfl⟩ : ∃ Mn : Nat, M = Mn := ⟨M.toNat, by omega⟩
    rw [Hb.out]
    rw [Int.toNat_natCast, Int.toNat_natCast] at hV
    have hP8 : Pn ≤ 8 := by omega
    have hM2 : Mn ≤ 2 := by omega
    have hm0 : ∀ l ∈ ([] : List (List Int)), l.length ≤ 12 := fun _ h => by cases h
    have hm1 : ∀ l ∈ ([] : List (List Int)), ∀ x ∈ l, 0 ≤ x ∧ x < 8 := fun _ h => by cases h
    have Hm0 := hid hm0
    have Hm1 := hid hm1
    clear hm0 hm1
    go_enter Try.func53, Try.ntmps53
    go_wp2_with (fail)
    refine (checkBook_any Pn Mn _).mono ?_
    rw [Hb.out]
    rintro e W1 ⟨rfl, hb⟩
    have hst : Below W0.heap.size W0 W1 := Below.trans (by repeat' (first | with_reducible assumption | with_reducible exact Below.refl _ _ | refine Below.alloc ?_ ?_ _ | refine Below.setCell ?_ ?_ _ | refine Below.drew ?_ | refine below_drewN ?_ _ | (simp; done) | (simp; omega) | omega)) (hb.mono (by first | (simp; done) | (simp; omega) | omega))
    replace hbel := hbel.trans (hst.mono hsz)
    replace hsz := hbel.size
    replace bB := bB.below hst bB.lt
    clear p0 p1 lB
    have p0 := bB.cell 0
    have p1 := bB.cell 1
    have lB := bB.lt
    try clear hWb
    clear hb hst
    obtain ⟨W0, rfl⟩ : ∃ W0 : World, W0 = W1 := ⟨_, rfl⟩
    go_wp2_with (fail)
    refine (newBench_any Pn Mn none 0 0 [] _ hP8 hM2 (LiS.nil_ _ _) (by omega) Hm0.out Hm1.out).mono ?_
    rintro e W1 ⟨g, mp, rfl, hgg, hmm, hB, hM0, hb⟩
    have hzz := hbel.size
    have hst : Below W0.heap.size W0 W1 := Below.trans (by repeat' (first | with_reducible assumption | with_reducible exact Below.refl _ _ | refine Below.alloc ?_ ?_ _ | refine Below.setCell ?_ ?_ _ | refine Below.drew ?_ | refine below_drewN ?_ _ | (simp; done) | (simp; omega) | omega)) (hb.mono (by first | (simp; done) | (simp; omega) | omega))
    replace hbel := hbel.trans (hst.mono hsz)
    replace hsz := hbel.size
    replace bB := bB.below hst bB.lt
    clear p0 p1 lB
    have p0 := bB.cell 0
    have p1 := bB.cell 1
    have lB := bB.lt
    try clear hWb
    clear hM0 hgg hmm
    obtain ⟨A1, c1, A2, c2, hG, hC, -⟩ := hB
    have HC := hid hC
    have q2 := hG.cell 2
    have lg := hG.lt
    clear hC hG
    clear hb hst
    obtain ⟨W0, rfl⟩ : ∃ W0 : World, W0 = W1 := ⟨_, rfl⟩
    go_wp2
    refine bodyPost_ret (v := .tuple #[.slice A1 (casesL Pn Mn).length c1, .int .i64 0]) (by first | (simp [results, Try.results53, go_sem]; done) | (simp [results, Try.results53, go_sem, *]; done) | (simp [results, Try.results53, go_sem, World.cell?_setCell_same', *]; done) | (simp [results, Try.results53, go_sem]; first | exact ⟨rfl, rfl⟩ | rfl)) rfl ⟨A1, (casesL Pn Mn).length, c1, rfl, by rw [hV.out]; exact HC.out, hbel⟩
set_option maxRecDepth 10000 in
set_option maxHeartbeats 1600000 in
theorem checkPlan_any (A : Option Addr) (n c : Nat) (pl : List (List Int)) (P M : Int) (w : World) (hp : LiS w w.heap.size A n pl) (hn : n ≤ 12) (hw : ∀ l ∈ pl, l.length ≤ 12) :
    Calls Try.prog 58 #[.agg #[.int .i64 P, .int .i64 M], .slice A n c] w fun e w' => e = .returned (.int .i64 (checkPlan P M pl)) ∧ Below w.heap.size w w' := by
  obtain ⟨W0, hWb⟩ : ∃ W0, w.alloc (.cells #[.int .i64 P, .int .i64 M] 23) = W0 := ⟨_, rfl⟩
  have bB : Blk W0 w.heap.size 23 #[.int .i64 P, .int .i64 M] := by rw [← hWb]; exact Blk.new' rfl
  have hbel : Below w.heap.size w W0 := by rw [← hWb]; exact (Below.refl _ _).alloc (Nat.le_refl _) _
  have hsz := hbel.size
  have lB := bB.lt
  have p0 := bB.cell 0
  have p1 := bB.cell 1
  have HP := hid (hp.below hbel hsz)
  clear hp
  by_cases hb : checkPlan P M pl ≠ 0
  · have Hb := hid hb
    clear hb
    go_enter Try.func58, Try.ntmps58
    go_wp2_with (fail)
    refine (open_bad A n c pl P M _ (HP.out.below (by repeat' (first | with_reducible assumption | with_reducible exact Below.refl _ _ | refine Below.alloc ?_ ?_ _ | refine Below.setCell ?_ ?_ _ | refine Below.drew ?_ | refine below_drewN ?_ _ | (simp; done) | (simp; omega) | omega)) (by first | (simp; done) | (simp; omega) | omega)) hn hw Hb.out).mono ?_
    rintro e W1 ⟨rfl, hb⟩
    have hst : Below W0.heap.size W0 W1 := Below.trans (by repeat' (first | with_reducible assumption | with_reducible exact Below.refl _ _ | refine Below.alloc ?_ ?_ _ | refine Below.setCell ?_ ?_ _ | refine Below.drew ?_ | refine below_drewN ?_ _ | (simp; done) | (simp; omega) | omega)) (hb.mono (by first | (simp; done) | (simp; omega) | omega))
    replace hbel := hbel.trans (hst.mono hsz)
    replace hsz := hbel.size
    replace bB := bB.below hst bB.lt
    clear p0 p1 lB
    have p0 := bB.cell 0
    have p1 := bB.cell 1
    have lB := bB.lt
    try clear hWb
    replace HP := hid (HP.out.below hst hst.size)
    clear hb hst
    obtain ⟨W0, rfl⟩ : ∃ W0 : World, W0 = W1 := ⟨_, rfl⟩
    go_wp2
    refine bodyPost_ret (v := .int .i64 (checkPlan P M pl)) (by first | (simp [results, Try.results58, go_sem]; done) | (simp [results, Try.results58, go_sem, *]; done) | (simp [results, Try.results58, go_sem, World.cell?_setCell_same', *]; done) | (simp [results, Try.results58, go_sem]; first | exact ⟨rfl, rfl⟩ | rfl)) rfl ⟨rfl, hbel⟩
  · have hb0 : checkPlan P M pl = 0 := by simpa using hb
    obtain ⟨g1, g2, g3⟩ := plan_good hb0
    obtain ⟨g4, g5, g6, g7⟩ := book_good g1
    obtain ⟨Pn, rfl⟩ : ∃ Pn : Nat, P = Pn := ⟨P.toNat, by omega⟩
    obtain ⟨Mn, rfl⟩ : ∃ Mn : Nat, M = Mn := ⟨M.toNat, by omega⟩
    have Hb := hid hb0
    rw [hb0]
    clear hb hb0 g1 g3
    go_enter Try.func58, Try.ntmps58
    go_wp2_with (fail)
    refine (open_ok A n c pl Pn Mn _ (HP.out.below (by repeat' (first | with_reducible assumption | with_reducible exact Below.refl _ _ | refine Below.alloc ?_ ?_ _ | refine Below.setCell ?_ ?_ _ | refine Below.drew ?_ | refine below_drewN ?_ _ | (simp; done) | (simp; omega) | omega)) (by first | (simp; done) | (simp; omega) | omega)) hw Hb.out).mono ?_
    rintro e W1 ⟨g, mp, rfl, hB, hM0, hmm, hb⟩
    have hzz := hbel.size
    have hst : Below W0.heap.size W0 W1 := Below.trans (by repeat' (first | with_reducible assumption | with_reducible exact Below.refl _ _ | refine Below.alloc ?_ ?_ _ | refine Below.setCell ?_ ?_ _ | refine Below.drew ?_ | refine below_drewN ?_ _ | (simp; done) | (simp; omega) | omega)) (hb.mono (by first | (simp; done) | (simp; omega) | omega))
    replace hbel := hbel.trans (hst.mono hsz)
    replace hsz := hbel.size
    replace bB := bB.below hst bB.lt
    clear p0 p1 lB
    have p0 := bB.cell 0
    have p1 := bB.cell 1
    have lB := bB.lt
    try clear hWb
    replace HP := hid (HP.out.below hst hst.size)
    clear hmm
    have HBn := hid hB
    clear hB
    have HM0 := hid hM0
    clear hM0
    clear hb hst
    obtain ⟨W0, rfl⟩ : ∃ W0 : World, W0 = W1 := ⟨_, rfl⟩
    clear HBn HM0
    go_wp2
    refine bodyPost_ret (v := .int .i64 0) (by first | (simp [results, Try.results58, go_sem]; done) | (simp [results, Try.results58, go_sem, *]; done) | (simp [results, Try.results58, go_sem, World.cell?_setCell_same', *]; done) | (simp [results, Try.results58, go_sem]; first | exact ⟨rfl, rfl⟩ | rfl)) rfl ⟨rfl, hbel⟩
set_option maxRecDepth 10000 in
set_option maxHeartbeats 1600000 in
theorem resultsF_any (A B : Option Addr) (n c m d : Nat) (pl : List (List Int)) (bad : List Int) (P M : Int) (w : World) (hp : LiS w w.heap.size A n pl) (hb : InS w w.heap.size B m bad) (hn : n ≤ 12) (hw : ∀ l ∈ pl, l.length ≤ 12) (hm : m ≤ 1000000) :
    Calls Try.prog 41 #[.agg #[.int .i64 P, .int .i64 M], .slice A n c, .slice B m d] w fun e w' => ∃ A' n' c', e = .returned (.tuple #[.slice A' n' c', .int .i64 (resE P M pl bad)]) ∧ InS w' w'.heap.size A' n' (resV P M pl bad) ∧ Below w.heap.size w w' := by
  have hlb := hb.len
  obtain ⟨W0, hWb⟩ : ∃ W0, w.alloc (.cells #[.int .i64 P, .int .i64 M] 23) = W0 := ⟨_, rfl⟩
  have bB : Blk W0 w.heap.size 23 #[.int .i64 P, .int .i64 M] := by rw [← hWb]; exact Blk.new' rfl
  have hbel : Below w.heap.size w W0 := by rw [← hWb]; exact (Below.refl _ _).alloc (Nat.le_refl _) _
  have hsz := hbel.size
  have lB := bB.lt
  have p0 := bB.cell 0
  have p1 := bB.cell 1
  have HP := hid (hp.below hbel hsz)
  clear hp
  have HB := hid (hb.below hbel hsz)
  clear hb
  by_cases hbd : checkPlan P M pl ≠ 0
  · have hE := hid (show resE P M pl bad = checkPlan P M pl from if_pos hbd)
    have hV := hid (show resV P M pl bad = [] from if_neg (by rw [hE.out]; exact hbd))
    have hbi : (checkPlan P M pl == 0) = false := by simpa using hbd
    have hbi2 : ¬ checkPlan P M pl = 0 := hbd
    have Hb := hid hbd
    clear hbd
    go_enter Try.func41, Try.ntmps41
    go_wp2_with (fail)
    refine (open_bad A n c pl P M _ (HP.out.below (by repeat' (first | with_reducible assumption | with_reducible exact Below.refl _ _ | refine Below.alloc ?_ ?_ _ | refine Below.setCell ?_ ?_ _ | refine Below.drew ?_ | refine below_drewN ?_ _ | (simp; done) | (simp; omega) | omega)) (by first | (simp; done) | (simp; omega) | omega)) hn hw Hb.out).mono ?_
    rintro e W1 ⟨rfl, hb⟩
    have hst : Below W0.heap.size W0 W1 := Below.trans (by repeat' (first | with_reducible assumption | with_reducible exact Below.refl _ _ | refine Below.alloc ?_ ?_ _ | refine Below.setCell ?_ ?_ _ | refine Below.drew ?_ | refine below_drewN ?_ _ | (simp; done) | (simp; omega) | omega)) (hb.mono (by first | (simp; done) | (simp; omega) | omega))
    replace hbel := hbel.trans (hst.mono hsz)
    replace hsz := hbel.size
    replace bB := bB.below hst bB.lt
    clear p0 p1 lB
    have p0 := bB.cell 0
    have p1 := bB.cell 1
    have lB := bB.lt
    try clear hWb
    replace HP := hid (HP.out.below hst hst.size)
    replace HB := hid (HB.out.below hst hst.size)
    clear hb hst
    obtain ⟨W0, rfl⟩ : ∃ W0 : World, W0 = W1 := ⟨_, rfl⟩
    go_wp2
    refine bodyPost_ret (v := .tuple #[.slice none 0 0, .int .i64 (checkPlan P M pl)]) (by first | (simp [results, Try.results41, go_sem]; done) | (simp [results, Try.results41, go_sem, *]; done) | (simp [results, Try.results41, go_sem, World.cell?_setCell_same', *]; done) | (simp [results, Try.results41, go_sem]; first | exact ⟨rfl, rfl⟩ | rfl)) rfl ⟨none, 0, 0, by rw [hE.out], by rw [hV.out]; exact Sl.none_, hbel⟩
  · have hb0 : checkPlan P M pl = 0 := by simpa using hbd
    obtain ⟨g1, g2, g3⟩ := plan_good hb0
    obtain ⟨g4, g5, g6, g7⟩ := book_good g1
    obtain ⟨Pn, rfl⟩ : ∃ Pn : Nat, P = Pn := ⟨P.toNat, by omega⟩
    obtain ⟨Mn, rfl⟩ : ∃ Mn : Nat, M = Mn := ⟨M.toNat, by omega⟩
    have Hb := hid hb0
    have hE0 : resE Pn Mn pl bad = if isL Pn 0 bad = false ∨ (Mn : Int) < bad.length then 2 else 0 := if_neg (by rw [hb0]; simp)
    clear hbd hb0 g1 g3
    by_cases hlen : (Mn : Int) < m
    · have hE := hid (show resE Pn Mn pl bad = 2 by rw [hE0, if_pos (.inr (by omega))])
      have hV := hid (show resV Pn Mn pl bad = [] from if_neg (by rw [hE.out]; decide))
      clear hE0
      go_enter Try.func41, Try.ntmps41
      go_wp2_with (fail)
      refine (open_ok A n c pl Pn Mn _ (HP.out.below (by repeat' (first | with_reducible assumption | with_reducible exact Below.refl _ _ | refine Below.alloc ?_ ?_ _ | refine Below.setCell ?_ ?_ _ | refine Below.drew ?_ | refine below_drewN ?_ _ | (simp; done) | (simp; omega) | omega)) (by first | (simp; done) | (simp; omega) | omega)) hw Hb.out).mono ?_
      rintro e W1 ⟨g, mp, rfl, hB, hM0, hmm, hb⟩
      have hzz := hbel.size
      have hst : Below W0.heap.size W0 W1 := Below.trans (by repeat' (first | with_reducible assumption | with_reducible exact Below.refl _ _ | refine Below.alloc ?_ ?_ _ | refine Below.setCell ?_ ?_ _ | refine Below.drew ?_ | refine below_drewN ?_ _ | (simp; done) | (simp; omega) | omega)) (hb.mono (by first | (simp; done) | (simp; omega) | omega))
      replace hbel := hbel.trans (hst.mono hsz)
      replace hsz := hbel.size
      replace bB := bB.below hst bB.lt
      clear p0 p1 lB
      have p0 := bB.cell 0
      have p1 := bB.cell 1
      have lB := bB.lt
      try clear hWb
      replace HP := hid (HP.out.below hst hst.size)
      replace HB := hid (HB.out.below hst hst.size)
      clear hmm
      have HBn := hid hB
      clear hB
      have HM0 := hid hM0
      clear hM0
      clear hb hst
      obtain ⟨W0, rfl⟩ : ∃ W0 : World, W0 = W1 := ⟨_, rfl⟩
      clear HBn HM0
      go_wp2
      refine bodyPost_ret (v := .tuple #[.slice none 0 0, .int .i64 2]) (by first | (simp [results, Try.results41, go_sem]; done) | (simp [results, Try.results41, go_sem, *]; done) | (simp [results, Try.results41, go_sem, World.cell?_setCell_same', *]; done) | (simp [results, Try.results41, go_sem]; first | exact ⟨rfl, rfl⟩ | rfl)) rfl ⟨none, 0, 0, by rw [hE.out], by rw [hV.out]; exact Sl.none_, hbel⟩
    · cases hris : isL Pn 0 bad
      · have hE := hid (show resE Pn Mn pl bad = 2 by rw [hE0, if_pos (.inl hris)])
        have hV := hid (show resV Pn Mn pl bad = [] from if_neg (by rw [hE.out]; decide))
        have Hr := hid hris
        clear hE0 hris
        go_enter Try.func41, Try.ntmps41
        go_wp2_with (fail)
        refine (open_ok A n c pl Pn Mn _ (HP.out.below (by repeat' (first | with_reducible assumption | with_reducible exact Below.refl _ _ | refine Below.alloc ?_ ?_ _ | refine Below.setCell ?_ ?_ _ | refine Below.drew ?_ | refine below_drewN ?_ _ | (simp; done) | (simp; omega) | omega)) (by first | (simp; done) | (simp; omega) | omega)) hw Hb.out).mono ?_
        rintro e W1 ⟨g, mp, rfl, hB, hM0, hmm, hb⟩
        have hzz := hbel.size
        have hst : Below W0.heap.size W0 W1 := Below.trans (by repeat' (first | with_reducible assumption | with_reducible exact Below.refl _ _ | refine Below.alloc ?_ ?_ _ | refine Below.setCell ?_ ?_ _ | refine Below.drew ?_ | refine below_drewN ?_ _ | (simp; done) | (simp; omega) | omega)) (hb.mono (by first | (simp; done) | (simp; omega) | omega))
        replace hbel := hbel.trans (hst.mono hsz)
        replace hsz := hbel.size
        replace bB := bB.below hst bB.lt
        clear p0 p1 lB
        have p0 := bB.cell 0
        have p1 := bB.cell 1
        have lB := bB.lt
        try clear hWb
        replace HP := hid (HP.out.below hst hst.size)
        replace HB := hid (HB.out.below hst hst.size)
        clear hmm
        have HBn := hid hB
        clear hB
        have HM0 := hid hM0
        clear hM0
        clear hb hst
        obtain ⟨W0, rfl⟩ : ∃ W0 : World, W0 = W1 := ⟨_, rfl⟩
        clear HBn HM0
        go_wp2_with (fail)
        refine (rising_any B m d bad Pn _ (HB.out.below (by repeat' (first | with_reducible assumption | with_reducible exact Below.refl _ _ | refine Below.alloc ?_ ?_ _ | refine Below.setCell ?_ ?_ _ | refine Below.drew ?_ | refine below_drewN ?_ _ | (simp; done) | (simp; omega) | omega)) (by first | (simp; done) | (simp; omega) | omega)) hm g4 g5).mono ?_
        rw [Hr.out]
        rintro e W1 ⟨rfl, hb⟩
        have hst : Below W0.heap.size W0 W1 := Below.trans (by repeat' (first | with_reducible assumption | with_reducible exact Below.refl _ _ | refine Below.alloc ?_ ?_ _ | refine Below.setCell ?_ ?_ _ | refine Below.drew ?_ | refine below_drewN ?_ _ | (simp; done) | (simp; omega) | omega)) (hb.mono (by first | (simp; done) | (simp; omega) | omega))
        replace hbel := hbel.trans (hst.mono hsz)
        replace hsz := hbel.size
        replace bB := bB.below hst bB.lt
        clear p0 p1 lB
        have p0 := bB.cell 0
        have p1 := bB.cell 1
        have lB := bB.lt
        try clear hWb
        replace HP := hid (HP.out.below hst hst.size)
        replace HB := hid (HB.out.below hst hst.size)
        clear hb hst
        obtain ⟨W0, rfl⟩ : ∃ W0 : World, W0 = W1 := ⟨_, rfl⟩
        go_wp2
        refine bodyPost_ret (v := .tuple #[.slice none 0 0, .int .i64 2]) (by first | (simp [results, Try.results41, go_sem]; done) | (simp [results, Try.results41, go_sem, *]; done) | (simp [results, Try.results41, go_sem, World.cell?_setCell_same', *]; done) | (simp [results, Try.results41, go_sem]; first | exact ⟨rfl, rfl⟩ | rfl)) rfl ⟨none, 0, 0, by rw [hE.out], by rw [hV.out]; exact Sl.none_, hbel⟩
      · have hE := hid (show resE Pn Mn pl bad = 0 by rw [hE0, if_neg (by rw [hris]; simp; omega)])
        have hV := hid (show resV Pn Mn pl bad = resL pl bad from if_pos hE.out)
        have hbb : ∀ x ∈ bad, 0 ≤ x ∧ x < 8 := fun x hx => by have := isL_bd hris x hx; omega
        have Hbb := hid hbb
        have Hr := hid hris
        have hpl8 : pl.length ≤ 8 := g2
        have hrl : (resL pl bad).length = pl.length := by unfold resL; rw [List.length_map]
        have Hrl := hid hrl
        obtain ⟨i0, hi0, hi1, hi2, hi3⟩ := info_parts' info3
        have hi3' : (Try.prog.info? 3).map (·.size) = some 1 := by rw [hi0]; simp [hi2]
        have I3 := hid hi3'
        clear hE0 hris hbb hrl hi0 hi1 hi2 hi3 hi3'
        go_enter Try.func41, Try.ntmps41
        go_wp2_with (fail)
        refine (open_ok A n c pl Pn Mn _ (HP.out.below (by repeat' (first | with_reducible assumption | with_reducible exact Below.refl _ _ | refine Below.alloc ?_ ?_ _ | refine Below.setCell ?_ ?_ _ | refine Below.drew ?_ | refine below_drewN ?_ _ | (simp; done) | (simp; omega) | omega)) (by first | (simp; done) | (simp; omega) | omega)) hw Hb.out).mono ?_
        rintro e W1 ⟨g, mp, rfl, hB, hM0, hmm, hb⟩
        have hzz := hbel.size
        have hst : Below W0.heap.size W0 W1 := Below.trans (by repeat' (first | with_reducible assumption | with_reducible exact Below.refl _ _ | refine Below.alloc ?_ ?_ _ | refine Below.setCell ?_ ?_ _ | refine Below.drew ?_ | refine below_drewN ?_ _ | (simp; done) | (simp; omega) | omega)) (hb.mono (by first | (simp; done) | (simp; omega) | omega))
        replace hbel := hbel.trans (hst.mono hsz)
        replace hsz := hbel.size
        replace bB := bB.below hst bB.lt
        clear p0 p1 lB
        have p0 := bB.cell 0
        have p1 := bB.cell 1
        have lB := bB.lt
        try clear hWb
        replace HP := hid (HP.out.below hst hst.size)
        replace HB := hid (HB.out.below hst hst.size)
        clear hmm
        have HBn := hid hB
        clear hB
        have HM0 := hid hM0
        clear hM0
        clear hb hst
        obtain ⟨W0, rfl⟩ : ∃ W0 : World, W0 = W1 := ⟨_, rfl⟩
        go_wp2_with (fail)
        refine (rising_any B m d bad Pn _ (HB.out.below (by repeat' (first | with_reducible assumption | with_reducible exact Below.refl _ _ | refine Below.alloc ?_ ?_ _ | refine Below.setCell ?_ ?_ _ | refine Below.drew ?_ | refine below_drewN ?_ _ | (simp; done) | (simp; omega) | omega)) (by first | (simp; done) | (simp; omega) | omega)) hm g4 g5).mono ?_
        rw [Hr.out]
        rintro e W1 ⟨rfl, hb⟩
        have hst : Below W0.heap.size W0 W1 := Below.trans (by repeat' (first | with_reducible assumption | with_reducible exact Below.refl _ _ | refine Below.alloc ?_ ?_ _ | refine Below.setCell ?_ ?_ _ | refine Below.drew ?_ | refine below_drewN ?_ _ | (simp; done) | (simp; omega) | omega)) (hb.mono (by first | (simp; done) | (simp; omega) | omega))
        replace hbel := hbel.trans (hst.mono hsz)
        replace hsz := hbel.size
        replace bB := bB.below hst bB.lt
        clear p0 p1 lB
        have p0 := bB.cell 0
        have p1 := bB.cell 1
        have lB := bB.lt
        try clear hWb
        replace HP := hid (HP.out.below hst hst.size)
        replace HB := hid (HB.out.below hst hst.size)
        replace HBn := hid (HBn.out.below hst)
        clear HM0
        clear hb hst
        obtain ⟨W0, rfl⟩ : ∃ W0 : World, W0 = W1 := ⟨_, rfl⟩
        go_wp2_with (fail)
        refine (results_any g Pn Mn (casesL Pn Mn) pl mp B m d bad _ (HBn.out.below (by repeat' (first | with_reducible assumption | with_reducible exact Below.refl _ _ | refine Below.alloc ?_ ?_ _ | refine Below.setCell ?_ ?_ _ | refine Below.drew ?_ | refine below_drewN ?_ _ | (simp; done) | (simp; omega) | omega))) (HB.out.below (by repeat' (first | with_reducible assumption | with_reducible exact Below.refl _ _ | refine Below.alloc ?_ ?_ _ | refine Below.setCell ?_ ?_ _ | refine Below.drew ?_ | refine below_drewN ?_ _ | (simp; done) | (simp; omega) | omega)) (by first | (simp; done) | (simp; omega) | omega)) hm Hbb.out hpl8).mono ?_
        rintro e W1 ⟨v, rfl, ho, hb⟩
        have hzz := hbel.size
        obtain ⟨A7, c7, hv7, hs7, hn7⟩ := own_src ho
        subst hv7
        have HS7 := hid hs7
        have HN7 := hid hn7
        clear ho hs7 hn7
        have hst : Below W0.heap.size W0 W1 := Below.trans (by repeat' (first | with_reducible assumption | with_reducible exact Below.refl _ _ | refine Below.alloc ?_ ?_ _ | refine Below.setCell ?_ ?_ _ | refine Below.drew ?_ | refine below_drewN ?_ _ | (simp; done) | (simp; omega) | omega)) (hb.mono (by first | (simp; done) | (simp; omega) | omega))
        replace hbel := hbel.trans (hst.mono hsz)
        replace hsz := hbel.size
        replace bB := bB.below hst bB.lt
        clear p0 p1 lB
        have p0 := bB.cell 0
        have p1 := bB.cell 1
        have lB := bB.lt
        try clear hWb
        replace HP := hid (HP.out.below hst hst.size)
        replace HB := hid (HB.out.below hst hst.size)
        clear hb hst
        obtain ⟨W0, rfl⟩ : ∃ W0 : World, W0 = W1 := ⟨_, rfl⟩
        clear HBn
        have hmk := @make_i64 pl.length (by omega)
        have hms : (madeCells #[.int .i64 0] pl.length).size = pl.length := by simp [madeCells]
        have hz6 := hbel.size
        have hfit : 0 + ((resL pl bad).flatMap cI).length ≤ (madeCells #[.int .i64 0] pl.length).toList.length := by rw [flatI_len', Hrl.out]; simp [madeCells]
        have hfit2 : ((resL pl bad).flatMap cI).length = (madeCells #[.int .i64 0] pl.length).toList.length := by rw [flatI_len', Hrl.out]; simp [madeCells]
        go_wp2_with (refine wpList_copy_splice rfl _ _ 25 25 rfl 3 under25 I3.out (some ⟨W0.heap.size, 0, none⟩) A7 pl.length pl.length pl.length c7 rfl rfl W0.heap.size 0 (madeCells #[.int .i64 0] pl.length).toList 3 (by rw [Array.toArray_toList]; exact heap_alloc_new _ _) ((resL pl bad).flatMap cI) (by rw [flatI_len', Hrl.out]; exact (Nat.min_self _).symm) (fun h => ⟨rfl, cop_src HS7.out (by rw [flatI_len', Hrl.out] at h; exact h) (fun p hp => World.cell?_alloc_lt _ _ p hp)⟩) hfit (one_flatI _) w.heap.size w (hbel.alloc hz6 _) hz6 ?_; intro W9 HG9 hb9)
        refine bodyPost_ret (v := .tuple #[.slice (some ⟨W0.heap.size, 0, none⟩) pl.length pl.length, .int .i64 0]) (by first | (simp [results, Try.results41, go_sem]; done) | (simp [results, Try.results41, go_sem, *]; done) | (simp [results, Try.results41, go_sem, World.cell?_setCell_same', *]; done) | (simp [results, Try.results41, go_sem]; first | exact ⟨rfl, rfl⟩ | rfl)) rfl ⟨some ⟨W0.heap.size, 0, none⟩, pl.length, pl.length, by rw [hE.out], ?_, hb9⟩
        rw [hV.out]
        have hG := HG9.out
        rw [splice_all hfit2] at hG
        have hB9 : Blk W9 W0.heap.size 3 ((resL pl bad).flatMap cI).toArray := hG
        have := ins_blk hB9 hB9.lt
        rwa [Hrl.out] at this
theorem bound_len {c : Nat} (h1 : 1 ≤ c) (hc : c ≤ 64) : Lib.bitLen (c - 1) = boundC c := by
  have : ∀ c : Fin 65, 1 ≤ c.val → Lib.bitLen (c.val - 1) = boundC c.val := by decide +kernel
  exact this ⟨c, by omega⟩ h1
set_option maxRecDepth 10000 in
set_option maxHeartbeats 1600000 in
theorem bound_any (P M : Int) (w : World) : Calls Try.prog 45 #[.agg #[.int .i64 P, .int .i64 M]] w fun e w' => e = .returned (.tuple #[.int .i64 (boundV P M), .int .i64 (checkBook P M)]) ∧ Below w.heap.size w w' := by
  obtain ⟨W0, hWb⟩ : ∃ W0, w.alloc (.cells #[.int .i64 P, .int .i64 M] 23) = W0 := ⟨_, rfl⟩
  have bB : Blk W0 w.heap.size 23 #[.int .i64 P, .int .i64 M] := by rw [← hWb]; exact Blk.new' rfl
  have hbel : Below w.heap.size w W0 := by rw [← hWb]; exact (Below.refl _ _).alloc (Nat.le_refl _) _
  have hsz := hbel.size
  have lB := bB.lt
  have p0 := bB.cell 0
  have p1 := bB.cell 1
  by_cases hb : checkBook P M ≠ 0
  · have hV := hid (show boundV P M = 0 from if_neg hb)
    have hbi : (checkBook P M == 0) = false := by simpa using hb
    have hbi2 : ¬ checkBook P M = 0 := hb
    clear hb
    rw [hV.out]
    go_enter Try.func45, Try.ntmps45
    go_wp2_with (fail)
    refine (cases_any P M _).mono ?_
    rintro e W1 ⟨A, n, c, rfl, -, hb⟩
    have hst : Below W0.heap.size W0 W1 := Below.trans (by repeat' (first | with_reducible assumption | with_reducible exact Below.refl _ _ | refine Below.alloc ?_ ?_ _ | refine Below.setCell ?_ ?_ _ | refine Below.drew ?_ | refine below_drewN ?_ _ | (simp; done) | (simp; omega) | omega)) (hb.mono (by first | (simp; done) | (simp; omega) | omega))
    replace hbel := hbel.trans (hst.mono hsz)
    replace hsz := hbel.size
    replace bB := bB.below hst bB.lt
    clear p0 p1 lB
    have p0 := bB.cell 0
    have p1 := bB.cell 1
    have lB := bB.lt
    try clear hWb
    clear hb hst
    obtain ⟨W0, rfl⟩ : ∃ W0 : World, W0 = W1 := ⟨_, rfl⟩
    go_wp2
    refine bodyPost_ret (v := .tuple #[.int .i64 0, .int .i64 (checkBook P M)]) (by first | (simp [results, Try.results45, go_sem]; done) | (simp [results, Try.results45, go_sem, *]; done) | (simp [results, Try.results45, go_sem, World.cell?_setCell_same', *]; done) | (simp [results, Try.results45, go_sem]; first | exact ⟨rfl, rfl⟩ | rfl)) rfl ⟨rfl, hbel⟩
  · have hb0 : checkBook P M = 0 := by simpa using hb
    obtain ⟨g4, g5, g6, g7⟩ := book_good hb0
    have hV := hid (show caseV P M = casesL P.toNat M.toNat from if_pos hb0)
    have hB := hid (show boundV P M = (boundC (casesL P.toNat M.toNat).length : Nat) from if_pos hb0)
    have Hb := hid hb0
    clear hb hb0
    obtain ⟨Pn, rfl⟩ : ∃ Pn : Nat, P = Pn := ⟨P.toNat, by omega⟩
    obtain ⟨Mn, rfl⟩ : ∃ Mn : Nat, M = Mn := ⟨M.toNat, by omega⟩
    rw [Hb.out, hB.out]
    rw [Int.toNat_natCast, Int.toNat_natCast] at hV ⊢
    have hl1 := cases_pos Pn Mn
    have hl2 := cases_len (P := Pn) (M := Mn) (by omega)
    have hbl := bound_len (c := (casesL Pn Mn).length) (by omega) (by omega)
    rw [← hbl]
    obtain ⟨CL, hCL⟩ : ∃ CL, casesL Pn Mn = CL := ⟨_, rfl⟩
    rw [hCL] at hl1 hl2 hV ⊢
    clear hCL hbl
    have z1 : IntKind.i64.wrap ((CL.length : Int) - 1) = (CL.length : Int) - 1 := IntWalk.i64_in _ (by omega)
    have z2 : IntKind.u64.wrap ((CL.length : Int) - 1) = (CL.length : Int) - 1 := by rw [IntKind.wrap_u64]; omega
    have z3 : ((CL.length : Int) - 1).toNat = CL.length - 1 := by omega
    go_enter Try.func45, Try.ntmps45
    go_wp2_with (fail)
    refine (cases_any Pn Mn _).mono ?_
    rw [Hb.out]
    rintro e W1 ⟨A, n, c, rfl, hL, hb⟩
    obtain rfl : n = CL.length := by have := hL.1.1; rw [hV.out] at this; exact this.symm
    clear hL
    have hst : Below W0.heap.size W0 W1 := Below.trans (by repeat' (first | with_reducible assumption | with_reducible exact Below.refl _ _ | refine Below.alloc ?_ ?_ _ | refine Below.setCell ?_ ?_ _ | refine Below.drew ?_ | refine below_drewN ?_ _ | (simp; done) | (simp; omega) | omega)) (hb.mono (by first | (simp; done) | (simp; omega) | omega))
    replace hbel := hbel.trans (hst.mono hsz)
    replace hsz := hbel.size
    replace bB := bB.below hst bB.lt
    clear p0 p1 lB
    have p0 := bB.cell 0
    have p1 := bB.cell 1
    have lB := bB.lt
    try clear hWb
    clear hb hst
    obtain ⟨W0, rfl⟩ : ∃ W0 : World, W0 = W1 := ⟨_, rfl⟩
    go_wp2_with (fail)
    refine (len_any ((CL.length : Int) - 1) _ (by omega) (by omega)).mono ?_
    rintro e W1 ⟨rfl, hw1⟩
    subst hw1
    go_wp2
    refine bodyPost_ret (v := .tuple #[.int .i64 (Lib.bitLen (CL.length - 1) : Nat), .int .i64 0]) (by first | (simp [results, Try.results45, go_sem]; done) | (simp [results, Try.results45, go_sem, *]; done) | (simp [results, Try.results45, go_sem, World.cell?_setCell_same', *]; done) | (simp [results, Try.results45, go_sem]; first | exact ⟨rfl, rfl⟩ | rfl)) rfl ⟨rfl, hbel⟩
end Go.Proofs.Ytpgdfipikfbjeaa
