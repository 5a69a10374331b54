/- Texts of the proof, laid together by program. -/
import Derived.Test.YtnpilfpackdimaaMb
import Derived.Scope
import Derived.RangeFuncLeaves
import Derived.RangeFuncCalls
import Derived.Shelf.Abstract
import Derived.Test.YtnpilfpackdimaaMa
import Derived.Shelf.RegionOpen
set_option linter.unusedSimpArgs false
set_option linter.unusedVariables false
/- Walks: open; the first hire that is missed. -/
namespace Go.Proofs.Ytnpilfpackdimaa
open Go.RowKit Go.Shelf
attribute [local go_sem] Oper.semAt_some
set_option maxRecDepth 100000 in
set_option maxHeartbeats 1600000 in
theorem open_bad (A B : Option Addr) (n c m d : Nat) (ls ss : List (List Int)) (I : Int) (w : World) (hl : LiS w w.heap.size A n ls) (hs : LiS w w.heap.size B m ss) (hn : n ≤ 1000000) (hw : ∀ l ∈ ls, l.length ≤ 1000000) (hm : m ≤ 1000000) (hws : ∀ l ∈ ss, l.length ≤ 1000000) (he : openE I ls ss ≠ 0) :
    Calls Try.prog 34 #[.agg #[.int .i64 I, .slice A n c], .slice B m d] w fun e w' => e = .returned (.tuple #[.pointer none, .int .i64 (openE I ls ss)]) ∧ Below w.heap.size w w' := by
  have eg : ∀ args w, (callFunc 68 args).run Try.prog w = .ok (.enter 68 args) w := enters_of Try.func68 (by kernel_rfl) rfl
  have HL := hid hl
  have HS := hid hs
  have HW := hid hw
  have HWs := hid hws
  have HE := hid eg
  clear hl hs hw hws eg
  by_cases hc : chkBook I ls = 0
  · obtain ⟨h1, h8, -, -⟩ := book_good hc
    have hf : Hid (openE I ls ss = 3) := hid (by
      unfold openE at he ⊢
      rw [if_neg (by simpa using hc)] at he ⊢
      split at he
      · rw [if_pos ‹_›]
      · exact absurd rfl he)
    have hN : Hid (ss.any (fun x => !isL I 0 x) = true) := hid (by
      rw [any_not_all]
      cases h : ss.all (isL I 0)
      · rfl
      · unfold openE at he
        rw [if_neg (by simpa using hc), h] at he
        exact absurd rfl he)
    have Hc := hid hc
    clear hc he
    go_enter Try.func34, Try.ntmps34
    go_wp2_with (fail)
    refine (checkBook_any A n c ls I _ (HL.out.below (by repeat' (first | with_reducible assumption | with_reducible exact Below.refl _ _ | refine Below.alloc ?_ ?_ _ | refine Below.setCell ?_ ?_ _ | refine Below.drew ?_ | refine below_drewN ?_ _ | (simp; done) | (simp; omega) | omega)) (by first | (simp; done) | (simp; omega) | omega)) hn HW.out).mono ?_
    rw [Hc.out]
    rintro e w1 ⟨rfl, hb1⟩
    have hbel : Below w.heap.size w w1 := Below.trans (by repeat' (first | with_reducible assumption | with_reducible exact Below.refl _ _ | refine Below.alloc ?_ ?_ _ | refine Below.setCell ?_ ?_ _ | refine Below.drew ?_ | refine below_drewN ?_ _ | (simp; done) | (simp; omega) | omega)) (hb1.mono (by first | (simp; done) | (simp; omega) | omega))
    have c0 : w1.cell? ⟨w.heap.size, 0, none⟩ = some (.int .i64 I) := (hb1.cell (p := ⟨w.heap.size, 0, none⟩) (by first | (simp; done) | (simp; omega) | omega)).trans (by go_simp)
    have hq0 : w.heap.size < w1.heap.size := (by have := hb1.size; simp at this; omega)
    have hcc := conFL_any 68 #[.pointer (some ⟨w.heap.size, 0, none⟩)] HE.out (fun x => !isL I 0 x) B m d ss w1 (HS.out.below hbel hbel.size) hm (fun x hx A' m c' W hW hin => opclo_any A' m c' x I w.heap.size W hin (by rw [← hin.len]; exact HWs.out x hx) h1 h8 ((hW.cell (p := ⟨w.heap.size, 0, none⟩) hq0).trans c0))
    rw [hN.out] at hcc
    clear hb1 c0
    go_wp2_with (go_at_call 46; refine hcc.mono ?_; rintro e w2 ⟨rfl, hb2⟩)
    refine bodyPost_ret (v := .tuple #[.pointer none, .int .i64 3]) (by first | (simp [results, Try.results34, go_sem]; done) | (simp [results, Try.results34, go_sem, *]; done) | (simp [results, Try.results34, go_sem, World.cell?_setCell_same', *]; done) | (simp [results, Try.results34, go_sem]; first | exact ⟨rfl, rfl⟩ | rfl)) rfl ⟨by rw [hf.out], hbel.trans (hb2.mono hbel.size)⟩
  · have hf : Hid (openE I ls ss = chkBook I ls) := hid (if_pos hc)
    obtain ⟨ev, hev⟩ : ∃ ev, chkBook I ls = ev := ⟨_, rfl⟩
    rw [hev] at hf hc
    have Hev := hid hev
    have hbi : (ev != 0) = true := by simpa using hc
    clear hev he
    go_enter Try.func34, Try.ntmps34
    go_wp2_with (fail)
    refine (checkBook_any A n c ls I _ (HL.out.below (by repeat' (first | with_reducible assumption | with_reducible exact Below.refl _ _ | refine Below.alloc ?_ ?_ _ | refine Below.setCell ?_ ?_ _ | refine Below.drew ?_ | refine below_drewN ?_ _ | (simp; done) | (simp; omega) | omega)) (by first | (simp; done) | (simp; omega) | omega)) hn HW.out).mono ?_
    rw [Hev.out]
    rintro e w1 ⟨rfl, hb1⟩
    have hbel : Below w.heap.size w w1 := Below.trans (by repeat' (first | with_reducible assumption | with_reducible exact Below.refl _ _ | refine Below.alloc ?_ ?_ _ | refine Below.setCell ?_ ?_ _ | refine Below.drew ?_ | refine below_drewN ?_ _ | (simp; done) | (simp; omega) | omega)) (hb1.mono (by first | (simp; done) | (simp; omega) | omega))
    go_wp2
    refine bodyPost_ret (v := .tuple #[.pointer none, .int .i64 ev]) (by first | (simp [results, Try.results34, go_sem]; done) | (simp [results, Try.results34, go_sem, *]; done) | (simp [results, Try.results34, go_sem, World.cell?_setCell_same', *]; done) | (simp [results, Try.results34, go_sem]; first | exact ⟨rfl, rfl⟩ | rfl)) rfl ⟨by rw [hf.out], hbel⟩
set_option maxRecDepth 100000 in
set_option maxHeartbeats 1600000 in
theorem open_ok (A B : Option Addr) (n c m d : Nat) (ls ss : List (List Int)) (I : Int) (w : World) (hl : LiS w w.heap.size A n ls) (hs : LiS w w.heap.size B m ss) (hn : n ≤ 1000000) (hw : ∀ l ∈ ls, l.length ≤ 1000000) (hm : m ≤ 1000000) (hws : ∀ l ∈ ss, l.length ≤ 1000000) (he : openE I ls ss = 0) :
    Calls Try.prog 34 #[.agg #[.int .i64 I, .slice A n c], .slice B m d] w fun e w' => ∃ g, e = .returned (.tuple #[.pointer (some ⟨g, 0, none⟩), .int .i64 0]) ∧ w.heap.size ≤ g ∧ Desk w' g I A n c ls ∧ Below w.heap.size w w' := by
  have eg : ∀ args w, (callFunc 68 args).run Try.prog w = .ok (.enter 68 args) w := enters_of Try.func68 (by kernel_rfl) rfl
  obtain ⟨hc, hall⟩ := openE_good he
  obtain ⟨h1, h8, -, -⟩ := book_good hc
  have hN : Hid (ss.any (fun x => !isL I 0 x) = false) := hid (by
    rw [any_not_all, List.all_eq_true.2 hall]; rfl)
  have HL := hid hl
  have HS := hid hs
  have HW := hid hw
  have HWs := hid hws
  have HE := hid eg
  have Hc := hid hc
  clear hl hs hw hws eg hc he hall
  go_enter Try.func34, Try.ntmps34
  go_wp2_with (fail)
  refine (checkBook_any A n c ls I _ (HL.out.below (by repeat' (first | with_reducible assumption | with_reducible exact Below.refl _ _ | refine Below.alloc ?_ ?_ _ | refine Below.setCell ?_ ?_ _ | refine Below.drew ?_ | refine below_drewN ?_ _ | (simp; done) | (simp; omega) | omega)) (by first | (simp; done) | (simp; omega) | omega)) hn HW.out).mono ?_
  rw [Hc.out]
  rintro e w1 ⟨rfl, hb1⟩
  have hbel : Below w.heap.size w w1 := Below.trans (by repeat' (first | with_reducible assumption | with_reducible exact Below.refl _ _ | refine Below.alloc ?_ ?_ _ | refine Below.setCell ?_ ?_ _ | refine Below.drew ?_ | refine below_drewN ?_ _ | (simp; done) | (simp; omega) | omega)) (hb1.mono (by first | (simp; done) | (simp; omega) | omega))
  have c0 : w1.cell? ⟨w.heap.size, 0, none⟩ = some (.int .i64 I) := (hb1.cell (p := ⟨w.heap.size, 0, none⟩) (by first | (simp; done) | (simp; omega) | omega)).trans (by go_simp)
  have c1 : w1.cell? ⟨w.heap.size, 1, none⟩ = some (.slice A n c) := (hb1.cell (p := ⟨w.heap.size, 1, none⟩) (by first | (simp; done) | (simp; omega) | omega)).trans (by go_simp)
  have hq0 : w.heap.size < w1.heap.size := (by have := hb1.size; simp at this; omega)
  have hcc := conFL_any 68 #[.pointer (some ⟨w.heap.size, 0, none⟩)] HE.out (fun x => !isL I 0 x) B m d ss w1 (HS.out.below hbel hbel.size) hm (fun x hx A' m c' W hW hin => opclo_any A' m c' x I w.heap.size W hin (by rw [← hin.len]; exact HWs.out x hx) h1 h8 ((hW.cell (p := ⟨w.heap.size, 0, none⟩) hq0).trans c0))
  rw [hN.out] at hcc
  clear hb1
  go_wp2_with (go_at_call 46; refine hcc.mono ?_; rintro e w2 ⟨rfl, hb2⟩; have d0 := (hb2.cell (p := ⟨w.heap.size, 0, none⟩) hq0).trans c0; have d1 := (hb2.cell (p := ⟨w.heap.size, 1, none⟩) hq0).trans c1; have hq2 : w.heap.size < w2.heap.size := Nat.lt_of_lt_of_le hq0 hb2.size; clear c0 c1)
  have hbe2 := hbel.trans (hb2.mono hbel.size)
  have hbe3 : Below w.heap.size w (w2.alloc (.cells #[.int .i64 I, .slice A n c] 84)) := hbe2.alloc hbe2.size _
  refine bodyPost_ret (v := .tuple #[.pointer (some ⟨w2.heap.size, 0, none⟩), .int .i64 0]) (by first | (simp [results, Try.results34, go_sem]; done) | (simp [results, Try.results34, go_sem, *]; done) | (simp [results, Try.results34, go_sem, World.cell?_setCell_same', *]; done) | (simp [results, Try.results34, go_sem]; first | exact ⟨rfl, rfl⟩ | rfl)) rfl ⟨w2.heap.size, rfl, hbe2.size, ⟨Blk.new' rfl, HL.out.below hbe3 hbe3.size⟩, hbe3⟩
/-- The first hire that marks do not blame. -/
def missI (ls : List (List Int)) (b : Nat) : Int := idxA (fun l => !l.any (inB b)) ls
set_option maxRecDepth 100000 in
set_option maxHeartbeats 1600000 in
theorem missed_any (g : Nat) (I : Int) (A : Option Addr) (n c : Nat) (ls : List (List Int)) (b : Nat) (w : World) (hd : Desk w g I A n c ls) (hn : n ≤ 1000000) (hbd : ∀ l ∈ ls, isL 8 0 l = true) :
    Calls Try.prog 35 #[.pointer (some ⟨g, 0, none⟩), .agg (mkB b)] w fun e w' => e = .returned (.int .i64 (missI ls b)) ∧ Below w.heap.size w w' := by
  have eg : ∀ args w, (callFunc 70 args).run Try.prog w = .ok (.enter 70 args) w := enters_of Try.func70 (by kernel_rfl) rfl
  obtain ⟨W2, hW2⟩ : ∃ W2, w.alloc (.cells (mkB b) 57) = W2 := ⟨_, rfl⟩
  have b2 : Blk W2 w.heap.size 57 (mkB b) := by rw [← hW2]; exact Blk.new' rfl
  have hb2 : Below w.heap.size w W2 := by rw [← hW2]; exact (Below.refl _ _).alloc (Nat.le_refl _) _
  have hd2 := hd.below hb2
  have c0 : W2.cell? ⟨g, 0, none⟩ = some (.int .i64 I) := hd2.1.cell 0
  have c1 : W2.cell? ⟨g, 1, none⟩ = some (.slice A n c) := hd2.1.cell 1
  have lg := hd2.1.lt
  have l2 := b2.lt
  have HL := hid hd2.2
  have hlen := hid hd2.2.1
  have HB := hid hbd
  have HE := hid eg
  have HB2 := hid b2
  obtain ⟨iv, hiv⟩ : ∃ iv, missI ls b = iv := ⟨_, rfl⟩
  have Hiv := hid hiv
  rw [hiv]
  clear hiv hbd eg hd hd2
  unfold mkB at hW2 ⊢
  go_enter Try.func35, Try.ntmps35
  go_wp2
  clear hW2 c0 c1
  go_loopw [13] (fun i wr => ∃ k : Nat, k ≤ n ∧ i = .int .i64 k ∧ Hid ((ls.take k).any (fun l => !l.any (inB b)) = false) ∧ wr = W2) (fun i _ => n - (intOf i).toNat)
  case atStart => exact ⟨0, by omega, rfl, hid (by simp), rfl⟩
  case round =>
    obtain ⟨k, hk, rfl, hno, rfl⟩ := hrel
    by_cases hlt : k < n
    · obtain ⟨bb, off, x, A', m, c', rfl, hb, hm, c0, hin⟩ := HL.out.at_ hlt
      have Hm := hid hm
      have hlti : (k : Int) < n := by omega
      have hxv := HB.out x (List.mem_of_getElem? hm)
      have hm8 : m ≤ 1000000 := by have := isL_len8 hxv (by omega); have := hin.len; omega
      have hc := conFI_any 70 #[.pointer (some ⟨w.heap.size, 0, none⟩)] HE.out (inB b) A' m c' x wr hin hm8 (fun y hy => missed1_any y b _ _ HB2.out (isL_bd hxv y hy).1 (isL_bd hxv y hy).2)
      clear hm hin hxv
      cases hx : x.any (inB b)
      · have Hf := hid (idxA_hit hno.out Hm.out (by rw [hx]; rfl))
        rw [hx] at hc
        clear hx
        go_wp2_with (go_at_call 69; refine hc.mono ?_; rintro e w1 ⟨rfl, rfl⟩)
        refine bodyPost_ret (v := .int .i64 k) (by first | (simp [results, Try.results35, go_sem]; done) | (simp [results, Try.results35, go_sem, *]; done) | (simp [results, Try.results35, go_sem, World.cell?_setCell_same', *]; done) | (simp [results, Try.results35, go_sem]; first | exact ⟨rfl, rfl⟩ | rfl)) rfl ⟨by rw [← Hiv.out]; unfold missI; rw [Hf.out], hb2⟩
      · have Hs := hid (any_off hno.out Hm.out (by rw [hx]; rfl))
        rw [hx] at hc
        clear hx
        go_wp2_with (go_at_call 69; refine hc.mono ?_; rintro e w1 ⟨rfl, rfl⟩)
        exact ⟨⟨k + 1, by omega, by go_num, Hs, trivial⟩, by simp [intOf]; omega⟩
    · obtain rfl : k = n := by omega
      have Hf : Hid (missI ls b = -1) := hid (idxA_none (by have := hno.out; rwa [List.take_of_length_le (by rw [hlen.out]; exact Nat.le_refl _)] at this))
      go_wp2
      refine bodyPost_ret (v := .int .i64 (-1)) (by first | (simp [results, Try.results35, go_sem]; done) | (simp [results, Try.results35, go_sem, *]; done) | (simp [results, Try.results35, go_sem, World.cell?_setCell_same', *]; done) | (simp [results, Try.results35, go_sem]; first | exact ⟨rfl, rfl⟩ | rfl)) rfl ⟨by rw [← Hiv.out, Hf.out], hb2⟩
end Go.Proofs.Ytnpilfpackdimaa
/- Walks: CheckBlame; the first that is good; an inn that can be left out; CheckTight. -/
namespace Go.Proofs.Ytnpilfpackdimaa
open Go.RowKit Go.Shelf
attribute [local go_sem] Oper.semAt_some
@[local go_sem] theorem run_store_func (P : Program) (a : Addr) (f : Fn) (b fr : Array Value) (m : Mode) (w : World) : (store a (.func f b fr) m).run P w = stored P w a (.func f b fr) m := run_store P w a _ m rfl
theorem lis_lit {w : World} {g t : Nat} {vs : List Value} {ls : List (List Int)} (hb : Blk w g t vs.toArray) (hn : ls.length = vs.length) (h : ∀ (k : Nat) (l : List Int), ls[k]? = some l → ∃ (A' : Option Addr) (m c' : Nat), vs[k]? = some (Value.slice A' m c') ∧ InS w w.heap.size A' m l) : LiS w w.heap.size (some ⟨g, 0, none⟩) vs.length ls :=
  ⟨hn, vs, ⟨by simp, fun _ => ⟨g, 0, rfl, hb.lt, fun j u hj => by rw [Nat.zero_add, hb.cell]; simpa using hj⟩⟩, h⟩
theorem lis_one {w : World} {B : Option Addr} {m d : Nat} {s : List Int} {g : Nat} (hg : w.heap.size = g) (hs : InS w w.heap.size B m s) : LiS (w.alloc (.cells #[.slice B m d] 25)) (w.alloc (.cells #[.slice B m d] 25)).heap.size (some ⟨g, 0, none⟩) 1 [s] :=
  lis_lit (vs := [.slice B m d]) (Blk.new' hg) rfl fun k l hk => by
    obtain rfl : k = 0 := by
      have := (List.getElem?_eq_some_iff.1 hk).1
      simp at this; omega
    obtain rfl : s = l := by simpa using hk
    exact ⟨B, m, d, rfl, hs.below ((Below.refl _ _).alloc (Nat.le_refl _) _) (by simp)⟩
theorem lis_nil (w : World) (B : Nat) : LiS w B none 0 [] := ⟨rfl, [], Sl.none_, fun k l h => by simp at h⟩
/-- CheckBlame's answer. -/
def blmE (I : Int) (ls : List (List Int)) (s : List Int) : Int := if openE I ls [s] ≠ 0 then openE I ls [s] else if 0 ≤ missI ls (bitsL s) then 21 else 0
def blmV (I : Int) (ls : List (List Int)) (s : List Int) : Int := if openE I ls [s] ≠ 0 then 0 else if 0 ≤ missI ls (bitsL s) then missI ls (bitsL s) else s.length
theorem isL8 {I : Int} {l : List Int} (h : isL I 0 l = true) (h8 : I ≤ 8) : isL 8 0 l = true := isL_weak h8 h
theorem book8 {I : Int} {ls : List (List Int)} (h : chkBook I ls = 0) : ∀ l ∈ ls, isL 8 0 l = true := fun l hl => isL8 ((book_good h).2.2.2 l hl) (book_good h).2.1
set_option maxRecDepth 100000 in
set_option maxHeartbeats 1600000 in
theorem checkBlame_any (A B : Option Addr) (n c m d : Nat) (ls : List (List Int)) (s : List Int) (I : Int) (w : World) (hl : LiS w w.heap.size A n ls) (hs : InS w w.heap.size B m s) (hn : n ≤ 1000000) (hw : ∀ l ∈ ls, l.length ≤ 1000000) (hm : m ≤ 1000000) :
    Calls Try.prog 7 #[.agg #[.int .i64 I, .slice A n c], .slice B m d] w fun e w' => e = .returned (.tuple #[.int .i64 (blmV I ls s), .int .i64 (blmE I ls s)]) ∧ Below w.heap.size w w' := by
  have hlen := hs.len
  have HL := hid hl
  have HS := hid hs
  have HW := hid hw
  have hws : Hid (∀ l ∈ [s], l.length ≤ 1000000) := hid (fun l hl => by rw [List.mem_singleton.1 hl, hlen]; exact hm)
  clear hl hs hw
  by_cases he : openE I ls [s] = 0
  · obtain ⟨hc, hall⟩ := openE_good he
    have hs8 := isL8 (hall s (by simp)) (book_good hc).2.1
    have hV : Hid (blmV I ls s = if 0 ≤ missI ls (bitsL s) then missI ls (bitsL s) else (m : Int)) := hid (by unfold blmV; rw [if_neg (by simpa using he), hlen])
    have hE : Hid (blmE I ls s = if 0 ≤ missI ls (bitsL s) then 21 else 0) := hid (if_neg (by simpa using he))
    have HM := hid (fun w g (h : Desk w g I A n c ls) => missed_any g I A n c ls (bitsL s) w h hn (book8 hc))
    have HB8 := hid (isL_bd hs8)
    obtain ⟨mv, hmv⟩ : ∃ mv, missI ls (bitsL s) = mv := ⟨_, rfl⟩
    rw [hmv] at hV hE HM
    have He := hid he
    clear he hc hall hs8 hmv hlen
    by_cases hmp : 0 ≤ mv
    all_goals
      first | rw [if_pos hmp] at hV hE | rw [if_neg hmp] at hV hE
      go_enter Try.func7, Try.ntmps7
      go_wp2_with (fail)
      refine (open_ok A _ n c 1 1 ls [s] I _ (HL.out.below (by repeat' (first | with_reducible assumption | with_reducible exact Below.refl _ _ | refine Below.alloc ?_ ?_ _ | refine Below.setCell ?_ ?_ _ | refine Below.drew ?_ | refine below_drewN ?_ _ | (simp; done) | (simp; omega) | omega)) (by first | (simp; done) | (simp; omega) | omega)) (lis_one (by first | (simp; done) | (simp; omega) | omega) (HS.out.below (by repeat' (first | with_reducible assumption | with_reducible exact Below.refl _ _ | refine Below.alloc ?_ ?_ _ | refine Below.setCell ?_ ?_ _ | refine Below.drew ?_ | refine below_drewN ?_ _ | (simp; done) | (simp; omega) | omega)) (by first | (simp; done) | (simp; omega) | omega))) hn HW.out (by omega) hws.out He.out).mono ?_
      rintro e w1 ⟨g, rfl, hg, hd, hb1⟩
      have hbel : Below w.heap.size w w1 := Below.trans (by repeat' (first | with_reducible assumption | with_reducible exact Below.refl _ _ | refine Below.alloc ?_ ?_ _ | refine Below.setCell ?_ ?_ _ | refine Below.drew ?_ | refine below_drewN ?_ _ | (simp; done) | (simp; omega) | omega)) (hb1.mono (by first | (simp; done) | (simp; omega) | omega))
      have HD := hid hd
      clear hd hb1
      go_wp2_with (fail)
      refine (marked_any B m d s _ (HS.out.below hbel hbel.size) hm HB8.out).mono ?_
      rintro e w2 ⟨rfl, hb2⟩
      have hbe2 := hbel.trans (hb2.mono hbel.size)
      have hd2 := hid (HD.out.below hb2)
      clear hb2
      go_wp2_with (fail)
      refine (HM.out _ _ hd2.out).mono ?_
      rintro e w3 ⟨rfl, hb3⟩
      have hbe3 := hbe2.trans (hb3.mono hbe2.size)
      clear hb3
      go_wp2
    · refine bodyPost_ret (v := .tuple #[.int .i64 mv, .int .i64 21]) (by first | (simp [results, Try.results7, go_sem]; done) | (simp [results, Try.results7, go_sem, *]; done) | (simp [results, Try.results7, go_sem, World.cell?_setCell_same', *]; done) | (simp [results, Try.results7, go_sem]; first | exact ⟨rfl, rfl⟩ | rfl)) rfl ⟨by rw [hV.out, hE.out], hbe3⟩
    · refine bodyPost_ret (v := .tuple #[.int .i64 m, .int .i64 0]) (by first | (simp [results, Try.results7, go_sem]; done) | (simp [results, Try.results7, go_sem, *]; done) | (simp [results, Try.results7, go_sem, World.cell?_setCell_same', *]; done) | (simp [results, Try.results7, go_sem]; first | exact ⟨rfl, rfl⟩ | rfl)) rfl ⟨by rw [hV.out, hE.out], hbe3⟩
  · have hV : Hid (blmV I ls s = 0) := hid (if_pos he)
    have hE : Hid (blmE I ls s = openE I ls [s]) := hid (if_pos he)
    have He := hid he
    have HO := hid (fun w B h1 h2 => open_bad A B n c 1 1 ls [s] I w h1 h2 hn HW.out (by omega) hws.out he)
    obtain ⟨ev, hev⟩ : ∃ ev, openE I ls [s] = ev := ⟨_, rfl⟩
    rw [hev] at hE HO he
    have hbi : (ev != 0) = true := by simpa using he
    clear hev
    go_enter Try.func7, Try.ntmps7
    go_wp2_with (fail)
    refine (HO.out _ _ (HL.out.below (by repeat' (first | with_reducible assumption | with_reducible exact Below.refl _ _ | refine Below.alloc ?_ ?_ _ | refine Below.setCell ?_ ?_ _ | refine Below.drew ?_ | refine below_drewN ?_ _ | (simp; done) | (simp; omega) | omega)) (by first | (simp; done) | (simp; omega) | omega)) (lis_one (by first | (simp; done) | (simp; omega) | omega) (HS.out.below (by repeat' (first | with_reducible assumption | with_reducible exact Below.refl _ _ | refine Below.alloc ?_ ?_ _ | refine Below.setCell ?_ ?_ _ | refine Below.drew ?_ | refine below_drewN ?_ _ | (simp; done) | (simp; omega) | omega)) (by first | (simp; done) | (simp; omega) | omega)))).mono ?_
    rintro e w1 ⟨rfl, hb1⟩
    have hbel : Below w.heap.size w w1 := Below.trans (by repeat' (first | with_reducible assumption | with_reducible exact Below.refl _ _ | refine Below.alloc ?_ ?_ _ | refine Below.setCell ?_ ?_ _ | refine Below.drew ?_ | refine below_drewN ?_ _ | (simp; done) | (simp; omega) | omega)) (hb1.mono (by first | (simp; done) | (simp; omega) | omega))
    go_wp2
    refine bodyPost_ret (v := .tuple #[.int .i64 0, .int .i64 ev]) (by first | (simp [results, Try.results7, go_sem]; done) | (simp [results, Try.results7, go_sem, *]; done) | (simp [results, Try.results7, go_sem, World.cell?_setCell_same', *]; done) | (simp [results, Try.results7, go_sem]; first | exact ⟨rfl, rfl⟩ | rfl)) rfl ⟨by rw [hV.out, hE.out], hbel⟩
theorem find_off {α : Type} {p : α → Bool} {l : List α} {k : Nat} {x : α} (h : (l.take k).find? p = none) (hx : l[k]? = some x) (hp : p x = false) : (l.take (k + 1)).find? p = none := by
  rw [List.take_add_one, hx, List.find?_append, h]
  simp [hp]
theorem find_hit {α : Type} {p : α → Bool} {l : List α} {k : Nat} {x : α} (h : (l.take k).find? p = none) (hx : l[k]? = some x) (hp : p x = true) : l.find? p = some x := by
  rw [← List.take_append_drop k l, List.find?_append, h]
  obtain ⟨hk, hx⟩ := List.getElem?_eq_some_iff.1 hx
  rw [List.drop_eq_getElem_cons hk, hx]
  simp [hp]
set_option maxHeartbeats 800000 in
theorem findI_any (g : Nat) (cb : Array Value) (eg : ∀ args w, (callFunc g args).run Try.prog w = .ok (.enter g args) w) (p : Int → Bool) (A : Option Addr) (n c : Nat) (l : List Int) (w : World) (hl : InS w w.heap.size A n l) (hn : n ≤ 1000000) (hp : ∀ x ∈ l, ∀ W, Below w.heap.size w W → Calls Try.prog g (#[.int .i64 x] ++ cb) W fun e w' => e = .returned (.bool (p x)) ∧ Below W.heap.size W w') :
    Calls Try.prog 71 #[.slice A n c, .func (.func g) #[] cb] w fun e w' => e = .returned (.tuple #[.int .i64 ((l.find? p).getD 0), .bool (l.find? p).isSome]) ∧ Below w.heap.size w w' := by
  have hlen := hid hl.len
  have HL := hid hl
  have HP := hid hp
  clear hp hl
  obtain ⟨fv, hfv⟩ : ∃ fv, l.find? p = fv := ⟨_, rfl⟩
  have Hfv := hid hfv
  rw [hfv]
  clear hfv
  go_enter Try.func71, Try.ntmps71
  go_wp2
  go_loopw [11] (fun i wr => ∃ k : Nat, k ≤ n ∧ i = .int .i64 k ∧ Hid ((l.take k).find? p = none) ∧ Below w.heap.size w wr) (fun i _ => n - (intOf i).toNat)
  case atStart => exact ⟨0, by omega, rfl, hid (by simp), Below.refl _ _⟩
  case round =>
    obtain ⟨k, hk, rfl, hno, hbw⟩ := hrel
    have hszw := hbw.size
    by_cases hlt : k < n
    · obtain ⟨b, off, x, rfl, hb, hm, c0⟩ := (HL.out.below hbw hszw).at_ hlt
      have Hm := hid hm
      have hlti : (k : Int) < n := by omega
      have hc := HP.out x (List.mem_of_getElem? hm) wr hbw
      clear hm
      cases hx : p x
      · have Hs := hid (find_off hno.out Hm.out hx)
        rw [hx] at hc
        clear hx
        go_wp2_with (go_at_fn g; refine hc.mono ?_; rintro e w1 ⟨rfl, hb1⟩)
        exact ⟨⟨k + 1, by omega, by go_num, Hs, hbw.trans (hb1.mono hszw)⟩, by simp [intOf]; omega⟩
      · have Hf := hid (find_hit hno.out Hm.out hx)
        rw [hx] at hc
        clear hx
        go_wp2_with (go_at_fn g; refine hc.mono ?_; rintro e w1 ⟨rfl, hb1⟩)
        refine bodyPost_ret (v := .tuple #[.int .i64 x, .bool true]) (by first | (simp [results, Try.results71, go_sem]; done) | (simp [results, Try.results71, go_sem, *]; done) | (simp [results, Try.results71, go_sem, World.cell?_setCell_same', *]; done) | (simp [results, Try.results71, go_sem]; first | exact ⟨rfl, rfl⟩ | rfl)) rfl ⟨by rw [← Hfv.out, Hf.out]; rfl, hbw.trans (hb1.mono hszw)⟩
    · obtain rfl : k = n := by omega
      have Hf : Hid (l.find? p = none) := hid (by have := hno.out; rwa [List.take_of_length_le (by rw [hlen.out]; exact Nat.le_refl _)] at this)
      go_wp2
      refine bodyPost_ret (v := .tuple #[.int .i64 0, .bool false]) (by first | (simp [results, Try.results71, go_sem]; done) | (simp [results, Try.results71, go_sem, *]; done) | (simp [results, Try.results71, go_sem, World.cell?_setCell_same', *]; done) | (simp [results, Try.results71, go_sem]; first | exact ⟨rfl, rfl⟩ | rfl)) rfl ⟨by rw [← Hfv.out, Hf.out]; rfl, hbw⟩
/-- The first inn that can be left out. -/
def spO (ls : List (List Int)) (b : Nat) : Option Int := (listed b 8).find? fun x => decide (missI ls (clr b x.toNat) < 0)
theorem enMissed : ∀ args w, (callFunc 35 args).run Try.prog w = .ok (.enter 35 args) w := enters_of Try.func35 (by kernel_rfl) rfl
set_option maxRecDepth 100000 in
set_option maxHeartbeats 1600000 in
theorem spare1_any (x : Int) (g1 g2 g : Nat) (I : Int) (A : Option Addr) (n c : Nat) (ls : List (List Int)) (b : Nat) (w : World) (hd : Desk w g I A n c ls) (hb : Blk w g1 57 (mkB b)) (c2 : w.cell? ⟨g2, 0, none⟩ = some (.func (.func 35) #[.pointer (some ⟨g, 0, none⟩)] #[])) (hn : n ≤ 1000000) (hbd : ∀ l ∈ ls, isL 8 0 l = true) (h0 : 0 ≤ x) (h8 : x < 8) (l2 : g2 < w.heap.size) :
    Calls Try.prog 72 #[.int .i64 x, .pointer (some ⟨g1, 0, none⟩), .pointer (some ⟨g2, 0, none⟩)] w fun e w' => e = .returned (.bool (decide (missI ls (clr b x.toNat) < 0))) ∧ Below w.heap.size w w' := by
  obtain ⟨k, rfl⟩ : ∃ k : Nat, x = k := ⟨x.toNat, by omega⟩
  have hk : k < 8 := by omega
  have hki : (k : Int) < 8 := by omega
  rw [Int.toNat_natCast]
  obtain ⟨d0, d1, d2, d3, d4, d5, d6, d7⟩ := load8 hb
  have l1 := hb.lt
  obtain ⟨W2, hW2⟩ : ∃ W2, w.alloc (.cells (mkB b) 57) = W2 := ⟨_, rfl⟩
  have b2 : Blk W2 w.heap.size 57 (mkB b) := by rw [← hW2]; exact Blk.new' rfl
  have hb2 : Below w.heap.size w W2 := by rw [← hW2]; exact (Below.refl _ _).alloc (Nat.le_refl _) _
  have l3 := b2.lt
  obtain ⟨W3, hW3⟩ : ∃ W3, W2.setCell ⟨w.heap.size, k, none⟩ (.int .i64 0) = W3 := ⟨_, rfl⟩
  have b3 : Blk W3 w.heap.size 57 (mkB (clr b k)) := by rw [← hW3, ← mkB_off hk]; exact b2.set_ k _
  have hb3 : Below w.heap.size w W3 := by rw [← hW3]; exact hb2.setCell (by simp) _
  have fz := b2.frozen k
  have c0 : ∃ v, W2.cell? ⟨w.heap.size, k, none⟩ = some v := ⟨_, (b2.cell k).trans (mkB_at hk)⟩
  obtain ⟨vv, c0⟩ := c0
  have hd3 := hid (hd.below hb3)
  have c3 : W3.cell? ⟨g2, 0, none⟩ = some (.func (.func 35) #[.pointer (some ⟨g, 0, none⟩)] #[]) := (hb3.cell (p := ⟨g2, 0, none⟩) l2).trans c2
  obtain ⟨e0, e1, e2, e3, e4, e5, e6, e7⟩ := load8 b3
  have HM := hid (fun W h => missed_any g I A n c ls (clr b k) W h hn hbd)
  obtain ⟨mv, hmv⟩ : ∃ mv, missI ls (clr b k) = mv := ⟨_, rfl⟩
  rw [hmv] at HM ⊢
  have hW2' := hW2
  unfold mkB at hW2'
  clear hmv hbd b2 b3 hd hb hW2 c2
  go_enter Try.func72, Try.ntmps72
  go_wp2_with (fail)
  refine (HM.out _ hd3.out).mono ?_
  rintro e w3 ⟨rfl, hbz⟩
  have hbe3 := hb3.trans (hbz.mono hb3.size)
  go_wp2
  refine bodyPost_ret (v := .bool (decide (mv < 0))) (by first | (simp [results, Try.results72, go_sem]; done) | (simp [results, Try.results72, go_sem, *]; done) | (simp [results, Try.results72, go_sem, World.cell?_setCell_same', *]; done) | (simp [results, Try.results72, go_sem]; first | exact ⟨rfl, rfl⟩ | rfl)) rfl ⟨rfl, hbe3⟩
end Go.Proofs.Ytnpilfpackdimaa
/- Walks: spare; CheckTight. -/
namespace Go.Proofs.Ytnpilfpackdimaa
open Go.RowKit Go.Shelf
attribute [local go_sem] Oper.semAt_some run_store_func
theorem enSpare1 : ∀ args w, (callFunc 72 args).run Try.prog w = .ok (.enter 72 args) w := enters_of Try.func72 (by kernel_rfl) rfl
theorem listed_bd (b : Nat) : ∀ x ∈ listed b 8, 0 ≤ x ∧ x < 8 := fun x hx => by
  obtain ⟨i, rfl, h, -⟩ := mem_listed.1 hx
  omega
set_option maxRecDepth 100000 in
set_option maxHeartbeats 1600000 in
theorem spare_any (g : Nat) (I : Int) (A : Option Addr) (n c : Nat) (ls : List (List Int)) (b : Nat) (w : World) (hd : Desk w g I A n c ls) (hn : n ≤ 1000000) (hbd : ∀ l ∈ ls, isL 8 0 l = true) :
    Calls Try.prog 40 #[.pointer (some ⟨g, 0, none⟩), .agg (mkB b)] w fun e w' => e = .returned (.tuple #[.int .i64 ((spO ls b).getD 0), .bool (spO ls b).isSome]) ∧ Below w.heap.size w w' := by
  obtain ⟨W2, hW2⟩ : ∃ W2, w.alloc (.cells (mkB b) 57) = W2 := ⟨_, rfl⟩
  have b2 : Blk W2 w.heap.size 57 (mkB b) := by rw [← hW2]; exact Blk.new' rfl
  have hb2 : Below w.heap.size w W2 := by rw [← hW2]; exact (Below.refl _ _).alloc (Nat.le_refl _) _
  have hd2 := hd.below hb2
  have hz2 : W2.heap.size = w.heap.size + 1 := by rw [← hW2]; simp
  have hW2' := hW2
  unfold mkB at hW2' ⊢
  obtain ⟨d0, d1, d2, d3, d4, d5, d6, d7⟩ := load8 b2
  have l2 := b2.lt
  have HD := hid hd2
  have HB2 := hid b2
  have HBD := hid hbd
  have HE := hid enSpare1
  have Hz := hid hz2
  have hsp : Hid ((listed b 8).find? (fun x => decide (missI ls (clr b x.toNat) < 0)) = spO ls b) := rfl
  obtain ⟨so, hso⟩ : ∃ so, spO ls b = so := ⟨_, rfl⟩
  rw [hso] at hsp ⊢
  clear hW2 hd hbd b2 hz2 hd2 hso
  go_enter Try.func40, Try.ntmps40
  go_wp2_with (fail)
  refine (list_any b _).mono ?_
  rintro e w1 ⟨A1, n1, c1, rfl, hc1, hn1, hin1, hfr1, hb1⟩
  have hbw : Below W2.heap.size W2 w1 := Below.trans (by repeat' (first | with_reducible assumption | with_reducible exact Below.refl _ _ | refine Below.alloc ?_ ?_ _ | refine Below.setCell ?_ ?_ _ | refine Below.drew ?_ | refine below_drewN ?_ _ | (simp; done) | (simp; omega) | omega)) (hb1.mono (by first | (simp; done) | (simp; omega) | omega))
  have l22 : W2.heap.size < w1.heap.size := by have := hb1.size; simp at this; omega
  have c6 : w1.cell? ⟨W2.heap.size, 0, none⟩ = some (.func (.func 35) #[.pointer (some ⟨g, 0, none⟩)] #[]) := (hb1.cell (p := ⟨W2.heap.size, 0, none⟩) (by first | (simp; done) | (simp; omega) | omega)).trans (by go_simp)
  have hn8 : n1 ≤ 1000000 := by have := hin1.len; have := listed_len b 8; omega
  have hf := findI_any 72 #[.pointer (some ⟨w.heap.size, 0, none⟩), .pointer (some ⟨W2.heap.size, 0, none⟩)] HE.out (fun x => decide (missI ls (clr b x.toNat) < 0)) A1 n1 c1 (listed b 8) w1 hin1 hn8 (fun x hx W hW => spare1_any x w.heap.size W2.heap.size g I A n c ls b W (HD.out.below (hbw.trans (hW.mono hbw.size))) (HB2.out.below (hbw.trans (hW.mono hbw.size)) HB2.out.lt) ((hW.cell (p := ⟨W2.heap.size, 0, none⟩) l22).trans c6) hn HBD.out (listed_bd b x hx).1 (listed_bd b x hx).2 (Nat.lt_of_lt_of_le l22 hW.size))
  rw [hsp.out] at hf
  clear hb1 hin1 hfr1 d0 d1 d2 d3 d4 d5 d6 d7 c6 hW2'
  go_wp2_with (go_at_call 71; refine hf.mono ?_; rintro e w2 ⟨rfl, hb3⟩)
  refine bodyPost_ret (v := .tuple #[.int .i64 (so.getD 0), .bool so.isSome]) (by first | (simp [results, Try.results40, go_sem]; done) | (simp [results, Try.results40, go_sem, *]; done) | (simp [results, Try.results40, go_sem, World.cell?_setCell_same', *]; done) | (simp [results, Try.results40, go_sem]; first | exact ⟨rfl, rfl⟩ | rfl)) rfl ⟨rfl, ?_⟩
  exact hb2.trans ((hbw.trans (hb3.mono hbw.size)).mono hb2.size)
/-- CheckTight's answer. -/
def tgtE (I : Int) (ls : List (List Int)) (s : List Int) : Int := if blmE I ls s ≠ 0 then blmE I ls s else if (spO ls (bitsL s)).isSome then 16 else 0
def tgtV (I : Int) (ls : List (List Int)) (s : List Int) : Int := if blmE I ls s ≠ 0 then blmV I ls s else if (spO ls (bitsL s)).isSome then (spO ls (bitsL s)).getD 0 else blmV I ls s
theorem blmE_good {I : Int} {ls : List (List Int)} {s : List Int} (h : blmE I ls s = 0) : openE I ls [s] = 0 ∧ missI ls (bitsL s) < 0 := by
  unfold blmE at h
  split at h
  · rename_i h1; exact absurd h h1
  · split at h
    · cases h
    · rename_i h1 h2
      exact ⟨by simpa using h1, by omega⟩
set_option maxRecDepth 100000 in
set_option maxHeartbeats 1600000 in
theorem checkTight_any (A B : Option Addr) (n c m d : Nat) (ls : List (List Int)) (s : List Int) (I : Int) (w : World) (hl : LiS w w.heap.size A n ls) (hs : InS w w.heap.size B m s) (hn : n ≤ 1000000) (hw : ∀ l ∈ ls, l.length ≤ 1000000) (hm : m ≤ 1000000) :
    Calls Try.prog 9 #[.agg #[.int .i64 I, .slice A n c], .slice B m d] w fun e w' => e = .returned (.tuple #[.int .i64 (tgtV I ls s), .int .i64 (tgtE I ls s)]) ∧ Below w.heap.size w w' := by
  have HL := hid hl
  have HS := hid hs
  have HW := hid hw
  have HC := hid (fun w h1 h2 => checkBlame_any A B n c m d ls s I w h1 h2 hn hw hm)
  clear hl hs hw
  by_cases he : blmE I ls s = 0
  · obtain ⟨ho, hmi⟩ := blmE_good he
    obtain ⟨hc, hall⟩ := openE_good ho
    have hs8 := isL8 (hall s (by simp)) (book_good hc).2.1
    have hV : Hid (tgtV I ls s = if (spO ls (bitsL s)).isSome then (spO ls (bitsL s)).getD 0 else blmV I ls s) := hid (if_neg (by simpa using he))
    have hE : Hid (tgtE I ls s = if (spO ls (bitsL s)).isSome then 16 else 0) := hid (if_neg (by simpa using he))
    have HO := hid (fun w h => open_ok A none n c 0 0 ls [] I w h (lis_nil _ _) hn HW.out (by omega) (by simp) (by rw [openE_nil]; exact hc))
    have HSp := hid (fun w g (h : Desk w g I A n c ls) => spare_any g I A n c ls (bitsL s) w h hn (book8 hc))
    have HB8 := hid (isL_bd hs8)
    obtain ⟨so, hso⟩ : ∃ so, spO ls (bitsL s) = so := ⟨_, rfl⟩
    obtain ⟨bv, hbv⟩ : ∃ bv, blmV I ls s = bv := ⟨_, rfl⟩
    rw [hso] at hV hE HSp
    rw [hbv] at hV HC
    rw [he] at HC
    clear he ho hc hall hs8 hso hbv hmi
    go_enter Try.func9, Try.ntmps9
    go_wp2_with (fail)
    refine (HC.out _ (HL.out.below (by repeat' (first | with_reducible assumption | with_reducible exact Below.refl _ _ | refine Below.alloc ?_ ?_ _ | refine Below.setCell ?_ ?_ _ | refine Below.drew ?_ | refine below_drewN ?_ _ | (simp; done) | (simp; omega) | omega)) (by first | (simp; done) | (simp; omega) | omega)) (HS.out.below (by repeat' (first | with_reducible assumption | with_reducible exact Below.refl _ _ | refine Below.alloc ?_ ?_ _ | refine Below.setCell ?_ ?_ _ | refine Below.drew ?_ | refine below_drewN ?_ _ | (simp; done) | (simp; omega) | omega)) (by first | (simp; done) | (simp; omega) | omega))).mono ?_
    rintro e w1 ⟨rfl, hb1⟩
    have hbel : Below w.heap.size w w1 := Below.trans (by repeat' (first | with_reducible assumption | with_reducible exact Below.refl _ _ | refine Below.alloc ?_ ?_ _ | refine Below.setCell ?_ ?_ _ | refine Below.drew ?_ | refine below_drewN ?_ _ | (simp; done) | (simp; omega) | omega)) (hb1.mono (by first | (simp; done) | (simp; omega) | omega))
    have c0 : w1.cell? ⟨w.heap.size, 0, none⟩ = some (.int .i64 I) := (hb1.cell (p := ⟨w.heap.size, 0, none⟩) (by first | (simp; done) | (simp; omega) | omega)).trans (by go_simp)
    have c1 : w1.cell? ⟨w.heap.size, 1, none⟩ = some (.slice A n c) := (hb1.cell (p := ⟨w.heap.size, 1, none⟩) (by first | (simp; done) | (simp; omega) | omega)).trans (by go_simp)
    have hq0 : w.heap.size < w1.heap.size := (by have := hb1.size; simp at this; omega)
    clear hb1
    go_wp2_with (fail)
    refine (HO.out _ (HL.out.below hbel hbel.size)).mono ?_
    rintro e w2 ⟨g, rfl, hg, hd, hb2⟩
    have hbe2 := hbel.trans (hb2.mono hbel.size)
    have HD := hid hd
    clear hd hb2 c0 c1
    go_wp2_with (fail)
    refine (marked_any B m d s _ (HS.out.below hbe2 hbe2.size) hm HB8.out).mono ?_
    rintro e w3 ⟨rfl, hb3⟩
    have hbe3 := hbe2.trans (hb3.mono hbe2.size)
    have hd3 := hid (HD.out.below hb3)
    clear hb3
    go_wp2_with (fail)
    refine (HSp.out _ _ hd3.out).mono ?_
    rintro e w4 ⟨rfl, hb4⟩
    have hbe4 := hbe3.trans (hb4.mono hbe3.size)
    clear hb4
    cases so with
    | none =>
      simp only [Option.isSome_none, Option.getD_none]
      go_wp2
      refine bodyPost_ret (v := .tuple #[.int .i64 bv, .int .i64 0]) (by first | (simp [results, Try.results9, go_sem]; done) | (simp [results, Try.results9, go_sem, *]; done) | (simp [results, Try.results9, go_sem, World.cell?_setCell_same', *]; done) | (simp [results, Try.results9, go_sem]; first | exact ⟨rfl, rfl⟩ | rfl)) rfl ⟨by rw [hV.out, hE.out]; rfl, hbe4⟩
    | some x =>
      simp only [Option.isSome_some, Option.getD_some]
      go_wp2
      refine bodyPost_ret (v := .tuple #[.int .i64 x, .int .i64 16]) (by first | (simp [results, Try.results9, go_sem]; done) | (simp [results, Try.results9, go_sem, *]; done) | (simp [results, Try.results9, go_sem, World.cell?_setCell_same', *]; done) | (simp [results, Try.results9, go_sem]; first | exact ⟨rfl, rfl⟩ | rfl)) rfl ⟨by rw [hV.out, hE.out]; rfl, hbe4⟩
  · have hV : Hid (tgtV I ls s = blmV I ls s) := hid (if_pos he)
    have hE : Hid (tgtE I ls s = blmE I ls s) := hid (if_pos he)
    obtain ⟨ev, hev⟩ : ∃ ev, blmE I ls s = ev := ⟨_, rfl⟩
    obtain ⟨bv, hbv⟩ : ∃ bv, blmV I ls s = bv := ⟨_, rfl⟩
    rw [hev] at hE HC he
    rw [hbv] at hV HC
    have hbi : (ev != 0) = true := by simpa using he
    clear hev hbv
    go_enter Try.func9, Try.ntmps9
    go_wp2_with (fail)
    refine (HC.out _ (HL.out.below (by repeat' (first | with_reducible assumption | with_reducible exact Below.refl _ _ | refine Below.alloc ?_ ?_ _ | refine Below.setCell ?_ ?_ _ | refine Below.drew ?_ | refine below_drewN ?_ _ | (simp; done) | (simp; omega) | omega)) (by first | (simp; done) | (simp; omega) | omega)) (HS.out.below (by repeat' (first | with_reducible assumption | with_reducible exact Below.refl _ _ | refine Below.alloc ?_ ?_ _ | refine Below.setCell ?_ ?_ _ | refine Below.drew ?_ | refine below_drewN ?_ _ | (simp; done) | (simp; omega) | omega)) (by first | (simp; done) | (simp; omega) | omega))).mono ?_
    rintro e w1 ⟨rfl, hb1⟩
    have hbel : Below w.heap.size w w1 := Below.trans (by repeat' (first | with_reducible assumption | with_reducible exact Below.refl _ _ | refine Below.alloc ?_ ?_ _ | refine Below.setCell ?_ ?_ _ | refine Below.drew ?_ | refine below_drewN ?_ _ | (simp; done) | (simp; omega) | omega)) (hb1.mono (by first | (simp; done) | (simp; omega) | omega))
    go_wp2
    refine bodyPost_ret (v := .tuple #[.int .i64 bv, .int .i64 ev]) (by first | (simp [results, Try.results9, go_sem]; done) | (simp [results, Try.results9, go_sem, *]; done) | (simp [results, Try.results9, go_sem, World.cell?_setCell_same', *]; done) | (simp [results, Try.results9, go_sem]; first | exact ⟨rfl, rfl⟩ | rfl)) rfl ⟨by rw [hV.out, hE.out], hbel⟩
end Go.Proofs.Ytnpilfpackdimaa
/- A scope in which no goto is met, within a fence. Over any program. -/
namespace Go.Proofs.Ytnpilfpackdimaa
open Go.RowKit
section
variable {P : Program} {b : Frame} {a : Act} {k : List Item} {cs : List Frame} {w : World}
theorem stepR_scope {c : Code} : step P (lone (b.atR a (.code (.scope c) :: k)) cs w) = .next (lone (b.atR a (.code c :: .inScope c :: k)) cs w) :=
  step_lone_go (by simp [stepG, stepG.exec, Frame.atR])
theorem stepR_inScope {c : Code} : step P (lone (b.atR a (.inScope c :: k)) cs w) = .next (lone (b.atR a k) cs w) :=
  step_lone_go (by simp [stepG, stepG.exec, Frame.atR])
end
theorem wpIn_scope {F : Fence} {n : Nat} {P : Program} {Q : Exit → Act → World → Prop} {a : Act} {w : World} {c : Code} (h : c.wpIn F n P (Exit.noGoto Q) a w) : (Code.scope c).wpIn F n P Q a w := by
  intro b k cs hro hb hr
  have h0 : (lone (b.atR a (.code (.scope c) :: k)) cs w).fenced P F := fenced_calm hb hr rfl
  obtain ⟨e, a₁, w₁, hq, harr⟩ := h b (.inScope c :: k) cs hro hb hr
  cases e with
  | normal => exact ⟨.normal, a₁, w₁, hq, .head h0 stepR_scope (StepsIn.trans harr (.one (fenced_calm hb hr rfl) stepR_inScope))⟩
  | exit id =>
    have hx : exitTo id (.inScope c :: k) = exitTo id k := by simp [exitTo]
    exact ⟨.exit id, a₁, w₁, hq, fun k' hk => .head h0 stepR_scope (harr.1 k' (by rw [hx]; exact hk)),
      fun hr' hk => let ⟨k₁, h1, h2⟩ := harr.2 hr' (by rw [hx]; exact hk); ⟨k₁, h1, .head h0 stepR_scope h2⟩⟩
  | goto l => exact hq.elim
  | ret => exact ⟨_, a₁, w₁, hq, .of_steps (.one h0 stepR_scope) harr⟩
  | panic ch => exact ⟨_, a₁, w₁, hq, .of_steps (.one h0 stepR_scope) harr⟩
  | outgrown => exact ⟨_, a₁, w₁, hq, .of_steps (.one h0 stepR_scope) harr⟩
end Go.Proofs.Ytnpilfpackdimaa
/- (As R, but an iterator that never writes into cells that have been there: what it hands on may be kept.) A range over a function, where the loop's blocks are told apart from the iterator's: an iterator may hand on what it ranges over. Over any program. -/
namespace Go.Proofs.Ytnpilfpackdimaa
open Go.RowKit
/-- The blocks that a loop holds as its own. -/
abbrev Foot := Nat → Prop
/-- From W to W' only blocks of the loop have turned; new ones may be its own. -/
structure Grow (own : Foot) (W : World) (own' : Foot) (W' : World) : Prop where
  os : W'.os = W.os
  tape : W'.tape = W.tape
  output : W'.output = W.output
  size : W.heap.size ≤ W'.heap.size
  from_ : ∀ k, own' k → own k ∨ W.heap.size ≤ k
  lt : ∀ k, own' k → k < W'.heap.size
  same : ∀ k, k < W.heap.size → ¬ own k → W'.heap[k]? = W.heap[k]?
theorem Grow.refl {own : Foot} {W : World} (h : ∀ k, own k → k < W.heap.size) : Grow own W own W := ⟨rfl, rfl, rfl, Nat.le_refl _, fun _ h => .inl h, h, fun _ _ _ => rfl⟩
theorem Grow.trans {o₁ o₂ o₃ : Foot} {A B C : World} (h : Grow o₁ A o₂ B) (k : Grow o₂ B o₃ C) : Grow o₁ A o₃ C := by
  refine ⟨k.os.trans h.os, k.tape.trans h.tape, k.output.trans h.output, Nat.le_trans h.size k.size, fun i hi => ?_, k.lt, fun i hi hn => ?_⟩
  · rcases k.from_ i hi with h1 | h1
    · exact h.from_ i h1
    · exact .inr (Nat.le_trans h.size h1)
  · refine (k.same i (Nat.lt_of_lt_of_le hi h.size) (fun h1 => ?_)).trans (h.same i hi hn)
    rcases h.from_ i h1 with h2 | h2
    · exact hn h2
    · omega
/-- What is said of the loop's blocks, and of those below s, stays while others turn. -/
def Stab {β : Type} (s : Nat) (J : β → Foot → World → Prop) : Prop := ∀ x own W W', J x own W → (∀ k, (k < s ∨ own k ∨ ∃ o : Obj, W.heap[k]? = some o ∧ o.isCells = true) → k < W.heap.size → W'.heap[k]? = W.heap[k]?) → W.heap.size ≤ W'.heap.size → W'.os = W.os → W'.tape = W.tape → W'.output = W.output → J x own W'
theorem room_none {F : Fence} (hd : F.depth = none) (k : Nat) : F.room k := fun d h => by rw [hd] at h; cases h
theorem RoundIn.any {F : Fence} (hd : F.depth = none) {m m' : Nat} {P : Program} {l : Nat} {f : FuncId} {tmps : Array Value} {assign body : Code} {w : World} {R : Ending → World → Prop}
    (h : RoundIn F m P l f tmps assign body w R) : RoundIn F m' P l f tmps assign body w R := ⟨h.1, fun c cs _ => h.2 c cs (room_none hd _)⟩
/-- What a loop promises for an element that has come, and what it asks. -/
def Takes {α : Type} (F : Fence) (P : Program) (l : Nat) (encs : α → Array Value) (Rd : α → World → Prop) (Nb : Nat) (J Jx : List α → Foot → World → Prop) : Prop :=
  ∀ m pre own x W, J pre own W → pre.length < Nb → (∀ k, own k → k < W.heap.size) → Rd x W → YieldAt F m P l (encs x) W fun e W' =>
    (e = .returned (.bool true) ∧ ∃ own', J (pre ++ [x]) own' W' ∧ Grow own W own' W') ∨ (e = .returned (.bool false) ∧ ∃ own', Jx (pre ++ [x]) own' W' ∧ Grow own W own' W')
/-- What an iterator promises whatever the loop: own₀ are the loop's blocks at the start. -/
def Gives {α : Type} (F : Fence) (P : Program) (gf : FuncId) (lb : Array Value) (encs : α → Array Value) (Rd : α → World → Prop) (Nb : Nat) (S Sp : List α → Prop) (own₀ : Foot) (W : World) : Prop :=
  ∀ (d l : Nat) (J Jx : List α → Foot → World → Prop), Stab W.heap.size J → Stab W.heap.size Jx → Takes F P l encs Rd Nb J Jx → (∀ k, own₀ k → k < W.heap.size) → J [] own₀ W →
    CallsIn F d P gf (#[.func (.yield l) #[] #[]] ++ lb) W fun e W' => (∃ v, e = .returned v) ∧
      ((∃ xs own', S xs ∧ J xs own' W' ∧ Grow own₀ W own' W') ∨ (∃ pre own', Sp pre ∧ Jx pre own' W' ∧ Grow own₀ W own' W'))
/-- How the body of such a round may be left. -/
def footPost {α : Type} (I : List α → Foot → World → Prop) (Ix : Code → List α → Foot → World → Prop) (xs : List α) (own : Foot) (W : World) : Exit → Act → World → Prop
  | .normal, _, W' => ∃ own', I xs own' W' ∧ Grow own W own' W'
  | .ret, _, W' => ∃ own', Ix .ret xs own' W' ∧ Grow own W own' W'
  | .exit id, _, W' => ∃ own', Ix (.exit id) xs own' W' ∧ Grow own W own' W'
  | _, _, _ => False
theorem wpIn_rangeFunc_foot {F : Fence} {n : Nat} {P : Program} {α : Type} {g : Operand} {ps : Array Tmp} {assign body : Code} {Q : Exit → Act → World → Prop} {a : Act} {w : World} (B : Nat) (hB : w.heap.size = B)
    (hd : F.depth = none) (hro : F.round = none) {gf : Nat} {lb : Array Value} (hg : a.eval g = .func (.func gf) #[] lb) (hFg : F.fn gf) (eg : ∀ args w, (callFunc gf args).run P w = .ok (.enter gf args) w)
    {encs : α → Array Value} {Rd : α → World → Prop} {Nb : Nat} {S Sp : List α → Prop} (own₀ : Foot) (hown : ∀ k, own₀ k → k < B)
    (hseq : ∀ W, Below B w W → Gives F P gf lb encs Rd Nb S Sp (fun k => own₀ k ∨ k = B ∨ k = B + 1) W)
    (hRd : ∀ x W W', Rd x W → (∀ (k : Nat) (o : Obj), W.heap[k]? = some o → o.isCells = true → W'.heap[k]? = some o) → W.heap.size ≤ W'.heap.size → Rd x W') (hps : ∀ x, (encs x).size = ps.size)
    (I : List α → Foot → World → Prop) (Ix : Code → List α → Foot → World → Prop) (hI : Stab B I) (hIx : ∀ c, Stab B (Ix c)) (h0 : I [] own₀ w)
    (Ax : α → Act → World → Prop)
    (hassign : ∀ (l : Nat) (x : α) (W : World) (K : Act → World → Prop), Rd x W → B + 2 ≤ W.heap.size → (∀ a' W', Below W.heap.size W W' → Ax x a' W' → K a' W') →
      assign.wpIn (F.inRound l) (n - 1 - 1) P (Exit.then K (fun _ _ _ => False)) { tmps := (ps.zip (encs x)).foldl (fun t (p, v) => t.setIfInBounds p v) a.tmps, defers := [] } W)
    (hAx : ∀ x a' W o, Ax x a' W → Ax x a' (W.putObj (B + 1) o))
    (hbody : ∀ (l : Nat) (pre : List α) (own : Foot) (x : α) (a' : Act) (W : World), I pre own W → pre.length < Nb → (∀ k, own k → k < W.heap.size) → (∀ k, own k → k ≠ B ∧ k ≠ B + 1) → Rd x W → Ax x a' W → B + 2 ≤ W.heap.size → body.wpIn (F.inRound l) (n - 1 - 1) P (footPost I Ix (pre ++ [x]) own W) a' W)
    (hdone : ∀ (D : Nat) (xs : List α) (own' : Foot) (W : World), B ≤ D → S xs → I xs own' W → Grow own₀ w own' W → (∀ k, own' k → k ≠ B ∧ k ≠ B + 1) → D = B → W.heap[D]? = some (.deferred (some [])) → Q .normal { a with defers := { target := .collected D, args := #[] } :: a.defers } W)
    (hstop : ∀ (D : Nat) (c : Code) (pre : List α) (own' : Foot) (W : World), B ≤ D → Sp pre → Ix c pre own' W → Grow own₀ w own' W → (∀ k, own' k → k ≠ B ∧ k ≠ B + 1) → D = B → W.heap[D]? = some (.deferred (some [])) → c.wpIn F n P Q { a with defers := { target := .collected D, args := #[] } :: a.defers } W) :
    (Code.rangeFunc g ps assign body).wpIn F n P Q a w := by
  refine wpIn_rangeFunc fun fn hfn => ?_
  rw [hro]
  let rec_ : LoopState → Option Code → Loop := fun st pe => { state := st, pending := pe, fn, tmps := a.tmps, params := ps, assign, body, defers := B }
  obtain ⟨W1, hW1⟩ : ∃ W1, (w.alloc (.deferred (some []))).alloc (.loop (rec_ .ready none)) = W1 := ⟨_, rfl⟩
  have hz1 : W1.heap.size = B + 2 := by rw [← hW1]; simp [hB]
  have hL1 : W1.heap[B + 1]? = some (.loop (rec_ .ready none)) := by
    rw [← hW1, ← hB]; have := World.alloc_heap_new (w.alloc (.deferred (some []))) (.loop (rec_ .ready none)); rwa [World.size_alloc] at this
  have hK1 : W1.heap[B]? = some (.deferred (some [])) := by
    rw [← hW1, ← hB]; exact (Below.heap_alloc _ _ _ (by simp)).trans (World.alloc_heap_new w _)
  have hb1 : Below B w W1 := by
    rw [← hW1, ← hB]; exact ((Below.refl _ w).alloc (Nat.le_refl _) _).alloc (by simp) _
  have hg1 : ∀ own, (∀ k, own k → k < B) → Grow own w own W1 := fun own h => ⟨hb1.os, hb1.tape, hb1.output, by omega, fun _ h => .inl h, fun k hk => by have := h k hk; omega, fun k hk _ => hb1.block k (by omega)⟩
  -- a put of the loop's own record
  have put : ∀ {β : Type} (J : β → Foot → World → Prop) (x : β) (own : Foot) (W : World) (o : Obj), Stab B J → J x own W → (∀ k, own k → k ≠ B ∧ k ≠ B + 1) → (∃ r, W.heap[B + 1]? = some (.loop r)) → J x own (W.putObj (B + 1) o) := fun J x own W o hJ h hne hr =>
    hJ x own W _ h (fun k hk _ => World.putObj_heap_other (by
      rcases hk with h | h | ⟨o', ho, hc⟩
      · omega
      · exact (hne k h).2
      · rintro rfl
        obtain ⟨r, hr⟩ := hr
        rw [hr] at ho; cases ho; cases hc)) (by simp [World.putObj]) rfl rfl rfl
  let J : List α → Foot → World → Prop := fun pre own W => ∃ oi : Foot, (∀ k, own k ↔ oi k ∨ k = B ∨ k = B + 1) ∧ (∀ k, oi k → k ≠ B ∧ k ≠ B + 1) ∧ I pre oi W ∧ W.heap[B + 1]? = some (.loop (rec_ .ready none)) ∧ W.heap[B]? = some (.deferred (some [])) ∧ Grow own₀ w oi W
  let Jx : List α → Foot → World → Prop := fun pre own W => ∃ oi : Foot, ∃ c, (∀ k, own k ↔ oi k ∨ k = B ∨ k = B + 1) ∧ (∀ k, oi k → k ≠ B ∧ k ≠ B + 1) ∧ Ix c pre oi W ∧ W.heap[B + 1]? = some (.loop (rec_ .done (some c))) ∧ W.heap[B]? = some (.deferred (some [])) ∧ Grow own₀ w oi W
  have growS : ∀ {own oi : Foot} {W W' : World}, Grow own₀ w oi W → (∀ k, k < W1.heap.size → W'.heap[k]? = W.heap[k]?) → W.heap.size ≤ W'.heap.size → W'.os = W.os → W'.tape = W.tape → W'.output = W.output → Grow own₀ w oi W' := fun h hk hz h1 h2 h3 =>
    ⟨h1.trans h.os, h2.trans h.tape, h3.trans h.output, Nat.le_trans h.size hz, h.from_, fun k hk' => Nat.lt_of_lt_of_le (h.lt k hk') hz, fun k hk' hn => (hk k (by omega)).trans (h.same k hk' hn)⟩
  have hJs : Stab W1.heap.size J := by
    rintro pre own W W' ⟨oi, h1, h2, h3, h4, h5, h6⟩ hk hz e1 e2 e3
    refine ⟨oi, h1, h2, hI pre oi W W' h3 (fun k hk' hlt => hk k (by rcases hk' with h | h | h; exact .inl (by omega); exact .inr (.inl ((h1 k).2 (.inl h))); exact .inr (.inr h)) hlt) hz e1 e2 e3, (hk _ (.inl (by omega)) (Array.getElem?_eq_some_iff.1 h4).1).trans h4, (hk _ (.inl (by omega)) (Array.getElem?_eq_some_iff.1 h5).1).trans h5, ?_⟩
    exact growS (own := own) h6 (fun k hk' => hk k (.inl hk') (by have := (Array.getElem?_eq_some_iff.1 h4).1; omega)) hz e1 e2 e3
  have hJxs : Stab W1.heap.size Jx := by
    rintro pre own W W' ⟨oi, c, h1, h2, h3, h4, h5, h6⟩ hk hz e1 e2 e3
    refine ⟨oi, c, h1, h2, hIx c pre oi W W' h3 (fun k hk' hlt => hk k (by rcases hk' with h | h | h; exact .inl (by omega); exact .inr (.inl ((h1 k).2 (.inl h))); exact .inr (.inr h)) hlt) hz e1 e2 e3, (hk _ (.inl (by omega)) (Array.getElem?_eq_some_iff.1 h4).1).trans h4, (hk _ (.inl (by omega)) (Array.getElem?_eq_some_iff.1 h5).1).trans h5, ?_⟩
    exact growS (own := own) h6 (fun k hk' => hk k (.inl hk') (by have := (Array.getElem?_eq_some_iff.1 h4).1; omega)) hz e1 e2 e3
  refine ⟨B + 1, [{ target := .collected B, args := #[] }], W1, { target := .fn (.func gf) lb, args := #[.func (.yield (B + 1)) #[] #[]] }, W1, gf, #[.func (.yield (B + 1)) #[] #[]] ++ lb, W1, ?_, ?_, ?_, ?_, ?_, ?_⟩
  · rw [← hW1]
    have := run_enterLoop_outer (P := P) (w := w) fn a.tmps ps assign body
    rw [hB] at this
    exact this
  · simp only [resolve, hg]; simp [go_sem]
  · intro f' hf'; simp [Target.leads] at hf'; subst hf'; exact hFg
  · simp [invoke, go_sem, eg]
  · intro h; rw [hd] at h; cases h
  refine (hseq W1 hb1 (n - 1) (B + 1) J Jx hJs hJxs ?_ (fun k hk => by rcases hk with h | h | h; have := hown k h; omega; omega; omega) ⟨own₀, fun k => Iff.rfl, fun k hk => by have := hown k hk; omega, ?_, hL1, hK1, hg1 _ hown⟩).mono ?_
  · -- one round
    rintro m pre own x W ⟨oi, h1, h2, h3, hl, hk, hgr⟩ hNb hlt hrd
    have hy := run_yield (P := P) (args := encs x) hl (hps x)
    have hBW : B + 2 ≤ W.heap.size := by have := (Array.getElem?_eq_some_iff.1 hl).1; omega
    refine ⟨fn, _, assign, body, hy, RoundIn.any hd (m := n - 1 - 1) (roundIn_of_wpIn hfn (hassign _ x W _ hrd hBW ?_))⟩
    intro a' Wa hba hax
    have hla := (hba.block _ (Array.getElem?_eq_some_iff.1 hl).1).trans hl
    have hka := (hba.block _ (Array.getElem?_eq_some_iff.1 hk).1).trans hk
    have hIa : I pre oi Wa := hI pre oi W Wa h3 (fun k _ hlt' => hba.block k hlt') hba.size hba.os hba.tape hba.output
    have hrda : Rd x Wa := hRd x W Wa hrd (fun k o ho _ => (hba.block k (Array.getElem?_eq_some_iff.1 ho).1).trans ho) hba.size
    have hga : Grow oi W oi Wa := ⟨hba.os, hba.tape, hba.output, hba.size, fun _ h => .inl h, fun k hk' => Nat.lt_of_lt_of_le (hlt k ((h1 k).2 (.inl hk'))) hba.size, fun k hk' _ => hba.block k hk'⟩
    refine ⟨_, run_beginRound hla rfl, ?_⟩
    obtain ⟨W2, hW2⟩ : ∃ W2, Wa.putObj (B + 1) (.loop { rec_ .ready none with state := .busy }) = W2 := ⟨_, rfl⟩
    have hl2 : W2.heap[B + 1]? = some (.loop { rec_ .ready none with state := .busy }) := by rw [← hW2]; exact World.putObj_heap_same (Array.getElem?_eq_some_iff.1 hla).1
    have hk2 : W2.heap[B]? = some (.deferred (some [])) := by rw [← hW2]; exact (World.putObj_heap_other (by omega)).trans hka
    have hz2 : W2.heap.size = Wa.heap.size := by rw [← hW2]; simp [World.putObj]
    have hI2 : I pre oi W2 := by rw [← hW2]; exact put I pre oi Wa _ hI hIa h2 ⟨_, hla⟩
    have hlt2 : ∀ k, oi k → k < W2.heap.size := fun k hk' => by have := hga.lt k hk'; omega
    have hrd2 : Rd x W2 := by
      refine hRd x Wa W2 hrda (fun k o ho hc => ?_) (by omega)
      rw [← hW2]
      refine (World.putObj_heap_other (fun e => ?_)).trans ho
      subst e; rw [hla] at ho; cases ho; cases hc
    have hg02 : ∀ k, k < W.heap.size → k ≠ B + 1 → W2.heap[k]? = W.heap[k]? := fun k hk' hne => by
      rw [← hW2]; exact (World.putObj_heap_other (fun e => hne (by omega))).trans (hba.block k hk')
    show Code.wpIn (F.inRound (B + 1)) (n - 1 - 1) P body _ a' (Wa.putObj (B + 1) (.loop { rec_ .ready none with state := .busy }))
    rw [hW2]
    have hax2 : Ax x a' W2 := by rw [← hW2]; exact hAx x a' Wa _ hax
    refine wpIn_mono (hbody _ pre oi x a' W2 hI2 hNb hlt2 h2 hrd2 hax2 (by have := hba.size; omega)) ?_
    -- behind the body
    have fin : ∀ (jump : Option Code) (own' : Foot) (W3 : World), Grow oi W2 own' W3 →
        (Instr.endRound (B + 1) jump).run P W3 = .ok (.bool jump.isNone) (W3.putObj (B + 1) (.loop (rec_ (if jump.isNone then .ready else .done) jump))) ∧
        (∀ k, own' k → k ≠ B ∧ k ≠ B + 1) ∧ (∃ r, W3.heap[B + 1]? = some (.loop r)) ∧ (W3.putObj (B + 1) (.loop (rec_ (if jump.isNone then .ready else .done) jump))).heap[B + 1]? = some (.loop (rec_ (if jump.isNone then .ready else .done) jump)) ∧
        (W3.putObj (B + 1) (.loop (rec_ (if jump.isNone then .ready else .done) jump))).heap[B]? = some (.deferred (some [])) ∧
        Grow own W (fun k => own' k ∨ k = B ∨ k = B + 1) (W3.putObj (B + 1) (.loop (rec_ (if jump.isNone then .ready else .done) jump))) ∧ Grow own₀ w own' (W3.putObj (B + 1) (.loop (rec_ (if jump.isNone then .ready else .done) jump))) := by
      intro jump own' W3 hg3
      have hl3 := (hg3.same _ (Array.getElem?_eq_some_iff.1 hl2).1 (fun h => (h2 _ h).2 rfl)).trans hl2
      have hk3 := (hg3.same _ (Array.getElem?_eq_some_iff.1 hk2).1 (fun h => (h2 _ h).1 rfl)).trans hk2
      have hne : ∀ k, own' k → k ≠ B ∧ k ≠ B + 1 := fun k hk' => by
        rcases hg3.from_ k hk' with h | h
        · exact h2 k h
        · have := hba.size; omega
      have hsz : (W3.putObj (B + 1) (.loop (rec_ (if jump.isNone then .ready else .done) jump))).heap.size = W3.heap.size := by simp [World.putObj]
      have e1 : W2.os = W.os := by rw [← hW2]; exact hba.os
      have e2 : W2.tape = W.tape := by rw [← hW2]; exact hba.tape
      have e3 : W2.output = W.output := by rw [← hW2]; exact hba.output
      have hzW : W.heap.size ≤ W3.heap.size := by have := hba.size; have := hg3.size; omega
      refine ⟨run_endRound jump hl3, hne, ⟨_, hl3⟩, World.putObj_heap_same (Array.getElem?_eq_some_iff.1 hl3).1, (World.putObj_heap_other (by omega)).trans hk3, ⟨hg3.os.trans e1, hg3.tape.trans e2, hg3.output.trans e3, by omega, fun k hk' => ?_, fun k hk' => ?_, fun k hk' hn => ?_⟩, ⟨hg3.os.trans (e1.trans hgr.os), hg3.tape.trans (e2.trans hgr.tape), hg3.output.trans (e3.trans hgr.output), by have := hgr.size; omega, fun k hk' => ?_, fun k hk' => by rw [hsz]; exact hg3.lt k hk', fun k hk' hn => ?_⟩⟩
      · rcases hk' with h | h
        · rcases hg3.from_ k h with h4 | h4
          · exact .inl ((h1 k).2 (.inl h4))
          · right; have := hba.size; omega
        · exact .inl ((h1 k).2 (.inr h))
      · rw [hsz]
        rcases hk' with h | h
        · exact hg3.lt k h
        · omega
      · have hn1 : k ≠ B + 1 := fun e => hn ((h1 k).2 (.inr (.inr e)))
        exact (World.putObj_heap_other (fun e => hn1 (by omega))).trans ((hg3.same k (by have := hba.size; omega) (fun h => hn ((h1 k).2 (.inl h)))).trans (hg02 k hk' hn1))
      · rcases hg3.from_ k hk' with h4 | h4
        · exact hgr.from_ k h4
        · right; have := hba.size; have := hgr.size; omega
      · have hkB : k ≠ B + 1 := by omega
        have hni : ¬ oi k := fun h => by
          rcases hgr.from_ k h with h4 | h4
          · exact hn h4
          · omega
        exact (World.putObj_heap_other (fun e => hkB (by omega))).trans ((hg3.same k (by have := hba.size; have := hgr.size; omega) hni).trans ((hg02 k (by have := hgr.size; omega) hkB).trans (hgr.same k hk' hn)))
    rintro e a3 W3 hp
    cases e with
    | normal =>
      obtain ⟨own', hi3, hg3⟩ := hp
      obtain ⟨q1, q2, qr, q3, q4, q5, q6⟩ := fin none own' W3 hg3
      exact ⟨_, _, q1, .inl ⟨rfl, _, ⟨own', fun k => Iff.rfl, q2, put I _ own' W3 _ hI hi3 q2 qr, q3, q4, q6⟩, q5⟩⟩
    | ret =>
      obtain ⟨own', hi3, hg3⟩ := hp
      obtain ⟨q1, q2, qr, q3, q4, q5, q6⟩ := fin (some .ret) own' W3 hg3
      exact ⟨_, _, q1, .inr ⟨rfl, _, ⟨own', _, fun k => Iff.rfl, q2, put (Ix .ret) _ own' W3 _ (hIx _) hi3 q2 qr, q3, q4, q6⟩, q5⟩⟩
    | exit id =>
      obtain ⟨own', hi3, hg3⟩ := hp
      obtain ⟨q1, q2, qr, q3, q4, q5, q6⟩ := fin (some (.exit id)) own' W3 hg3
      exact ⟨_, _, q1, .inr ⟨rfl, _, ⟨own', _, fun k => Iff.rfl, q2, put (Ix (.exit id)) _ own' W3 _ (hIx _) hi3 q2 qr, q3, q4, q6⟩, q5⟩⟩
    | goto t => exact hp.elim
    | panic ch => exact hp.elim
    | outgrown => exact hp.elim
  · -- at the start
    exact hI [] own₀ w W1 h0 (fun k _ hlt => hb1.block k (by omega)) (by omega) hb1.os hb1.tape hb1.output
  · -- behind the iterator
    have put' : ∀ (W : World) (o : Obj) (own : Foot), Grow own₀ w own W → Grow own₀ w own (W.putObj (B + 1) o) := fun W o own h => ⟨h.os, h.tape, h.output, by have := h.size; simpa [World.putObj] using this, h.from_, fun k hk => by have := h.lt k hk; simpa [World.putObj] using this, fun k hk hn => (World.putObj_heap_other (by omega)).trans (h.same k hk hn)⟩
    rintro e W2 ⟨⟨v, rfl⟩, (⟨xs, own', hS, ⟨oi, h1, h2, h3, hl, hk, hgr⟩, -⟩ | ⟨pre, own', hSp, ⟨oi, c, h1, h2, h3, hl, hk, hgr⟩, -⟩)⟩
    · exact ⟨none, _, run_endLoop (P := P) hl (by simp [rec_]), hdone _ xs oi _ (Nat.le_refl _) hS (put I _ oi W2 _ hI h3 h2 ⟨_, hl⟩) (put' _ _ _ hgr) h2 rfl ((World.putObj_heap_other (by omega)).trans hk)⟩
    · exact ⟨some c, _, run_endLoop (P := P) hl (by simp [rec_]), hstop _ c pre oi _ (Nat.le_refl _) hSp (put (Ix c) _ oi W2 _ (hIx c) h3 h2 ⟨_, hl⟩) (put' _ _ _ hgr) h2 rfl ((World.putObj_heap_other (by omega)).trans hk)⟩
/-! Marks beside a loop's own blocks. -/
def MarksO (own : Foot) (B M : Nat) (W : World) (ds : List Deferred) : Prop := ∃ Ds : List Nat, ds = Ds.map markOf ∧ Ds.Nodup ∧ ∀ D ∈ Ds, B ≤ D ∧ D < M ∧ ¬ own D ∧ W.heap[D]? = some (.deferred (some []))
theorem MarksO.nil (own : Foot) (B M : Nat) (W : World) : MarksO own B M W [] := ⟨[], rfl, List.nodup_nil, fun _ h => by cases h⟩
theorem MarksO.step {own own' : Foot} {B M M' : Nat} {W W' : World} {ds : List Deferred} (h : MarksO own B M W ds) (hM : M ≤ M') (ho : ∀ D, D < M → ¬ own D → ¬ own' D) (hk : ∀ D, D < M → ¬ own D → W'.heap[D]? = W.heap[D]?) : MarksO own' B M' W' ds := by
  obtain ⟨Ds, rfl, h1, h2⟩ := h
  refine ⟨Ds, rfl, h1, fun D hD => ?_⟩
  obtain ⟨q1, q2, q3, q4⟩ := h2 D hD
  exact ⟨q1, by omega, ho D q2 q3, (hk D q2 q3).trans q4⟩
theorem MarksO.push {own : Foot} {B M D : Nat} {W : World} {ds : List Deferred} (h : MarksO own B M W ds) (hB : B ≤ D) (hM : M ≤ D) (ho : ¬ own D) (hD : W.heap[D]? = some (.deferred (some []))) : MarksO own B (D + 1) W ({ target := .collected D, args := #[] } :: ds) := by
  obtain ⟨Ds, rfl, h1, h2⟩ := h
  refine ⟨D :: Ds, rfl, List.nodup_cons.2 ⟨fun hm => by have := (h2 D hm).2.1; omega, h1⟩, fun D' hD' => ?_⟩
  rcases List.mem_cons.1 hD' with rfl | hm
  · exact ⟨hB, by omega, ho, hD⟩
  · have := h2 D' hm
    exact ⟨this.1, by omega, this.2.2⟩
theorem MarksO.leaves {own : Foot} {B M : Nat} {P : Program} {n : Nat} {fn : Func} {tmps : Array Value} {R : Ending → World → Prop} {W : World} {ds : List Deferred} (h : MarksO own B M W ds)
    (hR : ∀ Ds w', (∀ D ∈ Ds, B ≤ D ∧ ¬ own D) → Off Ds W w' → ∃ v, (results fn tmps).run P w' = .ok v w' ∧ R (.returned v) w') : LeavesInM (Wd none) n P fn tmps R ds .returning W := by
  obtain ⟨Ds, rfl, h1, h2⟩ := h
  exact leavesM_marks Ds W h1 (fun D hD => (h2 D hD).2.2.2) (fun w' ho => hR Ds w' (fun D hD => ⟨(h2 D hD).1, (h2 D hD).2.2.1⟩) ho)
end Go.Proofs.Ytnpilfpackdimaa
/- Beside the law of range-func with footprints: small laws. -/
namespace Go.Proofs.Ytnpilfpackdimaa
open Go.RowKit Go.Shelf
theorem cells_of_cell {W : World} {p : Addr} {u : Value} (h : W.cell? p = some u) : ∃ o : Obj, W.heap[p.block]? = some o ∧ o.isCells = true := by
  unfold World.cell? at h
  cases ho : W.heap[p.block]? with
  | none => simp [ho] at h
  | some o => cases o <;> first | exact ⟨_, rfl, rfl⟩ | simp [ho] at h
theorem ins_at {w w' : World} {B B' n : Nat} {A : Option Addr} {l : List Int} (h : InS w B A n l) (hB : B ≤ B') (hk : ∀ b off, A = some ⟨b, off, none⟩ → b < B → w'.heap[b]? = w.heap[b]?) : InS w' B' A n l :=
  ⟨h.1, fun hn => by
    obtain ⟨b, off, e, hb, hc⟩ := h.2 hn
    exact ⟨b, off, e, by omega, fun j u hu => (World.cell?_of_block (hk b off e hb)).trans (hc j u hu)⟩⟩
theorem grow_below {own : Foot} {W W' : World} (h : ∀ k, own k → k < W.heap.size) (hb : Below W.heap.size W W') : Grow own W own W' := ⟨hb.os, hb.tape, hb.output, hb.size, fun _ h => .inl h, fun k hk => Nat.lt_of_lt_of_le (h k hk) hb.size, fun k hk _ => hb.block k hk⟩
theorem grow_off {own : Foot} {W W' : World} {Ds : List Nat} {o₀ : Foot} {W0 : World} (h : Grow o₀ W0 own W) (ho : Off Ds W W') (hD : ∀ D ∈ Ds, W0.heap.size ≤ D) : Grow o₀ W0 own W' :=
  ⟨ho.os.trans h.os, ho.tape.trans h.tape, ho.output.trans h.output, by rw [ho.size]; exact h.size, h.from_, fun k hk => by rw [ho.size]; exact h.lt k hk, fun k hk hn => (ho.block k (fun hm => by have := hD k hm; omega)).trans (h.same k hk hn)⟩
theorem stab_off {β : Type} {s : Nat} {J : β → Foot → World → Prop} (hJ : Stab s J) {x : β} {own : Foot} {W W' : World} {Ds : List Nat} (h : J x own W) (ho : Off Ds W W') (hD : ∀ D ∈ Ds, s ≤ D ∧ ¬ own D) : J x own W' :=
  hJ x own W W' h (fun k hk _ => ho.block k (fun hm => by
    have := hD k hm
    rcases hk with h1 | h1 | ⟨o, h1, h2⟩
    · omega
    · exact this.2 h1
    · rw [ho.was k hm] at h1; cases h1; cases h2)) (by rw [ho.size]; exact Nat.le_refl _) ho.os ho.tape ho.output
theorem YieldAt.one {F : Fence} {m : Nat} {P : Program} {l : Nat} {args : Array Value} {W : World} {R R' : World → Prop} (hd : F.depth = none) (m' : Nat)
    (h : YieldAt F m P l args W fun e W' => (e = .returned (.bool true) ∧ R W') ∨ (e = .returned (.bool false) ∧ R' W')) :
    ∃ fn tmps assign body, (Instr.yield l args).run P W = .ok (.round l fn tmps assign body) W ∧ RoundIn F m' P l fn tmps assign body W (fun e W' => ∃ bv : Bool, e = .returned (.bool bv) ∧ (bv = true → R W') ∧ (bv = false → R' W')) := by
  obtain ⟨fn, tmps, assign, body, hy, hR⟩ := h
  refine ⟨fn, tmps, assign, body, hy, RoundIn.any hd (m := m) (RoundIn.mono hR ?_)⟩
  rintro e W' (⟨rfl, hr⟩ | ⟨rfl, hr⟩)
  · exact ⟨true, rfl, fun _ => hr, fun h => absurd h (by decide)⟩
  · exact ⟨false, rfl, fun h => absurd h (by decide), fun _ => hr⟩
theorem stab_mono {β : Type} {s s' : Nat} {J : β → Foot → World → Prop} (h : Stab s J) (hs : s ≤ s') : Stab s' J := fun x own W W' h0 hk hz e1 e2 e3 => h x own W W' h0 (fun k hk' => hk k (by rcases hk' with h1 | h1; exact .inl (by omega); exact .inr h1)) hz e1 e2 e3
theorem roundIn_wd {r : Nat} {m : Nat} {P : Program} {l : Nat} {f : FuncId} {tmps : Array Value} {assign body : Code} {w : World} {R : Ending → World → Prop} (h : RoundIn (Wd none) m P l f tmps assign body w R) : RoundIn (Wd (some r)) m P l f tmps assign body w R := h
theorem owns_same {V V' : World} {base e s n : Nat} {v : Value} {xs : List Value} (h : V.ownsRow base e s v n xs) (hk : ∀ q, v.ownBlock = some q → V'.heap[q]? = V.heap[q]?) : V'.ownsRow base e s v n xs := by
  refine ⟨h.1, h.2.imp id ?_⟩
  rintro ⟨g', cap, cur, e1, h1, h2, h3⟩
  exact ⟨g', cap, cur, e1, h1, (hk g' (by rw [e1]; rfl)).trans h2, h3⟩
theorem own_ne_blk {V : World} {base e s n g t : Nat} {v : Value} {xs : List Value} {cs : Array Value} (h : V.ownsRow base e s v n xs) (hb : Blk V g t cs) (ht : t ≠ e) : v.ownBlock ≠ some g := by
  rcases h.2 with ⟨rfl, _⟩ | ⟨g', cap, cur, rfl, h1, h2, h3⟩
  · simp [Value.ownBlock]
  · intro e2
    have e3 : some g' = some g := e2
    cases e3
    unfold Blk at hb
    rw [h2] at hb
    cases hb
    exact ht rfl
theorem own_ne_own {V : World} {base e s n base' e' s' n' : Nat} {v v' : Value} {xs xs' : List Value} (h : V.ownsRow base e s v n xs) (h' : V.ownsRow base' e' s' v' n' xs') (ht : e ≠ e') : v.ownBlock = none ∨ v.ownBlock ≠ v'.ownBlock := by
  rcases h.2 with ⟨rfl, _⟩ | ⟨g, cap, cur, rfl, h1, h2, h3⟩
  · exact .inl rfl
  · right
    rcases h'.2 with ⟨rfl, _⟩ | ⟨g', cap', cur', rfl, h4, h5, h6⟩
    · simp [Value.ownBlock]
    · intro e2
      have e3 : some g = some g' := e2
      cases e3
      rw [h2] at h5
      cases h5
      exact ht rfl
theorem own_cellsAt {w : World} {base e size n g cap : Nat} {xs : List Value} (h : w.ownsRow base e size (.slice (some ⟨g, 0, none⟩) n cap) n xs) : ∃ cs fr, w.heap[g]? = some (.cells cs e fr) := by
  rcases h.2 with ⟨h1, -⟩ | ⟨g', cap', cur, h1, h2, h3, -⟩
  · cases h1
  · cases h1; exact ⟨_, _, h3⟩
end Go.Proofs.Ytnpilfpackdimaa
/- Loops' own blocks: small laws. Over any program. -/
namespace Go.Proofs.Ytnpilfpackdimaa
open Go.RowKit
theorem grow_set {o o' : Foot} {W W' : World} (h : Grow o W o' W') {p : Addr} (hp : o' p.block) (u : Value) : Grow o W o' (W'.setCell p u) := by
  refine ⟨h.os, h.tape, h.output, by have := h.size; simpa [World.setCell] using this, h.from_, fun k hk => by have := h.lt k hk; simpa [World.setCell] using this, fun k hk hn => ?_⟩
  rw [← h.same k hk hn]
  refine Below.heap_setCell _ _ _ _ (fun e => ?_)
  rcases h.from_ _ hp with h1 | h1
  · exact hn (by rw [e]; exact h1)
  · omega
theorem below_grow {B : Nat} {w W V : World} {o o' : Foot} (h : Below B w W) (hg : Grow o W o' V) (hB : B ≤ W.heap.size) (ho : ∀ k, o k → B ≤ k) : Below B w V :=
  h.trans ⟨hg.os, hg.tape, hg.output, hg.size, fun k hk => hg.same k (by omega) (fun hk' => by have := ho k hk'; omega)⟩
theorem grow_row {o o' : Foot} {W W1 W2 : World} {row : Option Nat} (h : Grow o W o' W1) (hg : W1.grownBy W2 row) (hr : ∀ q, row = some q → o' q) : Grow o W o' W2 :=
  ⟨hg.os.trans h.os, hg.tape.trans h.tape, hg.output.trans h.output, Nat.le_trans h.size hg.size, h.from_, fun k hk => Nat.lt_of_lt_of_le (h.lt k hk) hg.size, fun k hk hn => (hg.block k (Nat.lt_of_lt_of_le hk h.size) (fun e => by
    rcases h.from_ k (hr k e.symm) with h1 | h1
    · exact hn h1
    · omega)).trans (h.same k hk hn)⟩
theorem grow_then {o o' : Foot} {W W1 W2 : World} (h : Grow o W o' W1) (hb : Below W1.heap.size W1 W2) : Grow o W o' W2 := h.trans (grow_below h.lt hb)
theorem stab_below {s T : Nat} {W6 W W' : World} (h : Below T W6 W) (hT : T ≤ s) (hsz : s ≤ W6.heap.size) (hk : ∀ k, k < s → k < W.heap.size → W'.heap[k]? = W.heap[k]?) (hz : W.heap.size ≤ W'.heap.size) (e1 : W'.os = W.os) (e2 : W'.tape = W.tape) (e3 : W'.output = W.output) : Below T W6 W' :=
  ⟨e1.trans h.os, e2.trans h.tape, e3.trans h.output, Nat.le_trans h.size hz, fun k hk' => (hk k (by omega) (by have := h.size; omega)).trans (h.block k hk')⟩
end Go.Proofs.Ytnpilfpackdimaa
/- Walks: Tight: the inns are gone through from the last one on. -/
namespace Go.Proofs.Ytnpilfpackdimaa
open Go.RowKit Go.Shelf
attribute [local go_sem] Oper.semAt_some
/-- The pairs of index and number, from the end. -/
def bkL (l : List Int) (k : Nat) : List (Nat × Int) := (List.range k).map fun j => (l.length - 1 - j, l.getD (l.length - 1 - j) 0)
theorem bkL_succ (l : List Int) (k : Nat) : bkL l (k + 1) = bkL l k ++ [(l.length - 1 - k, l.getD (l.length - 1 - k) 0)] := by
  unfold bkL; rw [List.range_succ, List.map_append]; rfl
def isBk (l : List Int) (n : Nat) (xs : List (Nat × Int)) : Prop := xs = bkL l n
def encB (x : Nat × Int) : Array Value := #[.int .i64 (x.1 : Int), .int .i64 x.2]
def RdB (l : List Int) (x : Nat × Int) (_ : World) : Prop := l[x.1]? = some x.2
/-- What the iterator reads. -/
structure BIn (W : World) (own : Foot) (Bx : Nat) (A : Option Addr) (n c : Nat) (l : List Int) : Prop where
  hx : W.cell? ⟨Bx, 0, none⟩ = some (.slice A n c)
  lx : Bx < W.heap.size
  ox : ¬ own Bx
  hl : InS W W.heap.size A n l
  ob : ∀ b off, A = some ⟨b, off, none⟩ → b < W.heap.size → ¬ own b
theorem BIn.grow {W W' : World} {own own' : Foot} {Bx n c : Nat} {A : Option Addr} {l : List Int} (h : BIn W own Bx A n c l) (hg : Grow own W own' W') (hA : ∀ b off, A = some ⟨b, off, none⟩ → b < W.heap.size) : BIn W' own' Bx A n c l := by
  have no : ∀ q, q < W.heap.size → ¬ own q → ¬ own' q := fun q hq hn h' => by
    rcases hg.from_ q h' with h1 | h1
    · exact hn h1
    · omega
  exact ⟨(World.cell?_of_block (hg.same _ h.lx h.ox)).trans h.hx, Nat.lt_of_lt_of_le h.lx hg.size, no _ h.lx h.ox, ins_at h.hl hg.size (fun b off e hb => hg.same _ hb (h.ob b off e hb)), fun b off e _ => no _ (hA b off e) (h.ob b off e (hA b off e))⟩
theorem backward_any (A : Option Addr) (n c : Nat) (w : World) : Calls Try.prog 42 #[.slice A n c] w fun e w' => e = .returned (.func (.func 73) #[] #[.pointer (some ⟨w.heap.size, 0, none⟩)]) ∧ w.alloc (.cells #[.slice A n c] 25) = w' := by
  go_enter Try.func42, Try.ntmps42
  go_wp2
  refine bodyPost_ret (v := .func (.func 73) #[] #[.pointer (some ⟨w.heap.size, 0, none⟩)]) (by first | (simp [results, Try.results42, go_sem]; done) | (simp [results, Try.results42, go_sem, *]; done) | (simp [results, Try.results42, go_sem, World.cell?_setCell_same', *]; done) | (simp [results, Try.results42, go_sem]; first | exact ⟨rfl, rfl⟩ | rfl)) rfl ⟨rfl, rfl⟩
set_option maxRecDepth 100000 in
set_option maxHeartbeats 4000000 in
theorem backward_give (W : World) (own₀ : Foot) (Bx : Nat) (A : Option Addr) (n c : Nat) (l : List Int) (hn : n ≤ 1000000) (hA : ∀ b off, A = some ⟨b, off, none⟩ → b < W.heap.size) (hin : BIn W own₀ Bx A n c l) :
    Gives (Wd none) Try.prog 73 #[.pointer (some ⟨Bx, 0, none⟩)] encB (RdB l) n (isBk l n) (fun _ => True) own₀ W := by
  intro D lp J Jx hJs hJxs hT hown h0
  have c1 := hin.hx
  have l1 := hin.lx
  have hlen := hid hin.hl.len
  have HT := hid hT
  have HJs := hid hJs
  have HJxs := hid hJxs
  have HIN := hid hin
  have HA := hid hA
  have Hown := hid hown
  have HJ0 := hid h0
  have hd0 : (Wd none).depth = none := rfl
  have z0 : IntKind.i64.wrap ((n : Int) - 1) = (n : Int) - 1 := IntWalk.i64_in _ (by omega)
  clear hT hJs hJxs hin hown h0 hA
  refine callsIn_of_wp_marks (F := Wd none) Try.func73 rfl trivial ?_ rfl
  simp only [Try.ntmps73, List.size_toArray, List.length_cons, List.length_nil, Nat.reduceAdd, Nat.reduceSub, Array.replicate_succ, Array.replicate_zero, List.push_toArray, List.append_toArray, List.nil_append, List.cons_append]
  gi_wp2
  refine wpIn_loop (fun a' wr => ∃ (ds : List Deferred) (u2 u3 u4 u5 u6 u7 u8 u9 u10 u11 u12 u13 u14 u15 u16 u17 u18 : Value), (∃ (k : Nat) (own : Foot), ds = [] ∧ k ≤ n ∧ u3 = .int .i64 ((n : Int) - 1 - k) ∧ Hid (J (bkL l k) own wr) ∧ Hid (Grow own₀ W own wr)) ∧ a' = { tmps := #[.func (.yield lp) #[] #[], .pointer (some ⟨Bx, 0, none⟩), u2, u3, u4, u5, u6, u7, u8, u9, u10, u11, u12, u13, u14, u15, u16, u17, u18], defers := ds }) (fun a' wr => (intOf (a'.tmps.getD 3 undef) + 1).toNat) ?_ ?_
  · (repeat apply Exists.intro); refine ⟨?_, rfl⟩
    exact ⟨0, own₀, rfl, by omega, by go_num, HJ0, hid (Grow.refl Hown.out)⟩
  · intro _ wr hinv; obtain ⟨ds, hinv⟩ := hinv; obtain ⟨u2, hinv⟩ := hinv; obtain ⟨u3, hinv⟩ := hinv; obtain ⟨u4, hinv⟩ := hinv; obtain ⟨u5, hinv⟩ := hinv; obtain ⟨u6, hinv⟩ := hinv; obtain ⟨u7, hinv⟩ := hinv; obtain ⟨u8, hinv⟩ := hinv; obtain ⟨u9, hinv⟩ := hinv; obtain ⟨u10, hinv⟩ := hinv; obtain ⟨u11, hinv⟩ := hinv; obtain ⟨u12, hinv⟩ := hinv; obtain ⟨u13, hinv⟩ := hinv; obtain ⟨u14, hinv⟩ := hinv; obtain ⟨u15, hinv⟩ := hinv; obtain ⟨u16, hinv⟩ := hinv; obtain ⟨u17, hinv⟩ := hinv; obtain ⟨u18, hinv⟩ := hinv; obtain ⟨hrel, ha⟩ := hinv; subst ha; dsimp only
    obtain ⟨k, own, rfl, hk, rfl, hJx, hgr⟩ := hrel
    have hinr := HIN.out.grow hgr.out HA.out
    have r1 := hinr.hx
    have k1 := hinr.lx
    have HINr := hid hinr
    clear hinr c1 l1 z0
    by_cases hlt : k < n
    · have hlti : (0 : Int) ≤ (n : Int) - 1 - k := by omega
      obtain ⟨p, hp⟩ : ∃ p : Nat, n - 1 - k = p := ⟨_, rfl⟩
      have hpi : (n : Int) - 1 - k = (p : Int) := by omega
      have hpn : p < n := by omega
      have hpni : (p : Int) < n := by omega
      have hp0 : (0 : Int) ≤ p := by omega
      obtain ⟨b, off, x, rfl, hb, hm, c0⟩ := HINr.out.hl.at_ hpn
      have zp : IntKind.i64.wrap ((p : Int) - 1) = (p : Int) - 1 := IntWalk.i64_in _ (by omega)
      obtain ⟨fn, tmps, asg, bdy, hy, hR⟩ := YieldAt.one hd0 (D - 1) (HT.out D (bkL l k) own (p, x) wr hJx.out (by unfold bkL; simp; omega) hgr.out.lt hm)
      simp only [encB] at hy
      have hxs2 : Hid (bkL l k ++ [(p, x)] = bkL l (k + 1)) := hid (by rw [bkL_succ, hlen.out, hp, List.getD_eq_getElem?_getD, hm]; rfl)
      have hp2 := hid hp
      have hpi2 := hid hpi
      rw [hpi]
      clear hm hp hpi
      gi_wp2_with (refine RoundIn.mono hR ?_; rintro e w3 ⟨bv, rfl, ht, hf⟩; cases bv)
      · obtain ⟨own', hj, hg'⟩ := hf trivial
        have Hg8 := hid (hgr.out.trans hg')
        clear ht hf
        refine leavesM_marks [] _ (by simp) (by simp) (fun w' ho => ⟨_, results_none rfl _ _ _, ⟨_, rfl⟩, ?_⟩)
        exact .inr ⟨_, own', trivial, stab_off HJxs.out hj ho (by simp), grow_off Hg8.out ho (by simp)⟩
      · obtain ⟨own', hj, hg'⟩ := ht trivial
        have Hg8 := hid (hgr.out.trans hg')
        rw [hxs2.out] at hj
        have Hj := hid hj
        clear ht hf hj hg'
        (first | exact ⟨⟨k + 1, own', rfl, by omega, by have := hpi2.out; (first | (go_num; done) | (congr 1; omega)), Hj, Hg8⟩, (by first | (simp [intOf]; omega) | (simp [intOf]; done))⟩ | (refine ⟨?_, ?_⟩; (focus ((repeat apply Exists.intro); refine ⟨?_, rfl⟩; exact ⟨k + 1, own', rfl, by omega, by have := hpi2.out; (first | (go_num; done) | (congr 1; omega)), Hj, Hg8⟩)); (first | (simp [intOf]; omega) | (simp [intOf]; done))))
    · have hlti : ¬ (0 : Int) ≤ (n : Int) - 1 - k := by omega
      obtain rfl : k = n := by omega
      gi_wp2
      refine leavesM_marks [] _ (by simp) (by simp) (fun w' ho => ⟨_, results_none rfl _ _ _, ⟨_, rfl⟩, ?_⟩)
      exact .inl ⟨bkL l k, (rfl : isBk l k (bkL l k)), own, stab_off HJs.out hJx.out ho (by simp), grow_off hgr.out ho (by simp)⟩
/-- What is left of a blame, inn by inn. -/
def tgS (ls : List (List Int)) (b : Nat) (x : Int) : Nat := if 0 ≤ missI ls (clr b x.toNat) then clr b x.toNat ||| 2 ^ x.toNat else clr b x.toNat
def tgF (ls : List (List Int)) (l : List Int) (k : Nat) : Nat := ((bkL l k).map (·.2)).foldl (tgS ls) (bitsL l)
theorem _root_.Go.Proofs.Ytnpilfpackdimaa.InS.keep_off {w w' : World} {n : Nat} {A : Option Addr} {l : List Int} {Ds : List Nat} (h : InS w w.heap.size A n l) (ho : Off Ds w w') : InS w' w'.heap.size A n l :=
  ⟨h.1, fun hn => by
    obtain ⟨b, off, e, hb, hc⟩ := h.2 hn
    exact ⟨b, off, e, by rw [ho.size]; exact hb, fun j u hu => (ho.cell _).trans (hc j u hu)⟩⟩
theorem tgF_of (ls : List (List Int)) (l : List Int) (xs : List (Nat × Int)) (x : Nat × Int) : ((xs ++ [x]).map (·.2)).foldl (tgS ls) (bitsL l) = tgS ls ((xs.map (·.2)).foldl (tgS ls) (bitsL l)) x.2 := by
  rw [List.map_append, List.foldl_append]; rfl
def tigV (I : Int) (ls : List (List Int)) (s : List Int) : List Int := if blmE I ls s ≠ 0 then [] else listed (tgF ls s s.length) 8
set_option maxRecDepth 100000 in
set_option maxHeartbeats 4000000 in
theorem tight_any (A B : Option Addr) (n c m d : Nat) (ls : List (List Int)) (s : List Int) (I : Int) (w : World) (hl : LiS w w.heap.size A n ls) (hs : InS w w.heap.size B m s) (hn : n ≤ 1000000) (hw : ∀ l ∈ ls, l.length ≤ 1000000) (hm : m ≤ 1000000) (hB : ∀ b off, B = some ⟨b, off, none⟩ → b < w.heap.size) :
    Calls Try.prog 11 #[.agg #[.int .i64 I, .slice A n c], .slice B m d] w fun e w' => ∃ A' n' c', e = .returned (.tuple #[.slice A' n' c', .int .i64 (blmE I ls s)]) ∧ n' ≤ c' ∧ InS w' w'.heap.size A' n' (tigV I ls s) ∧ Below w.heap.size w w' := by
  have hlen := hid hs.len
  have HL := hid hl
  have HS := hid hs
  have HW := hid hw
  have HBw := hid hB
  have HC := hid (fun w h1 h2 => checkBlame_any A B n c m d ls s I w h1 h2 hn hw hm)
  obtain ⟨W0, hW0⟩ : ∃ W0, w.alloc (.cells #[.int .i64 I, .slice A n c] 24) = W0 := ⟨_, rfl⟩
  have hb0 : Below w.heap.size w W0 := by rw [← hW0]; exact (Below.refl _ _).alloc (Nat.le_refl _) _
  have B2 : Blk W0 w.heap.size 24 #[.int .i64 I, .slice A n c] := by rw [← hW0]; exact Blk.new' rfl
  clear hl hs hw hB
  by_cases he : blmE I ls s = 0
  · obtain ⟨ho, hmi⟩ := blmE_good he
    obtain ⟨hc, hall⟩ := openE_good ho
    have hs8 := isL8 (hall s (by simp)) (book_good hc).2.1
    have hV : Hid (tigV I ls s = listed (tgF ls s m) 8) := hid (by unfold tigV; rw [if_neg (by simpa using he), hlen.out])
    have HO := hid (fun w h => open_ok A none n c 0 0 ls [] I w h (lis_nil _ _) hn HW.out (by omega) (by simp) (by rw [openE_nil]; exact hc))
    have HM := hid (fun W g b (h : Desk W g I A n c ls) => missed_any g I A n c ls b W h hn (book8 hc))
    have HB8 := hid (isL_bd hs8)
    obtain ⟨bv, hbv⟩ : ∃ bv, blmV I ls s = bv := ⟨_, rfl⟩
    rw [hbv, he] at HC
    rw [he]
    clear he ho hc hall hs8 hbv hmi
    have c0 := B2.cell 0
    have c1 := B2.cell 1
    have lB := B2.lt
    (refine (callsIn_wide (n := 9)).1 ?_; refine callsIn_of_wp_marks (F := Wd none) Try.func11 rfl trivial ?_ rfl; simp only [Try.ntmps11, List.size_toArray, List.length_cons, List.length_nil, Nat.reduceAdd, Nat.reduceSub, Array.replicate_succ, Array.replicate_zero, List.push_toArray, List.append_toArray, List.nil_append, List.cons_append])
    gi_wp2_with (fail)
    clear hW0
    refine (calls_wd (HC.out _ (HL.out.below (by repeat' (first | with_reducible assumption | with_reducible exact Below.refl _ _ | refine Below.alloc ?_ ?_ _ | refine Below.setCell ?_ ?_ _ | refine Below.drew ?_ | refine below_drewN ?_ _ | (simp; done) | (simp; omega) | omega)) (by first | (simp; done) | (simp; omega) | omega)) (HS.out.below (by repeat' (first | with_reducible assumption | with_reducible exact Below.refl _ _ | refine Below.alloc ?_ ?_ _ | refine Below.setCell ?_ ?_ _ | refine Below.drew ?_ | refine below_drewN ?_ _ | (simp; done) | (simp; omega) | omega)) (by first | (simp; done) | (simp; omega) | omega)))).mono ?_
    rintro e w1 ⟨rfl, hb1⟩
    have hbel : Below w.heap.size w w1 := hb0.trans (hb1.mono hb0.size)
    have B2' := B2.below hb1 B2.lt
    clear c0 c1 lB
    have c0 := B2'.cell 0
    have c1 := B2'.cell 1
    have hq0 := B2'.lt
    clear hb1 hb0 B2
    gi_wp2_with (fail)
    refine (calls_wd (HO.out _ (HL.out.below hbel hbel.size))).mono ?_
    rintro e w2 ⟨g, rfl, hg, hd, hb2⟩
    have hbe2 := hbel.trans (hb2.mono hbel.size)
    have HD := hid hd
    clear hd hb2 c0 c1 B2'
    gi_wp2_with (fail)
    obtain ⟨W3, hW3⟩ : ∃ W3, w2.alloc (.cells #[.pointer (some ⟨g, 0, none⟩)] 52) = W3 := ⟨_, rfl⟩
    have hb23 : Below w2.heap.size w2 W3 := by rw [← hW3]; exact (Below.refl _ _).alloc (Nat.le_refl _) _
    have B8 : Blk W3 w2.heap.size 52 #[.pointer (some ⟨g, 0, none⟩)] := by rw [← hW3]; exact Blk.new' rfl
    have hd3 := hid (HD.out.below hb23)
    have hbe3 := hbe2.trans (hb23.mono hbe2.size)
    rw [hW3]
    clear hW3
    refine (calls_wd (marked_any B m d s _ (HS.out.below hbe3 hbe3.size) hm HB8.out)).mono ?_
    rintro e w4 ⟨rfl, hb4⟩
    have hbe4 := hbe3.trans (hb4.mono hbe3.size)
    have hd4 := hid (hd3.out.below hb4)
    have B8' := hid (B8.below hb4 B8.lt)
    have hb24 := hb23.trans (hb4.mono hb23.size)
    clear hb4 B8 hd3
    obtain ⟨W5, hW5⟩ : ∃ W5, w4.alloc (.cells (mkB (bitsL s)) 57) = W5 := ⟨_, rfl⟩
    have hb45 : Below w4.heap.size w4 W5 := by rw [← hW5]; exact (Below.refl _ _).alloc (Nat.le_refl _) _
    have B10 : Blk W5 w4.heap.size 57 (mkB (bitsL s)) := by rw [← hW5]; exact Blk.new' rfl
    have hbe5 := hbe4.trans (hb45.mono hbe4.size)
    have hd5 := hid (hd4.out.below hb45)
    have B8'' := hid (B8'.out.below hb45 B8'.out.lt)
    have hz24 := hb24.size
    have l8 := B8'.out.lt
    unfold mkB at hW5 ⊢
    gi_wp2_with (fail)
    refine (calls_wd (backward_any B m d _)).mono ?_
    rintro e W6 ⟨rfl, hW6⟩
    have hb56 : Below W5.heap.size W5 W6 := by rw [← hW6]; exact (Below.refl _ _).alloc (Nat.le_refl _) _
    have B30 : Blk W6 W5.heap.size 25 #[.slice B m d] := by rw [← hW6]; exact Blk.new' rfl
    have hz6 : W6.heap.size = W5.heap.size + 1 := by rw [← hW6]; simp
    have hbe6 := hbe5.trans (hb56.mono hbe5.size)
    have hd6 := hid (hd5.out.below hb56)
    have B10' := hid (B10.below hb56 B10.lt)
    have B8v := hid (B8''.out.below hb56 B8''.out.lt)
    have HS6 := hid (HS.out.below hbe6 hbe6.size)
    have hb26 : Below w2.heap.size w2 W6 := hb24.trans ((hb45.trans (hb56.mono hb45.size)).mono hb24.size)
    have HDt : Hid (Blk W6 g 84 #[.int .i64 I, .slice A n c] ∧ g < w2.heap.size ∧ LiS W6 w2.heap.size A n ls) := hid ⟨HD.out.1.below hb26 HD.out.1.lt, HD.out.1.lt, HD.out.2.below hb26 (Nat.le_refl _)⟩
    have HB30 := hid B30
    have Hz6 := hid hz6
    have hT10 : w4.heap.size < W5.heap.size := B10.lt
    have hwT : w.heap.size ≤ w4.heap.size := hbe4.size
    obtain ⟨T8, hT8⟩ : ∃ T, w2.heap.size = T := ⟨_, rfl⟩
    obtain ⟨T10, hT10e⟩ : ∃ T, w4.heap.size = T := ⟨_, rfl⟩
    rw [hT10e] at B10' hT10 l8 hwT
    rw [hT8] at B8v l8 HDt
    rw [hT10e]
    rw [hT8]
    have hwB : ∀ b off, B = some ⟨b, off, none⟩ → b < T10 := fun b off e => by have := HBw.out b off e; omega
    have HwB := hid hwB
    clear hW6 hW5 B10 B30 hb45 hb24 hb56 hd5 hd4 B8' B8'' hT8 hT10e hz24 hb26 HD hd6 hwB hz6
    gi_wp2
    have B10x := B10'.out
    have hBl : Hid (Below T10 W6 W6) := hid (Below.refl _ _)
    have Hbe6 := hid hbe6
    refine with_frame fun TT hTT => ?_
    refine wpIn_rangeFunc_foot (F := Wd none) (α := Nat × Int) W6.heap.size rfl rfl rfl (gf := 73) (lb := #[.pointer (some ⟨W5.heap.size, 0, none⟩)]) (by rw [hTT]; rfl) trivial (enters_of Try.func73 (by kernel_rfl) rfl)
      (encs := encB) (Rd := RdB s) (Nb := m) (S := isBk s m) (Sp := fun _ => True) (fun j => j = T10) (fun j hj => by have := B10x.lt; omega) ?hseq (fun x W W' h _ _ => h) (fun _ => rfl)
      (fun ys ow V => Blk V T10 57 (mkB ((ys.map (·.2)).foldl (tgS ls) (bitsL s))) ∧ ow T10 ∧ Below T10 W6 V ∧ ∀ j, ow j → j = T10) (fun _ _ _ _ => False) ?hI ?hIx ⟨B10x, rfl, hBl.out, fun j hj => hj⟩
      (fun x a' V => a' = { tmps := (((TT.setIfInBounds 31 (.int .i64 (x.1 : Int))).setIfInBounds 32 (.int .i64 x.2)).setIfInBounds 12 (.int .i64 x.2)), defers := [] }) ?assign (fun x a' V o h => h) ?body ?done ?stop
    case hseq =>
      intro W' hW'
      have hz6 := Hz6.out
      have hzw' := hW'.size
      refine backward_give W' _ W5.heap.size B m d s hm (fun b off e => by have := HwB.out b off e; omega) ⟨(HB30.out.below hW' HB30.out.lt).cell 0, by omega, ?_, HS6.out.below hW' hzw', ?_⟩
      · rintro (h | h | h) <;> omega
      · intro b off e _
        have := HwB.out b off e
        rintro (h | h | h) <;> omega
    case hI =>
      rintro ys ow V V' ⟨h0, h1, h2, h3⟩ hk hz e1 e2 e3
      exact ⟨(hk _ (.inr (.inl h1)) h0.lt).trans h0, h1, stab_below h2 (by have := B10x.lt; omega) (Nat.le_refl _) (fun k hk' hlt => hk k (.inl hk') hlt) hz e1 e2 e3, h3⟩
    case hIx =>
      intro c ys ow V V' h
      exact h.elim
    case assign =>
      rintro l x V Kk hrd hV hK
      simp only [encB, hTT]
      gi_wp2
      exact hK _ _ (Below.refl _ _) (by rw [hTT]; rfl)
    case body =>
      rintro lid pre ow x a' V ⟨h0, h1, h2, h3⟩ hNb hlt hnB hrd rfl hV
      obtain ⟨xi, xv⟩ := x
      have hrd' : s[xi]? = some xv := hrd
      obtain ⟨v0, v8⟩ := HB8.out xv (List.mem_of_getElem? hrd')
      obtain ⟨y, rfl⟩ : ∃ y : Nat, xv = y := ⟨xv.toNat, by omega⟩
      have hy8 : y < 8 := by omega
      have hy8i : (y : Int) < 8 := by omega
      obtain ⟨b, hb⟩ : ∃ b, (pre.map (·.2)).foldl (tgS ls) (bitsL s) = b := ⟨_, rfl⟩
      have hnext : Hid ((((pre ++ [((xi : Nat), (y : Int))]).map (·.2)).foldl (tgS ls) (bitsL s)) = tgS ls b (y : Int)) := hid (by rw [tgF_of, hb])
      rw [hb] at h0
      have hgV : Grow ow V ow V := Grow.refl hlt
      obtain ⟨V1, hV1⟩ : ∃ V1, V.setCell ⟨T10, y, none⟩ (.int .i64 0) = V1 := ⟨_, rfl⟩
      have k0 : ∃ v, V.cell? ⟨T10, y, none⟩ = some v := ⟨_, (h0.cell y).trans (mkB_at hy8)⟩
      obtain ⟨vv, k0⟩ := k0
      have f0 := h0.frozen y
      have l0 := h0.lt
      have B1 : Blk V1 T10 57 (mkB (clr b y)) := by rw [← hV1, ← mkB_off hy8]; exact h0.set_ y _
      have hg1 : Grow ow V ow V1 := by rw [← hV1]; exact grow_set hgV h1 _
      have hb1 : Below T10 W6 V1 := by rw [← hV1]; exact h2.setCell (by simp) _
      have c8 : V1.cell? ⟨T8, 0, none⟩ = some (.pointer (some ⟨g, 0, none⟩)) := (B8v.out.below hb1 l8).cell 0
      have l81 : T8 < V1.heap.size := (B8v.out.below hb1 l8).lt
      obtain ⟨q0, q1, q2, q3, q4, q5, q6, q7⟩ := load8 B1
      have l1 := B1.lt
      have hbT8 : Below T8 W6 V1 := hb1.mono (by omega)
      have hD1 : Desk V1 g I A n c ls := ⟨HDt.out.1.below hbT8 HDt.out.2.1, HDt.out.2.2.below hbT8 (by omega)⟩
      have HM1 := hid (HM.out V1 g (clr b y) hD1)
      have ht : Hid (tgS ls b (y : Int) = if 0 ≤ missI ls (clr b y) then clr b y ||| 2 ^ y else clr b y) := hid (by unfold tgS; rw [Int.toNat_natCast])
      obtain ⟨mv, hmv⟩ : ∃ mv, missI ls (clr b y) = mv := ⟨_, rfl⟩
      rw [hmv] at HM1 ht
      have HB1 := hid B1
      have Hb1 := hid hb1
      have Hg1 := hid hg1
      have H3 := hid h3
      have HM1' := HM1.out
      unfold mkB at HM1'
      clear h0 h2 h3 hb hmv B1 hg1 hb1 hbT8 hD1 hrd hrd' hgV
      simp only [hTT, List.setIfInBounds_toArray, List.set_cons_zero, List.set_cons_succ]
      by_cases hmp : 0 ≤ mv
      all_goals
        first | rw [if_pos hmp] at ht | rw [if_neg hmp] at ht
        gi_wp2_with (refine (calls_wd HM1').mono ?_; rintro e V2 ⟨rfl, hb2⟩; have B2 := HB1.out.below hb2 l1; have hbz : Below T10 W6 V2 := Hb1.out.trans (hb2.mono (by omega)); have Hg2 : Hid (Grow ow V ow V2) := hid (grow_then Hg1.out hb2); have l2 := B2.lt; have k2 : ∃ v, V2.cell? ⟨T10, y, none⟩ = some v := ⟨_, (B2.cell y).trans (mkB_at hy8)⟩; obtain ⟨vw, k2⟩ := k2; have f2 := B2.frozen y; clear hb2 q0 q1 q2 q3 q4 q5 q6 q7 c8)
      · exact ⟨ow, ⟨by rw [hnext.out, ht.out, ← mkB_on hy8]; exact B2.set_ y _, h1, hbz.setCell (by simp) _, H3.out⟩, grow_set Hg2.out h1 _⟩
      · exact ⟨ow, ⟨by rw [hnext.out, ht.out]; exact B2, h1, hbz, H3.out⟩, Hg2.out⟩
    case done =>
      rintro Dm ys ow V hDm hys ⟨h0, h1, h2, h3⟩ hg2 hnB rfl hK
      have hys' : ys = bkL s m := hys
      subst hys'
      have hbV : Below w.heap.size w V := Hbe6.out.trans (h2.mono (by omega))
      obtain ⟨d0, d1, d2, d3, d4, d5, d6, d7⟩ := load8 h0
      have l0 := h0.lt
      have HL8 := hid (list_any ((((bkL s m).map (·.2)).foldl (tgS ls) (bitsL s))) V)
      have HbV := hid hbV
      have hszV : W6.heap.size ≤ V.heap.size := by have := hg2.size; omega
      have HV2 : Hid (tigV I ls s = listed ((((bkL s m).map (·.2)).foldl (tgS ls) (bitsL s))) 8) := hid (by rw [hV.out]; rfl)
      obtain ⟨bz, hbz⟩ : ∃ bz, ((bkL s m).map (·.2)).foldl (tgS ls) (bitsL s) = bz := ⟨_, rfl⟩
      rw [hbz] at HL8 HV2 d0 d1 d2 d3 d4 d5 d6 d7
      have HL8' := HL8.out
      unfold mkB at HL8'
      have hKl : W6.heap.size < V.heap.size := by
        rcases Nat.lt_or_ge W6.heap.size V.heap.size with h | h
        · exact h
        · rw [Array.getElem?_eq_none h] at hK; cases hK
      have HK := hid hK
      clear h0 h2 h3 hys hbz hK hbV hg2
      simp only [hTT]
      gi_wp2_with (refine (calls_wd HL8').mono ?_; rintro e V3 ⟨A3, n3, c3, rfl, hnc, hn0, hin3, hfr3, hb3⟩; have HI3 := hid hin3; have Hb3 := hid hb3; have HK3 : Hid (V3.heap[W6.heap.size]? = some (.deferred (some []))) := hid ((hb3.block _ hKl).trans HK.out); clear hin3 hb3 hfr3 hn0)
      have hw6 := Hbe6.out.size
      refine leavesM_marks [W6.heap.size] _ (by simp) (by simpa using HK3.out) (fun w' ho => ⟨.tuple #[.slice A3 n3 c3, .int .i64 0], ?_, ?_⟩)
      · simp [results, Try.results11, go_sem]
      · refine ⟨A3, n3, c3, rfl, hnc, ?_, ho.below (HbV.out.trans (Hb3.out.mono HbV.out.size)) (by simp; omega)⟩
        rw [HV2.out]
        exact HI3.out.keep_off ho
    case stop =>
      rintro Dm c' pre ow V hDm _ h
      exact h.elim
  · have hV : Hid (tigV I ls s = []) := hid (if_pos he)
    obtain ⟨ev, hev⟩ : ∃ ev, blmE I ls s = ev := ⟨_, rfl⟩
    rw [hev] at HC he ⊢
    have hbi : (ev != 0) = true := by simpa using he
    have c0 := B2.cell 0
    have c1 := B2.cell 1
    have lB := B2.lt
    clear hev
    (refine (callsIn_wide (n := 9)).1 ?_; refine callsIn_of_wp_marks (F := Wd none) Try.func11 rfl trivial ?_ rfl; simp only [Try.ntmps11, List.size_toArray, List.length_cons, List.length_nil, Nat.reduceAdd, Nat.reduceSub, Array.replicate_succ, Array.replicate_zero, List.push_toArray, List.append_toArray, List.nil_append, List.cons_append])
    gi_wp2_with (fail)
    clear hW0
    refine (calls_wd (HC.out _ (HL.out.below (by repeat' (first | with_reducible assumption | with_reducible exact Below.refl _ _ | refine Below.alloc ?_ ?_ _ | refine Below.setCell ?_ ?_ _ | refine Below.drew ?_ | refine below_drewN ?_ _ | (simp; done) | (simp; omega) | omega)) (by first | (simp; done) | (simp; omega) | omega)) (HS.out.below (by repeat' (first | with_reducible assumption | with_reducible exact Below.refl _ _ | refine Below.alloc ?_ ?_ _ | refine Below.setCell ?_ ?_ _ | refine Below.drew ?_ | refine below_drewN ?_ _ | (simp; done) | (simp; omega) | omega)) (by first | (simp; done) | (simp; omega) | omega)))).mono ?_
    rintro e w1 ⟨rfl, hb1⟩
    have hbel : Below w.heap.size w w1 := hb0.trans (hb1.mono hb0.size)
    gi_wp2
    refine leavesM_marks [] _ (by simp) (by simp) (fun w' ho => ⟨.tuple #[.slice none 0 0, .int .i64 ev], ?_, ?_⟩)
    · simp [results, Try.results11, go_sem]
    · exact ⟨none, 0, 0, rfl, Nat.le_refl _, by rw [hV.out]; exact Sl.none_, ho.below hbel (by simp)⟩
end Go.Proofs.Ytnpilfpackdimaa
/- Walk: the sets of so many inns, one by one: what goes on, whatever the loop. -/
namespace Go.Proofs.Ytnpilfpackdimaa
open Go.RowKit Go.Shelf
attribute [local go_sem] Oper.semAt_some
/-- A set: its slice, and what it reads as. -/
structure PE where
  v : Value
  l : List Int
def encP (x : PE) : Array Value := #[x.v]
def RdP (n : Nat) (x : PE) (W : World) : Prop := ∃ A c, x.v = .slice A n c ∧ InS W W.heap.size A n x.l ∧ (n = 0 → A = none ∧ c = 0) ∧ (∀ v ∈ x.l, 0 ≤ v ∧ v < 8) ∧ ∀ b off, A = some ⟨b, off, none⟩ → b < W.heap.size ∧ ∃ cs fr, W.heap[b]? = some (.cells cs 3 fr)
theorem rdP_keep {n : Nat} (x : PE) (W W' : World) (h : RdP n x W) (hk : ∀ (k : Nat) (o : Obj), W.heap[k]? = some o → o.isCells = true → W'.heap[k]? = some o) (hz : W.heap.size ≤ W'.heap.size) : RdP n x W' := by
  obtain ⟨A, c, h1, h2, h4, h8, h9⟩ := h
  refine ⟨A, c, h1, ⟨h2.1, fun hn => ?_⟩, h4, h8, fun b off e => ⟨Nat.lt_of_lt_of_le (h9 b off e).1 hz, by obtain ⟨-, cs, fr, h6⟩ := h9 b off e; exact ⟨cs, fr, hk _ _ h6 rfl⟩⟩⟩
  obtain ⟨b, off, e, hb, hc⟩ := h2.2 hn
  refine ⟨b, off, e, by omega, fun j u hu => ?_⟩
  have h4 := hc j u hu
  obtain ⟨o, ho, hoc⟩ := cells_of_cell h4
  exact (World.cell?_of_block ((hk _ o ho hoc).trans ho.symm)).trans h4
/-- All sets of m of the inns from f on, behind those that a list begins with. -/
def gooF (I m : Nat) : Nat → Nat → List Int → List (List Int)
  | 0, _, b => if b.length = m then [b] else []
  | d + 1, f, b => if b.length = m then [b] else (List.range' f (I - f)).flatMap fun i => gooF I m d (i + 1) (b ++ [(i : Int)])
def gooTo (I m d f : Nat) (b : List Int) (i : Nat) : List (List Int) := (List.range' f (i - f)).flatMap fun i => gooF I m d (i + 1) (b ++ [(i : Int)])
theorem gooTo_next {I m d f i : Nat} {b : List Int} (h : f ≤ i) : gooTo I m d f b (i + 1) = gooTo I m d f b i ++ gooF I m d (i + 1) (b ++ [(i : Int)]) := by
  unfold gooTo
  rw [show i + 1 - f = (i - f) + 1 by omega, List.range'_concat, List.flatMap_append]
  congr 1
  simp [show f + (i - f) = i by omega]
theorem gooTo_len {I m d f : Nat} {b : List Int} {i j : Nat} (h : i ≤ j) : (gooTo I m d f b i).length ≤ (gooTo I m d f b j).length := by
  induction j with
  | zero => rw [Nat.le_zero.1 h]; exact Nat.le_refl _
  | succ j ih =>
    rcases Nat.eq_or_lt_of_le h with h1 | h1
    · rw [h1]; exact Nat.le_refl _
    · refine Nat.le_trans (ih (by omega)) ?_
      by_cases hf : f ≤ j
      · rw [gooTo_next hf, List.length_append]; omega
      · unfold gooTo
        rw [show j - f = 0 by omega, show j + 1 - f = 0 by omega]; exact Nat.le_refl _
/-- What the recursion reads. -/
structure GIn (W : World) (own : Foot) (g I : Nat) : Prop where
  hI : W.cell? ⟨g, 0, none⟩ = some (.int .i64 (I : Int))
  lt : g < W.heap.size
  no : ¬ own g
theorem no_grow {W W' : World} {own own' : Foot} (hg : Grow own W own' W') {q : Nat} (hq : q < W.heap.size) (hn : ¬ own q) : ¬ own' q := fun h' => by
  rcases hg.from_ q h' with h1 | h1
  · exact hn h1
  · omega
theorem GIn.grow {W W' : World} {own own' : Foot} {g I : Nat} (h : GIn W own g I) (hg : Grow own W own' W') : GIn W' own' g I :=
  ⟨(World.cell?_of_block (hg.same _ h.lt h.no)).trans h.hI, Nat.lt_of_lt_of_le h.lt hg.size, no_grow hg h.lt h.no⟩
/-- A list that a loop cannot write. -/
def InO (W : World) (own : Foot) (A : Option Addr) (k : Nat) (b : List Int) : Prop := InS W W.heap.size A k b ∧ ∀ bb off, A = some ⟨bb, off, none⟩ → bb < W.heap.size ∧ ¬ own bb ∧ ∃ cs fr, W.heap[bb]? = some (.cells cs 3 fr)
theorem InO.grow {W W' : World} {own own' : Foot} {A : Option Addr} {k : Nat} {b : List Int} (h : InO W own A k b) (hg : Grow own W own' W') : InO W' own' A k b :=
  ⟨ins_at h.1 hg.size (fun b' off e hb => hg.same _ hb (h.2 b' off e).2.1), fun b' off e => ⟨Nat.lt_of_lt_of_le (h.2 b' off e).1 hg.size, no_grow hg (h.2 b' off e).1 (h.2 b' off e).2.1, by obtain ⟨h1, h2, cs, fr, h3⟩ := h.2 b' off e; exact ⟨cs, fr, (hg.same _ h1 h2).trans h3⟩⟩⟩
end Go.Proofs.Ytnpilfpackdimaa
