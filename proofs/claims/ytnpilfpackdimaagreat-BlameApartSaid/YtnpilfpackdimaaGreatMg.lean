/- Texts of the proof, laid together by program. -/
import Derived.Test.YtnpilfpackdimaaGreatMf
set_option linter.unusedSimpArgs false
set_option linter.unusedVariables false
/- Walks: Forgotten, Kind, Core, Dual. -/
namespace Go.Proofs.YtnpilfpackdimaaGreat
open Go.RowKit Go.Shelf
attribute [local go_sem] Oper.semAt_some run_store_func
/-- A set holds none of some. -/
def forgB (ss : List (List Int)) (l : List Int) : Bool := !ss.any fun part => part.all (inB (bitsL l))
theorem enForgotten11 : ∀ args w, (callFunc 75 args).run Tryz.prog w = .ok (.enter 75 args) w := enters_of Tryz.func75 (by kernel_rfl) rfl
theorem enForgotten1 : ∀ args w, (callFunc 74 args).run Tryz.prog w = .ok (.enter 74 args) w := enters_of Tryz.func74 (by kernel_rfl) rfl
set_option maxRecDepth 100000 in
set_option maxHeartbeats 800000 in
theorem forgotten11_any (A B : Option Addr) (n c m d g : Nat) (p l : List Int) (w : World) (hp : InS w w.heap.size A n p) (hl : InS w w.heap.size B m l) (c0 : w.cell? ⟨g, 0, none⟩ = some (.slice B m d)) (hn : n ≤ 1000000) (hm : m ≤ 1000000) (hpb : ∀ x ∈ p, 0 ≤ x ∧ x < 8) (hlb : ∀ x ∈ l, 0 ≤ x ∧ x < 8) (lg : g < w.heap.size) :
    Calls Tryz.prog 75 #[.slice A n c, .pointer (some ⟨g, 0, none⟩)] w fun e w' => e = .returned (.bool (p.all (inB (bitsL l)))) ∧ Below w.heap.size w w' := by
  have HP := hid hp
  have HL := hid hl
  have Hlb := hid hlb
  have HM := hid (fun W h => marksHas_any (bitsL l) A n c p W h hn hpb)
  obtain ⟨bw, hbw⟩ : ∃ bw, p.all (inB (bitsL l)) = bw := ⟨_, rfl⟩
  rw [hbw] at HM ⊢
  clear hp hl hlb hpb hbw
  go_enter Tryz.func75, Tryz.ntmps75
  go_wp2_with (fail)
  refine (marked_any B m d l _ HL.out hm Hlb.out).mono ?_
  rintro e w1 ⟨rfl, hb1⟩
  go_wp2_with (fail)
  refine (HM.out _ (HP.out.below hb1 hb1.size)).mono ?_
  rintro e w2 ⟨rfl, hb2⟩
  go_wp2
  refine bodyPost_ret (v := .bool bw) (by first | (simp [results, Tryz.results75, go_sem]; done) | (simp [results, Tryz.results75, go_sem, *]; done) | (simp [results, Tryz.results75, go_sem, World.cell?_setCell_same', *]; done) | (simp [results, Tryz.results75, go_sem]; first | exact ⟨rfl, rfl⟩ | rfl)) rfl ⟨rfl, hb1.trans (hb2.mono hb1.size)⟩
set_option maxRecDepth 100000 in
set_option maxHeartbeats 800000 in
theorem forgotten1_any (A B : Option Addr) (n c m d g : Nat) (l : List Int) (ss : List (List Int)) (w : World) (hl : InS w w.heap.size A n l) (hs : LiS w w.heap.size B m ss) (c0 : w.cell? ⟨g, 0, none⟩ = some (.slice B m d)) (hn : n ≤ 1000000) (hm : m ≤ 1000000) (hlb : ∀ x ∈ l, 0 ≤ x ∧ x < 8) (hsb : ∀ p ∈ ss, isL 8 0 p = true) (lg : g < w.heap.size) :
    Calls Tryz.prog 74 #[.slice A n c, .pointer (some ⟨g, 0, none⟩)] w fun e w' => e = .returned (.bool (forgB ss l)) ∧ Below w.heap.size w w' := by
  obtain ⟨W2, hW2⟩ : ∃ W2, w.alloc (.cells #[.slice A n c] 25) = W2 := ⟨_, rfl⟩
  have hb2 : Below w.heap.size w W2 := by rw [← hW2]; exact (Below.refl _ _).alloc (Nat.le_refl _) _
  have B2 : Blk W2 w.heap.size 25 #[.slice A n c] := by rw [← hW2]; exact Blk.new' rfl
  have c1 : W2.cell? ⟨g, 0, none⟩ = some (.slice B m d) := (hb2.cell (p := ⟨g, 0, none⟩) lg).trans c0
  have lg2 : g < W2.heap.size := Nat.lt_of_lt_of_le lg hb2.size
  have hc := conFL_any 75 #[.pointer (some ⟨w.heap.size, 0, none⟩)] enForgotten11 (fun part => part.all (inB (bitsL l))) B m d ss W2 (hs.below hb2 hb2.size) hm (fun x hx A' m' c' W hW hin => by
    have hxv := hsb x hx
    exact forgotten11_any A' A m' c' n c w.heap.size x l W hin (hl.below (hb2.trans (hW.mono hb2.size)) (Nat.le_trans hb2.size hW.size)) ((hW.cell (p := ⟨w.heap.size, 0, none⟩) B2.lt).trans (B2.cell 0)) (by have := isL_len8 hxv (by omega); have := hin.len; omega) hn (isL_bd hxv) hlb (Nat.lt_of_lt_of_le B2.lt hW.size))
  have hf : Hid (forgB ss l = !ss.any fun part => part.all (inB (bitsL l))) := rfl
  obtain ⟨bw, hbw⟩ : ∃ bw, ss.any (fun part => part.all (inB (bitsL l))) = bw := ⟨_, rfl⟩
  rw [hbw] at hc hf
  clear hbw hl hs hlb hsb c0 B2
  go_enter Tryz.func74, Tryz.ntmps74
  go_wp2_with (go_at_call 77; refine hc.mono ?_; rintro e w1 ⟨rfl, hb1⟩)
  refine bodyPost_ret (v := .bool (!bw)) (by first | (simp [results, Tryz.results74, go_sem]; done) | (simp [results, Tryz.results74, go_sem, *]; done) | (simp [results, Tryz.results74, go_sem, World.cell?_setCell_same', *]; done) | (simp [results, Tryz.results74, go_sem]; first | exact ⟨rfl, rfl⟩ | rfl)) rfl ⟨by rw [hf.out], hb2.trans (hb1.mono hb2.size)⟩
set_option maxRecDepth 10000 in
set_option maxHeartbeats 800000 in
theorem findL_any (g : Nat) (cb : Array Value) (eg : ∀ args w, (callFunc g args).run Tryz.prog w = .ok (.enter g args) w) (p : List Int → Bool) (A : Option Addr) (n c : Nat) (ls : List (List Int)) (w : World) (hl : LiS w w.heap.size A n ls) (hn : n ≤ 1000000) (hp : ∀ x ∈ ls, ∀ (A' : Option Addr) (m c' : Nat) (W : World), Below w.heap.size w W → InS W W.heap.size A' m x → Calls Tryz.prog g (#[.slice A' m c'] ++ cb) W fun e w' => e = .returned (.bool (p x)) ∧ Below W.heap.size W w') :
    Calls Tryz.prog 78 #[.slice A n c, .func (.func g) #[] cb] w fun e w' => ∃ A' m' c', e = .returned (.tuple #[.slice A' m' c', .bool (ls.find? p).isSome]) ∧ InS w' w'.heap.size A' m' ((ls.find? p).getD []) ∧ Below w.heap.size w w' := by
  have hlen := hid hl.1
  have HL := hid hl
  have HP := hid hp
  clear hp hl
  obtain ⟨fv, hfv⟩ : ∃ fv, ls.find? p = fv := ⟨_, rfl⟩
  have Hfv := hid hfv
  rw [hfv]
  clear hfv
  go_enter Tryz.func78, Tryz.ntmps78
  go_wp2
  go_loopw [11] (fun i wr => ∃ k : Nat, k ≤ n ∧ i = .int .i64 k ∧ Hid ((ls.take k).find? p = none) ∧ Below w.heap.size w wr) (fun i _ => n - (intOf i).toNat)
  case atStart => exact ⟨0, by omega, rfl, hid (by simp), Below.refl _ _⟩
  case round =>
    obtain ⟨k, hk, rfl, hno, hbw⟩ := hrel
    have hszw := hbw.size
    by_cases hlt : k < n
    · obtain ⟨b, off, x, A', m, c', rfl, hb, hm, c0, hin⟩ := (HL.out.below hbw hszw).at_ hlt
      have Hm := hid hm
      have hlti : (k : Int) < n := by omega
      have hc := HP.out x (List.mem_of_getElem? hm) A' m c' wr hbw hin
      have HI := hid hin
      clear hm hin
      cases hx : p x
      · have Hs := hid (find_off hno.out Hm.out hx)
        rw [hx] at hc
        clear hx
        go_wp2_with (go_at_fn g; refine hc.mono ?_; rintro e w1 ⟨rfl, hb1⟩)
        exact ⟨⟨k + 1, by omega, by go_num, Hs, hbw.trans (hb1.mono hszw)⟩, by simp [intOf]; omega⟩
      · have Hf := hid (find_hit hno.out Hm.out hx)
        rw [hx] at hc
        clear hx
        go_wp2_with (go_at_fn g; refine hc.mono ?_; rintro e w1 ⟨rfl, hb1⟩)
        have hfx : fv = some x := by rw [← Hfv.out, Hf.out]
        refine bodyPost_ret (v := .tuple #[.slice A' m c', .bool true]) (by first | (simp [results, Tryz.results78, go_sem]; done) | (simp [results, Tryz.results78, go_sem, *]; done) | (simp [results, Tryz.results78, go_sem, World.cell?_setCell_same', *]; done) | (simp [results, Tryz.results78, go_sem]; first | exact ⟨rfl, rfl⟩ | rfl)) rfl ⟨A', m, c', by rw [hfx]; rfl, by rw [hfx]; exact HI.out.below hb1 hb1.size, hbw.trans (hb1.mono hszw)⟩
    · obtain rfl : k = n := by omega
      have Hf : Hid (fv = none) := hid (by rw [← Hfv.out]; have := hno.out; rwa [List.take_of_length_le (by rw [hlen.out]; exact Nat.le_refl _)] at this)
      go_wp2
      refine bodyPost_ret (v := .tuple #[.slice none 0 0, .bool false]) (by first | (simp [results, Tryz.results78, go_sem]; done) | (simp [results, Tryz.results78, go_sem, *]; done) | (simp [results, Tryz.results78, go_sem, World.cell?_setCell_same', *]; done) | (simp [results, Tryz.results78, go_sem]; first | exact ⟨rfl, rfl⟩ | rfl)) rfl ⟨none, 0, 0, by rw [Hf.out]; rfl, by rw [Hf.out]; exact Sl.none_, hbw⟩
/-- Forgotten's answer. -/
def forO (ls ss : List (List Int)) : Option (List Int) := (allP ls).find? (forgB ss)
def forE (I : Int) (ls ss : List (List Int)) : Int := if lisE I ls ss ≠ 0 then lisE I ls ss else if (forO ls ss).isSome then 0 else 5
def forV (I : Int) (ls ss : List (List Int)) : List Int := if lisE I ls ss ≠ 0 then [] else (forO ls ss).getD []
set_option maxRecDepth 100000 in
set_option maxHeartbeats 1600000 in
theorem forgotten_any (A B : Option Addr) (n c m d : Nat) (ls ss : List (List Int)) (I : Int) (w : World) (hl : LiS w w.heap.size A n ls) (hs : LiS w w.heap.size B m ss) (hn : n ≤ 1000000) (hw : ∀ l ∈ ls, l.length ≤ 1000000) (hm : m ≤ 1000000) (hws : ∀ l ∈ ss, l.length ≤ 1000000) :
    Calls Tryz.prog 28 #[.agg #[.int .i64 I, .slice A n c], .slice B m d] w fun e w' => ∃ A' m' c', e = .returned (.tuple #[.slice A' m' c', .int .i64 (forE I ls ss)]) ∧ InS w' w'.heap.size A' m' (forV I ls ss) ∧ Below w.heap.size w w' := by
  have HL := hid hl
  have HS := hid hs
  clear hl hs
  by_cases he : lisE I ls ss = 0
  · obtain ⟨hcb, h80, ho⟩ := lisE_good he
    obtain ⟨-, hsv⟩ := openE_good ho
    have hs8 : ∀ l ∈ ss, isL 8 0 l = true := fun l hl => isL8 (hsv l hl) (book_good hcb).2.1
    have HO := hid (fun w h1 h2 => listedP_ok A B n c m d ls ss I w h1 h2 hn hw hm hws he)
    have hv : Hid (forE I ls ss = if (forO ls ss).isSome then 0 else 5) := hid (if_neg (by simpa using he))
    have hv2 : Hid (forV I ls ss = (forO ls ss).getD []) := hid (if_neg (by simpa using he))
    have HA := hid (fun g w h => all_any g I A n c ls w h hn (book8 hcb))
    have hal := allP_len ls
    have HF := hid (fun W (g2 : Nat) (A' : Option Addr) (n' c' : Nat) (h1 : LiS W W.heap.size A' n' (allP ls)) (h2 : LiS W W.heap.size B m ss) (q2 : W.cell? ⟨g2, 0, none⟩ = some (.slice B m d)) (l2 : g2 < W.heap.size) => findL_any 74 #[.pointer (some ⟨g2, 0, none⟩)] enForgotten1 (forgB ss) A' n' c' (allP ls) W h1 (by have := h1.1; omega) (fun x hx A3 m3 c3 V hV hin => by
      have hxv := allP_isL ls x hx
      exact forgotten1_any A3 B m3 c3 m d g2 x ss V hin (h2.below hV hV.size) ((hV.cell (p := ⟨g2, 0, none⟩) l2).trans q2) (by have := isL_len8 hxv (by omega); have := hin.len; omega) hm (isL_bd hxv) hs8 (Nat.lt_of_lt_of_le l2 hV.size)))
    have hfo : Hid ((allP ls).find? (forgB ss) = forO ls ss) := rfl
    obtain ⟨mv, hmv⟩ : ∃ mv, allP ls = mv := ⟨_, rfl⟩
    obtain ⟨fo, hfoe⟩ : ∃ fo, forO ls ss = fo := ⟨_, rfl⟩
    rw [hmv] at HA HF hfo
    rw [hfoe] at hv hv2 hfo
    rw [hfo.out] at HF
    clear he hmv hal hcb h80 ho hsv hs8 hfoe hfo
    go_enter Tryz.func28, Tryz.ntmps28
    go_wp2_with (fail)
    refine (HO.out _ (HL.out.below (by repeat' (first | with_reducible assumption | with_reducible exact Below.refl _ _ | refine Below.alloc ?_ ?_ _ | refine Below.setCell ?_ ?_ _ | refine Below.drew ?_ | refine below_drewN ?_ _ | (simp; done) | (simp; omega) | omega)) (by first | (simp; done) | (simp; omega) | omega)) (HS.out.below (by repeat' (first | with_reducible assumption | with_reducible exact Below.refl _ _ | refine Below.alloc ?_ ?_ _ | refine Below.setCell ?_ ?_ _ | refine Below.drew ?_ | refine below_drewN ?_ _ | (simp; done) | (simp; omega) | omega)) (by first | (simp; done) | (simp; omega) | omega))).mono ?_
    rintro e w1 ⟨g, rfl, hg, hd, hb1⟩
    have hbel : Below w.heap.size w w1 := Below.trans (by repeat' (first | with_reducible assumption | with_reducible exact Below.refl _ _ | refine Below.alloc ?_ ?_ _ | refine Below.setCell ?_ ?_ _ | refine Below.drew ?_ | refine below_drewN ?_ _ | (simp; done) | (simp; omega) | omega)) (hb1.mono (by first | (simp; done) | (simp; omega) | omega))
    have c3 : w1.cell? ⟨w.heap.size + 1, 0, none⟩ = some (.slice B m d) := (hb1.cell (p := ⟨w.heap.size + 1, 0, none⟩) (by first | (simp; done) | (simp; omega) | omega)).trans (by go_simp)
    have hq1 : w.heap.size + 1 < w1.heap.size := (by have := hb1.size; simp at this; omega)
    have HD := hid hd
    clear hd hb1
    go_wp2_with (fail)
    refine (HA.out _ _ HD.out).mono ?_
    rintro e w2 ⟨A7, m7, c7, rfl, -, hi2, hb2⟩
    have hbe2 := hbel.trans (hb2.mono hbel.size)
    have HI := hid hi2.lis
    have c4 : w2.cell? ⟨w.heap.size + 1, 0, none⟩ = some (.slice B m d) := (hb2.cell (p := ⟨w.heap.size + 1, 0, none⟩) hq1).trans c3
    have hq2 : w.heap.size + 1 < w2.heap.size := Nat.lt_of_lt_of_le hq1 hb2.size
    have C4 := hid c4
    clear hi2 hb2 c3 c4
    go_wp2_with (fail)
    refine (HF.out _ (w.heap.size + 1) A7 m7 c7 HI.out (HS.out.below hbe2 hbe2.size) C4.out hq2).mono ?_
    rintro e w3 ⟨A8, m8, c8, rfl, hi3, hb3⟩
    have hbe3 := hbe2.trans (hb3.mono hbe2.size)
    have HI3 := hid hi3
    clear hi3 hb3
    cases fo with
    | none =>
      simp only [Option.isSome_none]
      go_wp2
      refine bodyPost_ret (v := .tuple #[.slice none 0 0, .int .i64 5]) (by first | (simp [results, Tryz.results28, go_sem]; done) | (simp [results, Tryz.results28, go_sem, *]; done) | (simp [results, Tryz.results28, go_sem, World.cell?_setCell_same', *]; done) | (simp [results, Tryz.results28, go_sem]; first | exact ⟨rfl, rfl⟩ | rfl)) rfl ⟨none, 0, 0, by rw [hv.out]; rfl, by rw [hv2.out]; exact Sl.none_, hbe3⟩
    | some x =>
      simp only [Option.isSome_some]
      go_wp2
      refine bodyPost_ret (v := .tuple #[.slice A8 m8 c8, .int .i64 0]) (by first | (simp [results, Tryz.results28, go_sem]; done) | (simp [results, Tryz.results28, go_sem, *]; done) | (simp [results, Tryz.results28, go_sem, World.cell?_setCell_same', *]; done) | (simp [results, Tryz.results28, go_sem]; first | exact ⟨rfl, rfl⟩ | rfl)) rfl ⟨A8, m8, c8, by rw [hv.out]; rfl, by rw [hv2.out]; exact HI3.out, hbe3⟩
  · have hv : Hid (forE I ls ss = lisE I ls ss) := hid (if_pos he)
    have hv2 : Hid (forV I ls ss = []) := hid (if_pos he)
    have HO := hid (fun w h1 h2 => listedP_bad A B n c m d ls ss I w h1 h2 hn hw hm hws he)
    obtain ⟨ev, hev⟩ : ∃ ev, lisE I ls ss = ev := ⟨_, rfl⟩
    rw [hev] at hv HO he
    have hbi : (ev != 0) = true := by simpa using he
    clear hev
    go_enter Tryz.func28, Tryz.ntmps28
    go_wp2_with (fail)
    refine (HO.out _ (HL.out.below (by repeat' (first | with_reducible assumption | with_reducible exact Below.refl _ _ | refine Below.alloc ?_ ?_ _ | refine Below.setCell ?_ ?_ _ | refine Below.drew ?_ | refine below_drewN ?_ _ | (simp; done) | (simp; omega) | omega)) (by first | (simp; done) | (simp; omega) | omega)) (HS.out.below (by repeat' (first | with_reducible assumption | with_reducible exact Below.refl _ _ | refine Below.alloc ?_ ?_ _ | refine Below.setCell ?_ ?_ _ | refine Below.drew ?_ | refine below_drewN ?_ _ | (simp; done) | (simp; omega) | omega)) (by first | (simp; done) | (simp; omega) | omega))).mono ?_
    rintro e w1 ⟨rfl, hb1⟩
    have hbel : Below w.heap.size w w1 := Below.trans (by repeat' (first | with_reducible assumption | with_reducible exact Below.refl _ _ | refine Below.alloc ?_ ?_ _ | refine Below.setCell ?_ ?_ _ | refine Below.drew ?_ | refine below_drewN ?_ _ | (simp; done) | (simp; omega) | omega)) (hb1.mono (by first | (simp; done) | (simp; omega) | omega))
    go_wp2
    refine bodyPost_ret (v := .tuple #[.slice none 0 0, .int .i64 ev]) (by first | (simp [results, Tryz.results28, go_sem]; done) | (simp [results, Tryz.results28, go_sem, *]; done) | (simp [results, Tryz.results28, go_sem, World.cell?_setCell_same', *]; done) | (simp [results, Tryz.results28, go_sem]; first | exact ⟨rfl, rfl⟩ | rfl)) rfl ⟨none, 0, 0, by rw [hv.out], by rw [hv2.out]; exact Sl.none_, hbel⟩
end Go.Proofs.YtnpilfpackdimaaGreat
/- Walks: Kind, Core, Dual. -/
namespace Go.Proofs.YtnpilfpackdimaaGreat
open Go.RowKit Go.Shelf
attribute [local go_sem] Oper.semAt_some run_store_func
theorem enKind1 : ∀ args w, (callFunc 83 args).run Tryz.prog w = .ok (.enter 83 args) w := enters_of Tryz.func83 (by kernel_rfl) rfl
set_option maxHeartbeats 800000 in
theorem kind1_any (A : Option Addr) (n c g : Nat) (l : List Int) (inn : Int) (w : World) (hl : InS w w.heap.size A n l) (c0 : w.cell? ⟨g, 0, none⟩ = some (.int .i64 inn)) (hn : n ≤ 1000000) (lg : g < w.heap.size) :
    Calls Tryz.prog 83 #[.slice A n c, .pointer (some ⟨g, 0, none⟩)] w fun e w' => e = .returned (.bool (!has l inn)) ∧ Below w.heap.size w w' := by
  have hc := contains_any A n c l inn w hl hn
  obtain ⟨bw, hbw⟩ : ∃ bw, has l inn = bw := ⟨_, rfl⟩
  rw [hbw] at hc ⊢
  clear hbw hl
  go_enter Tryz.func83, Tryz.ntmps83
  go_wp2_with (go_at_call 84; refine hc.mono ?_; rintro e w1 ⟨rfl, rfl⟩)
  refine bodyPost_ret (v := .bool (!bw)) (by first | (simp [results, Tryz.results83, go_sem]; done) | (simp [results, Tryz.results83, go_sem, *]; done) | (simp [results, Tryz.results83, go_sem, World.cell?_setCell_same', *]; done) | (simp [results, Tryz.results83, go_sem]; first | exact ⟨rfl, rfl⟩ | rfl)) rfl ⟨rfl, Below.refl _ _⟩
/-- Kind's answer. -/
def kinN (ls : List (List Int)) (inn : Int) : Nat := ((allP ls).filter fun x => has x inn).length
def kinE (I : Int) (ls : List (List Int)) (inn : Int) : Int := if chkBook I ls ≠ 0 then chkBook I ls else if inn < 0 ∨ I ≤ inn then 2 else if (allP ls).length = 0 then 21 else 0
def kinV (I : Int) (ls : List (List Int)) (inn : Int) : Int := if chkBook I ls ≠ 0 then 0 else if inn < 0 ∨ I ≤ inn then 0 else if (allP ls).length = 0 then 0 else if kinN ls inn = (allP ls).length then 2 else if kinN ls inn = 0 then 0 else 1
set_option maxRecDepth 100000 in
set_option maxHeartbeats 4000000 in
theorem kind_any (A : Option Addr) (n c : Nat) (ls : List (List Int)) (I inn : Int) (w : World) (hl : LiS w w.heap.size A n ls) (hn : n ≤ 1000000) (hw : ∀ l ∈ ls, l.length ≤ 1000000) :
    Calls Tryz.prog 30 #[.agg #[.int .i64 I, .slice A n c], .int .i64 inn] w fun e w' => e = .returned (.tuple #[.int .i64 (kinV I ls inn), .int .i64 (kinE I ls inn)]) ∧ Below w.heap.size w w' := by
  have HL := hid hl
  have HW := hid hw
  clear hl hw
  by_cases he : chkBook I ls = 0
  · obtain ⟨h1, h8, h10, -⟩ := book_good he
    have HO := hid (fun w h => open_ok A none n c 0 0 ls [] I w h (lis_nil _ _) hn HW.out (by omega) (by simp) (by rw [openE_nil]; exact he))
    have hv : Hid (kinE I ls inn = if inn < 0 ∨ I ≤ inn then 2 else if (allP ls).length = 0 then 21 else 0) := hid (if_neg (by simpa using he))
    have hv2 : Hid (kinV I ls inn = if inn < 0 ∨ I ≤ inn then 0 else if (allP ls).length = 0 then 0 else if kinN ls inn = (allP ls).length then 2 else if kinN ls inn = 0 then 0 else 1) := hid (if_neg (by simpa using he))
    have z1 : IntKind.i64.wrap (I - 1) = I - 1 := IntWalk.i64_in _ (by omega)
    cases hr : inR 0 (I - 1) inn
    · have hr' := inR_f.1 hr
      rw [if_pos (by omega)] at hv hv2
      have Hr := hid ((all_one (p := inR 0 (I - 1)) inn).trans hr)
      clear hr hr' he h10
      go_enter Tryz.func30, Tryz.ntmps30
      go_wp2_with (fail)
      refine (HO.out _ (HL.out.below (by repeat' (first | with_reducible assumption | with_reducible exact Below.refl _ _ | refine Below.alloc ?_ ?_ _ | refine Below.setCell ?_ ?_ _ | refine Below.drew ?_ | refine below_drewN ?_ _ | (simp; done) | (simp; omega) | omega)) (by first | (simp; done) | (simp; omega) | omega))).mono ?_
      rintro e w1 ⟨g, rfl, hg, hd, hb1⟩
      have hbel : Below w.heap.size w w1 := Below.trans (by repeat' (first | with_reducible assumption | with_reducible exact Below.refl _ _ | refine Below.alloc ?_ ?_ _ | refine Below.setCell ?_ ?_ _ | refine Below.drew ?_ | refine below_drewN ?_ _ | (simp; done) | (simp; omega) | omega)) (hb1.mono (by first | (simp; done) | (simp; omega) | omega))
      have c2 : w1.cell? ⟨w.heap.size, 0, none⟩ = some (.int .i64 I) := (hb1.cell (p := ⟨w.heap.size, 0, none⟩) (by first | (simp; done) | (simp; omega) | omega)).trans (by go_simp)
      have c3 : w1.cell? ⟨w.heap.size + 1, 0, none⟩ = some (.int .i64 inn) := (hb1.cell (p := ⟨w.heap.size + 1, 0, none⟩) (by first | (simp; done) | (simp; omega) | omega)).trans (by go_simp)
      have hq1 : w.heap.size + 1 < w1.heap.size := (by have := hb1.size; simp at this; omega)
      have hq0 : w.heap.size < w1.heap.size := by omega
      clear hd hb1
      go_wp2_with (fail)
      refine (within_any _ 1 1 [inn] 0 (I - 1) _ (inS_lit1 inn (by first | (simp; done) | (simp; omega) | omega) (by first | (simp; done) | (simp; omega) | omega)) (by omega)).mono ?_
      rw [Hr.out]
      rintro e w2 ⟨rfl, hb2⟩
      have hsz := hbel.size
      have hbe2 : Below w.heap.size w w2 := (hbel.alloc hsz (.cells #[.int .i64 inn] 3)).trans (hb2.mono (by simp; omega))
      go_wp2
      refine bodyPost_ret (v := .tuple #[.int .i64 0, .int .i64 2]) (by first | (simp [results, Tryz.results30, go_sem]; done) | (simp [results, Tryz.results30, go_sem, *]; done) | (simp [results, Tryz.results30, go_sem, World.cell?_setCell_same', *]; done) | (simp [results, Tryz.results30, go_sem]; first | exact ⟨rfl, rfl⟩ | rfl)) rfl ⟨by rw [hv.out, hv2.out], hbe2⟩
    · have hr' := inR_t.1 hr
      rw [if_neg (by omega)] at hv hv2
      have Hr := hid ((all_one (p := inR 0 (I - 1)) inn).trans hr)
      have HA := hid (fun g w h => all_any g I A n c ls w h hn (book8 he))
      have hal := allP_len ls
      have hsh := allP_short ls
      have HCl := hid (fun A' n' c' W (h : LiP W W.heap.size A' n' (allP ls)) h1 => cloneL_any A' n' c' (allP ls) W h h1 (by have := h.1; omega))
      have HDe := hid (fun (w0 W : World) (q n' cap g : Nat) hb hN hnl (q3 : w0.cell? ⟨g, 0, none⟩ = some (.int .i64 inn)) (lg : g < w0.heap.size) => delL_any w0 W q n' cap (allP ls) 83 #[.pointer (some ⟨g, 0, none⟩)] enKind1 (fun x => !has x inn) (fun x hx A3 m3 c3 V hV hin => kind1_any A3 m3 c3 g x inn V hin ((hV.cell (p := ⟨g, 0, none⟩) lg).trans q3) (by have := hsh x hx; have := hin.len; omega) (Nat.lt_of_lt_of_le lg hV.size)) hb hN hnl (by omega))
      have HDn := hid (fun W (g : Nat) => delL_nil 83 #[.pointer (some ⟨g, 0, none⟩)] enKind1 W)
      have hkn : Hid (kinN ls inn = ((allP ls).filter fun x => !!has x inn).length) := hid (by unfold kinN; simp)
      have hkl : kinN ls inn ≤ (allP ls).length := List.length_filter_le _ _
      obtain ⟨mv, hmv⟩ : ∃ mv, allP ls = mv := ⟨_, rfl⟩
      rw [hmv] at hv hv2 HA HCl HDe hkn hal hkl
      obtain ⟨kn, hkne⟩ : ∃ kn, kinN ls inn = kn := ⟨_, rfl⟩
      rw [hkne] at hv2 hkn hkl
      obtain ⟨mn, hmn⟩ : ∃ mn, mv.length = mn := ⟨_, rfl⟩
      have Hmn := hid hmn
      rw [hmn] at hv hv2 hal hkl
      clear he hmv hsh hr hkne hmn h10
      go_enter Tryz.func30, Tryz.ntmps30
      go_wp2_with (fail)
      refine (HO.out _ (HL.out.below (by repeat' (first | with_reducible assumption | with_reducible exact Below.refl _ _ | refine Below.alloc ?_ ?_ _ | refine Below.setCell ?_ ?_ _ | refine Below.drew ?_ | refine below_drewN ?_ _ | (simp; done) | (simp; omega) | omega)) (by first | (simp; done) | (simp; omega) | omega))).mono ?_
      rintro e w1 ⟨g, rfl, hg, hd, hb1⟩
      have hbel : Below w.heap.size w w1 := Below.trans (by repeat' (first | with_reducible assumption | with_reducible exact Below.refl _ _ | refine Below.alloc ?_ ?_ _ | refine Below.setCell ?_ ?_ _ | refine Below.drew ?_ | refine below_drewN ?_ _ | (simp; done) | (simp; omega) | omega)) (hb1.mono (by first | (simp; done) | (simp; omega) | omega))
      have c2 : w1.cell? ⟨w.heap.size, 0, none⟩ = some (.int .i64 I) := (hb1.cell (p := ⟨w.heap.size, 0, none⟩) (by first | (simp; done) | (simp; omega) | omega)).trans (by go_simp)
      have c3 : w1.cell? ⟨w.heap.size + 1, 0, none⟩ = some (.int .i64 inn) := (hb1.cell (p := ⟨w.heap.size + 1, 0, none⟩) (by first | (simp; done) | (simp; omega) | omega)).trans (by go_simp)
      have hq1 : w.heap.size + 1 < w1.heap.size := (by have := hb1.size; simp at this; omega)
      have hq0 : w.heap.size < w1.heap.size := by omega
      have C3 := hid c3
      have HD := hid hd
      have hsz := hbel.size
      clear hd hb1
      go_wp2_with (fail)
      refine (within_any _ 1 1 [inn] 0 (I - 1) _ (inS_lit1 inn (by first | (simp; done) | (simp; omega) | omega) (by first | (simp; done) | (simp; omega) | omega)) (by omega)).mono ?_
      rw [Hr.out]
      rintro e w2 ⟨rfl, hb2⟩
      have hb12 : Below w1.heap.size w1 w2 := ((Below.refl _ _).alloc (Nat.le_refl _) (.cells #[.int .i64 inn] 3)).trans (hb2.mono (by simp))
      have hbe2 : Below w.heap.size w w2 := hbel.trans (hb12.mono hsz)
      have hd2 := hid (HD.out.below hb12)
      clear hb2 c2 c3
      go_wp2_with (fail)
      refine (HA.out _ _ hd2.out).mono ?_
      rintro e w3 ⟨A7, m7, c7, rfl, hnil, hi2, hb3⟩
      have hb13 := hb12.trans (hb3.mono hb12.size)
      have hbe3 := hbe2.trans (hb3.mono hbe2.size)
      have HI := hid hi2
      have hm7 : m7 = mn := by have := hi2.1; have := Hmn.out; omega
      subst hm7
      clear hi2 hb3 hb12
      by_cases h0 : m7 = 0
      · obtain ⟨rfl, rfl⟩ := hnil h0
        rw [if_pos h0] at hv hv2
        subst h0
        clear hnil
        go_wp2_with (fail)
        refine (cloneL_nil _).mono ?_
        rintro e w4 ⟨rfl, rfl⟩
        go_wp2_with (fail)
        refine (HDn.out _ _).mono ?_
        rintro e w5 ⟨rfl, hb5⟩
        go_wp2
        refine bodyPost_ret (v := .tuple #[.int .i64 0, .int .i64 21]) (by first | (simp [results, Tryz.results30, go_sem]; done) | (simp [results, Tryz.results30, go_sem, *]; done) | (simp [results, Tryz.results30, go_sem, World.cell?_setCell_same', *]; done) | (simp [results, Tryz.results30, go_sem]; first | exact ⟨rfl, rfl⟩ | rfl)) rfl ⟨by rw [hv.out, hv2.out], hbe3.trans (hb5.mono hbe3.size)⟩
      · rw [if_neg h0] at hv hv2
        have h0i : ((m7 : Int) == 0) = false := by simpa using h0
        have h0j : ¬ (m7 : Int) = 0 := by omega
        clear hnil
        go_wp2_with (fail)
        refine (HCl.out A7 m7 c7 _ HI.out.lip (by omega)).mono ?_
        rintro e w4 ⟨v4, rfl, hN4, hb4⟩
        obtain ⟨vs, ho4, hat4⟩ := hN4
        obtain ⟨q4, cap4, rfl, hq4, hq4'⟩ := own_form2 ho4 (by rw [Hmn.out]; omega)
        have hN4 : NewLi w4 w3.heap.size _ mv := ⟨vs, ho4, hat4⟩
        have hN5 := hN4.mono (base' := w1.heap.size) hb13.size
        rw [Hmn.out] at hN5 ⊢
        have HN := hid hN5
        have hb14 := hb13.trans (hb4.mono hb13.size)
        have hbe4 := hbe3.trans (hb4.mono hbe3.size)
        clear ho4 hat4 hN4 hN5 hb4
        go_wp2_with (fail)
        refine (HDe.out w1 w4 q4 m7 cap4 (w.heap.size + 1) hb14 HN.out Hmn.out C3.out hq1).mono ?_
        rintro e w5 ⟨A5, n5, c5, rfl, hn5, hb5⟩
        have hbe5 := hbel.trans (hb5.mono hsz)
        have hn5' : n5 = kn := by rw [hn5, hkn.out]
        subst hn5'
        clear hn5 hb5 hkn
        by_cases h2 : n5 = m7
        · rw [if_pos h2] at hv2
          subst h2
          go_wp2
          refine bodyPost_ret (v := .tuple #[.int .i64 2, .int .i64 0]) (by first | (simp [results, Tryz.results30, go_sem]; done) | (simp [results, Tryz.results30, go_sem, *]; done) | (simp [results, Tryz.results30, go_sem, World.cell?_setCell_same', *]; done) | (simp [results, Tryz.results30, go_sem]; first | exact ⟨rfl, rfl⟩ | rfl)) rfl ⟨by rw [hv.out, hv2.out], hbe5⟩
        · rw [if_neg h2] at hv2
          have h2j : ¬ (n5 : Int) = m7 := by omega
          have h2i : ((n5 : Int) == (m7 : Int)) = false := beq_eq_false_iff_ne.2 h2j
          by_cases h3 : n5 = 0
          · rw [if_pos h3] at hv2
            have h3j : (n5 : Int) = 0 := by omega
            have h3i : ((n5 : Int) == 0) = true := beq_iff_eq.2 h3j
            have H3 := hid h3
            clear h3 h3j
            go_wp2
            refine bodyPost_ret (v := .tuple #[.int .i64 0, .int .i64 0]) (by first | (simp [results, Tryz.results30, go_sem]; done) | (simp [results, Tryz.results30, go_sem, *]; done) | (simp [results, Tryz.results30, go_sem, World.cell?_setCell_same', *]; done) | (simp [results, Tryz.results30, go_sem]; first | exact ⟨rfl, rfl⟩ | rfl)) rfl ⟨by rw [hv.out, hv2.out], hbe5⟩
          · rw [if_neg h3] at hv2
            have h3i : ((n5 : Int) == 0) = false := by simpa using h3
            have h3j : ¬ (n5 : Int) = 0 := by omega
            go_wp2
            refine bodyPost_ret (v := .tuple #[.int .i64 1, .int .i64 0]) (by first | (simp [results, Tryz.results30, go_sem]; done) | (simp [results, Tryz.results30, go_sem, *]; done) | (simp [results, Tryz.results30, go_sem, World.cell?_setCell_same', *]; done) | (simp [results, Tryz.results30, go_sem]; first | exact ⟨rfl, rfl⟩ | rfl)) rfl ⟨by rw [hv.out, hv2.out], hbe5⟩
  · have hv : Hid (kinE I ls inn = chkBook I ls) := hid (if_pos he)
    have hv2 : Hid (kinV I ls inn = 0) := hid (if_pos he)
    have HO := hid (fun w h => open_bad A none n c 0 0 ls [] I w h (lis_nil _ _) hn HW.out (by omega) (by simp) (by rw [openE_nil]; exact he))
    rw [openE_nil] at HO
    obtain ⟨ev, hev⟩ : ∃ ev, chkBook I ls = ev := ⟨_, rfl⟩
    rw [hev] at hv HO he
    have hbi : (ev != 0) = true := by simpa using he
    clear hev
    go_enter Tryz.func30, Tryz.ntmps30
    go_wp2_with (fail)
    refine (HO.out _ (HL.out.below (by repeat' (first | with_reducible assumption | with_reducible exact Below.refl _ _ | refine Below.alloc ?_ ?_ _ | refine Below.setCell ?_ ?_ _ | refine Below.drew ?_ | refine below_drewN ?_ _ | (simp; done) | (simp; omega) | omega)) (by first | (simp; done) | (simp; omega) | omega))).mono ?_
    rintro e w1 ⟨rfl, hb1⟩
    have hbel : Below w.heap.size w w1 := Below.trans (by repeat' (first | with_reducible assumption | with_reducible exact Below.refl _ _ | refine Below.alloc ?_ ?_ _ | refine Below.setCell ?_ ?_ _ | refine Below.drew ?_ | refine below_drewN ?_ _ | (simp; done) | (simp; omega) | omega)) (hb1.mono (by first | (simp; done) | (simp; omega) | omega))
    go_wp2
    refine bodyPost_ret (v := .tuple #[.int .i64 0, .int .i64 ev]) (by first | (simp [results, Tryz.results30, go_sem]; done) | (simp [results, Tryz.results30, go_sem, *]; done) | (simp [results, Tryz.results30, go_sem, World.cell?_setCell_same', *]; done) | (simp [results, Tryz.results30, go_sem]; first | exact ⟨rfl, rfl⟩ | rfl)) rfl ⟨by rw [hv.out, hv2.out], hbel⟩
end Go.Proofs.YtnpilfpackdimaaGreat
/- Walks (reference): listError, Holds, CheckAll, Forgotten, Kind. -/
namespace Go.Proofs.YtnpilfpackdimaaGreat
open Go.RowKit Go.Shelf
attribute [local go_sem] Oper.semAt_some
theorem lisE_many {I : Int} {ls ss : List (List Int)} (h : chkBook I ls = 0) (h2 : 80 < ss.length) : lisE I ls ss = 6 := by
  unfold lisE; rw [if_neg (by simpa using h), if_pos h2]
theorem lisE_rest {I : Int} {ls ss : List (List Int)} (h : chkBook I ls = 0) (h2 : ¬ 80 < ss.length) : lisE I ls ss = if ss.all (isL I 0) = false then 3 else 0 := by
  unfold lisE; rw [if_neg (by simpa using h), if_neg h2]; unfold openE; rw [if_neg (by simpa using h)]
set_option maxRecDepth 100000 in
set_option maxHeartbeats 1600000 in
theorem rlistError_any (A B : Option Addr) (n c m d : Nat) (ls ss : List (List Int)) (I : Int) (w : World) (hl : LiS w w.heap.size A n ls) (hs : LiS w w.heap.size B m ss) (hn : n ≤ 1000000) (hw : ∀ l ∈ ls, l.length ≤ 1000000) (hm : m ≤ 1000000) (hws : ∀ l ∈ ss, l.length ≤ 1000000) :
    Calls Tryz.prog 79 #[.agg #[.int .i64 I, .slice A n c], .slice B m d] w fun e w' => e = .returned (.int .i64 (lisE I ls ss)) ∧ Below w.heap.size w w' := by
  have hlen := hid hs.1
  have HL := hid hl
  have HS := hid hs
  have HW := hid hws
  have HC := hid (fun W h => rcheckBook_any A n c ls I W h hn hw)
  have hb0 : Below w.heap.size w (w.alloc (.cells #[.int .i64 I, .slice A n c] 24)) := (Below.refl _ _).alloc (Nat.le_refl _) _
  clear hl hs hw hws
  by_cases he : chkBook I ls = 0
  · rw [he] at HC
    by_cases h80 : 80 < m
    · have h80i : (80 : Int) < m := by omega
      have hv := hid (lisE_many (ss := ss) he (by rw [hlen.out]; exact h80))
      clear he
      go_enter Tryz.func79, Tryz.ntmps79
      go_wp2_with (fail)
      refine (HC.out _ (HL.out.below hb0 hb0.size)).mono ?_
      rintro e w1 ⟨rfl, hb1⟩
      have hbel : Below w.heap.size w w1 := Below.trans (by repeat' (first | with_reducible assumption | with_reducible exact Below.refl _ _ | refine Below.alloc ?_ ?_ _ | refine Below.setCell ?_ ?_ _ | refine Below.drew ?_ | refine below_drewN ?_ _ | (simp; done) | (simp; omega) | omega)) (hb1.mono (by first | (simp; done) | (simp; omega) | omega))
      have c0 : w1.cell? ⟨w.heap.size, 0, none⟩ = some (.int .i64 I) := (hb1.cell (p := ⟨w.heap.size, 0, none⟩) (by first | (simp; done) | (simp; omega) | omega)).trans (by go_simp)
      have c1 : w1.cell? ⟨w.heap.size, 1, none⟩ = some (.slice A n c) := (hb1.cell (p := ⟨w.heap.size, 1, none⟩) (by first | (simp; done) | (simp; omega) | omega)).trans (by go_simp)
      have hq0 : w.heap.size < w1.heap.size := (by have := hb1.size; simp at this; omega)
      have HLw := hid (HL.out.below hbel hbel.size)
      clear hb1 hb0
      go_wp2
      refine bodyPost_ret (v := .int .i64 6) (by first | (simp [results, Tryz.results79, go_sem]; done) | (simp [results, Tryz.results79, go_sem, *]; done) | (simp [results, Tryz.results79, go_sem, World.cell?_setCell_same', *]; done) | (simp [results, Tryz.results79, go_sem]; first | exact ⟨rfl, rfl⟩ | rfl)) rfl ⟨by rw [hv.out], hbel⟩
    · have h80i : ¬ (80 : Int) < m := by omega
      have hv := hid (lisE_rest (ss := ss) he (by rw [hlen.out]; exact h80))
      clear he
      go_enter Tryz.func79, Tryz.ntmps79
      go_wp2_with (fail)
      refine (HC.out _ (HL.out.below hb0 hb0.size)).mono ?_
      rintro e w1 ⟨rfl, hb1⟩
      have hbel : Below w.heap.size w w1 := Below.trans (by repeat' (first | with_reducible assumption | with_reducible exact Below.refl _ _ | refine Below.alloc ?_ ?_ _ | refine Below.setCell ?_ ?_ _ | refine Below.drew ?_ | refine below_drewN ?_ _ | (simp; done) | (simp; omega) | omega)) (hb1.mono (by first | (simp; done) | (simp; omega) | omega))
      have c0 : w1.cell? ⟨w.heap.size, 0, none⟩ = some (.int .i64 I) := (hb1.cell (p := ⟨w.heap.size, 0, none⟩) (by first | (simp; done) | (simp; omega) | omega)).trans (by go_simp)
      have c1 : w1.cell? ⟨w.heap.size, 1, none⟩ = some (.slice A n c) := (hb1.cell (p := ⟨w.heap.size, 1, none⟩) (by first | (simp; done) | (simp; omega) | omega)).trans (by go_simp)
      have hq0 : w.heap.size < w1.heap.size := (by have := hb1.size; simp at this; omega)
      have HLw := hid (HL.out.below hbel hbel.size)
      clear hb1 hb0
      go_wp2
      go_loopw [5] (fun i wr => ∃ k : Nat, k ≤ m ∧ i = .int .i64 k ∧ Hid ((ss.take k).any (fun l => !isL I 0 l) = false) ∧ Below w1.heap.size w1 wr) (fun i _ => m - (intOf i).toNat)
      case atStart => exact ⟨0, by omega, rfl, hid (by simp), Below.refl _ _⟩
      case round =>
        obtain ⟨k, hk, rfl, hno, hbw⟩ := hrel
        have hszw := hbw.size
        have d0 := (hbw.cell (p := ⟨w.heap.size, 0, none⟩) hq0).trans c0
        have l0 := Nat.lt_of_lt_of_le hq0 hszw
        have hbww := hbel.trans (hbw.mono hbel.size)
        by_cases hlt : k < m
        · obtain ⟨b1, off, x, A', m', c', rfl, hb1, hm2, q0, hin⟩ := (HS.out.below hbww hbww.size).at_ hlt
          have hlti : (k : Int) < m := by omega
          have hxl := HW.out x (List.mem_of_getElem? hm2)
          have hmn : m' ≤ 1000000 := by have := hin.len; omega
          have hb1r : b1 < wr.heap.size := by omega
          have Hm := hid hm2
          have Hin := hid hin
          clear hm2 hin
          go_wp2
          refine wp_region_hd_all (fun W => Below wr.heap.size wr W) (by kernel_rfl) (by kernel_rfl) ((Below.refl _ _).drew) ?_
          iterate 6 (refine wpHd_val (v := ?_) (by rfl) (fun W hW => ?_) ?_; rotate_left; (· obtain ⟨hcW, hfW⟩ := bcell hW; go_simp; with_reducible rfl); simp only [Act.put, List.setIfInBounds_toArray, List.set_cons_zero, List.set_cons_succ])
          (refine wpHd_callB (by rfl) (fun W hW => (isSet_any A' m' c' x I W (Hin.out.below hW hW.size) hmn)) (fun W hW => ?_) ?_; (· obtain ⟨hcW, hfW⟩ := bcell hW; go_simp); simp only [Act.put, List.setIfInBounds_toArray, List.set_cons_zero, List.set_cons_succ])
          cases hx : isL I 0 x
          · have Hf : Hid (ss.all (isL I 0) = false) := hid (by
              rw [Bool.eq_false_iff]
              intro h
              rw [List.all_eq_true.1 h x (List.mem_of_getElem? Hm.out)] at hx; cases hx)
            (refine wpHd_val (v := ?_) (by rfl) (fun W hW => ?_) ?_; rotate_left; (· obtain ⟨hcW, hfW⟩ := bcell hW; go_simp; with_reducible rfl); simp only [Act.put, List.setIfInBounds_toArray, List.set_cons_zero, List.set_cons_succ])
            refine wpHd_nil ?_
            intro W9 hW9
            have hbw9 := hbww.trans (hW9.mono hbww.size)
            clear hx d0
            go_wp2
            refine bodyPost_ret (v := .int .i64 3) (by first | (simp [results, Tryz.results79, go_sem]; done) | (simp [results, Tryz.results79, go_sem, *]; done) | (simp [results, Tryz.results79, go_sem, World.cell?_setCell_same', *]; done) | (simp [results, Tryz.results79, go_sem]; first | exact ⟨rfl, rfl⟩ | rfl)) rfl ⟨by rw [hv.out, Hf.out]; rfl, hbw9⟩
          · have Hs := hid (any_off hno.out Hm.out (by simp [hx]))
            (refine wpHd_val (v := ?_) (by rfl) (fun W hW => ?_) ?_; rotate_left; (· obtain ⟨hcW, hfW⟩ := bcell hW; go_simp; with_reducible rfl); simp only [Act.put, List.setIfInBounds_toArray, List.set_cons_zero, List.set_cons_succ])
            refine wpHd_nil ?_
            intro W9 hW9
            have hbw9 := hbw.trans (hW9.mono hszw)
            clear hx d0
            go_wp2
            exact ⟨⟨k + 1, by omega, by go_num, Hs, hbw9⟩, by simp [intOf]; omega⟩
        · obtain rfl : k = m := by omega
          have Hf : Hid (ss.all (isL I 0) = true) := hid (by
            have h := hno.out
            rw [List.take_of_length_le (by rw [hlen.out]; exact Nat.le_refl _), any_not_all] at h
            simpa using h)
          go_wp2
          refine bodyPost_ret (v := .int .i64 0) (by first | (simp [results, Tryz.results79, go_sem]; done) | (simp [results, Tryz.results79, go_sem, *]; done) | (simp [results, Tryz.results79, go_sem, World.cell?_setCell_same', *]; done) | (simp [results, Tryz.results79, go_sem]; first | exact ⟨rfl, rfl⟩ | rfl)) rfl ⟨by rw [hv.out, Hf.out]; rfl, hbww⟩
  · have hv : Hid (lisE I ls ss = chkBook I ls) := hid (if_pos he)
    obtain ⟨ev, hev⟩ : ∃ ev, chkBook I ls = ev := ⟨_, rfl⟩
    rw [hev] at hv HC he
    have hbi : (ev != 0) = true := by simpa using he
    clear hev
    go_enter Tryz.func79, Tryz.ntmps79
    go_wp2_with (fail)
    refine (HC.out _ (HL.out.below hb0 hb0.size)).mono ?_
    rintro e w1 ⟨rfl, hb1⟩
    have hbel : Below w.heap.size w w1 := Below.trans (by repeat' (first | with_reducible assumption | with_reducible exact Below.refl _ _ | refine Below.alloc ?_ ?_ _ | refine Below.setCell ?_ ?_ _ | refine Below.drew ?_ | refine below_drewN ?_ _ | (simp; done) | (simp; omega) | omega)) (hb1.mono (by first | (simp; done) | (simp; omega) | omega))
    have c0 : w1.cell? ⟨w.heap.size, 0, none⟩ = some (.int .i64 I) := (hb1.cell (p := ⟨w.heap.size, 0, none⟩) (by first | (simp; done) | (simp; omega) | omega)).trans (by go_simp)
    have c1 : w1.cell? ⟨w.heap.size, 1, none⟩ = some (.slice A n c) := (hb1.cell (p := ⟨w.heap.size, 1, none⟩) (by first | (simp; done) | (simp; omega) | omega)).trans (by go_simp)
    have hq0 : w.heap.size < w1.heap.size := (by have := hb1.size; simp at this; omega)
    have HLw := hid (HL.out.below hbel hbel.size)
    clear hb1 hb0
    go_wp2_with (fail)
    refine (HC.out _ HLw.out).mono ?_
    rintro e w2 ⟨rfl, hb2⟩
    have hbe2 := hbel.trans (hb2.mono hbel.size)
    go_wp2
    refine bodyPost_ret (v := .int .i64 ev) (by first | (simp [results, Tryz.results79, go_sem]; done) | (simp [results, Tryz.results79, go_sem, *]; done) | (simp [results, Tryz.results79, go_sem, World.cell?_setCell_same', *]; done) | (simp [results, Tryz.results79, go_sem]; first | exact ⟨rfl, rfl⟩ | rfl)) rfl ⟨by rw [hv.out], hbe2⟩
theorem bitsL_all {l : List Int} {b : Nat} (h : ∀ x ∈ l, 0 ≤ x) : (bitsL l &&& b = bitsL l) ↔ l.all (inB b) = true := by
  constructor
  · intro e
    rw [List.all_eq_true]
    intro x hx
    have h1 := congrArg (fun n => n.testBit x.toNat) e
    simp only [Nat.testBit_and] at h1
    rw [bitsL_test h, has_iff.2 (by rw [Int.toNat_of_nonneg (h x hx)]; exact hx), Bool.true_and] at h1
    exact h1
  · intro e
    refine Nat.eq_of_testBit_eq fun i => ?_
    rw [Nat.testBit_and, bitsL_test h]
    cases hh : has l (i : Int)
    · rfl
    · have := List.all_eq_true.1 e _ (has_iff.1 hh)
      simpa [inB] using this
/-- One of some sets is a part of a set. -/
def hldB (ss : List (List Int)) (s : List Int) : Bool := ss.any fun p => p.all (inB (bitsL s))
set_option maxRecDepth 100000 in
set_option maxHeartbeats 1600000 in
theorem rholds_any (A B : Option Addr) (n c m d : Nat) (ss : List (List Int)) (s : List Int) (w : World) (hl : LiS w w.heap.size A n ss) (hs : InS w w.heap.size B m s) (hn : n ≤ 1000000) (hv : ∀ l ∈ ss, isL 8 0 l = true) (hsv : isL 8 0 s = true) :
    Calls Tryz.prog 50 #[.slice A n c, .slice B m d] w fun e w' => e = .returned (.bool (hldB ss s)) ∧ Below w.heap.size w w' := by
  have hlen := hid hl.1
  have HL := hid hl
  have HV := hid hv
  have hm8 : m ≤ 8 := by have := isL_len8 hsv (by omega); have := hs.len; omega
  have hcb := rbits_any B m d s w hs (by omega) (fun y hy => by have := isL_bd hsv y hy; omega)
  have hsN : bitsL s < 256 := bitsL_lt (n := 8) hsv
  obtain ⟨hv', hhv⟩ : ∃ b, hldB ss s = b := ⟨_, rfl⟩
  have Hhv := hid hhv
  rw [hhv]
  obtain ⟨N, hN⟩ : ∃ N, bitsL s = N := ⟨_, rfl⟩
  have HN : Hid (hldB ss s = ss.any fun p => p.all (inB N)) := hid (by unfold hldB; rw [hN])
  rw [hN] at hcb hsN
  clear hl hv hs hsv hhv hN
  go_enter Tryz.func50, Tryz.ntmps50
  go_wp2_with (go_at_call 47; refine hcb.mono ?_; rintro e w1 ⟨rfl, rfl⟩)
  clear hcb
  go_loopw [6] (fun i wr => ∃ k : Nat, k ≤ n ∧ i = .int .i64 k ∧ Hid ((ss.take k).any (fun p => p.all (inB N)) = false) ∧ Below w.heap.size w wr) (fun i _ => n - (intOf i).toNat)
  case atStart => exact ⟨0, by omega, rfl, hid (by simp), Below.refl _ _⟩
  case round =>
    obtain ⟨k, hk, rfl, hno, hbw⟩ := hrel
    have hszw := hbw.size
    by_cases hlt : k < n
    · obtain ⟨b1, off, x, A', m', c', rfl, hb1, hm, c0, hin⟩ := (HL.out.below hbw hszw).at_ hlt
      have hxv := HV.out x (List.mem_of_getElem? hm)
      have hx8 : m' ≤ 8 := by have := isL_len8 hxv (by omega); have := hin.len; omega
      have hlti : (k : Int) < n := by omega
      have Hin := hid hin
      have Hxb := hid (fun y hy => by have := isL_bd hxv y hy; omega : ∀ y ∈ x, 0 ≤ y ∧ y < 16)
      have hand := bits_and_i64_nat (bitsL x) N (Nat.lt_of_lt_of_le (bitsL_lt (n := 8) hxv) (by decide)) (by omega)
      have hiff := bitsL_all (l := x) (b := N) (fun y hy => (isL_bd hxv y hy).1)
      have Hm := hid hm
      have hcx := hid (fun W h => rbits_any A' m' c' x W h (by omega) Hxb.out)
      obtain ⟨M, hM⟩ : ∃ M, bitsL x = M := ⟨_, rfl⟩
      rw [hM] at hand hiff hcx
      have hb1r : b1 < wr.heap.size := by omega
      clear hm hin hxv hM
      cases hx : x.all (inB N)
      · have hz : ¬ ((M &&& N : Nat) : Int) = (M : Int) := fun e => by
          have := hiff.1 (by omega)
          rw [hx] at this; cases this
        have Hs := hid (any_off hno.out Hm.out hx)
        clear hx hiff
        go_wp2
        refine wp_region_hd_all (fun W => Below wr.heap.size wr W) (by kernel_rfl) (by kernel_rfl) ((Below.refl _ _).drew) ?_
        iterate 4 (refine wpHd_val (v := ?_) (by rfl) (fun W hW => ?_) ?_; rotate_left; (· obtain ⟨hcW, hfW⟩ := bcell hW; go_simp; with_reducible rfl); simp only [Act.put, List.setIfInBounds_toArray, List.set_cons_zero, List.set_cons_succ])
        (refine wpHd_callB (by rfl) (fun W hW => ((hcx.out W (Hin.out.below hW hW.size)).mono (fun e w' h => ⟨h.1, by rw [← h.2]; exact Below.refl _ _⟩))) (fun W hW => ?_) ?_; (· obtain ⟨hcW, hfW⟩ := bcell hW; go_simp); simp only [Act.put, List.setIfInBounds_toArray, List.set_cons_zero, List.set_cons_succ])
        iterate 6 (refine wpHd_val (v := ?_) (by rfl) (fun W hW => ?_) ?_; rotate_left; (· obtain ⟨hcW, hfW⟩ := bcell hW; go_simp; with_reducible rfl); simp only [Act.put, List.setIfInBounds_toArray, List.set_cons_zero, List.set_cons_succ])
        (refine wpHd_callB (by rfl) (fun W hW => ((hcx.out W (Hin.out.below hW hW.size)).mono (fun e w' h => ⟨h.1, by rw [← h.2]; exact Below.refl _ _⟩))) (fun W hW => ?_) ?_; (· obtain ⟨hcW, hfW⟩ := bcell hW; go_simp); simp only [Act.put, List.setIfInBounds_toArray, List.set_cons_zero, List.set_cons_succ])
        (refine wpHd_val (v := ?_) (by rfl) (fun W hW => ?_) ?_; rotate_left; (· obtain ⟨hcW, hfW⟩ := bcell hW; go_simp; with_reducible rfl); simp only [Act.put, List.setIfInBounds_toArray, List.set_cons_zero, List.set_cons_succ])
        refine wpHd_nil ?_
        intro W9 hW9
        have hbw9 := hbw.trans (hW9.mono hszw)
        clear c0 hand
        go_wp2
        exact ⟨⟨k + 1, by omega, by go_num, Hs, hbw9⟩, by simp [intOf]; omega⟩
      · have hz : ((M &&& N : Nat) : Int) = (M : Int) := by rw [hiff.2 hx]
        have Hf : Hid (ss.any (fun p => p.all (inB N)) = true) := hid (List.any_eq_true.2 ⟨x, List.mem_of_getElem? Hm.out, hx⟩)
        clear hx hiff
        go_wp2
        refine wp_region_hd_all (fun W => Below wr.heap.size wr W) (by kernel_rfl) (by kernel_rfl) ((Below.refl _ _).drew) ?_
        iterate 4 (refine wpHd_val (v := ?_) (by rfl) (fun W hW => ?_) ?_; rotate_left; (· obtain ⟨hcW, hfW⟩ := bcell hW; go_simp; with_reducible rfl); simp only [Act.put, List.setIfInBounds_toArray, List.set_cons_zero, List.set_cons_succ])
        (refine wpHd_callB (by rfl) (fun W hW => ((hcx.out W (Hin.out.below hW hW.size)).mono (fun e w' h => ⟨h.1, by rw [← h.2]; exact Below.refl _ _⟩))) (fun W hW => ?_) ?_; (· obtain ⟨hcW, hfW⟩ := bcell hW; go_simp); simp only [Act.put, List.setIfInBounds_toArray, List.set_cons_zero, List.set_cons_succ])
        iterate 6 (refine wpHd_val (v := ?_) (by rfl) (fun W hW => ?_) ?_; rotate_left; (· obtain ⟨hcW, hfW⟩ := bcell hW; go_simp; with_reducible rfl); simp only [Act.put, List.setIfInBounds_toArray, List.set_cons_zero, List.set_cons_succ])
        (refine wpHd_callB (by rfl) (fun W hW => ((hcx.out W (Hin.out.below hW hW.size)).mono (fun e w' h => ⟨h.1, by rw [← h.2]; exact Below.refl _ _⟩))) (fun W hW => ?_) ?_; (· obtain ⟨hcW, hfW⟩ := bcell hW; go_simp); simp only [Act.put, List.setIfInBounds_toArray, List.set_cons_zero, List.set_cons_succ])
        (refine wpHd_val (v := ?_) (by rfl) (fun W hW => ?_) ?_; rotate_left; (· obtain ⟨hcW, hfW⟩ := bcell hW; go_simp; with_reducible rfl); simp only [Act.put, List.setIfInBounds_toArray, List.set_cons_zero, List.set_cons_succ])
        refine wpHd_nil ?_
        intro W9 hW9
        have hbw9 := hbw.trans (hW9.mono hszw)
        clear c0 hand
        go_wp2
        refine bodyPost_ret (v := .bool true) (by first | (simp [results, Tryz.results50, go_sem]; done) | (simp [results, Tryz.results50, go_sem, *]; done) | (simp [results, Tryz.results50, go_sem, World.cell?_setCell_same', *]; done) | (simp [results, Tryz.results50, go_sem]; first | exact ⟨rfl, rfl⟩ | rfl)) rfl ⟨by rw [← Hhv.out, HN.out, Hf.out], hbw9⟩
    · obtain rfl : k = n := by omega
      have Hf : Hid (ss.any (fun p => p.all (inB N)) = false) := hid (by have h := hno.out; rwa [List.take_of_length_le (by rw [hlen.out]; exact Nat.le_refl _)] at h)
      go_wp2
      refine bodyPost_ret (v := .bool false) (by first | (simp [results, Tryz.results50, go_sem]; done) | (simp [results, Tryz.results50, go_sem, *]; done) | (simp [results, Tryz.results50, go_sem, World.cell?_setCell_same', *]; done) | (simp [results, Tryz.results50, go_sem]; first | exact ⟨rfl, rfl⟩ | rfl)) rfl ⟨by rw [← Hhv.out, HN.out, Hf.out], hbw⟩
end Go.Proofs.YtnpilfpackdimaaGreat
/- Walks (reference): CheckAll, Forgotten, Kind. -/
namespace Go.Proofs.YtnpilfpackdimaaGreat
open Go.RowKit Go.Shelf
attribute [local go_sem] Oper.semAt_some
theorem allR_isL {I : Nat} {ls : List (List Int)} (hI : I ≤ 8) : ∀ l ∈ allR I ls, isL 8 0 l = true := fun l hl => by
  unfold allR at hl
  rw [mem_sortL] at hl
  obtain ⟨x, -, rfl⟩ := List.mem_map.1 hl
  exact isL_weak (by omega) (isL_listed' x I)
def rcaE (I : Int) (ls ss : List (List Int)) : Int := if lisE I ls ss ≠ 0 then lisE I ls ss else if allR I.toNat ls = ss then 0 else 14
set_option maxRecDepth 100000 in
set_option maxHeartbeats 1600000 in
theorem rcheckAll_any (A B : Option Addr) (n c m d : Nat) (ls ss : List (List Int)) (I : Int) (w : World) (hl : LiS w w.heap.size A n ls) (hs : LiS w w.heap.size B m ss) (hn : n ≤ 1000000) (hw : ∀ l ∈ ls, l.length ≤ 1000000) (hm : m ≤ 1000000) (hws : ∀ l ∈ ss, l.length ≤ 1000000) :
    Calls Tryz.prog 34 #[.agg #[.int .i64 I, .slice A n c], .slice B m d] w fun e w' => e = .returned (.int .i64 (rcaE I ls ss)) ∧ Below w.heap.size w w' := by
  have hlen := hid hs.1
  have HL := hid hl
  have HS := hid hs
  have HWs := hid hws
  have HC := hid (fun W h h2 => rlistError_any A B n c m d ls ss I W h h2 hn hw hm hws)
  have hb0 : Below w.heap.size w (w.alloc (.cells #[.int .i64 I, .slice A n c] 24)) := (Below.refl _ _).alloc (Nat.le_refl _) _
  clear hl hs hw hws
  by_cases he : lisE I ls ss = 0
  · obtain ⟨hc, h80, ho⟩ := lisE_good he
    obtain ⟨J, rfl⟩ : ∃ J : Nat, I = J := ⟨I.toNat, by have := (book_good hc).1; omega⟩
    have hJ8 : J ≤ 8 := by have := (book_good hc).2.1; omega
    have hv : Hid (rcaE J ls ss = if allR J ls = ss then 0 else 14) := hid (if_neg (by simpa using he))
    have HA := hid (fun W h => rallOf_any A n c ls J W h hn (book8 hc) hJ8)
    have hLl := allR_len ls hJ8
    have hLi := allR_isL (ls := ls) hJ8
    rw [he] at HC
    obtain ⟨L, hL⟩ : ∃ L, allR J ls = L := ⟨_, rfl⟩
    rw [hL] at HA hv hLl hLi
    have HLi := hid hLi
    clear he hL hLi hc h80 ho
    go_enter Tryz.func34, Tryz.ntmps34
    go_wp2_with (fail)
    refine (HC.out _ (HL.out.below hb0 hb0.size) (HS.out.below hb0 hb0.size)).mono ?_
    rintro e w1 ⟨rfl, hb1⟩
    have hbel : Below w.heap.size w w1 := Below.trans (by repeat' (first | with_reducible assumption | with_reducible exact Below.refl _ _ | refine Below.alloc ?_ ?_ _ | refine Below.setCell ?_ ?_ _ | refine Below.drew ?_ | refine below_drewN ?_ _ | (simp; done) | (simp; omega) | omega)) (hb1.mono (by first | (simp; done) | (simp; omega) | omega))
    have c0 : w1.cell? ⟨w.heap.size, 0, none⟩ = some (.int .i64 (J : Int)) := (hb1.cell (p := ⟨w.heap.size, 0, none⟩) (by first | (simp; done) | (simp; omega) | omega)).trans (by go_simp)
    have c1 : w1.cell? ⟨w.heap.size, 1, none⟩ = some (.slice A n c) := (hb1.cell (p := ⟨w.heap.size, 1, none⟩) (by first | (simp; done) | (simp; omega) | omega)).trans (by go_simp)
    have hq0 : w.heap.size < w1.heap.size := (by have := hb1.size; simp at this; omega)
    have HLw := hid (HL.out.below hbel hbel.size)
    clear hb1 hb0
    go_wp2_with (fail)
    refine (HA.out _ HLw.out).mono ?_
    rintro e w2 ⟨v, rfl, hn2, hb2⟩
    obtain ⟨A2, c2, rfl, hq2, -⟩ := hn2.liq
    have hlis := hid hq2.lis
    have hbe2 := hbel.trans (hb2.mono hbel.size)
    obtain ⟨m2, hm2⟩ : ∃ m2, L.length = m2 := ⟨_, rfl⟩
    rw [hm2] at hlis ⊢
    have Hm2 := hid hm2
    have hm256 : m2 ≤ 256 := by omega
    clear hn2 hq2 hb2 hm2 c0 c1 hLl
    by_cases hmm : m2 = m
    · subst hmm
      have hmmi : ((m2 : Int) != (m2 : Int)) = false := by simp
      go_wp2
      go_loopw [6] (fun i wr => ∃ k : Nat, k ≤ m2 ∧ i = .int .i64 k ∧ Hid (L.take k = ss.take k) ∧ Below w2.heap.size w2 wr) (fun i _ => m2 - (intOf i).toNat)
      case atStart => exact ⟨0, by omega, rfl, by simp [Hid], Below.refl _ _⟩
      case round =>
        obtain ⟨k, hk, rfl, heq, hbw⟩ := hrel
        have hszw := hbw.size
        have hbww := hbe2.trans (hbw.mono hbe2.size)
        by_cases hlt : k < m2
        · obtain ⟨b1, o1, x, A3, m3, c3, rfl, hb1, hx, q0, hin3⟩ := (hlis.out.below hbw hszw).at_ hlt
          obtain ⟨b2, o2, y, A4, m4, c4, rfl, hb2, hy, r0, hin4⟩ := (HS.out.below hbww hbww.size).at_ hlt
          have hlti : (k : Int) < m2 := by omega
          have hxl : m3 ≤ 1000000 := by have := isL_len8 (HLi.out x (List.mem_of_getElem? hx)) (by omega); have := hin3.len; omega
          have Hx := hid hx
          have Hy := hid hy
          have Hin3 := hid hin3
          have Hin4 := hid hin4
          have hcs := hid (fun W h h2 => same_any W A3 A4 m3 c3 m4 c4 x y h h2 hxl)
          have hb1r : b1 < wr.heap.size := by omega
          have hb2r : b2 < wr.heap.size := by omega
          clear hx hy hin3 hin4
          cases hq : eqI x y
          · have hxy : x ≠ y := fun e => by rw [eqI_t.2 e] at hq; cases hq
            have hne : L ≠ ss := ne_of_at Hx.out Hy.out hxy
            have Hf : Hid (rcaE J ls ss = 14) := hid (by rw [hv.out, if_neg hne])
            rw [hq] at hcs
            clear hq hxy hne
            go_wp2
            refine wp_region_hd_all (fun W => Below wr.heap.size wr W) (by kernel_rfl) (by kernel_rfl) ((Below.refl _ _).drew) ?_
            iterate 8 (refine wpHd_val (v := ?_) (by rfl) (fun W hW => ?_) ?_; rotate_left; (· obtain ⟨hcW, hfW⟩ := bcell hW; go_simp; with_reducible rfl); simp only [Act.put, List.setIfInBounds_toArray, List.set_cons_zero, List.set_cons_succ])
            (refine wpHd_callB (by rfl) (fun W hW => (hcs.out W (Hin3.out.below hW hW.size) (Hin4.out.below hW hW.size))) (fun W hW => ?_) ?_; (· obtain ⟨hcW, hfW⟩ := bcell hW; go_simp); simp only [Act.put, List.setIfInBounds_toArray, List.set_cons_zero, List.set_cons_succ])
            (refine wpHd_val (v := ?_) (by rfl) (fun W hW => ?_) ?_; rotate_left; (· obtain ⟨hcW, hfW⟩ := bcell hW; go_simp; with_reducible rfl); simp only [Act.put, List.setIfInBounds_toArray, List.set_cons_zero, List.set_cons_succ])
            refine wpHd_nil ?_
            intro W9 hW9
            have hbw9 := hbww.trans (hW9.mono hbww.size)
            clear q0 r0
            go_wp2
            refine bodyPost_ret (v := .int .i64 14) (by first | (simp [results, Tryz.results34, go_sem]; done) | (simp [results, Tryz.results34, go_sem, *]; done) | (simp [results, Tryz.results34, go_sem, World.cell?_setCell_same', *]; done) | (simp [results, Tryz.results34, go_sem]; first | exact ⟨rfl, rfl⟩ | rfl)) rfl ⟨by rw [Hf.out], hbw9⟩
          · have hxy : x = y := eqI_t.1 hq
            have Hs := hid (take_eq_succ heq.out Hx.out (by rw [Hy.out, hxy]))
            rw [hq] at hcs
            clear hq hxy
            go_wp2
            refine wp_region_hd_all (fun W => Below wr.heap.size wr W) (by kernel_rfl) (by kernel_rfl) ((Below.refl _ _).drew) ?_
            iterate 8 (refine wpHd_val (v := ?_) (by rfl) (fun W hW => ?_) ?_; rotate_left; (· obtain ⟨hcW, hfW⟩ := bcell hW; go_simp; with_reducible rfl); simp only [Act.put, List.setIfInBounds_toArray, List.set_cons_zero, List.set_cons_succ])
            (refine wpHd_callB (by rfl) (fun W hW => (hcs.out W (Hin3.out.below hW hW.size) (Hin4.out.below hW hW.size))) (fun W hW => ?_) ?_; (· obtain ⟨hcW, hfW⟩ := bcell hW; go_simp); simp only [Act.put, List.setIfInBounds_toArray, List.set_cons_zero, List.set_cons_succ])
            (refine wpHd_val (v := ?_) (by rfl) (fun W hW => ?_) ?_; rotate_left; (· obtain ⟨hcW, hfW⟩ := bcell hW; go_simp; with_reducible rfl); simp only [Act.put, List.setIfInBounds_toArray, List.set_cons_zero, List.set_cons_succ])
            refine wpHd_nil ?_
            intro W9 hW9
            have hbw9 := hbw.trans (hW9.mono hszw)
            clear q0 r0
            go_wp2
            exact ⟨⟨k + 1, by omega, by go_num, Hs, hbw9⟩, by simp [intOf]; omega⟩
        · obtain rfl : k = m2 := by omega
          have Hf : Hid (rcaE J ls ss = 0) := hid (by
            have h := heq.out
            rw [List.take_of_length_le (by rw [Hm2.out]; exact Nat.le_refl _), List.take_of_length_le (by rw [hlen.out]; exact Nat.le_refl _)] at h
            rw [hv.out, if_pos h])
          go_wp2
          refine bodyPost_ret (v := .int .i64 0) (by first | (simp [results, Tryz.results34, go_sem]; done) | (simp [results, Tryz.results34, go_sem, *]; done) | (simp [results, Tryz.results34, go_sem, World.cell?_setCell_same', *]; done) | (simp [results, Tryz.results34, go_sem]; first | exact ⟨rfl, rfl⟩ | rfl)) rfl ⟨by rw [Hf.out], hbww⟩
    · have hne : L ≠ ss := fun e => hmm (by rw [← Hm2.out, ← hlen.out, e])
      have Hf : Hid (rcaE J ls ss = 14) := hid (by rw [hv.out, if_neg hne])
      have hmmi : ((m2 : Int) != (m : Int)) = true := by simp; omega
      clear hne
      go_wp2
      refine bodyPost_ret (v := .int .i64 14) (by first | (simp [results, Tryz.results34, go_sem]; done) | (simp [results, Tryz.results34, go_sem, *]; done) | (simp [results, Tryz.results34, go_sem, World.cell?_setCell_same', *]; done) | (simp [results, Tryz.results34, go_sem]; first | exact ⟨rfl, rfl⟩ | rfl)) rfl ⟨by rw [Hf.out], hbe2⟩
  · have hv : Hid (rcaE I ls ss = lisE I ls ss) := hid (if_pos he)
    obtain ⟨ev, hev⟩ : ∃ ev, lisE I ls ss = ev := ⟨_, rfl⟩
    rw [hev] at hv HC he
    have hbi : (ev != 0) = true := by simpa using he
    clear hev
    go_enter Tryz.func34, Tryz.ntmps34
    go_wp2_with (fail)
    refine (HC.out _ (HL.out.below hb0 hb0.size) (HS.out.below hb0 hb0.size)).mono ?_
    rintro e w1 ⟨rfl, hb1⟩
    have hbel : Below w.heap.size w w1 := Below.trans (by repeat' (first | with_reducible assumption | with_reducible exact Below.refl _ _ | refine Below.alloc ?_ ?_ _ | refine Below.setCell ?_ ?_ _ | refine Below.drew ?_ | refine below_drewN ?_ _ | (simp; done) | (simp; omega) | omega)) (hb1.mono (by first | (simp; done) | (simp; omega) | omega))
    have c0 : w1.cell? ⟨w.heap.size, 0, none⟩ = some (.int .i64 I) := (hb1.cell (p := ⟨w.heap.size, 0, none⟩) (by first | (simp; done) | (simp; omega) | omega)).trans (by go_simp)
    have c1 : w1.cell? ⟨w.heap.size, 1, none⟩ = some (.slice A n c) := (hb1.cell (p := ⟨w.heap.size, 1, none⟩) (by first | (simp; done) | (simp; omega) | omega)).trans (by go_simp)
    have hq0 : w.heap.size < w1.heap.size := (by have := hb1.size; simp at this; omega)
    have HLw := hid (HL.out.below hbel hbel.size)
    clear hb1 hb0
    go_wp2_with (fail)
    refine (HC.out _ HLw.out (HS.out.below hbel hbel.size)).mono ?_
    rintro e w2 ⟨rfl, hb2⟩
    have hbe2 := hbel.trans (hb2.mono hbel.size)
    go_wp2
    refine bodyPost_ret (v := .int .i64 ev) (by first | (simp [results, Tryz.results34, go_sem]; done) | (simp [results, Tryz.results34, go_sem, *]; done) | (simp [results, Tryz.results34, go_sem, World.cell?_setCell_same', *]; done) | (simp [results, Tryz.results34, go_sem]; first | exact ⟨rfl, rfl⟩ | rfl)) rfl ⟨by rw [hv.out], hbe2⟩
def rfoO (I : Int) (ls ss : List (List Int)) : Option (List Int) := (allR I.toNat ls).find? fun l => !hldB ss l
def rfoE (I : Int) (ls ss : List (List Int)) : Int := if lisE I ls ss ≠ 0 then lisE I ls ss else if (rfoO I ls ss).isSome then 0 else 5
def rfoV (I : Int) (ls ss : List (List Int)) : List Int := if lisE I ls ss ≠ 0 then [] else (rfoO I ls ss).getD []
theorem find_hitA {α : Type} {p : α → Bool} {L : List α} {k : Nat} {x : α} (h : (L.take k).any p = false) (hx : L[k]? = some x) (hp : p x = true) : L.find? p = some x := by
  have e : L = L.take k ++ (x :: L.drop (k + 1)) := by
    have hk := (List.getElem?_eq_some_iff.1 hx)
    obtain ⟨hlt, he⟩ := hk
    rw [← he, List.getElem_cons_drop, List.take_append_drop]
  rw [e, List.find?_append, List.find?_eq_none.2 (fun y hy => by have := List.any_eq_false.1 h y hy; simpa using this), Option.none_or, List.find?_cons_of_pos hp]
set_option maxRecDepth 100000 in
set_option maxHeartbeats 1600000 in
theorem rforgotten_any (A B : Option Addr) (n c m d : Nat) (ls ss : List (List Int)) (I : Int) (w : World) (hl : LiS w w.heap.size A n ls) (hs : LiS w w.heap.size B m ss) (hn : n ≤ 1000000) (hw : ∀ l ∈ ls, l.length ≤ 1000000) (hm : m ≤ 1000000) (hws : ∀ l ∈ ss, l.length ≤ 1000000) :
    Calls Tryz.prog 29 #[.agg #[.int .i64 I, .slice A n c], .slice B m d] w fun e w' => ∃ A' m' c', e = .returned (.tuple #[.slice A' m' c', .int .i64 (rfoE I ls ss)]) ∧ InS w' w'.heap.size A' m' (rfoV I ls ss) ∧ Below w.heap.size w w' := by
  have hlen := hid hs.1
  have HL := hid hl
  have HS := hid hs
  have HC := hid (fun W h h2 => rlistError_any A B n c m d ls ss I W h h2 hn hw hm hws)
  have hb0 : Below w.heap.size w (w.alloc (.cells #[.int .i64 I, .slice A n c] 24)) := (Below.refl _ _).alloc (Nat.le_refl _) _
  clear hl hs hw hws
  by_cases he : lisE I ls ss = 0
  · obtain ⟨hc, h80, ho⟩ := lisE_good he
    obtain ⟨-, hsv⟩ := openE_good ho
    have hs8 : ∀ l ∈ ss, isL 8 0 l = true := fun l hl => isL8 (hsv l hl) (book_good hc).2.1
    obtain ⟨J, rfl⟩ : ∃ J : Nat, I = J := ⟨I.toNat, by have := (book_good hc).1; omega⟩
    have hJ8 : J ≤ 8 := by have := (book_good hc).2.1; omega
    have hv : Hid (rfoE J ls ss = if (rfoO J ls ss).isSome then 0 else 5) := hid (if_neg (by simpa using he))
    have hvv : Hid (rfoV J ls ss = (rfoO J ls ss).getD []) := hid (if_neg (by simpa using he))
    have HA := hid (fun W h => rallOf_any A n c ls J W h hn (book8 hc) hJ8)
    have hLl := allR_len ls hJ8
    have hLi := allR_isL (ls := ls) hJ8
    have HHo := hid (fun (A3 : Option Addr) (m3 c3 : Nat) (x : List Int) (W : World) (h : LiS W W.heap.size B m ss) h2 (h3 : isL 8 0 x = true) => rholds_any B A3 m d m3 c3 ss x W h h2 hm hs8 h3)
    rw [he] at HC
    have hfo : Hid (rfoO J ls ss = (allR J ls).find? fun l => !hldB ss l) := hid rfl
    obtain ⟨L, hL⟩ : ∃ L, allR J ls = L := ⟨_, rfl⟩
    rw [hL] at HA hLl hLi hfo
    have HLi := hid hLi
    clear he hL hLi hc h80 ho hsv hs8
    go_enter Tryz.func29, Tryz.ntmps29
    go_wp2_with (fail)
    refine (HC.out _ (HL.out.below hb0 hb0.size) (HS.out.below hb0 hb0.size)).mono ?_
    rintro e w1 ⟨rfl, hb1⟩
    have hbel : Below w.heap.size w w1 := Below.trans (by repeat' (first | with_reducible assumption | with_reducible exact Below.refl _ _ | refine Below.alloc ?_ ?_ _ | refine Below.setCell ?_ ?_ _ | refine Below.drew ?_ | refine below_drewN ?_ _ | (simp; done) | (simp; omega) | omega)) (hb1.mono (by first | (simp; done) | (simp; omega) | omega))
    have c0 : w1.cell? ⟨w.heap.size, 0, none⟩ = some (.int .i64 (J : Int)) := (hb1.cell (p := ⟨w.heap.size, 0, none⟩) (by first | (simp; done) | (simp; omega) | omega)).trans (by go_simp)
    have c1 : w1.cell? ⟨w.heap.size, 1, none⟩ = some (.slice A n c) := (hb1.cell (p := ⟨w.heap.size, 1, none⟩) (by first | (simp; done) | (simp; omega) | omega)).trans (by go_simp)
    have hq0 : w.heap.size < w1.heap.size := (by have := hb1.size; simp at this; omega)
    have HLw := hid (HL.out.below hbel hbel.size)
    clear hb1 hb0
    go_wp2_with (fail)
    refine (HA.out _ HLw.out).mono ?_
    rintro e w2 ⟨v, rfl, hn2, hb2⟩
    obtain ⟨A2, c2, rfl, hq2, -⟩ := hn2.liq
    have hlis := hid hq2.lis
    have hbe2 := hbel.trans (hb2.mono hbel.size)
    obtain ⟨m2, hm2⟩ : ∃ m2, L.length = m2 := ⟨_, rfl⟩
    rw [hm2] at hlis ⊢
    have Hm2 := hid hm2
    have hm256 : m2 ≤ 256 := by omega
    clear hn2 hq2 hb2 hm2 c0 c1 hLl
    go_wp2
    go_loopw [7] (fun i wr => ∃ k : Nat, k ≤ m2 ∧ i = .int .i64 k ∧ Hid ((L.take k).any (fun l => !hldB ss l) = false) ∧ Below w2.heap.size w2 wr) (fun i _ => m2 - (intOf i).toNat)
    case atStart => exact ⟨0, by omega, rfl, hid (by simp), Below.refl _ _⟩
    case round =>
      obtain ⟨k, hk, rfl, hno, hbw⟩ := hrel
      have hszw := hbw.size
      have hbww := hbe2.trans (hbw.mono hbe2.size)
      by_cases hlt : k < m2
      · obtain ⟨b1, o1, x, A3, m3, c3, rfl, hb1, hx, q0, hin3⟩ := (hlis.out.below hbw hszw).at_ hlt
        have hlti : (k : Int) < m2 := by omega
        have hcx := HHo.out A3 m3 c3 x wr (HS.out.below hbww hbww.size) hin3 (HLi.out x (List.mem_of_getElem? hx))
        have Hx := hid hx
        have Hin3 := hid hin3
        have hb1r : b1 < wr.heap.size := by omega
        clear hx hin3
        cases hq : hldB ss x
        · have Hf := hid (find_hitA hno.out Hx.out (by simp [hq]))
          have Hv : Hid (rfoE J ls ss = 0) := hid (by rw [hv.out, hfo.out, Hf.out]; rfl)
          have Hvv : Hid (rfoV J ls ss = x) := hid (by rw [hvv.out, hfo.out, Hf.out]; rfl)
          rw [hq] at hcx
          clear hq
          go_wp2_with (go_at_call 50; refine hcx.mono ?_; rintro e w3 ⟨rfl, hb3⟩; have q3 := (hb3.cell (p := ⟨b1, o1 + k, none⟩) hb1r).trans q0; have hb13 := Nat.lt_of_lt_of_le hb1r hb3.size)
          refine bodyPost_ret (v := .tuple #[.slice A3 m3 c3, .int .i64 0]) (by first | (simp [results, Tryz.results29, go_sem]; done) | (simp [results, Tryz.results29, go_sem, *]; done) | (simp [results, Tryz.results29, go_sem, World.cell?_setCell_same', *]; done) | (simp [results, Tryz.results29, go_sem]; first | exact ⟨rfl, rfl⟩ | rfl)) rfl ⟨A3, m3, c3, by rw [Hv.out], by rw [Hvv.out]; exact Hin3.out.below hb3 hb3.size, hbww.trans (hb3.mono hbww.size)⟩
        · have Hs := hid (any_off hno.out Hx.out (by simp [hq]))
          rw [hq] at hcx
          clear hq
          go_wp2_with (go_at_call 50; refine hcx.mono ?_; rintro e w3 ⟨rfl, hb3⟩)
          exact ⟨⟨k + 1, by omega, by go_num, Hs, hbw.trans (hb3.mono hszw)⟩, by simp [intOf]; omega⟩
      · obtain rfl : k = m2 := by omega
        have Hf : Hid (L.find? (fun l => !hldB ss l) = none) := hid (by
          have h := hno.out
          rw [List.take_of_length_le (by rw [Hm2.out]; exact Nat.le_refl _)] at h
          exact List.find?_eq_none.2 fun y hy => by have := List.any_eq_false.1 h y hy; simpa using this)
        have Hv : Hid (rfoE J ls ss = 5) := hid (by rw [hv.out, hfo.out, Hf.out]; rfl)
        have Hvv : Hid (rfoV J ls ss = []) := hid (by rw [hvv.out, hfo.out, Hf.out]; rfl)
        go_wp2
        refine bodyPost_ret (v := .tuple #[.slice none 0 0, .int .i64 5]) (by first | (simp [results, Tryz.results29, go_sem]; done) | (simp [results, Tryz.results29, go_sem, *]; done) | (simp [results, Tryz.results29, go_sem, World.cell?_setCell_same', *]; done) | (simp [results, Tryz.results29, go_sem]; first | exact ⟨rfl, rfl⟩ | rfl)) rfl ⟨none, 0, 0, by rw [Hv.out], by rw [Hvv.out]; exact Sl.none_, hbww⟩
  · have hv : Hid (rfoE I ls ss = lisE I ls ss) := hid (if_pos he)
    have hvv : Hid (rfoV I ls ss = []) := hid (if_pos he)
    obtain ⟨ev, hev⟩ : ∃ ev, lisE I ls ss = ev := ⟨_, rfl⟩
    rw [hev] at hv HC he
    have hbi : (ev != 0) = true := by simpa using he
    clear hev
    go_enter Tryz.func29, Tryz.ntmps29
    go_wp2_with (fail)
    refine (HC.out _ (HL.out.below hb0 hb0.size) (HS.out.below hb0 hb0.size)).mono ?_
    rintro e w1 ⟨rfl, hb1⟩
    have hbel : Below w.heap.size w w1 := Below.trans (by repeat' (first | with_reducible assumption | with_reducible exact Below.refl _ _ | refine Below.alloc ?_ ?_ _ | refine Below.setCell ?_ ?_ _ | refine Below.drew ?_ | refine below_drewN ?_ _ | (simp; done) | (simp; omega) | omega)) (hb1.mono (by first | (simp; done) | (simp; omega) | omega))
    have c0 : w1.cell? ⟨w.heap.size, 0, none⟩ = some (.int .i64 I) := (hb1.cell (p := ⟨w.heap.size, 0, none⟩) (by first | (simp; done) | (simp; omega) | omega)).trans (by go_simp)
    have c1 : w1.cell? ⟨w.heap.size, 1, none⟩ = some (.slice A n c) := (hb1.cell (p := ⟨w.heap.size, 1, none⟩) (by first | (simp; done) | (simp; omega) | omega)).trans (by go_simp)
    have hq0 : w.heap.size < w1.heap.size := (by have := hb1.size; simp at this; omega)
    have HLw := hid (HL.out.below hbel hbel.size)
    clear hb1 hb0
    go_wp2_with (fail)
    refine (HC.out _ HLw.out (HS.out.below hbel hbel.size)).mono ?_
    rintro e w2 ⟨rfl, hb2⟩
    have hbe2 := hbel.trans (hb2.mono hbel.size)
    go_wp2
    refine bodyPost_ret (v := .tuple #[.slice none 0 0, .int .i64 ev]) (by first | (simp [results, Tryz.results29, go_sem]; done) | (simp [results, Tryz.results29, go_sem, *]; done) | (simp [results, Tryz.results29, go_sem, World.cell?_setCell_same', *]; done) | (simp [results, Tryz.results29, go_sem]; first | exact ⟨rfl, rfl⟩ | rfl)) rfl ⟨none, 0, 0, by rw [hv.out], by rw [hvv.out]; exact Sl.none_, hbe2⟩
end Go.Proofs.YtnpilfpackdimaaGreat
/- Walks (reference): Kind, IsIdle. -/
namespace Go.Proofs.YtnpilfpackdimaaGreat
open Go.RowKit Go.Shelf
attribute [local go_sem] Oper.semAt_some
def rkN (I : Int) (ls : List (List Int)) (inn : Int) : Nat := ((allR I.toNat ls).filter fun x => has x inn).length
def rkE (I : Int) (ls : List (List Int)) (inn : Int) : Int := if chkBook I ls ≠ 0 then chkBook I ls else if inn < 0 ∨ I ≤ inn then 2 else if (allR I.toNat ls).length = 0 then 21 else 0
def rkV (I : Int) (ls : List (List Int)) (inn : Int) : Int := if chkBook I ls ≠ 0 then 0 else if inn < 0 ∨ I ≤ inn then 0 else if (allR I.toNat ls).length = 0 then 0 else if rkN I ls inn = (allR I.toNat ls).length then 2 else if rkN I ls inn = 0 then 0 else 1
set_option maxRecDepth 100000 in
set_option maxHeartbeats 1600000 in
theorem rkind_any (A : Option Addr) (n c : Nat) (ls : List (List Int)) (I inn : Int) (w : World) (hl : LiS w w.heap.size A n ls) (hn : n ≤ 1000000) (hw : ∀ l ∈ ls, l.length ≤ 1000000) :
    Calls Tryz.prog 31 #[.agg #[.int .i64 I, .slice A n c], .int .i64 inn] w fun e w' => e = .returned (.tuple #[.int .i64 (rkV I ls inn), .int .i64 (rkE I ls inn)]) ∧ Below w.heap.size w w' := by
  have HL := hid hl
  have HC := hid (fun W h => rcheckBook_any A n c ls I W h hn hw)
  have hb0 : Below w.heap.size w (w.alloc (.cells #[.int .i64 I, .slice A n c] 24)) := (Below.refl _ _).alloc (Nat.le_refl _) _
  clear hl hw
  by_cases he : chkBook I ls = 0
  · by_cases hi : inn < 0 ∨ I ≤ inn
    · have hv : Hid (rkV I ls inn = 0) := hid (by unfold rkV; rw [if_neg (by simpa using he), if_pos hi])
      have hve : Hid (rkE I ls inn = 2) := hid (by unfold rkE; rw [if_neg (by simpa using he), if_pos hi])
      rw [he] at HC
      clear he
      by_cases h0 : inn < 0
      · clear hi
        go_enter Tryz.func31, Tryz.ntmps31
        go_wp2_with (fail)
        refine (HC.out _ (HL.out.below hb0 hb0.size)).mono ?_
        rintro e w1 ⟨rfl, hb1⟩
        have hbel : Below w.heap.size w w1 := Below.trans (by repeat' (first | with_reducible assumption | with_reducible exact Below.refl _ _ | refine Below.alloc ?_ ?_ _ | refine Below.setCell ?_ ?_ _ | refine Below.drew ?_ | refine below_drewN ?_ _ | (simp; done) | (simp; omega) | omega)) (hb1.mono (by first | (simp; done) | (simp; omega) | omega))
        have c0 : w1.cell? ⟨w.heap.size, 0, none⟩ = some (.int .i64 I) := (hb1.cell (p := ⟨w.heap.size, 0, none⟩) (by first | (simp; done) | (simp; omega) | omega)).trans (by go_simp)
        have c1 : w1.cell? ⟨w.heap.size, 1, none⟩ = some (.slice A n c) := (hb1.cell (p := ⟨w.heap.size, 1, none⟩) (by first | (simp; done) | (simp; omega) | omega)).trans (by go_simp)
        have hq0 : w.heap.size < w1.heap.size := (by have := hb1.size; simp at this; omega)
        have HLw := hid (HL.out.below hbel hbel.size)
        clear hb1 hb0
        go_wp2
        refine bodyPost_ret (v := .tuple #[.int .i64 0, .int .i64 2]) (by first | (simp [results, Tryz.results31, go_sem]; done) | (simp [results, Tryz.results31, go_sem, *]; done) | (simp [results, Tryz.results31, go_sem, World.cell?_setCell_same', *]; done) | (simp [results, Tryz.results31, go_sem]; first | exact ⟨rfl, rfl⟩ | rfl)) rfl ⟨by rw [hv.out, hve.out], hbel⟩
      · have h2 : I ≤ inn := by omega
        clear hi
        go_enter Tryz.func31, Tryz.ntmps31
        go_wp2_with (fail)
        refine (HC.out _ (HL.out.below hb0 hb0.size)).mono ?_
        rintro e w1 ⟨rfl, hb1⟩
        have hbel : Below w.heap.size w w1 := Below.trans (by repeat' (first | with_reducible assumption | with_reducible exact Below.refl _ _ | refine Below.alloc ?_ ?_ _ | refine Below.setCell ?_ ?_ _ | refine Below.drew ?_ | refine below_drewN ?_ _ | (simp; done) | (simp; omega) | omega)) (hb1.mono (by first | (simp; done) | (simp; omega) | omega))
        have c0 : w1.cell? ⟨w.heap.size, 0, none⟩ = some (.int .i64 I) := (hb1.cell (p := ⟨w.heap.size, 0, none⟩) (by first | (simp; done) | (simp; omega) | omega)).trans (by go_simp)
        have c1 : w1.cell? ⟨w.heap.size, 1, none⟩ = some (.slice A n c) := (hb1.cell (p := ⟨w.heap.size, 1, none⟩) (by first | (simp; done) | (simp; omega) | omega)).trans (by go_simp)
        have hq0 : w.heap.size < w1.heap.size := (by have := hb1.size; simp at this; omega)
        have HLw := hid (HL.out.below hbel hbel.size)
        clear hb1 hb0
        go_wp2
        refine bodyPost_ret (v := .tuple #[.int .i64 0, .int .i64 2]) (by first | (simp [results, Tryz.results31, go_sem]; done) | (simp [results, Tryz.results31, go_sem, *]; done) | (simp [results, Tryz.results31, go_sem, World.cell?_setCell_same', *]; done) | (simp [results, Tryz.results31, go_sem]; first | exact ⟨rfl, rfl⟩ | rfl)) rfl ⟨by rw [hv.out, hve.out], hbel⟩
    · obtain ⟨J, rfl⟩ : ∃ J : Nat, I = J := ⟨I.toNat, by have := (book_good he).1; omega⟩
      have hJ8 : J ≤ 8 := by have := (book_good he).2.1; omega
      have hv : Hid (rkV J ls inn = if (allR J ls).length = 0 then 0 else if rkN J ls inn = (allR J ls).length then 2 else if rkN J ls inn = 0 then 0 else 1) := hid (by unfold rkV; rw [if_neg (by simpa using he), if_neg hi]; rfl)
      have hve : Hid (rkE J ls inn = if (allR J ls).length = 0 then 21 else 0) := hid (by unfold rkE; rw [if_neg (by simpa using he), if_neg hi]; rfl)
      have HA := hid (fun W h => rallOf_any A n c ls J W h hn (book8 he) hJ8)
      have hLl := allR_len ls hJ8
      have hLi := allR_isL (ls := ls) hJ8
      have hkN : Hid (rkN J ls inn = ((allR J ls).filter fun x => has x inn).length) := hid rfl
      rw [he] at HC
      obtain ⟨L, hL⟩ : ∃ L, allR J ls = L := ⟨_, rfl⟩
      rw [hL] at HA hv hve hLl hLi hkN
      have HLi := hid hLi
      have hi0 : ¬ inn < 0 := by omega
      have hi1 : ¬ (J : Int) ≤ inn := by omega
      clear he hL hLi hi
      go_enter Tryz.func31, Tryz.ntmps31
      go_wp2_with (fail)
      refine (HC.out _ (HL.out.below hb0 hb0.size)).mono ?_
      rintro e w1 ⟨rfl, hb1⟩
      have hbel : Below w.heap.size w w1 := Below.trans (by repeat' (first | with_reducible assumption | with_reducible exact Below.refl _ _ | refine Below.alloc ?_ ?_ _ | refine Below.setCell ?_ ?_ _ | refine Below.drew ?_ | refine below_drewN ?_ _ | (simp; done) | (simp; omega) | omega)) (hb1.mono (by first | (simp; done) | (simp; omega) | omega))
      have c0 : w1.cell? ⟨w.heap.size, 0, none⟩ = some (.int .i64 (J : Int)) := (hb1.cell (p := ⟨w.heap.size, 0, none⟩) (by first | (simp; done) | (simp; omega) | omega)).trans (by go_simp)
      have c1 : w1.cell? ⟨w.heap.size, 1, none⟩ = some (.slice A n c) := (hb1.cell (p := ⟨w.heap.size, 1, none⟩) (by first | (simp; done) | (simp; omega) | omega)).trans (by go_simp)
      have hq0 : w.heap.size < w1.heap.size := (by have := hb1.size; simp at this; omega)
      have HLw := hid (HL.out.below hbel hbel.size)
      clear hb1 hb0
      go_wp2_with (fail)
      refine (HA.out _ HLw.out).mono ?_
      rintro e w2 ⟨v, rfl, hn2, hb2⟩
      obtain ⟨A2, c2, rfl, hq2, -⟩ := hn2.liq
      have hlis := hid hq2.lis
      have hbe2 := hbel.trans (hb2.mono hbel.size)
      obtain ⟨m2, hm2⟩ : ∃ m2, L.length = m2 := ⟨_, rfl⟩
      rw [hm2] at hv hve hlis ⊢
      have Hm2 := hid hm2
      have hm256 : m2 ≤ 256 := by omega
      clear hn2 hq2 hb2 hm2 c0 c1 hLl
      rcases Nat.eq_zero_or_pos m2 with h0 | h0
      · subst h0
        go_wp2
        refine bodyPost_ret (v := .tuple #[.int .i64 0, .int .i64 21]) (by first | (simp [results, Tryz.results31, go_sem]; done) | (simp [results, Tryz.results31, go_sem, *]; done) | (simp [results, Tryz.results31, go_sem, World.cell?_setCell_same', *]; done) | (simp [results, Tryz.results31, go_sem]; first | exact ⟨rfl, rfl⟩ | rfl)) rfl ⟨by rw [hv.out, hve.out]; rfl, hbe2⟩
      · rw [if_neg (by omega)] at hv hve
        have h0i : ¬ ((m2 : Int) = 0) := by omega
        have h0b : ((m2 : Int) == 0) = false := beq_eq_false_iff_ne.2 h0i
        obtain ⟨W2, hW2⟩ : ∃ W : World, W = w2 := ⟨_, rfl⟩
        rw [← hW2] at hlis hbe2 ⊢
        clear hW2
        go_wp2
        go_loopw [7, 8] (fun v i wr => ∃ k q : Nat, k ≤ m2 ∧ i = .int .i64 k ∧ v = .int .i64 (q : Int) ∧ Hid (((L.take k).filter fun x => has x inn).length = q) ∧ q ≤ k ∧ wr = W2) (fun _ i _ => m2 - (intOf i).toNat)
        case atStart => exact ⟨0, 0, by omega, rfl, rfl, hid (by simp), by omega, rfl⟩
        case round =>
          obtain ⟨k, q, hk, rfl, rfl, hq, hqk, rfl⟩ := hrel
          by_cases hlt : k < m2
          · obtain ⟨b4, o4, y, A4, m4, c4, rfl, hb4, hm4, q4, hin4⟩ := hlis.out.at_ hlt
            have hlti : (k : Int) < m2 := by omega
            have hyl : m4 ≤ 1000000 := by have := isL_len8 (HLi.out y (List.mem_of_getElem? hm4)) (by omega); have := hin4.len; omega
            have hs := filt_next (p := fun x => has x inn) hm4
            have hcy := has_any A4 m4 c4 y inn wr hin4 hyl
            clear hm4 hin4
            cases hh : has y inn
            · rw [hh] at hs hcy
              have Hs : Hid (((L.take (k + 1)).filter fun x => has x inn).length = q) := hid (by rw [hs, List.length_append, hq.out]; rfl)
              clear hs hh
              go_wp2_with (go_at_call 54; refine hcy.mono ?_; rintro e w3 ⟨rfl, rfl⟩)
              (first | exact ⟨⟨k + 1, q, by omega, by go_num, rfl, Hs, by omega, trivial⟩, (by first | (simp [intOf]; omega) | (simp [intOf]; done))⟩ | (refine ⟨?_, ?_⟩; (focus ((repeat apply Exists.intro); refine ⟨?_, rfl⟩; exact ⟨k + 1, q, by omega, by go_num, rfl, Hs, by omega, trivial⟩)); (first | (simp [intOf]; omega) | (simp [intOf]; done))))
            · rw [hh] at hs hcy
              have Hs : Hid (((L.take (k + 1)).filter fun x => has x inn).length = q + 1) := hid (by rw [hs, List.length_append, hq.out]; rfl)
              clear hs hh
              go_wp2_with (go_at_call 54; refine hcy.mono ?_; rintro e w3 ⟨rfl, rfl⟩)
              (first | exact ⟨⟨k + 1, q + 1, by omega, by go_num, by go_num, Hs, by omega, trivial⟩, (by first | (simp [intOf]; omega) | (simp [intOf]; done))⟩ | (refine ⟨?_, ?_⟩; (focus ((repeat apply Exists.intro); refine ⟨?_, rfl⟩; exact ⟨k + 1, q + 1, by omega, by go_num, by go_num, Hs, by omega, trivial⟩)); (first | (simp [intOf]; omega) | (simp [intOf]; done))))
          · obtain rfl : k = m2 := by omega
            have hfin : Hid (rkN J ls inn = q) := hid (by rw [hkN.out, ← hq.out, List.take_of_length_le (by rw [Hm2.out]; exact Nat.le_refl _)])
            rw [hfin.out] at hv
            by_cases h2 : q = k
            · rw [if_pos h2] at hv
              subst h2
              go_wp2
              refine bodyPost_ret (v := .tuple #[.int .i64 2, .int .i64 0]) (by first | (simp [results, Tryz.results31, go_sem]; done) | (simp [results, Tryz.results31, go_sem, *]; done) | (simp [results, Tryz.results31, go_sem, World.cell?_setCell_same', *]; done) | (simp [results, Tryz.results31, go_sem]; first | exact ⟨rfl, rfl⟩ | rfl)) rfl ⟨by rw [hv.out, hve.out], hbe2⟩
            · rw [if_neg h2] at hv
              have h2j : ¬ (q : Int) = k := by omega
              have h2i : ((q : Int) == (k : Int)) = false := beq_eq_false_iff_ne.2 h2j
              by_cases h3 : q = 0
              · rw [if_pos h3] at hv
                subst h3
                go_wp2
                refine bodyPost_ret (v := .tuple #[.int .i64 0, .int .i64 0]) (by first | (simp [results, Tryz.results31, go_sem]; done) | (simp [results, Tryz.results31, go_sem, *]; done) | (simp [results, Tryz.results31, go_sem, World.cell?_setCell_same', *]; done) | (simp [results, Tryz.results31, go_sem]; first | exact ⟨rfl, rfl⟩ | rfl)) rfl ⟨by rw [hv.out, hve.out], hbe2⟩
              · rw [if_neg h3] at hv
                have h3i : ¬ (q : Int) < 1 := by omega
                have h3k : min (q : Int) 1 = 1 := by omega
                go_wp2
                refine bodyPost_ret (v := .tuple #[.int .i64 1, .int .i64 0]) (by first | (simp [results, Tryz.results31, go_sem]; done) | (simp [results, Tryz.results31, go_sem, *]; done) | (simp [results, Tryz.results31, go_sem, World.cell?_setCell_same', *]; done) | (simp [results, Tryz.results31, go_sem]; first | exact ⟨rfl, rfl⟩ | rfl)) rfl ⟨by rw [hv.out, hve.out], hbe2⟩
  · have hv : Hid (rkV I ls inn = 0) := hid (if_pos he)
    have hve : Hid (rkE I ls inn = chkBook I ls) := hid (if_pos he)
    obtain ⟨ev, hev⟩ : ∃ ev, chkBook I ls = ev := ⟨_, rfl⟩
    rw [hev] at hve HC he
    have hbi : (ev != 0) = true := by simpa using he
    clear hev
    go_enter Tryz.func31, Tryz.ntmps31
    go_wp2_with (fail)
    refine (HC.out _ (HL.out.below hb0 hb0.size)).mono ?_
    rintro e w1 ⟨rfl, hb1⟩
    have hbel : Below w.heap.size w w1 := Below.trans (by repeat' (first | with_reducible assumption | with_reducible exact Below.refl _ _ | refine Below.alloc ?_ ?_ _ | refine Below.setCell ?_ ?_ _ | refine Below.drew ?_ | refine below_drewN ?_ _ | (simp; done) | (simp; omega) | omega)) (hb1.mono (by first | (simp; done) | (simp; omega) | omega))
    have c0 : w1.cell? ⟨w.heap.size, 0, none⟩ = some (.int .i64 I) := (hb1.cell (p := ⟨w.heap.size, 0, none⟩) (by first | (simp; done) | (simp; omega) | omega)).trans (by go_simp)
    have c1 : w1.cell? ⟨w.heap.size, 1, none⟩ = some (.slice A n c) := (hb1.cell (p := ⟨w.heap.size, 1, none⟩) (by first | (simp; done) | (simp; omega) | omega)).trans (by go_simp)
    have hq0 : w.heap.size < w1.heap.size := (by have := hb1.size; simp at this; omega)
    have HLw := hid (HL.out.below hbel hbel.size)
    clear hb1 hb0
    go_wp2_with (fail)
    refine (HC.out _ HLw.out).mono ?_
    rintro e w2 ⟨rfl, hb2⟩
    have hbe2 := hbel.trans (hb2.mono hbel.size)
    go_wp2
    refine bodyPost_ret (v := .tuple #[.int .i64 0, .int .i64 ev]) (by first | (simp [results, Tryz.results31, go_sem]; done) | (simp [results, Tryz.results31, go_sem, *]; done) | (simp [results, Tryz.results31, go_sem, World.cell?_setCell_same', *]; done) | (simp [results, Tryz.results31, go_sem]; first | exact ⟨rfl, rfl⟩ | rfl)) rfl ⟨by rw [hv.out, hve.out], hbe2⟩
end Go.Proofs.YtnpilfpackdimaaGreat
/- Walks (reference): IsIdle, CoreOf. -/
namespace Go.Proofs.YtnpilfpackdimaaGreat
open Go.RowKit Go.Shelf
attribute [local go_sem] Oper.semAt_some
/-- A hire makes another one idle. -/
def idl1 (ls : List (List Int)) (h i : Nat) : Bool := decide (i ≠ h) && (bitsL (ls.getD i []) &&& bitsL (ls.getD h []) == bitsL (ls.getD i [])) && (bitsL (ls.getD i []) != bitsL (ls.getD h []) || decide (i < h))
def idleB (ls : List (List Int)) (h : Nat) : Bool := (List.range ls.length).any (idl1 ls h)
def coreL (ls : List (List Int)) (k : Nat) : List (List Int) := ((List.range k).filter fun h => !idleB ls h).map fun h => ls.getD h []
def coreR (ls : List (List Int)) : List (List Int) := sortL (coreL ls ls.length)
theorem coreL_succ {ls : List (List Int)} {k : Nat} {x : List Int} (h : ls[k]? = some x) : coreL ls (k + 1) = coreL ls k ++ (if idleB ls k then [] else [x]) := by
  unfold coreL
  rw [List.range_succ, List.filter_append, List.map_append]
  have e : ls.getD k [] = x := by rw [List.getD_eq_getElem?_getD, h]; rfl
  cases hb : idleB ls k <;> simp [hb, h]
theorem coreL_len (ls : List (List Int)) (k : Nat) : (coreL ls k).length ≤ k := by
  unfold coreL
  rw [List.length_map]
  exact Nat.le_trans (List.length_filter_le ..) (by rw [List.length_range]; exact Nat.le_refl _)
theorem coreL_mem {ls : List (List Int)} {k : Nat} {x : List Int} (hk : k ≤ ls.length) (h : x ∈ coreL ls k) : x ∈ ls := by
  unfold coreL at h
  obtain ⟨i, hi, rfl⟩ := List.mem_map.1 h
  have := List.mem_range.1 (List.mem_filter.1 hi).1
  rw [List.getD_eq_getElem?_getD, List.getElem?_eq_getElem (by omega)]
  exact List.getElem_mem _
set_option maxRecDepth 100000 in
set_option maxHeartbeats 4000000 in
theorem risIdle_any (A : Option Addr) (n c : Nat) (ls : List (List Int)) (I : Int) (h : Nat) (w : World) (hl : LiS w w.heap.size A n ls) (hn : n ≤ 1000000) (hv : ∀ l ∈ ls, isL 8 0 l = true) (hh : h < n) :
    Calls Tryz.prog 51 #[.agg #[.int .i64 I, .slice A n c], .int .i64 (h : Int)] w fun e w' => e = .returned (.bool (idleB ls h)) ∧ Below w.heap.size w w' := by
  have hlen := hid hl.1
  have HL := hid hl
  have HV := hid hv
  obtain ⟨iv, hiv⟩ : ∃ iv, idleB ls h = iv := ⟨_, rfl⟩
  have Hiv := hid hiv
  rw [hiv]
  clear hl hv hiv
  obtain ⟨W0, hW0⟩ : ∃ W0, w.alloc (.cells #[.int .i64 I, .slice A n c] 24) = W0 := ⟨_, rfl⟩
  have B0 : Blk W0 w.heap.size 24 #[.int .i64 I, .slice A n c] := by rw [← hW0]; exact Blk.new' rfl
  have hb0 : Below w.heap.size w W0 := by rw [← hW0]; exact (Below.refl _ _).alloc (Nat.le_refl _) _
  obtain ⟨bh, oh, y, Ah, mh, ch, rfl, hbh, hyh, qh, hinh⟩ := (HL.out.below hb0 hb0.size).at_ hh
  have hyv := HV.out y (List.mem_of_getElem? hyh)
  have hhi : (h : Int) < n := by omega
  have c1 := B0.cell 1
  have l1 := B0.lt
  have hmh : mh ≤ 1000000 := by have := isL_len8 hyv (by omega); have := hinh.len; omega
  have hcb := rbits_any Ah mh ch y W0 hinh hmh (fun z hz => by have := isL_bd hyv z hz; omega)
  have hN8 : bitsL y < 256 := bitsL_lt (n := 8) hyv
  have hgy : Hid (ls.getD h [] = y) := hid (by rw [List.getD_eq_getElem?_getD, hyh]; rfl)
  obtain ⟨N, hN⟩ : ∃ N, bitsL y = N := ⟨_, rfl⟩
  have HN := hid hN
  rw [hN] at hcb hN8
  have HB0 := hid B0
  clear hyh hinh hyv hN B0
  go_enter Tryz.func51, Tryz.ntmps51
  go_wp2_with (go_at_call 47; refine hcb.mono ?_; rintro e w1 ⟨rfl, rfl⟩)
  clear hcb qh c1 l1
  go_loopw [6] (fun i wr => ∃ k : Nat, k ≤ n ∧ i = .int .i64 k ∧ Hid (((List.range ls.length).take k).any (idl1 ls h) = false) ∧ wr = W0) (fun i _ => n - (intOf i).toNat)
  case atStart => exact ⟨0, by omega, rfl, hid (by simp), rfl⟩
  case round =>
    obtain ⟨k, hk, rfl, hno, rfl⟩ := hrel
    have c1 := HB0.out.cell 1
    have l1 := HB0.out.lt
    by_cases hlt : k < n
    · obtain ⟨b1, off, x, A', m', c', h1e, hb1, hm, c0, hin⟩ := (HL.out.below hb0 hb0.size).at_ hlt
      cases h1e
      have hxv := HV.out x (List.mem_of_getElem? hm)
      have hx8 : m' ≤ 8 := by have := isL_len8 hxv (by omega); have := hin.len; omega
      have hlti : (k : Int) < n := by omega
      have hcx := rbits_any A' m' c' x wr hin (by omega) (fun z hz => by have := isL_bd hxv z hz; omega)
      have hand := bits_and_i64_nat (bitsL x) N (Nat.lt_of_lt_of_le (bitsL_lt (n := 8) hxv) (by decide)) (by omega)
      have hgx : ls.getD k [] = x := by rw [List.getD_eq_getElem?_getD, hm]; rfl
      have Hr : Hid ((List.range ls.length)[k]? = some k) := hid (by rw [List.getElem?_range (by rw [hlen.out]; exact hlt)])
      have hi1 : idl1 ls h k = (decide (k ≠ h) && (bitsL x &&& N == bitsL x) && (bitsL x != N || decide (k < h))) := by unfold idl1; rw [hgx, hgy.out, HN.out]
      obtain ⟨M, hM⟩ : ∃ M, bitsL x = M := ⟨_, rfl⟩
      rw [hM] at hcx hand hi1
      have Hcx := hid hcx
      clear hm hin hxv hM hcx hgx
      cases hx : idl1 ls h k
      · have Hs := hid (any_off hno.out Hr.out hx)
        rw [hi1] at hx
        clear hi1
        have fin : Hid (∃ k' : Nat, k' ≤ n ∧ Value.int .i64 ((k : Int) + 1) = .int .i64 (k' : Int) ∧ Hid (((List.range ls.length).take k').any (idl1 ls h) = false) ∧ True) := hid ⟨k + 1, by omega, by go_num, Hs, trivial⟩
        by_cases e1 : k = h
        · subst e1
          have t1 : ((k : Int) != (k : Int)) = false := by simp
          clear hx
          go_wp2_with (go_at_call 47; refine Hcx.out.mono ?_; rintro e w2 ⟨rfl, rfl⟩)
          exact ⟨⟨k + 1, by omega, by go_num, Hs, trivial⟩, by simp [intOf]; omega⟩
        · have t1 : ((k : Int) != (h : Int)) = true := by simp; omega
          have t1j : ¬ (k : Int) = h := by omega
          by_cases e2 : M &&& N = M
          · have t2 : (((M &&& N : Nat) : Int) == (M : Int)) = true := by rw [e2]; simp
            have t2j : ((M &&& N : Nat) : Int) = (M : Int) := by rw [e2]
            have e3 : M = N ∧ ¬ k < h := by
              simp [e1, e2] at hx
              exact ⟨hx.1, by omega⟩
            obtain ⟨rfl, e4⟩ := e3
            have t3 : ((M : Int) != (M : Int)) = false := by simp
            have t4 : ¬ (k : Int) < h := by omega
            have t4b : decide ((k : Int) < h) = false := decide_eq_false t4
            clear hx e1 e2
            go_wp2_with (go_at_call 47; refine Hcx.out.mono ?_; rintro e w2 ⟨rfl, rfl⟩)
            exact ⟨⟨k + 1, by omega, by go_num, Hs, trivial⟩, by simp [intOf]; omega⟩
          · have t2j : ¬ ((M &&& N : Nat) : Int) = (M : Int) := by omega
            have t2 : (((M &&& N : Nat) : Int) == (M : Int)) = false := beq_eq_false_iff_ne.2 t2j
            clear hx e1 e2
            go_wp2_with (go_at_call 47; refine Hcx.out.mono ?_; rintro e w2 ⟨rfl, rfl⟩)
            exact ⟨⟨k + 1, by omega, by go_num, Hs, trivial⟩, by simp [intOf]; omega⟩
      · have Hf : Hid (idleB ls h = true) := hid (List.any_eq_true.2 ⟨k, List.mem_range.2 (by rw [hlen.out]; exact hlt), hx⟩)
        rw [hi1] at hx
        clear hi1
        have e1 : k ≠ h := by intro e; simp [e] at hx
        have e2 : M &&& N = M := by
          have := hx
          simp only [Bool.and_eq_true, beq_iff_eq] at this
          exact this.1.2
        have e3 : M ≠ N ∨ k < h := by
          have := hx
          simp only [Bool.and_eq_true, Bool.or_eq_true, bne_iff_ne, decide_eq_true_eq] at this
          exact this.2
        have t1 : ((k : Int) != (h : Int)) = true := by simp; omega
        have t1j : ¬ (k : Int) = h := by omega
        have t2 : (((M &&& N : Nat) : Int) == (M : Int)) = true := by rw [e2]; simp
        have t2j : ((M &&& N : Nat) : Int) = (M : Int) := by rw [e2]
        by_cases e4 : M = N
        · have e5 : k < h := by rcases e3 with h' | h'; exact absurd e4 h'; exact h'
          have t4 : (k : Int) < h := by omega
          subst e4
          have t3 : ((M : Int) != (M : Int)) = false := by simp
          clear hx e1 e2 e3
          go_wp2_with (go_at_call 47; refine Hcx.out.mono ?_; rintro e w2 ⟨rfl, rfl⟩)
          refine bodyPost_ret (v := .bool true) (by first | (simp [results, Tryz.results51, go_sem]; done) | (simp [results, Tryz.results51, go_sem, *]; done) | (simp [results, Tryz.results51, go_sem, World.cell?_setCell_same', *]; done) | (simp [results, Tryz.results51, go_sem]; first | exact ⟨rfl, rfl⟩ | rfl)) rfl ⟨by rw [← Hiv.out, Hf.out], hb0⟩
        · have t3 : ((M : Int) != (N : Int)) = true := by simp; omega
          have t3j : ¬ (M : Int) = N := by omega
          clear hx e1 e2 e3 e4
          go_wp2_with (go_at_call 47; refine Hcx.out.mono ?_; rintro e w2 ⟨rfl, rfl⟩)
          refine bodyPost_ret (v := .bool true) (by first | (simp [results, Tryz.results51, go_sem]; done) | (simp [results, Tryz.results51, go_sem, *]; done) | (simp [results, Tryz.results51, go_sem, World.cell?_setCell_same', *]; done) | (simp [results, Tryz.results51, go_sem]; first | exact ⟨rfl, rfl⟩ | rfl)) rfl ⟨by rw [← Hiv.out, Hf.out], hb0⟩
    · obtain rfl : k = n := by omega
      have Hf : Hid (idleB ls h = false) := hid (by
        have h9 := hno.out
        rwa [List.take_of_length_le (by rw [List.length_range, hlen.out]; exact Nat.le_refl _)] at h9)
      go_wp2
      refine bodyPost_ret (v := .bool false) (by first | (simp [results, Tryz.results51, go_sem]; done) | (simp [results, Tryz.results51, go_sem, *]; done) | (simp [results, Tryz.results51, go_sem, World.cell?_setCell_same', *]; done) | (simp [results, Tryz.results51, go_sem]; first | exact ⟨rfl, rfl⟩ | rfl)) rfl ⟨by rw [← Hiv.out, Hf.out], hb0⟩
end Go.Proofs.YtnpilfpackdimaaGreat
/- Walks: Core, Dual. -/
namespace Go.Proofs.YtnpilfpackdimaaGreat
open Go.RowKit Go.Shelf
attribute [local go_sem] Oper.semAt_some
def coreV (I : Int) (ls : List (List Int)) : List (List Int) := if chkBook I ls ≠ 0 then [] else leastL ls
def coreI (I : Int) (ls : List (List Int)) : Int := if chkBook I ls ≠ 0 then 0 else I
/-- What stays in Core's and Dual's drawn region. -/
def CS (w : World) (g : Nat) (I : Int) (A : Option Addr) (n c : Nat) (W : World) : Prop :=
  Below w.heap.size w W ∧ W.cell? ⟨w.heap.size, 0, none⟩ = some (.int .i64 I) ∧ W.cell? ⟨g, 1, none⟩ = some (.slice A n c) ∧ g < W.heap.size ∧ w.heap.size + 1 < g ∧ w.heap.size + 1 < W.heap.size ∧ (∃ x, W.cell? ⟨w.heap.size + 1, 0, none⟩ = some x) ∧ (∃ x, W.cell? ⟨w.heap.size + 1, 1, none⟩ = some x) ∧ W.frozen? ⟨w.heap.size + 1, 0, none⟩ = false ∧ W.frozen? ⟨w.heap.size + 1, 1, none⟩ = false
theorem CS.ext {w : World} {g : Nat} {I : Int} {A : Option Addr} {n c : Nat} {X Y : World} (h : CS w g I A n c X) (he : Below X.heap.size X Y) : CS w g I A n c Y := by
  obtain ⟨h1, h2, h3, h3l, h3g, h4, ⟨x, h5⟩, ⟨y, h6⟩, h7, h8⟩ := h
  obtain ⟨-, hf⟩ := bcell he
  exact ⟨h1.trans (he.mono h1.size), (he.cell (p := ⟨w.heap.size, 0, none⟩) (Nat.lt_of_succ_lt h4)).trans h2, (he.cell (p := ⟨g, 1, none⟩) h3l).trans h3, Nat.lt_of_lt_of_le h3l he.size, h3g, Nat.lt_of_lt_of_le h4 he.size, ⟨x, (he.cell (p := ⟨w.heap.size + 1, 0, none⟩) h4).trans h5⟩, ⟨y, (he.cell (p := ⟨w.heap.size + 1, 1, none⟩) h4).trans h6⟩, (hf _ 0 h4).trans h7, (hf _ 1 h4).trans h8⟩
set_option maxRecDepth 100000 in
set_option maxHeartbeats 1600000 in
theorem core_any (A : Option Addr) (n c : Nat) (ls : List (List Int)) (I : Int) (w : World) (hl : LiS w w.heap.size A n ls) (hn : n ≤ 1000000) (hw : ∀ l ∈ ls, l.length ≤ 1000000) :
    Calls Tryz.prog 35 #[.agg #[.int .i64 I, .slice A n c]] w fun e w' => ∃ A' m' c', e = .returned (.tuple #[.agg #[.int .i64 (coreI I ls), .slice A' m' c'], .int .i64 (chkBook I ls)]) ∧ LiP w' w'.heap.size A' m' (coreV I ls) ∧ Below w.heap.size w w' := by
  have HL := hid hl
  have HW := hid hw
  clear hl hw
  by_cases he : chkBook I ls = 0
  · have HO := hid (fun w h => open_ok A none n c 0 0 ls [] I w h (lis_nil _ _) hn HW.out (by omega) (by simp) (by rw [openE_nil]; exact he))
    have hv : Hid (coreV I ls = leastL ls) := hid (if_neg (by simpa using he))
    have hvi : Hid (coreI I ls = I) := hid (if_neg (by simpa using he))
    have HA := hid (fun w h => least_any A n c ls w h hn (book8 he))
    obtain ⟨mv, hmv⟩ : ∃ mv, leastL ls = mv := ⟨_, rfl⟩
    rw [hmv] at hv HA
    rw [he]
    clear he hmv
    go_enter Tryz.func35, Tryz.ntmps35
    go_wp2_with (fail)
    refine (HO.out _ (HL.out.below (by repeat' (first | with_reducible assumption | with_reducible exact Below.refl _ _ | refine Below.alloc ?_ ?_ _ | refine Below.setCell ?_ ?_ _ | refine Below.drew ?_ | refine below_drewN ?_ _ | (simp; done) | (simp; omega) | omega)) (by first | (simp; done) | (simp; omega) | omega))).mono ?_
    rintro e w1 ⟨g, rfl, hg, hd, hb1⟩
    have hbel : Below w.heap.size w w1 := Below.trans (by repeat' (first | with_reducible assumption | with_reducible exact Below.refl _ _ | refine Below.alloc ?_ ?_ _ | refine Below.setCell ?_ ?_ _ | refine Below.drew ?_ | refine below_drewN ?_ _ | (simp; done) | (simp; omega) | omega)) (hb1.mono (by first | (simp; done) | (simp; omega) | omega))
    have k0 : w1.cell? ⟨w.heap.size, 0, none⟩ = some (.int .i64 I) := (hb1.cell (p := ⟨w.heap.size, 0, none⟩) (by first | (simp; done) | (simp; omega) | omega)).trans (by go_simp)
    have k1 : w1.cell? ⟨w.heap.size, 1, none⟩ = some (.slice A n c) := (hb1.cell (p := ⟨w.heap.size, 1, none⟩) (by first | (simp; done) | (simp; omega) | omega)).trans (by go_simp)
    have k2 : w1.cell? ⟨w.heap.size + 1, 0, none⟩ = some (.int .i64 0) := (hb1.cell (p := ⟨w.heap.size + 1, 0, none⟩) (by first | (simp; done) | (simp; omega) | omega)).trans (by go_simp)
    have k3 : w1.cell? ⟨w.heap.size + 1, 1, none⟩ = some (.slice none 0 0) := (hb1.cell (p := ⟨w.heap.size + 1, 1, none⟩) (by first | (simp; done) | (simp; omega) | omega)).trans (by go_simp)
    have k4 : w1.frozen? ⟨w.heap.size + 1, 0, none⟩ = false := ((bcell hb1).2 (w.heap.size + 1) 0 (by first | (simp; done) | (simp; omega) | omega)).trans (by go_simp)
    have k5 : w1.frozen? ⟨w.heap.size + 1, 1, none⟩ = false := ((bcell hb1).2 (w.heap.size + 1) 1 (by first | (simp; done) | (simp; omega) | omega)).trans (by go_simp)
    have hz1 : w.heap.size + 1 < w1.heap.size := (by have := hb1.size; simp at this; omega)
    have k6 := hd.1.cell 1
    have k7 := hd.1.lt
    have k8 : w.heap.size + 1 < g := by simp at hg; omega
    clear hd hb1
    go_wp2
    refine Sx.wp_region_el (CS w g I A n c) (fun X Y h he => h.ext he) [0, 1, 2, 3, 4, 5, 6] 4 (by kernel_rfl) (by kernel_rfl) (CS.ext (X := w1) ⟨hbel, k0, k6, k7, k8, hz1, ⟨_, k2⟩, ⟨_, k3⟩, k4, k5⟩ (Below.refl _ _).drew) ?_
    simp only [pick, List.getElem?_toArray, List.getElem?_cons_zero, List.getElem?_cons_succ]
    iterate 7 (refine Sx.wpE_val (v := ?_) (by rfl) (fun W hW => ?_) ?_; rotate_left; (· obtain ⟨h1W, h2W, h3W, -⟩ := hW; go_simp; with_reducible rfl); simp only [Act.put, List.setIfInBounds_toArray, List.set_cons_zero, List.set_cons_succ])
    simp only [Sx.wpE]
    (refine Sx.wpM_one 7 _ (by simp only [List.getElem?_toArray, List.getElem?_cons_zero, List.getElem?_cons_succ]; rfl) (by kernel_rfl) (by rfl) ?_)
    intro X hX hS
    (go_simp; simp only [LUpon, Act.put]; try simp only [List.setIfInBounds_toArray, List.set_cons_zero, List.set_cons_succ])
    refine (HA.out X (HL.out.below hS.1 hS.1.size)).mono ?_
    rintro e Y ⟨A7, m, c7, rfl, -, hi2, hb2⟩
    have HI := hid (hi2.mono (lo' := w.heap.size + 2) hS.2.2.2.2.2.1)
    refine ⟨_, rfl, hS.ext hb2, ?_⟩
    (refine Sx.wpM_one 8 _ (by simp only [List.getElem?_toArray, List.getElem?_cons_zero, List.getElem?_cons_succ]; rfl) (by kernel_rfl) (by rfl) ?_)
    intro X2 hX2 hS2
    (go_simp; simp only [LUpon, Act.put]; try simp only [List.setIfInBounds_toArray, List.set_cons_zero, List.set_cons_succ])
    refine ⟨hS2, ?_⟩
    (refine Sx.wpM_one 9 _ (by simp only [List.getElem?_toArray, List.getElem?_cons_zero, List.getElem?_cons_succ]; rfl) (by kernel_rfl) (by rfl) ?_)
    intro X3 hX3 hS3
    have HI3 := hid (HI.out.below (hX2.trans (hX3.mono hX2.size)) (Nat.le_trans hX2.size hX3.size))
    obtain ⟨q1, q2, q3, q3l, q3g, q4, ⟨x5, q5⟩, ⟨x6, q6⟩, q7, q8⟩ := hS3
    (go_simp; simp only [LUpon, Act.put]; try simp only [List.setIfInBounds_toArray, List.set_cons_zero, List.set_cons_succ])
    obtain ⟨V, hV⟩ : ∃ V, (X3.setCell ⟨w.heap.size + 1, 0, none⟩ (.int .i64 I)).setCell ⟨w.heap.size + 1, 1, none⟩ (.slice A7 m c7) = V := ⟨_, rfl⟩
    have hqV : X3.heap.size = V.heap.size := by rw [← hV]; simp
    have hbV : Below w.heap.size w V := by rw [← hV]; exact (q1.setCell (by simp) _).setCell (by simp) _
    have hcV : ∀ b off, w.heap.size + 1 < b → V.cell? ⟨b, off, none⟩ = X3.cell? ⟨b, off, none⟩ := fun b off hb => by
      rw [← hV, World.cell?_setCell_other, World.cell?_setCell_other] <;> (intro h; cases h; omega)
    have e0 : V.cell? ⟨w.heap.size, 0, none⟩ = some (.int .i64 I) := by
      rw [← hV, World.cell?_setCell_other, World.cell?_setCell_other] <;> first | exact q2 | (intro h; simp at h)
    have e1 : V.cell? ⟨w.heap.size + 1, 0, none⟩ = some (.int .i64 I) := by
      rw [← hV]
      refine (World.cell?_setCell_other _ _ _ _ ?_).trans (World.cell?_setCell_same _ _ _ q5)
      intro h; simp at h
    have e2 : V.cell? ⟨w.heap.size + 1, 1, none⟩ = some (.slice A7 m c7) := by
      rw [← hV]
      refine World.cell?_setCell_same (u := x6) _ _ _ ((World.cell?_setCell_other _ _ _ _ ?_).trans q6)
      intro h; simp at h
    have hSV : CS w g I A n c V := ⟨hbV, e0, (hcV g 1 q3g).trans q3, by rw [← hqV]; exact q3l, q3g, by rw [← hqV]; exact q4, ⟨_, e1⟩, ⟨_, e2⟩, by rw [← hV]; simpa using q7, by rw [← hV]; simpa using q8⟩
    have HIV := hid (HI3.out.old (w' := V) (fun b off hb => hcV b off (by omega)))
    have HSV := hid hSV
    rw [hqV] at HIV
    rw [hV]
    refine ⟨hSV, ?_⟩
    clear hV hcV hS hS2 hX hX2 hX3 HI3 HI hi2 hb2 q1 q2 q3 q3l q3g q4 q5 q6 q7 q8 e0 hSV hbV
    (refine Sx.wpM_one 10 _ (by simp only [List.getElem?_toArray, List.getElem?_cons_zero, List.getElem?_cons_succ]; rfl) (by kernel_rfl) (by rfl) ?_)
    intro X5 hX5 hS5
    (go_simp; simp only [LUpon, Act.put]; try simp only [List.setIfInBounds_toArray, List.set_cons_zero, List.set_cons_succ])
    refine ⟨hS5, Sx.wpM_end (by kernel_rfl) ?_⟩
    intro X6 hX6 hS6
    have hVX := hX5.trans (hX6.mono hX5.size)
    have f1 := (hVX.cell (p := ⟨w.heap.size + 1, 0, none⟩) HSV.out.2.2.2.2.2.1).trans e1
    have f2 := (hVX.cell (p := ⟨w.heap.size + 1, 1, none⟩) HSV.out.2.2.2.2.2.1).trans e2
    have HI6 := hid (HIV.out.below hVX hVX.size)
    have hb6 := hS6.1
    clear hS5 hX5 hX6 hVX hS6 e1 e2
    go_wp2
    refine bodyPost_ret (v := .tuple #[.agg #[.int .i64 I, .slice A7 m c7], .int .i64 0]) (by first | (simp [results, Tryz.results35, go_sem]; done) | (simp [results, Tryz.results35, go_sem, *]; done) | (simp [results, Tryz.results35, go_sem, World.cell?_setCell_same', *]; done) | (simp [results, Tryz.results35, go_sem]; first | exact ⟨rfl, rfl⟩ | rfl)) rfl ⟨A7, m, c7, by rw [hvi.out], by rw [hv.out]; exact HI6.out.lip, hb6⟩
  · have hv : Hid (coreV I ls = []) := hid (if_pos he)
    have hvi : Hid (coreI I ls = 0) := hid (if_pos he)
    have HO := hid (fun w h => open_bad A none n c 0 0 ls [] I w h (lis_nil _ _) hn HW.out (by omega) (by simp) (by rw [openE_nil]; exact he))
    rw [openE_nil] at HO
    obtain ⟨ev, hev⟩ : ∃ ev, chkBook I ls = ev := ⟨_, rfl⟩
    rw [hev] at HO he ⊢
    have hbi : (ev != 0) = true := by simpa using he
    clear hev
    go_enter Tryz.func35, Tryz.ntmps35
    go_wp2_with (fail)
    refine (HO.out _ (HL.out.below (by repeat' (first | with_reducible assumption | with_reducible exact Below.refl _ _ | refine Below.alloc ?_ ?_ _ | refine Below.setCell ?_ ?_ _ | refine Below.drew ?_ | refine below_drewN ?_ _ | (simp; done) | (simp; omega) | omega)) (by first | (simp; done) | (simp; omega) | omega))).mono ?_
    rintro e w1 ⟨rfl, hb1⟩
    have hbel : Below w.heap.size w w1 := Below.trans (by repeat' (first | with_reducible assumption | with_reducible exact Below.refl _ _ | refine Below.alloc ?_ ?_ _ | refine Below.setCell ?_ ?_ _ | refine Below.drew ?_ | refine below_drewN ?_ _ | (simp; done) | (simp; omega) | omega)) (hb1.mono (by first | (simp; done) | (simp; omega) | omega))
    have k2 : w1.cell? ⟨w.heap.size + 1, 0, none⟩ = some (.int .i64 0) := (hb1.cell (p := ⟨w.heap.size + 1, 0, none⟩) (by first | (simp; done) | (simp; omega) | omega)).trans (by go_simp)
    have k3 : w1.cell? ⟨w.heap.size + 1, 1, none⟩ = some (.slice none 0 0) := (hb1.cell (p := ⟨w.heap.size + 1, 1, none⟩) (by first | (simp; done) | (simp; omega) | omega)).trans (by go_simp)
    have k4 : w1.frozen? ⟨w.heap.size + 1, 0, none⟩ = false := ((bcell hb1).2 (w.heap.size + 1) 0 (by first | (simp; done) | (simp; omega) | omega)).trans (by go_simp)
    have k5 : w1.frozen? ⟨w.heap.size + 1, 1, none⟩ = false := ((bcell hb1).2 (w.heap.size + 1) 1 (by first | (simp; done) | (simp; omega) | omega)).trans (by go_simp)
    go_wp2
    refine bodyPost_ret (v := .tuple #[.agg #[.int .i64 0, .slice none 0 0], .int .i64 ev]) (by first | (simp [results, Tryz.results35, go_sem]; done) | (simp [results, Tryz.results35, go_sem, *]; done) | (simp [results, Tryz.results35, go_sem, World.cell?_setCell_same', *]; done) | (simp [results, Tryz.results35, go_sem]; first | exact ⟨rfl, rfl⟩ | rfl)) rfl ⟨none, 0, 0, by rw [hvi.out], by rw [hv.out]; exact lip_nil _ _, (hbel.setCell (by simp) _).setCell (by simp) _⟩
end Go.Proofs.YtnpilfpackdimaaGreat
