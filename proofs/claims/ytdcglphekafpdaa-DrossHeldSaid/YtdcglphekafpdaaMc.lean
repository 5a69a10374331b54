/- Texts of the proof, laid together by program. -/
import Derived.Test.YtdcglphekafpdaaMb
import Derived.ChangeKeysEq
namespace Go.Proofs.Ytdcglphekafpdaa
open Go.RowKit Go.Shelf
attribute [local go_sem] Oper.semAt_some

/-- The cells of a book, and of its scales. -/
def bk (V : Value) (s : Nat → Rg) : Array Value := #[V, .int .i64 (s 0).lo, .int .i64 (s 0).hi, .int .i64 (s 1).lo, .int .i64 (s 1).hi, .int .i64 (s 2).lo, .int .i64 (s 2).hi, .int .i64 (s 3).lo, .int .i64 (s 3).hi, .int .i64 (s 4).lo, .int .i64 (s 4).hi, .int .i64 (s 5).lo, .int .i64 (s 5).hi, .int .i64 (s 6).lo, .int .i64 (s 6).hi, .int .i64 (s 7).lo, .int .i64 (s 7).hi]
def sk (s : Nat → Rg) : Array Value := #[.int .i64 (s 0).lo, .int .i64 (s 0).hi, .int .i64 (s 1).lo, .int .i64 (s 1).hi, .int .i64 (s 2).lo, .int .i64 (s 2).hi, .int .i64 (s 3).lo, .int .i64 (s 3).hi, .int .i64 (s 4).lo, .int .i64 (s 4).hi, .int .i64 (s 5).lo, .int .i64 (s 5).hi, .int .i64 (s 6).lo, .int .i64 (s 6).hi, .int .i64 (s 7).lo, .int .i64 (s 7).hi]
def Book (w : World) (g : Nat) (V : Value) (s : Nat → Rg) : Prop := Blk w g 108 (bk V s)
theorem lt8 {i : Nat} (h : i < 8) : i = 0 ∨ i = 1 ∨ i = 2 ∨ i = 3 ∨ i = 4 ∨ i = 5 ∨ i = 6 ∨ i = 7 := by omega
theorem bk_lo (V : Value) (s : Nat → Rg) {i : Nat} (h : i < 8) : (bk V s)[1 + i * 2]? = some (.int .i64 (s i).lo) := by
  rcases lt8 h with rfl | rfl | rfl | rfl | rfl | rfl | rfl | rfl <;> rfl
theorem bk_hi (V : Value) (s : Nat → Rg) {i : Nat} (h : i < 8) : (bk V s)[1 + i * 2 + 1]? = some (.int .i64 (s i).hi) := by
  rcases lt8 h with rfl | rfl | rfl | rfl | rfl | rfl | rfl | rfl <;> rfl
theorem bk_set (V : Value) (s : Nat → Rg) {i : Nat} (h : i < 8) (r : Rg) : ((bk V s).setIfInBounds (1 + i * 2) (.int .i64 r.lo)).setIfInBounds (1 + i * 2 + 1) (.int .i64 r.hi) = bk V (upd s i r) := by
  rcases lt8 h with rfl | rfl | rfl | rfl | rfl | rfl | rfl | rfl <;> rfl
theorem Book.lo {w : World} {g : Nat} {V : Value} {s : Nat → Rg} (h : Book w g V s) {i : Nat} (hi : i < 8) : w.cell? ⟨g, 1 + i * 2, none⟩ = some (.int .i64 (s i).lo) := (Blk.cell h _).trans (bk_lo V s hi)
theorem Book.hi {w : World} {g : Nat} {V : Value} {s : Nat → Rg} (h : Book w g V s) {i : Nat} (hi : i < 8) : w.cell? ⟨g, 1 + i * 2 + 1, none⟩ = some (.int .i64 (s i).hi) := (Blk.cell h _).trans (bk_hi V s hi)
theorem Book.set_ {w : World} {g : Nat} {V : Value} {s : Nat → Rg} (h : Book w g V s) {i : Nat} (hi : i < 8) (r : Rg) : Book ((w.setCell ⟨g, 1 + i * 2, none⟩ (.int .i64 r.lo)).setCell ⟨g, 1 + i * 2 + 1, none⟩ (.int .i64 r.hi)) g V (upd s i r) := by
  have := (Blk.set_ h (1 + i * 2) (.int .i64 r.lo)).set_ (1 + i * 2 + 1) (.int .i64 r.hi)
  rw [bk_set V s hi] at this
  exact this

/-- What settle leaves of a book. -/
def SettlePost (w : World) (g n : Nat) (V : Value) (M : Nat → Mt) (s : Nat → Rg) (e : Ending) (w' : World) : Prop :=
  w.grownBy w' (some g) ∧ ∃ s', Book w' g V s' ∧ ((e = .returned (.bool true) ∧ Settled n M s s') ∨ (e = .returned (.bool false) ∧ ∀ T, ¬ Truth n M s T))

/-- The frame of settle between two rounds. -/
def frameOf (g hs : Nat) (f : Nat → Value) : Array Value := #[.pointer (some ⟨g, 0, none⟩), .pointer (some ⟨hs, 0, none⟩), .pointer (some ⟨hs + 1, 0, none⟩), f 3, f 4, f 5, f 6, f 7, f 8, f 9, f 10, f 11, f 12, f 13, f 14, f 15, f 16, f 17, f 18, f 19, f 20, f 21, f 22, f 23, f 24, f 25, f 26, f 27, f 28, f 29, f 30, f 31, f 32, f 33, f 34, f 35, f 36, f 37, f 38, f 39, f 40, f 41, f 42, f 43, f 44, f 45, f 46, f 47, f 48, f 49, f 50, f 51, f 52, f 53, f 54, f 55, f 56, f 57, f 58, f 59, f 60, f 61, f 62, f 63, f 64, f 65, f 66, f 67, f 68, f 69, f 70, f 71, f 72, f 73, f 74, f 75, f 76, f 77, f 78, f 79, f 80, f 81, f 82, f 83, f 84, f 85, f 86, f 87, f 88, f 89, f 90, f 91, f 92, f 93, f 94, f 95, f 96, f 97, f 98, f 99, f 100, f 101, f 102, f 103, f 104, f 105, f 106, f 107]
def readR (W : World) (g i : Nat) : Rg := ⟨intOf ((W.cell? ⟨g, 1 + i * 2, none⟩).getD undef), intOf ((W.cell? ⟨g, 1 + i * 2 + 1, none⟩).getD undef)⟩
theorem readR_of {W : World} {g : Nat} {V : Value} {s : Nat → Rg} (h : Book W g V s) {i : Nat} (hi : i < 8) : readR W g i = s i := by
  rw [readR, h.lo hi, h.hi hi]
  rfl
theorem mu_congr {s t : Nat → Rg} (h : ∀ i, i < 8 → s i = t i) : mu s = mu t := by
  unfold mu
  congr 1
  exact List.map_congr_left (fun i hi => by rw [h i (List.mem_range.1 hi)])
theorem mu_read {W : World} {g : Nat} {V : Value} {s : Nat → Rg} (h : Book W g V s) : mu (readR W g) = mu s := mu_congr (fun _ hi => readR_of h hi)

/-- Between two rounds. -/
structure SetW (w : World) (g n : Nat) (V : Value) (M : Nat → Mt) (s : Nat → Rg) (Ds : List Nat) (sc : Nat → Rg) (W : World) : Prop where
  nodup : Ds.Nodup
  marks : ∀ D, D ∈ Ds → w.heap.size + 1 + 1 ≤ D ∧ W.heap[D]? = some (.deferred (some []))
  book : Book W g V sc
  box : Blk W w.heap.size 102 #[.pointer (some ⟨g, 0, none⟩)]
  out : Blk W (w.heap.size + 1) 4 #[.bool false]
  nar : Nar n M s sc
  ok : okS sc
  one : 1 ≤ n ∨ (sc 0).lo ≤ (sc 0).hi
  grown : w.grownBy W (some g)
def SetI (w : World) (g n : Nat) (V : Value) (M : Nat → Mt) (s : Nat → Rg) (a : Act) (W : World) : Prop :=
  ∃ f Ds sc, a = { tmps := frameOf g w.heap.size f, defers := Ds.map markOf } ∧ SetW w g n V M s Ds sc W

theorem SetW.size {w : World} {g n : Nat} {V : Value} {M : Nat → Mt} {s : Nat → Rg} {Ds : List Nat} {sc : Nat → Rg} {W : World} (h : SetW w g n V M s Ds sc W) : w.heap.size + 1 < W.heap.size := h.out.lt

/-- A part of a function's code. -/
def nav : Code → List Nat → Code
  | c, [] => c
  | .seq a _, 0 :: p => nav a p
  | .seq _ b, _ :: p => nav b p
  | .block _ b, _ :: p => nav b p
  | .loop b, _ :: p => nav b p
  | .cond _ a _, 0 :: p => nav a p
  | .cond _ _ b, _ :: p => nav b p
  | c, _ => c
end Go.Proofs.Ytdcglphekafpdaa
namespace Go.Proofs.Ytdcglphekafpdaa
open Go.RowKit Go.Shelf
attribute [local go_sem] Oper.semAt_some

theorem mAt_ok {row : List Mt} (h : row.all okM = true) {k : Nat} (hk : k < row.length) : okM (mAt row k) = true := by
  rw [mAt_of (List.getElem?_eq_getElem hk)]
  exact List.all_eq_true.1 h _ (List.getElem_mem _)

set_option maxRecDepth 100000 in
set_option maxHeartbeats 2000000 in
theorem settle_fwd {Q : Exit → Act → World → Prop} (hs : Nat) (W : World) (g : Nat) (A : Option Addr) (n c : Nat) (row : List Mt) (sc : Nat → Rg) (f : Nat → Value) (ds : List Deferred) (t3 : Value)
    (f3 : f 3 = t3) (f19 : f 19 = .slice A n c) (f20 : f 20 = .int .i64 n) (f21 : f 21 = .int .i64 0)
    (hbk : Book W g (.slice A n c) sc) (hbx : Blk W hs 102 #[.pointer (some ⟨g, 0, none⟩)]) (hout : Blk W (hs + 1) 4 #[.bool false])
    (hr : MtS W g A n row) (hg : g < hs) (hn : n ≤ 7) (hok : row.all okM = true) (hoks : okS sc)
    (hnext : ∀ T W' sf, (T = frameOf g hs (fun i => T.getD i undef) ∧ T.getD 3 undef = t3) → W.grownBy W' (some g) → Book W' g (.slice A n c) sf → Nar n (mAt row) sc sf → okS sf → FwdC (mAt row) sf n → (1 ≤ n ∨ sf = sc) → Q .normal { tmps := T, defers := ds } W')
    (hret : ∀ T W' sf, T = frameOf g hs (fun i => T.getD i undef) → W.grownBy W' (some g) → Book W' g (.slice A n c) sf → (∀ T, ¬ Truth n (mAt row) sc T) → Q .ret { tmps := T, defers := ds } W') :
    (nav (Try.f81.body.getD .skip) [1, 0, 0, 0, 1, 0, 1, 1]).wpIn (Wd none) 9 Try.prog (Exit.inBlock 2 Q) { tmps := frameOf g hs f, defers := ds } W := by
  have hlen := hid hr.len
  have hok' := hid hok
  have Hnext := hid hnext
  have Hret := hid hret
  clear hok hnext hret
  simp only [nav, Try.f81, Option.getD, frameOf, f3, f19, f20, f21]
  clear f3 f19 f20 f21
  have hbx0 := hbx
  have hout0 := hout
  gi_loopw [21] (fun i wr => ∃ k : Nat, k ≤ n ∧ i = .int .i64 k ∧ ∃ sk, Book wr g (.slice A n c) sk ∧ Nar n (mAt row) sc sk ∧ okS sk ∧ FwdC (mAt row) sk k ∧ (1 ≤ k ∨ sk = sc) ∧ W.grownBy wr (some g)) (fun i _ => n - (intOf i).toNat)
  case atStart => exact ⟨0, by omega, rfl, sc, hbk, Nar.refl _ _ _, hoks, fun i hi => by omega, .inr rfl, World.grownBy.refl _ _⟩
  case round =>
    obtain ⟨k, hk, rfl, sk, hbk, hnar, hoks, hfw, hone, hgr⟩ := hrel
    have hbx := hbx.grown hgr (by simp; omega)
    have hout := hout.grown hgr (by simp; omega)
    have hz := hout.lt
    have hbk0 : hs < W.heap.size := hbx0.lt
    by_cases hlt : k < n
    · obtain ⟨b, off, m, rfl, hb, hm, c0, c1, c2, c3⟩ := Sl.keep (w' := wr) hr (fun p hp => World.cell?_of_block (hgr.block p.block (by have := hbk0; omega) (by simp; omega))) |> fun h => MtS.at_ h hlt
      have e0 := hbx.cell 0
      have hzg : g < wr.heap.size := by omega
      have hzh : hs < wr.heap.size := by omega
      have hk1 : ((k : Int) + 1).toNat = k + 1 := by omega
      have hmm : mAt row k = m := mAt_of hm
      have hokm : Hid (okM m = true) := by have := mAt_ok hok'.out (k := k) (by have := hlen.out; omega); rwa [hmm] at this
      have Hm := hid hmm
      clear hm hmm
      gi_wp2
      obtain ⟨W1, hW1⟩ : ∃ W1, wr.alloc (.cells #[.int .i64 m.keep.lo, .int .i64 m.keep.hi, .int .i64 m.fixed.lo, .int .i64 m.fixed.hi] 85) = W1 := ⟨_, rfl⟩
      have bM : Blk W1 wr.heap.size 85 #[.int .i64 m.keep.lo, .int .i64 m.keep.hi, .int .i64 m.fixed.lo, .int .i64 m.fixed.hi] := by rw [← hW1]; exact Blk.new _ _ _
      have hbk1 : Book W1 g (.slice (some ⟨b, off, none⟩) n c) sk := by rw [← hW1]; exact Blk.alloc hbk _
      have hbx1 : Blk W1 hs 102 #[.pointer (some ⟨g, 0, none⟩)] := by rw [← hW1]; exact hbx.alloc _
      have hgr1 : W.grownBy W1 (some g) := by rw [← hW1]; exact ⟨hgr.os, hgr.tape, hgr.output, by have := hgr.size; simp; omega, fun i hi hne => (Below.heap_alloc _ _ _ (by have := hgr.size; omega)).trans (hgr.block i hi hne)⟩
      have hS1 : W1.heap.size = wr.heap.size + 1 := by rw [← hW1]; exact World.size_alloc _ _
      rw [hW1]
      have l1 : g < W1.heap.size := by omega
      have l2 : hs < W1.heap.size := by omega
      have l3 : wr.heap.size < W1.heap.size := by omega
      clear hW1 c0 c1 c2 c3 e0 hS1
      have e0 := hbx1.cell 0
      have m0 := bM.cell 0
      have m1 := bM.cell 1
      have m2 := bM.cell 2
      have m3 := bM.cell 3
      have p0 := hbk1.lo (i := k + 1) (by omega)
      have p1 := hbk1.hi (i := k + 1) (by omega)
      have p2 := hbk1.lo (i := k) (by omega)
      have p3 := hbk1.hi (i := k) (by omega)
      have ok0 := hoks k
      have hk8 : k < 8 := by omega
      have hk8i : (k : Int) < 8 := by omega
      have hF : Hid (meet (sk (k + 1)) (melted m (sk k)) = fwd (mAt row) sk k) := by rw [← Hm.out]; rfl
      refine wpIn_region_hd 14 (fun W' => Below W1.heap.size W1 W') (by kernel_rfl) (by kernel_rfl) ((Below.refl _ _).drew) ?_
      simp only [List.take_succ_cons, List.take_zero, List.drop_succ_cons, List.drop_zero]
      iterate 11 (refine wpHd_val (v := ?_) (by rfl) (fun W hW => ?_) ?_; rotate_left; (· obtain ⟨hcW, hfW⟩ := bcell hW; go_simp; with_reducible rfl); simp only [Act.put, List.setIfInBounds_toArray, List.set_cons_zero, List.set_cons_succ])
      (refine wpHd_callB (by rfl) (fun W hW => melted_any m (sk k) _ hokm.out ok0.1 ok0.2.1 ok0.2.2.1 (by omega)) (fun W hW => ?_) ?_; (· obtain ⟨hcW, hfW⟩ := bcell hW; go_simp); simp only [Act.put, List.setIfInBounds_toArray, List.set_cons_zero, List.set_cons_succ])
      (refine wpHd_callB (by rfl) (fun W hW => meet_any (sk (k + 1)) (melted m (sk k)) _) (fun W hW => ?_) ?_; (· obtain ⟨hcW, hfW⟩ := bcell hW; go_simp); simp only [Act.put, List.setIfInBounds_toArray, List.set_cons_zero, List.set_cons_succ])
      (refine wpHd_val (v := ?_) (by rfl) (fun W hW => ?_) ?_; rotate_left; (· obtain ⟨hcW, hfW⟩ := bcell hW; go_simp; with_reducible rfl); simp only [Act.put, List.setIfInBounds_toArray, List.set_cons_zero, List.set_cons_succ])
      refine wpHd_nil ?_
      intro W2 hW2
      rw [hF.out]
      have hbk2 : Book W2 g (.slice (some ⟨b, off, none⟩) n c) sk := Blk.below hbk1 hW2 l1
      have hbx2 := hbx1.below hW2 l2
      have hgr2 : W.grownBy W2 (some g) := ⟨hW2.os.trans hgr1.os, hW2.tape.trans hgr1.tape, hW2.output.trans hgr1.output, Nat.le_trans hgr1.size hW2.size, fun i hi hne => (hW2.block i (by have := hgr1.size; omega)).trans (hgr1.block i hi hne)⟩
      have hb3 := hbk2.set_ (i := k + 1) (by omega) (fwd (mAt row) sk k)
      have q0 := hbk2.lo (i := k + 1) (by omega)
      have q1 := hbk2.hi (i := k + 1) (by omega)
      have q2 := Blk.frozen hbk2 (1 + (k + 1) * 2)
      have q3 := Blk.frozen hbk2 (1 + (k + 1) * 2 + 1)
      clear e0 m0 m1 m2 m3 p0 p1 p2 p3
      gi_wp2
      obtain ⟨W3, hW3⟩ : ∃ W3, (W2.setCell ⟨g, 1 + (k + 1) * 2, none⟩ (.int .i64 (fwd (mAt row) sk k).lo)).setCell ⟨g, 1 + (k + 1) * 2 + 1, none⟩ (.int .i64 (fwd (mAt row) sk k).hi) = W3 := ⟨_, rfl⟩
      have hgr3 : W.grownBy W3 (some g) := by
        rw [← hW3]
        exact ⟨hgr2.os, hgr2.tape, hgr2.output, by have := hgr2.size; simp; omega, fun i hi hne => by
          have hig : i ≠ g := fun e => hne (by rw [e])
          exact (Below.heap_setCell _ _ _ _ hig).trans ((Below.heap_setCell _ _ _ _ hig).trans (hgr2.block i hi hne))⟩
      have l4 : g < W3.heap.size := by rw [← hW3]; have := hW2.size; simp; omega
      rw [hW3] at hb3 ⊢
      clear hW3 q0 q1 q2 q3
      have r0 := hb3.lo (i := k + 1) (by omega)
      have r1 := hb3.hi (i := k + 1) (by omega)
      rw [upd_same] at r0 r1
      have hFb := fwd_bd (M := mAt row) (k := k) (by rw [Hm.out]; exact hokm.out) hoks
      have l6 : hs + 1 < W3.heap.size := by have := hgr3.size; have := hout0.lt; omega
      refine wpIn_region_hd_all (fun W' => Below W3.heap.size W3 W') (by kernel_rfl) (by kernel_rfl) ((Below.refl _ _).drew) ?_
      iterate 9 (refine wpHd_val (v := ?_) (by rfl) (fun W hW => ?_) ?_; rotate_left; (· obtain ⟨hcW, hfW⟩ := bcell hW; go_simp; with_reducible rfl); simp only [Act.put, List.setIfInBounds_toArray, List.set_cons_zero, List.set_cons_succ])
      refine wpHd_nil ?_
      intro W4 hW4
      have hgr4 : W.grownBy W4 (some g) := ⟨hW4.os.trans hgr3.os, hW4.tape.trans hgr3.tape, hW4.output.trans hgr3.output, Nat.le_trans hgr3.size hW4.size, fun i hi hne => (hW4.block i (by have := hgr3.size; omega)).trans (hgr3.block i hi hne)⟩
      have hb4 : Book W4 g (.slice (some ⟨b, off, none⟩) n c) (upd sk (k + 1) (fwd (mAt row) sk k)) := Blk.below hb3 hW4 l4
      have hn1 := hnar.trans (fwd_nar hlt (M := mAt row) (s := sk) (by rw [Hm.out]; exact hokm.out))
      by_cases he : (fwd (mAt row) sk k).lo ≤ (fwd (mAt row) sk k).hi
      · gi_wp2
        exact ⟨⟨k + 1, by omega, by go_num, _, hb4, hn1, okS_upd hoks hFb.1 he hFb.2.2.2, fwdC_upd hfw he, .inl (by omega), hgr4⟩, by simp [intOf]; omega⟩
      · have ho4 := hout0.grown hgr4 (by simp; omega)
        have o0 := ho4.cell 0
        have o1 := ho4.frozen 0
        have ho5 := ho4.set_ 0 (.bool false)
        have l7 := ho4.lt
        gi_wp2
        refine Hret.out _ _ _ rfl ⟨hgr4.os, hgr4.tape, hgr4.output, by have := hgr4.size; simp; omega, fun i hi hne => ?_⟩ (Blk.far hb4 (by simp; omega) _) (fun T => hn1.none (no_truth (k := k + 1) (by omega) (by rw [upd_same]; omega)) T)
        by_cases hi2 : i = hs + 1
        · subst hi2; exact (show _ = some _ from ho5).trans hout0.symm
        · exact (Below.heap_setCell _ _ _ _ hi2).trans (hgr4.block i hi hne)
    · obtain rfl : k = n := by omega
      gi_wp2
      exact Hnext.out _ _ _ ⟨rfl, rfl⟩ hgr hbk hnar hoks hfw hone
end Go.Proofs.Ytdcglphekafpdaa
/- A second law of our own for a region that draws its order: early operations yield one and the same value in every world that is behind a first one; the others (an allocation, a store, an append) come in whatever order is left, each in whatever world is behind the one before it. Over any program. -/
namespace Go.Proofs.Ytdcglphekafpdaa
open Go

/-- A world that is behind another one: what was there is as it was. -/
abbrev Ext (w W : World) : Prop := RowKit.Below w.heap.size w W
theorem Ext.trans' {a b c : World} (h : Ext a b) (k : Ext b c) : Ext a c := h.trans (k.mono h.size)

section
variable {P : Program} {ops : Array Oper} {md : Region.Mode} {X : World}

def EUpon (P : Program) (W0 : World) (v : Value) : Result Next → Prop
  | .ok (.value u) W' => u = v ∧ Ext W0 W'
  | .ok .skip W' => v = undef ∧ Ext W0 W'
  | .ok (.enter f args) W' => W' = W0 ∧ Calls P f args W0 fun e W'' => e = .returned v ∧ Ext W0 W''
  | _ => False
/-- In every world behind X. -/
def EYields (P : Program) (ops : Array Oper) (X : World) (o : Oper) (v : Value) (a : Act) : Prop :=
  (Region.wanted o (yielded ops a.tmps) = true ∧ ∀ W, Ext X W → EUpon P W v ((execOp a.eval o).run P W)) ∨ (Region.wanted o (yielded ops a.tmps) = false ∧ v = undef)
theorem EYields.of_same {o : Oper} {v : Value} {a a' : Act} (hy : EYields P ops X o v a) (he : execOp a'.eval o = execOp a.eval o)
    (hw : Region.wanted o (yielded ops a'.tmps) = Region.wanted o (yielded ops a.tmps)) : EYields P ops X o v a' := by
  unfold EYields at *
  rw [he, hw]
  exact hy

/-- One operation, wherever it may lead, but to no panic. -/
def LUpon (P : Program) (o : Oper) (a : Act) (K : Act → World → Prop) : Result Next → Prop
  | .ok (.value u) W' => K (a.put o.dst u) W'
  | .ok .skip W' => K (a.put o.dst undef) W'
  | .ok (.enter f args) W' => Calls P f args W' fun e W'' => ∃ v, e = .returned v ∧ K (a.put o.dst v) W''
  | _ => False
def lOp (P : Program) (ops : Array Oper) (i : Nat) (K : Act → World → Prop) (a : Act) (w : World) : Prop :=
  match ops[i]? with
  | none => K a w
  | some o => if Region.wanted o (yielded ops a.tmps) = true then LUpon P o a K ((execOp a.eval o).run P w) else K (a.put o.dst undef) w

theorem LUpon_mono {o : Oper} {a : Act} {K K' : Act → World → Prop} (h : ∀ a w, K a w → K' a w) {r : Result Next} (hh : LUpon P o a K r) : LUpon P o a K' r := by
  cases r with
  | ok n w' =>
    cases n <;> simp only [LUpon] at hh ⊢
    case value u => exact h _ _ hh
    case skip => exact h _ _ hh
    case enter f args => exact hh.mono fun e W ⟨v, he, hk⟩ => ⟨v, he, h _ _ hk⟩
  | halt x w' => simp only [LUpon] at hh
theorem lOp_mono {i : Nat} {a : Act} {w : World} {K K' : Act → World → Prop} (h : ∀ a w, K a w → K' a w) (hh : lOp P ops i K a w) : lOp P ops i K' a w := by
  unfold lOp at *
  split
  · rename_i ho; simp only [ho] at hh; exact h _ _ hh
  · rename_i o ho
    simp only [ho] at hh
    split
    · rename_i hw; simp only [hw, if_true] at hh; exact LUpon_mono h hh
    · rename_i hw; simp only [hw] at hh; exact h _ _ hh

theorem lOp_put {j : Nat} {oi oj : Oper} {v : Value} (hj : ops[j]? = some oj) (hap : oi.apart ops oj = true)
    (hsi : ∀ cs b, oi.op ≠ .select cs b) (hsj : ∀ cs b, oj.op ≠ .select cs b) {K : Act → World → Prop} {a : Act} {w : World}
    (hy : EYields P ops X oi v a) (h : lOp P ops j K (a.put oi.dst v) w) :
    lOp P ops j (fun a' w' => EYields P ops X oi v a' ∧ K (a'.put oi.dst v) w') a w := by
  obtain ⟨h1, h2, h3⟩ := Oper.apart_spec hap
  have keep : ∀ (u : Value), EYields P ops X oi v (a.put oj.dst u) := fun u => hy.of_same (execOp_put oi hsi a oj.dst u h3) (wanted_put oi a oj.dst u h3)
  have swap : ∀ (u : Value) (W : World), K ((a.put oi.dst v).put oj.dst u) W → EYields P ops X oi v (a.put oj.dst u) ∧ K ((a.put oj.dst u).put oi.dst v) W := fun u W hk => ⟨keep u, by rw [← Act.put_comm a v u h2]; exact hk⟩
  unfold lOp at *
  simp only [hj] at *
  rw [wanted_put oj a oi.dst v h1] at h
  split
  · rename_i hw
    simp only [hw, if_true] at h
    rw [execOp_put oj hsj a oi.dst v h1] at h
    generalize (execOp a.eval oj).run P w = r at *
    cases r with
    | ok n w' =>
      cases n <;> simp only [LUpon] at h ⊢
      case value u => exact swap u _ h
      case skip => exact swap _ _ h
      case enter f args => exact h.mono fun e W ⟨u, he, hk⟩ => ⟨u, he, swap u _ hk⟩
    | halt x w' => simp only [LUpon] at h
  · rename_i hw
    simp only [hw] at h
    exact swap _ _ h

/-- Whatever order is left, in whatever worlds. -/
def wpM (P : Program) (md : Region.Mode) (ops : Array Oper) (X : World) (Q : Act → World → Prop) : Nat → Array Bool → Act → World → Prop
  | 0, listed, a, w => Region.ready md ops listed = [] ∧ ∀ W, Ext w W → Ext X W → Q a W
  | f + 1, listed, a, w => ∀ W, Ext w W → Ext X W → (Region.ready md ops listed = [] → Q a W) ∧
      ∀ i ∈ Region.ready md ops listed, lOp P ops i (fun a' W' => Ext X W' ∧ wpM P md ops X Q f (listed.setIfInBounds i true) a' W') a W
theorem wpM_ext {Q : Act → World → Prop} {f : Nat} {listed : Array Bool} {a : Act} {w w' : World} (h : wpM P md ops X Q f listed a w) (he : Ext w w') : wpM P md ops X Q f listed a w' := by
  cases f with
  | zero => exact ⟨h.1, fun W h1 h2 => h.2 W (he.trans' h1) h2⟩
  | succ f => exact fun W h1 h2 => h W (he.trans' h1) h2

theorem lOp_of_early {i : Nat} {oi : Oper} {v : Value} {a : Act} {W : World} {K : Act → World → Prop} (hi : ops[i]? = some oi) (hX : Ext X W) (hy : EYields P ops X oi v a) (hK : ∀ W', Ext W W' → K (a.put oi.dst v) W') : lOp P ops i K a W := by
  unfold lOp
  simp only [hi]
  rcases hy with ⟨hw, hy⟩ | ⟨hw, rfl⟩
  · simp only [hw, if_true]
    have h1 := hy W hX
    generalize (execOp a.eval oi).run P W = r at h1
    cases r with
    | ok n w' =>
      cases n <;> simp only [EUpon] at h1 <;> simp only [LUpon]
      case value u => obtain ⟨rfl, h2⟩ := h1; exact hK _ h2
      case skip => obtain ⟨rfl, h2⟩ := h1; exact hK _ h2
      case enter f args => obtain ⟨rfl, h2⟩ := h1; exact h2.mono fun e W'' ⟨he, hx⟩ => ⟨v, he, hK _ hx⟩
    | halt x w' => simp only [EUpon] at h1
  · simp only [hw, Bool.false_eq_true, if_false]; exact hK _ (RowKit.Below.refl _ _)

theorem wpM_first {Q : Act → World → Prop} {i : Nat} {oi : Oper} {v : Value} (hi : ops[i]? = some oi) (hsel : ∀ (j : Nat) (o : Oper) cs b, ops[j]? = some o → o.op ≠ .select cs b) :
    ∀ (f : Nat) (listed : Array Bool) (a : Act) (w : World),
      (∀ j oj, ops[j]? = some oj → j ≠ i → listed.getD j true = false → (∀ e ∈ oj.after, Region.binds md e = true → e.on ≠ i) → oi.apart ops oj = true) →
      i ∈ Region.ready md ops listed → EYields P ops X oi v a →
      wpM P md ops X Q f (listed.setIfInBounds i true) (a.put oi.dst v) w → wpM P md ops X Q (f + 1) listed a w := by
  intro f
  induction f with
  | zero =>
    intro listed a w hfree hr hy H W hwW hXW
    refine ⟨fun h => (by rw [h] at hr; cases hr), fun j hj => ?_⟩
    by_cases hji : j = i
    · subst hji
      exact lOp_of_early hi hXW hy fun W' hW' => ⟨hXW.trans' hW', wpM_ext H (hwW.trans' hW')⟩
    · have := ready_mono hj hji
      rw [H.1] at this
      cases this
  | succ f ih =>
    intro listed a w hfree hr hy H W hwW hXW
    refine ⟨fun h => (by rw [h] at hr; cases hr), fun j hj => ?_⟩
    by_cases hji : j = i
    · subst hji
      exact lOp_of_early hi hXW hy fun W' hW' => ⟨hXW.trans' hW', wpM_ext H (hwW.trans' hW')⟩
    · have h1 := (H W hwW hXW).2 j (ready_mono hj hji)
      obtain ⟨hjun, oj, hoj, hall⟩ := mem_ready.1 hj
      have hnot : ∀ e ∈ oj.after, Region.binds md e = true → e.on ≠ i := fun e he hb heq => by
        have h1 := hall e he hb
        have h0 := (mem_ready.1 hr).1
        rw [heq, getD_both h0] at h1
        cases h1
      have h2 := lOp_put hoj (hfree j oj hoj hji hjun hnot) (fun cs b => hsel i oi cs b hi) (fun cs b => hsel j oj cs b hoj) hy h1
      have hfree' : ∀ k ok, ops[k]? = some ok → k ≠ i → (listed.setIfInBounds j true).getD k true = false →
          (∀ e ∈ ok.after, Region.binds md e = true → e.on ≠ i) → oi.apart ops ok = true := fun k ok hk hki hun hno => by
        refine hfree k ok hk hki ?_ hno
        by_cases hjk : j = k
        · subst hjk; exact hjun
        · rw [getD_set_ne true hjk] at hun; exact hun
      refine lOp_mono (fun a' W' h3 => ⟨h3.2.1, ih (listed.setIfInBounds j true) a' W' hfree' (ready_mono hr (Ne.symm hji)) h3.1 ?_⟩) h2
      rw [Array.setIfInBounds_comm _ _ hji]
      exact h3.2.2

/-- The early operations, by their numbers, in order. -/
def wpE (P : Program) (ops : Array Oper) (X : World) (L : Act → Prop) : List (Nat × Oper) → Act → Prop
  | [], a => L a
  | (_, o) :: rest, a => ∃ v, EYields P ops X o v a ∧ wpE P ops X L rest (a.put o.dst v)
def setAll (listed : Array Bool) : List Nat → Array Bool
  | [] => listed
  | i :: l => setAll (listed.setIfInBounds i true) l
/-- Each one is ready in its turn, and free. -/
def earlyB (md : Region.Mode) (ops : Array Oper) : List Nat → Array Bool → Bool
  | [], _ => true
  | i :: l, listed => (Region.ready md ops listed).contains i && Region.free md ops listed i && earlyB md ops l (listed.setIfInBounds i true)
def pick (ops : Array Oper) : List Nat → List (Nat × Oper)
  | [] => []
  | i :: l => match ops[i]? with
    | some o => (i, o) :: pick ops l
    | none => pick ops l

theorem wpM_early {Q : Act → World → Prop} (hsel : Region.noSelect ops = true) {w : World} : ∀ (E : List Nat) (g : Nat) (listed : Array Bool) (a : Act), earlyB md ops E listed = true →
    wpE P ops X (fun a' => wpM P md ops X Q g (setAll listed E) a' w) (pick ops E) a → wpM P md ops X Q (E.length + g) listed a w
  | [], g, listed, a, _, h => by simpa [setAll, pick, wpE] using h
  | i :: E, g, listed, a, hB, h => by
    simp only [earlyB, Bool.and_eq_true] at hB
    obtain ⟨⟨hr, hf⟩, hB'⟩ := hB
    have hr' : i ∈ Region.ready md ops listed := by simpa using hr
    obtain ⟨_, oi, hoi, _⟩ := mem_ready.1 hr'
    simp only [pick, hoi, wpE] at h
    obtain ⟨v, hy, hK⟩ := h
    rw [List.length_cons, show E.length + 1 + g = (E.length + g) + 1 by omega]
    exact wpM_first hoi (Region.noSelect_spec hsel) _ _ _ _ (Region.free_spec hoi hf) hr' hy (wpM_early hsel E g _ _ hB' hK)

theorem wpOp_of_lOp {i : Nat} {a : Act} {w : World} {K K' : Act → World → Prop} {Q' : Exit → Act → World → Prop} (h : ∀ a w, K a w → K' a w) (hh : lOp P ops i K a w) : wpOp P ops Q' i K' a w := by
  unfold lOp at hh
  unfold wpOp
  split
  · rename_i ho; simp only [ho] at hh; exact h _ _ hh
  · rename_i o ho
    simp only [ho] at hh
    split
    · rename_i hw
      simp only [hw, if_true] at hh
      refine .inl ?_
      unfold Oper.wp
      generalize (execOp a.eval o).run P w = r at hh
      cases r with
      | ok n w' =>
        cases n <;> simp only [LUpon] at hh <;> simp only [Oper.upon]
        case value u => exact h _ _ hh
        case skip => exact h _ _ hh
        case enter f args =>
          refine hh.mono ?_
          rintro e W ⟨v, rfl, hk⟩
          exact h _ _ hk
      | halt x w' => simp only [LUpon] at hh
    · rename_i hw; simp only [hw] at hh; exact h _ _ hh
theorem wpAny_of_M {Q : Act → World → Prop} {Q' : Exit → Act → World → Prop} (hQ : ∀ a w, Q a w → Q' .normal a w) : ∀ (f : Nat) (listed : Array Bool) (a : Act) (w : World), Ext X w → wpM P md ops X Q f listed a w → wpAny P md ops Q' f listed a w
  | 0, _, _, _, hX, h => ⟨h.1, hQ _ _ (h.2 _ (RowKit.Below.refl _ _) hX)⟩
  | f + 1, _, _, w, hX, h =>
    have h' := h w (RowKit.Below.refl _ _) hX
    ⟨fun h0 => hQ _ _ (h'.1 h0), fun i hi => wpOp_of_lOp (fun _ _ hk => wpAny_of_M hQ f _ _ _ hk.1 hk.2) (h'.2 i hi)⟩

/-- The law, outside a round. -/
theorem wp_region_el {id : Nat} {Q : Exit → Act → World → Prop} {a : Act} {w : World} {l : List Oper} (E : List Nat) (g : Nat) (hm : P.follows .mixedOrders = true)
    (hB : (Region.noSelect l.toArray && decide (E.length + g = l.length) && earlyB .any l.toArray E (Array.replicate l.length false)) = true)
    (h : ∀ X, X = w.drew → wpE P l.toArray X (fun a' => wpM P .any l.toArray X (fun a w => wpList P l.toArray Q [] a w) g (setAll (Array.replicate l.length false) E) a' X) (pick l.toArray E) a) : (Code.region id l.toArray true).wp P Q a w := by
  simp only [Bool.and_eq_true, decide_eq_true_eq] at hB
  obtain ⟨⟨hsel, hn⟩, hE⟩ := hB
  refine wp_region_any hm ?_
  have := wpM_early (X := w.drew) hsel E g _ a hE (h _ rfl)
  rw [hn] at this
  have := wpAny_of_M (Q' := Q) (fun _ _ hk => hk) _ _ _ _ (RowKit.Below.refl _ _) this
  simpa using this

variable {ro : Option Nat} {n : Nat}
theorem wpOpIn_of_lOp {i : Nat} {a : Act} {w : World} {K K' : Act → World → Prop} {Q' : Exit → Act → World → Prop} (hd : noDefer ops = true) (h : ∀ a w, K a w → K' a w) (hh : lOp P ops i K a w) : wpOpIn (Wd ro) n P ops Q' i K' a w := by
  unfold lOp at hh
  unfold wpOpIn
  split
  · rename_i ho; simp only [ho] at hh; exact h _ _ hh
  · rename_i o ho
    simp only [ho] at hh
    split
    · rename_i hw
      simp only [hw, if_true] at hh
      unfold Oper.wpIn
      refine ⟨fun f _ => trivial, ?_⟩
      rw [Oper.semAt_eq _ _ _ (noDefer_spec hd i o ho)]
      generalize (execOp a.eval o).run P w = r at hh
      cases r with
      | ok n w' =>
        cases n <;> simp only [LUpon] at hh <;> simp only [Oper.uponIn]
        case value u => exact h _ _ hh
        case skip => exact h _ _ hh
        case enter f args =>
          refine ⟨fun hx => (by cases hx), calls_wd (hh.mono ?_)⟩
          rintro e W ⟨v, rfl, hk⟩
          exact h _ _ hk
      | halt x w' => simp only [LUpon] at hh
    · rename_i hw; simp only [hw] at hh; exact ⟨fun f _ => trivial, h _ _ hh⟩
theorem wpAnyIn_of_M {Q : Act → World → Prop} {Q' : Exit → Act → World → Prop} (hd : noDefer ops = true) (hQ : ∀ a w, Q a w → Q' .normal a w) : ∀ (f : Nat) (listed : Array Bool) (a : Act) (w : World), Ext X w → wpM P md ops X Q f listed a w → wpAnyIn (Wd ro) n P md ops Q' f listed a w
  | 0, _, _, _, hX, h => ⟨h.1, hQ _ _ (h.2 _ (RowKit.Below.refl _ _) hX)⟩
  | f + 1, _, _, w, hX, h =>
    have h' := h w (RowKit.Below.refl _ _) hX
    ⟨fun h0 => hQ _ _ (h'.1 h0), fun i hi => wpOpIn_of_lOp hd (fun _ _ hk => wpAnyIn_of_M hd hQ f _ _ _ hk.1 hk.2) (h'.2 i hi)⟩
/-- The law, at the wide fence. -/
theorem wpIn_region_el {id : Nat} {Q : Exit → Act → World → Prop} {a : Act} {w : World} {l : List Oper} (E : List Nat) (g : Nat) (hm : P.follows .mixedOrders = true)
    (hB : (noDefer l.toArray && Region.noSelect l.toArray && decide (E.length + g = l.length) && earlyB .any l.toArray E (Array.replicate l.length false)) = true)
    (h : ∀ X, X = w.drew → wpE P l.toArray X (fun a' => wpM P .any l.toArray X (fun a w => wpListIn (Wd ro) n P l.toArray Q [] a w) g (setAll (Array.replicate l.length false) E) a' X) (pick l.toArray E) a) : (Code.region id l.toArray true).wpIn (Wd ro) n P Q a w := by
  simp only [Bool.and_eq_true, decide_eq_true_eq] at hB
  obtain ⟨⟨⟨hd, hsel⟩, hn⟩, hE⟩ := hB
  refine wpIn_region_any hm ?_
  have := wpM_early (X := w.drew) hsel E g _ a hE (h _ rfl)
  rw [hn] at this
  have := wpAnyIn_of_M (ro := ro) (n := n) (Q' := Q) hd (fun _ _ hk => hk) _ _ _ _ (RowKit.Below.refl _ _) this
  simpa using this

/-! Steps. -/
theorem wpE_val {L : Act → Prop} {a : Act} {i : Nat} {o : Oper} {rest : List (Nat × Oper)} {v : Value} (hw : Region.wanted o (yielded ops a.tmps) = true)
    (hv : ∀ W, Ext X W → (execOp a.eval o).run P W = .ok (.value v) W) (h : wpE P ops X L rest (a.put o.dst v)) : wpE P ops X L ((i, o) :: rest) a :=
  ⟨v, .inl ⟨hw, fun W hW => by rw [hv W hW]; exact ⟨rfl, RowKit.Below.refl _ _⟩⟩, h⟩
theorem wpE_not {L : Act → Prop} {a : Act} {i : Nat} {o : Oper} {rest : List (Nat × Oper)} (hw : Region.wanted o (yielded ops a.tmps) = false)
    (h : wpE P ops X L rest (a.put o.dst undef)) : wpE P ops X L ((i, o) :: rest) a := ⟨undef, .inr ⟨hw, rfl⟩, h⟩
theorem wpE_call {L : Act → Prop} {a : Act} {i : Nat} {o : Oper} {rest : List (Nat × Oper)} {v : Value} {f : FuncId} {args : Array Value} (hw : Region.wanted o (yielded ops a.tmps) = true)
    (hc : ∀ W, Ext X W → Calls P f args W fun e W' => e = .returned v ∧ RowKit.Below W.heap.size W W')
    (hv : ∀ W, Ext X W → (execOp a.eval o).run P W = .ok (.enter f args) W)
    (h : wpE P ops X L rest (a.put o.dst v)) : wpE P ops X L ((i, o) :: rest) a :=
  ⟨v, .inl ⟨hw, fun W hW => by rw [hv W hW]; exact ⟨rfl, hc W hW⟩⟩, h⟩
theorem wpE_valP {L : Act → Prop} {a : Act} {i : Nat} {o : Oper} {E : List Nat} {v : Value} (ho : ops[i]? = some o) (hw : Region.wanted o (yielded ops a.tmps) = true)
    (hv : ∀ W, Ext X W → (execOp a.eval o).run P W = .ok (.value v) W) (h : wpE P ops X L (pick ops E) (a.put o.dst v)) : wpE P ops X L (pick ops (i :: E)) a := by
  simp only [pick, ho]
  exact wpE_val hw hv h
theorem wpE_notP {L : Act → Prop} {a : Act} {i : Nat} {o : Oper} {E : List Nat} (ho : ops[i]? = some o) (hw : Region.wanted o (yielded ops a.tmps) = false)
    (h : wpE P ops X L (pick ops E) (a.put o.dst undef)) : wpE P ops X L (pick ops (i :: E)) a := by
  simp only [pick, ho]
  exact wpE_not hw h
theorem wpE_callP {L : Act → Prop} {a : Act} {i : Nat} {o : Oper} {E : List Nat} {v : Value} {f : FuncId} {args : Array Value} (ho : ops[i]? = some o) (hw : Region.wanted o (yielded ops a.tmps) = true)
    (hc : ∀ W, Ext X W → Calls P f args W fun e W' => e = .returned v ∧ RowKit.Below W.heap.size W W')
    (hv : ∀ W, Ext X W → (execOp a.eval o).run P W = .ok (.enter f args) W)
    (h : wpE P ops X L (pick ops E) (a.put o.dst v)) : wpE P ops X L (pick ops (i :: E)) a := by
  simp only [pick, ho]
  exact wpE_call hw hc hv h
theorem wpE_nilP {L : Act → Prop} {a : Act} (h : L a) : wpE P ops X L (pick ops []) a := h
theorem wpM_end {Q : Act → World → Prop} {listed : Array Bool} {a : Act} {w : World} (hr : (Region.ready md ops listed).isEmpty = true) (h : ∀ W, Ext w W → Ext X W → Q a W) : wpM P md ops X Q 0 listed a w :=
  ⟨by simpa using hr, h⟩
/-- The one operation that is ready leaves a value. -/
theorem wpM_one {Q : Act → World → Prop} {f : Nat} {listed : Array Bool} {a : Act} {w : World} (k : Nat) (o : Oper) (ho : ops[k]? = some o) (hr : decide (Region.ready md ops listed = [k]) = true) (hw : Region.wanted o (yielded ops a.tmps) = true)
    (h : ∀ W, Ext w W → Ext X W → LUpon P o a (fun a' W' => Ext X W' ∧ wpM P md ops X Q f (listed.setIfInBounds k true) a' W') ((execOp a.eval o).run P W)) : wpM P md ops X Q (f + 1) listed a w := by
  intro W h1 h2
  rw [of_decide_eq_true hr]
  refine ⟨fun h => (by cases h), fun i hi => ?_⟩
  obtain rfl : i = k := by simpa using hi
  unfold lOp
  simp only [ho, hw, if_true]
  exact h W h1 h2
end
end Go.Proofs.Ytdcglphekafpdaa
namespace Go.Proofs.Ytdcglphekafpdaa
open Go.RowKit Go.Shelf
attribute [local go_sem] Oper.semAt_some

theorem grown_trans {a b c : World} {r : Option Nat} (h : a.grownBy b r) (k : Below b.heap.size b c) : a.grownBy c r :=
  ⟨k.os.trans h.os, k.tape.trans h.tape, k.output.trans h.output, Nat.le_trans h.size k.size, fun i hi hne => (k.block i (by have := h.size; omega)).trans (h.block i hi hne)⟩
theorem grown_alloc {a b : World} {r : Option Nat} (h : a.grownBy b r) (o : Obj) : a.grownBy (b.alloc o) r := grown_trans h ((Below.refl _ _).alloc (Nat.le_refl _) o)
theorem grown_set {a b : World} {g : Nat} (h : a.grownBy b (some g)) (o : Nat) (u : Value) : a.grownBy (b.setCell ⟨g, o, none⟩ u) (some g) :=
  ⟨h.os, h.tape, h.output, by have := h.size; simp; omega, fun i hi hne => (Below.heap_setCell _ _ _ _ (fun e => hne (by rw [e]))).trans (h.block i hi hne)⟩
theorem grown_own {a b c : World} {r row : Option Nat} (h : a.grownBy b r) (k : b.grownBy c row) (hr : ∀ i, row = some i → a.heap.size ≤ i) : a.grownBy c r :=
  ⟨k.os.trans h.os, k.tape.trans h.tape, k.output.trans h.output, Nat.le_trans h.size k.size, fun i hi hne => (k.block i (by have := h.size; omega) (fun e => by have := hr i e.symm; omega)).trans (h.block i hi hne)⟩
theorem keepsFrom_set {B : Nat} (W : World) (p : Addr) (u : Value) : KeepsFrom B W (W.setCell p u) := (KeepsOthers.setCell _ _ _).from _

theorem upto_app {α : Type} {f : Nat → α} {pre : List α} {x : α} (h : pre ++ [x] = upto f (pre ++ [x]).length) : pre = upto f pre.length ∧ x = f pre.length := by
  rw [List.length_append, List.length_singleton, upto_succ] at h
  have h1 := List.append_inj' h rfl
  exact ⟨h1.1, by simpa using h1.2⟩

set_option maxRecDepth 100000 in
set_option maxHeartbeats 4000000 in
theorem settle_back {Q : Exit → Act → World → Prop} (hs : Nat) (W : World) (g : Nat) (A : Option Addr) (n c : Nat) (row : List Mt) (s0 : Nat → Rg) (f : Nat → Value) (ds : List Deferred) (t3 : Value)
    (f3 : f 3 = t3)
    (hbk : Book W g (.slice A n c) s0) (hbx : Blk W hs 102 #[.pointer (some ⟨g, 0, none⟩)]) (hout : Blk W (hs + 1) 4 #[.bool false])
    (hr : MtS W g A n row) (hg : g < hs) (hn : n ≤ 7) (hok : row.all okM = true) (hoks : okS s0)
    (hnext : ∀ T W' sb D, (T = frameOf g hs (fun i => T.getD i undef) ∧ T.getD 3 undef = t3) → W.grownBy W' (some g) → W.heap.size ≤ D → W'.heap[D]? = some (.deferred (some [])) → Book W' g (.slice A n c) sb → Nar n (mAt row) s0 sb → okS sb → BwdC n (mAt row) sb 0 → (1 ≤ n ∨ sb = s0) → Q .normal { tmps := T, defers := markOf D :: ds } W')
    (hret : ∀ T W' sb D, T = frameOf g hs (fun i => T.getD i undef) → W.grownBy W' (some g) → W.heap.size ≤ D → W'.heap[D]? = some (.deferred (some [])) → Book W' g (.slice A n c) sb → (∀ T, ¬ Truth n (mAt row) s0 T) → Q .ret { tmps := T, defers := markOf D :: ds } W') :
    (nav (Try.f81.body.getD .skip) [1, 0, 0, 0, 1, 1, 0]).wpIn (Wd none) 9 Try.prog Q { tmps := frameOf g hs f, defers := ds } W := by
  have hlen := hid hr.len
  have hok' := hid hok
  have Hnext := hid hnext
  have Hret := hid hret
  clear hok hnext hret
  simp only [nav, Try.f81, Option.getD, frameOf, f3]
  clear f3
  have e0 := hbx.cell 0
  have e17 : W.cell? ⟨g, 0, none⟩ = some (.slice A n c) := Blk.cell hbk 0
  have hz := hout.lt
  gi_wp2_with (fail)
  refine (calls_wd (backward_any A n c _)).mono ?_
  rintro e W2 ⟨rfl, hw2⟩
  have hgr2 : W.grownBy W2 (some g) := by rw [← hw2]; exact grown_alloc (World.grownBy.refl _ _) _
  have hbk2 : Book W2 g (.slice A n c) s0 := by rw [← hw2]; exact Blk.alloc hbk _
  have hBs : Blk W2 W.heap.size 22 #[.slice A n c] := by rw [← hw2]; exact Blk.new _ _ _
  have hS : W2.heap.size = W.heap.size + 1 := by rw [← hw2]; exact World.size_alloc _ _
  have hr2 : MtS W2 g A n row := Sl.keep hr (fun p hp => by rw [← hw2]; exact World.cell?_alloc_lt _ _ _ (by omega))
  clear hw2
  generalize hSz : W.heap.size = Sz at *
  gi_wp2
  refine with_frame fun T hT => ?_
  refine wpIn_rangeFunc_ownH (F := Wd none) (n := 9) rfl (by omega) (gf := 105) (lb := #[.pointer (some ⟨Sz, 0, none⟩)]) (by rw [hT]; rfl) trivial (enters_of Try.func105 (by kernel_rfl) rfl)
    (back_stops 8 Sz (Sz + 1) (fun k => k = g) A n c row (by omega) (by omega) (by omega) (fun h0 b off e => ?hG) W2 (by omega) (hBs.cell 0) (hr2.below (Below.refl _ _) (by omega)))
    (fun h k => h.trans k) (KpG.putObj (by omega)) (Below.refl _ _) (fun _ => rfl)
    (fun pre X => ∃ sb, Book X g (.slice A n c) sb ∧ Nar n (mAt row) s0 sb ∧ okS sb ∧ (pre = [] → sb = s0) ∧ Hid (pre = upto (backAt n) pre.length → BwdC n (mAt row) sb (n - pre.length)) ∧ W.grownBy X (some g) ∧ Sz + 1 ≤ X.heap.size)
    (fun cc pre X => cc = .ret ∧ ∃ sb, Book X g (.slice A n c) sb ∧ Hid (∀ T, ¬ Truth n (mAt row) s0 T) ∧ W.grownBy X (some g) ∧ Sz + 1 ≤ X.heap.size)
    (fun st X Y rw_ hst hgg hrow => ?hI) (fun cc st X Y rw_ hst hgg hrow => ?hIx) ⟨s0, hbk2, Nar.refl _ _ _, hoks, fun _ => rfl, fun _ i h1 h2 => by simp at h1; omega, hgr2, by omega⟩
    (fun x a' X => ∃ Bx, Sz + 1 ≤ Bx ∧ Blk X Bx 85 #[.int .i64 (mAt row x.1).keep.lo, .int .i64 (mAt row x.1).keep.hi, .int .i64 (mAt row x.1).fixed.lo, .int .i64 (mAt row x.1).fixed.hi] ∧
      a' = { tmps := (((T.setIfInBounds 62 (.int .i64 (x.1 : Int))).setIfInBounds 63 (.agg #[.int .i64 (mAt row x.1).keep.lo, .int .i64 (mAt row x.1).keep.hi, .int .i64 (mAt row x.1).fixed.lo, .int .i64 (mAt row x.1).fixed.hi])).setIfInBounds 7 (.int .i64 (x.1 : Int))).setIfInBounds 8 (.pointer (some ⟨Bx, 0, none⟩)), defers := [] })
    (fun x a' st X Y rw_ hst hgg hrow => ?hAx) ?assign ?body ?done ?stop
  case hG =>
    rintro rfl
    obtain ⟨b', off', e', hb', _⟩ := hr.2 h0
    rw [e] at e'
    cases e'
    omega
  case hI =>
    obtain ⟨sb, h1, h2, h3, h4, h5, h6, h7⟩ := hst
    exact ⟨sb, Blk.ownk h1 hgg (fun r e => (hrow r e).2), h2, h3, h4, h5, grown_own h6 hgg (fun r e => by have := (hrow r e).1; omega), by have := hgg.size; omega⟩
  case hIx =>
    obtain ⟨h0, sb, h1, h2, h6, h7⟩ := hst
    exact ⟨h0, sb, Blk.ownk h1 hgg (fun r e => (hrow r e).2), h2, grown_own h6 hgg (fun r e => by have := (hrow r e).1; omega), by have := hgg.size; omega⟩
  case hAx =>
    obtain ⟨Bx, hx, hX, e⟩ := hst
    exact ⟨Bx, hx, hX.ownk hgg (fun r e => (hrow r e).2), e⟩
  case assign =>
    rintro l pre x X K ⟨sb, h1, h2, h3, h4, h5, h6, h7⟩ hK
    simp only [encBack, hT]
    clear e0 e17 hbk hbk2 hBs hr hr2 hbx hout
    gi_wp2
    exact hK _ _ ((KeepsOthers.alloc _ _).from _) (KpG.alloc _ h7 _) ⟨sb, Blk.alloc h1 _, h2, h3, h4, h5, grown_alloc h6 _, by simp; omega⟩ ⟨X.heap.size, h7, Blk.new _ _ _, by rw [hT]; rfl⟩
  case body =>
    rintro l pre x a' X hl _ ⟨sb, h1, h2, h3, h4, h5, h6, h7⟩ ⟨Bx, hBx, bX, rfl⟩ hlt
    have hxn : x.1 < n := by rcases x.2 with h | h <;> omega
    have hokm : Hid (okM (mAt row x.1) = true) := mAt_ok hok'.out (by rw [hlen.out]; exact hxn)
    have hbx1 : Blk X hs 102 #[.pointer (some ⟨g, 0, none⟩)] := hbx.grown h6 (by simp; omega)
    have hsW : hs + 1 < X.heap.size := by omega
    simp only [hT, List.setIfInBounds_toArray, List.set_cons_zero, List.set_cons_succ]
    clear e0 e17 hbk hbk2 hBs hr2 hT
    have e0 := hbx1.cell 0
    have p0 := h1.lo (i := x.1 + 1) (by omega)
    have p1 := h1.hi (i := x.1 + 1) (by omega)
    have l1 : g < X.heap.size := by omega
    have l2 : hs < X.heap.size := by omega
    have l3 : (x.1 : Int) < 8 := by omega
    have l4 : (x.1 : Int) + 1 < 8 := by omega
    have l5 : ((x.1 : Int) + 1).toNat = x.1 + 1 := by omega
    have l7 : (0 : Int) ≤ (x.1 : Int) + 1 := by omega
    have l6 : IntKind.i64.wrap ((x.1 : Int) + 1) = (x.1 : Int) + 1 := IntWalk.i64_in _ (by omega)
    gi_wp2_with (fail)
    refine wpIn_region_el (ro := some l) [0, 1, 2, 3, 4, 5, 6, 7, 8, 9, 10, 11] 3 (by kernel_rfl) (by kernel_rfl) (fun Y hY => ?_)
    have hYX : Below X.heap.size X Y := by rw [hY]; exact (Below.refl _ _).drew
    clear hY
    obtain ⟨hcY, hfY⟩ := bcell hYX
    have e0 : Y.cell? ⟨hs, 0, none⟩ = some (.pointer (some ⟨g, 0, none⟩)) := (hbx1.below hYX l2).cell 0
    have hbY : Book Y g (.slice A n c) sb := Blk.below h1 hYX l1
    have p0 := hbY.lo (i := x.1 + 1) (by omega)
    have p1 := hbY.hi (i := x.1 + 1) (by omega)
    have l1Y : g < Y.heap.size := hbY.lt
    have l2Y : hs < Y.heap.size := by have := hYX.size; omega
    clear hbx1 hbx hr
    simp only [pick, List.getElem?_toArray, List.getElem?_cons_zero, List.getElem?_cons_succ]
    iterate 12 (refine wpE_val (v := ?_) (by rfl) (fun W hW => ?_) ?_; rotate_left; (· obtain ⟨hcW, hfW⟩ := bcell hW; go_simp; with_reducible rfl); simp only [Act.put, List.setIfInBounds_toArray, List.set_cons_zero, List.set_cons_succ])
    simp only [wpE]
    (refine wpM_one 12 _ (by simp only [List.getElem?_toArray, List.getElem?_cons_zero, List.getElem?_cons_succ]; rfl) (by kernel_rfl) (by rfl) ?_)
    intro X1 hX1 hX1'
    (go_simp; simp only [LUpon, Act.put]; try simp only [List.setIfInBounds_toArray, List.set_cons_zero, List.set_cons_succ])
    refine ⟨hX1'.alloc hX1'.size _, ?_⟩
    have b9 : Blk (X1.alloc (.cells #[.int .i64 0, .int .i64 0] 24)) X1.heap.size 24 #[.int .i64 0, .int .i64 0] := Blk.new _ _ _
    have hsz1 := hX1'.size
    generalize X1.heap.size = B9 at *
    generalize X1.alloc (.cells #[.int .i64 0, .int .i64 0] 24) = X1b at *
    (refine wpM_one 13 _ (by simp only [List.getElem?_toArray, List.getElem?_cons_zero, List.getElem?_cons_succ]; rfl) (by kernel_rfl) (by rfl) ?_)
    intro X2 hX2 hX2'
    replace b9 := b9.below hX2 b9.lt
    have f0 := b9.frozen 0
    have f1 := b9.frozen 1
    have r0 := b9.cell 0
    have r1 := b9.cell 1
    have hlt2 := b9.lt
    (go_simp; simp only [LUpon, Act.put]; try simp only [List.setIfInBounds_toArray, List.set_cons_zero, List.set_cons_succ])
    have hB9 : Y.heap.size ≤ B9 := hsz1
    refine ⟨(hX2'.setCell hB9 _).setCell hB9 _, ?_⟩
    replace b9 := b9.set2 (a := .int .i64 (sb (x.1 + 1)).lo) (b := .int .i64 (sb (x.1 + 1)).hi)
    clear f0 f1 r0 r1
    generalize (X2.setCell ⟨B9, 0, none⟩ (.int .i64 (sb (x.1 + 1)).lo)).setCell ⟨B9, 1, none⟩ (.int .i64 (sb (x.1 + 1)).hi) = X2b at *
    (refine wpM_one 14 _ (by simp only [List.getElem?_toArray, List.getElem?_cons_zero, List.getElem?_cons_succ]; rfl) (by kernel_rfl) (by rfl) ?_)
    intro X2c hX2c hX2c'
    (go_simp; simp only [LUpon, Act.put]; try simp only [List.setIfInBounds_toArray, List.set_cons_zero, List.set_cons_succ])
    refine ⟨hX2c', wpM_end (by kernel_rfl) ?_⟩
    intro X3 hX3 hX3'
    replace b9 := (b9.below hX2c b9.lt).below hX3 (b9.below hX2c b9.lt).lt
    have hXX3 : Below X.heap.size X X3 := hYX.trans (hX3'.mono hYX.size)
    clear hX3 hX3' hX2c hX2c' hX1 hX1' hX2 hX2' hcY hfY hlt2
    have hb3 : Book X3 g (.slice A n c) sb := Blk.below h1 hXX3 l1
    have bX3 := bX.below hXX3 bX.lt
    have h63 := grown_trans h6 hXX3
    have hk3 : KeepsFrom W2.heap.size X X3 := keepsFrom_below hXX3
    have hp3 : KpG (Sz + 1) (fun k => k = g) X X3 := KpG.of_below (hXX3.mono h7)
    have l10 : g < X3.heap.size := hb3.lt
    have l11 : Bx < X3.heap.size := bX3.lt
    have l12 : B9 < X3.heap.size := b9.lt
    have l13 : Sz + 1 ≤ X3.heap.size := by have := hXX3.size; omega
    clear hsz1 hB9 hYX e0 hbY p0 p1 l1Y l2Y l6
    have m0 := bX3.cell 0
    have m1 := bX3.cell 1
    have m2 := bX3.cell 2
    have m3 := bX3.cell 3
    have r0 := b9.cell 0
    have r1 := b9.cell 1
    have p2 := hb3.lo (i := x.1) (by omega)
    have p3 := hb3.hi (i := x.1) (by omega)
    have ok1 := h3 (x.1 + 1)
    have nb := need_bd hokm.out (left := (sb (x.1 + 1)).hi + 1) (sure := true)
    have hF : Hid (meet (sb x.1) ⟨need (mAt row x.1) (sb (x.1 + 1)).lo false, need (mAt row x.1) ((sb (x.1 + 1)).hi + 1) true - 1⟩ = bwd (mAt row) sb x.1) := rfl
    have w1 : IntKind.i64.wrap ((sb (x.1 + 1)).hi + 1) = (sb (x.1 + 1)).hi + 1 := IntWalk.i64_in _ (by omega)
    have w2 : IntKind.i64.wrap (need (mAt row x.1) ((sb (x.1 + 1)).hi + 1) true - 1) = need (mAt row x.1) ((sb (x.1 + 1)).hi + 1) true - 1 := IntWalk.i64_in _ (by omega)
    gi_wp2_with (fail)
    refine wpIn_region_hd 17 (fun W' => Below X3.heap.size X3 W') (by kernel_rfl) (by kernel_rfl) ((Below.refl _ _).drew) ?_
    simp only [List.take_succ_cons, List.take_zero, List.drop_succ_cons, List.drop_zero]
    iterate 7 (refine wpHd_val (v := ?_) (by rfl) (fun W hW => ?_) ?_; rotate_left; (· obtain ⟨hcW, hfW⟩ := bcell hW; go_simp; with_reducible rfl); simp only [Act.put, List.setIfInBounds_toArray, List.set_cons_zero, List.set_cons_succ])
    (refine wpHd_callB (by rfl) (fun W hW => needed_any (mAt row x.1) (sb (x.1 + 1)).lo false _ hokm.out (by omega)) (fun W hW => ?_) ?_; (· obtain ⟨hcW, hfW⟩ := bcell hW; go_simp); simp only [Act.put, List.setIfInBounds_toArray, List.set_cons_zero, List.set_cons_succ])
    iterate 4 (refine wpHd_val (v := ?_) (by rfl) (fun W hW => ?_) ?_; rotate_left; (· obtain ⟨hcW, hfW⟩ := bcell hW; go_simp; with_reducible rfl); simp only [Act.put, List.setIfInBounds_toArray, List.set_cons_zero, List.set_cons_succ])
    (refine wpHd_callB (by rfl) (fun W hW => needed_any (mAt row x.1) ((sb (x.1 + 1)).hi + 1) true _ hokm.out (by omega)) (fun W hW => ?_) ?_; (· obtain ⟨hcW, hfW⟩ := bcell hW; go_simp); simp only [Act.put, List.setIfInBounds_toArray, List.set_cons_zero, List.set_cons_succ])
    iterate 2 (refine wpHd_val (v := ?_) (by rfl) (fun W hW => ?_) ?_; rotate_left; (· obtain ⟨hcW, hfW⟩ := bcell hW; go_simp; with_reducible rfl); simp only [Act.put, List.setIfInBounds_toArray, List.set_cons_zero, List.set_cons_succ])
    (refine wpHd_callB (by rfl) (fun W hW => meet_any (sb x.1) ⟨need (mAt row x.1) (sb (x.1 + 1)).lo false, need (mAt row x.1) ((sb (x.1 + 1)).hi + 1) true - 1⟩ _) (fun W hW => ?_) ?_; (· obtain ⟨hcW, hfW⟩ := bcell hW; go_simp); simp only [Act.put, List.setIfInBounds_toArray, List.set_cons_zero, List.set_cons_succ])
    (refine wpHd_val (v := ?_) (by rfl) (fun W hW => ?_) ?_; rotate_left; (· obtain ⟨hcW, hfW⟩ := bcell hW; go_simp; with_reducible rfl); simp only [Act.put, List.setIfInBounds_toArray, List.set_cons_zero, List.set_cons_succ])
    refine wpHd_nil ?_
    intro X4 hX4
    rw [hF.out]
    clear w1 w2 m0 m1 m2 m3 r0 r1 p2 p3
    have hb4 : Book X4 g (.slice A n c) sb := Blk.below hb3 hX4 l10
    have h64 := grown_trans h63 hX4
    have hk4 : KeepsFrom W2.heap.size X X4 := hk3.trans (keepsFrom_below hX4)
    have hp4 : KpG (Sz + 1) (fun k => k = g) X X4 := hp3.trans (KpG.of_below (hX4.mono l13))
    have hb5 := hb4.set_ (i := x.1) (by omega) (bwd (mAt row) sb x.1)
    have q0 := hb4.lo (i := x.1) (by omega)
    have q1 := hb4.hi (i := x.1) (by omega)
    have q2 := Blk.frozen hb4 (1 + x.1 * 2)
    have q3 := Blk.frozen hb4 (1 + x.1 * 2 + 1)
    gi_wp2_with (fail)
    have h65 := grown_set (grown_set h64 (1 + x.1 * 2) (.int .i64 (bwd (mAt row) sb x.1).lo)) (1 + x.1 * 2 + 1) (.int .i64 (bwd (mAt row) sb x.1).hi)
    have hk5 := (hk4.trans (keepsFrom_set X4 ⟨g, 1 + x.1 * 2, none⟩ (.int .i64 (bwd (mAt row) sb x.1).lo))).trans (keepsFrom_set _ ⟨g, 1 + x.1 * 2 + 1, none⟩ (.int .i64 (bwd (mAt row) sb x.1).hi))
    have hp5 := (hp4.trans (KpG.setCell (G := fun k => k = g) X4 (p := ⟨g, 1 + x.1 * 2, none⟩) rfl (.int .i64 (bwd (mAt row) sb x.1).lo))).trans (KpG.setCell (G := fun k => k = g) _ (p := ⟨g, 1 + x.1 * 2 + 1, none⟩) rfl (.int .i64 (bwd (mAt row) sb x.1).hi))
    generalize (X4.setCell ⟨g, 1 + x.1 * 2, none⟩ (.int .i64 (bwd (mAt row) sb x.1).lo)).setCell ⟨g, 1 + x.1 * 2 + 1, none⟩ (.int .i64 (bwd (mAt row) sb x.1).hi) = X5 at *
    clear q0 q1 q2 q3 hF hX4 hk4 hp4 hb4 h64 hk3 hp3 h63 bX3 b9 hb3 l10 l11 l12 l13 p0 p1 l1 l2 e0
    have r0 := hb5.lo (i := x.1) (by omega)
    have r1 := hb5.hi (i := x.1) (by omega)
    rw [upd_same] at r0 r1
    have l20 : g < X5.heap.size := hb5.lt
    have l21 := h65.size
    have l24 := hk5.size
    have bbd := bwd_bd (M := mAt row) (k := x.1) h3
    refine wpIn_region_hd_all (fun W' => Below X5.heap.size X5 W') (by kernel_rfl) (by kernel_rfl) ((Below.refl _ _).drew) ?_
    iterate 9 (refine wpHd_val (v := ?_) (by rfl) (fun W hW => ?_) ?_; rotate_left; (· obtain ⟨hcW, hfW⟩ := bcell hW; go_simp; with_reducible rfl); simp only [Act.put, List.setIfInBounds_toArray, List.set_cons_zero, List.set_cons_succ])
    refine wpHd_nil ?_
    intro X6 hX6
    have hb6 := Blk.below hb5 hX6 l20
    have h66 := grown_trans h65 hX6
    have hk6 : KeepsFrom W2.heap.size X X6 := hk5.trans (keepsFrom_below hX6)
    have l22 := hX6.size
    have hn6 := h2.trans (bwd_nar hxn hokm.out h3)
    by_cases he : (bwd (mAt row) sb x.1).lo ≤ (bwd (mAt row) sb x.1).hi
    · have hp6 : KpG (Sz + 1) (fun k => k = g) X X6 := hp5.trans (KpG.of_below (hX6.mono (by omega)))
      gi_wp2_with (fail)
      refine ⟨hk6, hp6, _, hb6, hn6, okS_upd h3 bbd.1 he bbd.2, fun e => by simp at e, hid (fun e => ?_), h66, by omega⟩
      obtain ⟨e1, e2⟩ := upto_app e
      have e3 := h5.out e1
      have e4 : x.1 = n - 1 - pre.length := by rw [e2]; rfl
      rw [List.length_append, List.length_singleton]
      rw [show n - pre.length = x.1 + 1 by omega] at e3
      rw [show n - (pre.length + 1) = x.1 by omega]
      exact bwdC_upd e3 he
    · have ho6 := hout.grown h66 (by simp; omega)
      have o0 := ho6.cell 0
      have o1 := ho6.frozen 0
      have ho7 := ho6.set_ 0 (.bool false)
      have l23 := ho6.lt
      gi_wp2_with (fail)
      have hk7 : KeepsFrom (Sz + 1) X X6 := by rw [← hS]; exact hk6
      refine ⟨hk7.trans (keepsFrom_set _ _ _), rfl, ⟨_, Blk.far hb6 (by simp; omega) _⟩, (fun T => hn6.none (no_truth (k := x.1) (by omega) (by rw [upd_same]; omega)) T), ⟨h66.os, h66.tape, h66.output, by have := h66.size; simp; omega, fun i hi hne => ?_⟩, by simp; omega⟩
      by_cases hi2 : i = hs + 1
      · subst hi2; exact (show _ = some _ from ho7).trans hout.symm
      · exact (Below.heap_setCell _ _ _ _ hi2).trans (h66.block i hi hne)
  case done =>
    rintro D xs X hD rfl ⟨sb, h1, h2, h3, h4, h5, h6, h7⟩ hK
    have h8 := h5.out (by rw [upto_length])
    rw [upto_length, Nat.sub_self] at h8
    subst hT
    refine Hnext.out _ _ _ _ ⟨rfl, rfl⟩ h6 (by omega) hK h1 h2 h3 h8 ?_
    by_cases hn0 : n = 0
    · right; subst hn0; exact h4 rfl
    · left; omega
  case stop =>
    rintro D cc pre X hD - ⟨rfl, sb, h1, h2, h6, h7⟩ hK
    subst hT
    gi_wp2
    exact Hret.out _ _ _ _ rfl h6 (by omega) hK h1 h2.out
end Go.Proofs.Ytdcglphekafpdaa
namespace Go.Proofs.Ytdcglphekafpdaa
open Go.RowKit Go.Shelf
def eqR (r q : Rg) : Bool := r.lo == q.lo && r.hi == q.hi
theorem eqR_true {r q : Rg} : eqR r q = true ↔ r = q := by
  cases r; cases q; simp [eqR]
def eqB (a b : Nat → Rg) : Bool := eqR (a 0) (b 0) && eqR (a 1) (b 1) && eqR (a 2) (b 2) && eqR (a 3) (b 3) && eqR (a 4) (b 4) && eqR (a 5) (b 5) && eqR (a 6) (b 6) && eqR (a 7) (b 7)
theorem eq24 (W : World) (d : Nat) (a b a' b' : Int) : (Op.equalIn (d + 2) 24 (.agg #[.int .i64 a, .int .i64 b]) (.agg #[.int .i64 a', .int .i64 b'])).run Try.prog W = .ok (a == a' && b == b') W := by
  rw [run_equalIn_struct W (d + 1) 24 _ _ (by kernel_rfl) (by kernel_rfl)]
  go_simp
  by_cases h1 : a = a' <;> by_cases h2 : b = b' <;> simp [h1, h2]
theorem part24 (W : World) (xs : Array Value) (o : Nat) : (part 24 xs o).run Try.prog W = .ok (.agg (xs.extract o (o + 2))) W := by
  go_simp
theorem step24 (W : World) {xs ys : Array Value} {i : Nat} {is : List Nat} {r q : Rg} {res : Bool} (hx : xs.extract (i * 2) (i * 2 + 2) = #[.int .i64 r.lo, .int .i64 r.hi]) (hy : ys.extract (i * 2) (i * 2 + 2) = #[.int .i64 q.lo, .int .i64 q.hi])
    (h : (Op.eqItems 9999 24 2 xs ys is).run Try.prog W = .ok res W) : (Op.eqItems 9999 24 2 xs ys (i :: is)).run Try.prog W = .ok (eqR r q && res) W := by
  simp only [Op.eqItems, Sem.run_bind, part24, Result.andThen_ok, hx, hy, eq24 W 9997]
  rw [show (r.lo == q.lo && r.hi == q.hi) = eqR r q from rfl]
  cases eqR r q
  · simp
  · simpa using h
theorem eq106 (W : World) (a b : Nat → Rg) : (Op.equalIn 10000 106 (.agg (sk a)) (.agg (sk b))).run Try.prog W = .ok (eqB a b) W := by
  obtain ⟨i, hi⟩ := Option.isSome_iff_exists.1 (show (Try.prog.info? 24).isSome = true by kernel_rfl)
  rw [run_equalIn_array (n := 8) W 9999 _ _ (by kernel_rfl) hi]
  have hc : Try.prog.cellsOf 24 = 2 := by kernel_rfl
  rw [hc]
  have h : (Op.eqItems 9999 24 2 (sk a) (sk b) [0, 1, 2, 3, 4, 5, 6, 7]).run Try.prog W = .ok (eqR (a 0) (b 0) && (eqR (a 1) (b 1) && (eqR (a 2) (b 2) && (eqR (a 3) (b 3) && (eqR (a 4) (b 4) && (eqR (a 5) (b 5) && (eqR (a 6) (b 6) && (eqR (a 7) (b 7) && true)))))))) W :=
    step24 W rfl rfl (step24 W rfl rfl (step24 W rfl rfl (step24 W rfl rfl (step24 W rfl rfl (step24 W rfl rfl (step24 W rfl rfl (step24 W rfl rfl rfl)))))))
  refine h.trans ?_
  simp only [eqB, Bool.and_assoc, Bool.and_true]
theorem eqB_true {a b : Nat → Rg} (h : eqB a b = true) : ∀ i, i < 8 → a i = b i := by
  simp only [eqB, Bool.and_eq_true, eqR_true] at h
  intro i hi
  rcases lt8 hi with rfl | rfl | rfl | rfl | rfl | rfl | rfl | rfl <;> simp [h]
theorem eqB_false {a b : Nat → Rg} (h : eqB a b = false) : ∃ i, i < 8 ∧ a i ≠ b i := by
  rcases Classical.em (∃ i, i < 8 ∧ a i ≠ b i) with h1 | h1
  · exact h1
  · have h2 : ∀ i, i < 8 → a i = b i := fun i hi => Classical.byContradiction fun e => h1 ⟨i, hi, e⟩
    have : eqB a b = true := by simp [eqB, eqR_true, h2]
    rw [this] at h; cases h
end Go.Proofs.Ytdcglphekafpdaa
namespace Go.Proofs.Ytdcglphekafpdaa
open Go.RowKit Go.Shelf
attribute [local go_sem] Oper.semAt_some

set_option maxRecDepth 100000 in
set_option maxHeartbeats 4000000 in
theorem settle_end {Q : Exit → Act → World → Prop} (hs : Nat) (W : World) (g : Nat) (V : Value) (sc sb : Nat → Rg) (B3 : Nat) (f : Nat → Value) (ds : List Deferred)
    (f3 : f 3 = .pointer (some ⟨B3, 0, none⟩))
    (hbk : Book W g V sb) (hbx : Blk W hs 102 #[.pointer (some ⟨g, 0, none⟩)]) (hout : Blk W (hs + 1) 4 #[.bool false]) (b3 : Blk W B3 106 (sk sc))
    (hsame : (∀ i, i < 8 → sb i = sc i) → ∀ T W2, T = frameOf g hs (fun i => T.getD i undef) → Below W.heap.size W W2 → Q .ret { tmps := T, defers := ds } (W2.setCell ⟨hs + 1, 0, none⟩ (.bool true)))
    (hdiff : (∃ i, i < 8 ∧ sb i ≠ sc i) → ∀ T W2, T = frameOf g hs (fun i => T.getD i undef) → Below W.heap.size W W2 → Q .normal { tmps := T, defers := ds } W2) :
    (nav (Try.f81.body.getD .skip) [1, 0, 0, 0, 1, 1, 1]).wpIn (Wd none) 9 Try.prog Q { tmps := frameOf g hs f, defers := ds } W := by
  have Hsame := hid hsame
  have Hdiff := hid hdiff
  clear hsame hdiff
  simp only [nav, Try.f81, Option.getD, frameOf, f3]
  clear f3
  have l1 := Blk.lt hbk
  have l2 := hbx.lt
  have l3 := b3.lt
  have e0 := hbx.cell 0
  have q1 : (W).cell? ⟨g, 1, none⟩ = some (.int .i64 (sb 0).lo) := Blk.cell hbk 1; have q2 : (W).cell? ⟨g, 2, none⟩ = some (.int .i64 (sb 0).hi) := Blk.cell hbk 2; have q3 : (W).cell? ⟨g, 3, none⟩ = some (.int .i64 (sb 1).lo) := Blk.cell hbk 3; have q4 : (W).cell? ⟨g, 4, none⟩ = some (.int .i64 (sb 1).hi) := Blk.cell hbk 4; have q5 : (W).cell? ⟨g, 5, none⟩ = some (.int .i64 (sb 2).lo) := Blk.cell hbk 5; have q6 : (W).cell? ⟨g, 6, none⟩ = some (.int .i64 (sb 2).hi) := Blk.cell hbk 6; have q7 : (W).cell? ⟨g, 7, none⟩ = some (.int .i64 (sb 3).lo) := Blk.cell hbk 7; have q8 : (W).cell? ⟨g, 8, none⟩ = some (.int .i64 (sb 3).hi) := Blk.cell hbk 8; have q9 : (W).cell? ⟨g, 9, none⟩ = some (.int .i64 (sb 4).lo) := Blk.cell hbk 9; have q10 : (W).cell? ⟨g, 10, none⟩ = some (.int .i64 (sb 4).hi) := Blk.cell hbk 10; have q11 : (W).cell? ⟨g, 11, none⟩ = some (.int .i64 (sb 5).lo) := Blk.cell hbk 11; have q12 : (W).cell? ⟨g, 12, none⟩ = some (.int .i64 (sb 5).hi) := Blk.cell hbk 12; have q13 : (W).cell? ⟨g, 13, none⟩ = some (.int .i64 (sb 6).lo) := Blk.cell hbk 13; have q14 : (W).cell? ⟨g, 14, none⟩ = some (.int .i64 (sb 6).hi) := Blk.cell hbk 14; have q15 : (W).cell? ⟨g, 15, none⟩ = some (.int .i64 (sb 7).lo) := Blk.cell hbk 15; have q16 : (W).cell? ⟨g, 16, none⟩ = some (.int .i64 (sb 7).hi) := Blk.cell hbk 16
  have r0 : W.cell? ⟨B3, 0, none⟩ = some (.int .i64 (sc 0).lo) := b3.cell 0
  have r1 : W.cell? ⟨B3, 1, none⟩ = some (.int .i64 (sc 0).hi) := b3.cell 1
  have r2 : W.cell? ⟨B3, 2, none⟩ = some (.int .i64 (sc 1).lo) := b3.cell 2
  have r3 : W.cell? ⟨B3, 3, none⟩ = some (.int .i64 (sc 1).hi) := b3.cell 3
  have r4 : W.cell? ⟨B3, 4, none⟩ = some (.int .i64 (sc 2).lo) := b3.cell 4
  have r5 : W.cell? ⟨B3, 5, none⟩ = some (.int .i64 (sc 2).hi) := b3.cell 5
  have r6 : W.cell? ⟨B3, 6, none⟩ = some (.int .i64 (sc 3).lo) := b3.cell 6
  have r7 : W.cell? ⟨B3, 7, none⟩ = some (.int .i64 (sc 3).hi) := b3.cell 7
  have r8 : W.cell? ⟨B3, 8, none⟩ = some (.int .i64 (sc 4).lo) := b3.cell 8
  have r9 : W.cell? ⟨B3, 9, none⟩ = some (.int .i64 (sc 4).hi) := b3.cell 9
  have r10 : W.cell? ⟨B3, 10, none⟩ = some (.int .i64 (sc 5).lo) := b3.cell 10
  have r11 : W.cell? ⟨B3, 11, none⟩ = some (.int .i64 (sc 5).hi) := b3.cell 11
  have r12 : W.cell? ⟨B3, 12, none⟩ = some (.int .i64 (sc 6).lo) := b3.cell 12
  have r13 : W.cell? ⟨B3, 13, none⟩ = some (.int .i64 (sc 6).hi) := b3.cell 13
  have r14 : W.cell? ⟨B3, 14, none⟩ = some (.int .i64 (sc 7).lo) := b3.cell 14
  have r15 : W.cell? ⟨B3, 15, none⟩ = some (.int .i64 (sc 7).hi) := b3.cell 15
  gi_wp2_with (fail)
  refine wpIn_region_hd_all (fun W' => Below W.heap.size W W') (by kernel_rfl) (by kernel_rfl) ((Below.refl _ _).drew) ?_
  iterate 5 (refine wpHd_val (v := ?_) (by rfl) (fun W hW => ?_) ?_; rotate_left; (· obtain ⟨hcW, hfW⟩ := bcell hW; go_simp; with_reducible rfl); simp only [Act.put, List.setIfInBounds_toArray, List.set_cons_zero, List.set_cons_succ])
  refine wpHd_val (v := .bool (eqB sb sc)) (by rfl) (fun W hW => ?_) ?_
  · have h6 := eq106 W sb sc
    simp only [sk] at h6
    go_simp
  simp only [Act.put, List.setIfInBounds_toArray, List.set_cons_zero, List.set_cons_succ]
  refine wpHd_nil ?_
  intro W2 hW2
  have hout2 := hout.below hW2 hout.lt
  have o0 := hout2.cell 0
  have o1 := hout2.frozen 0
  have l4 := hout2.lt
  clear q1 q2 q3 q4 q5 q6 q7 q8 q9 q10 q11 q12 q13 q14 q15 q16 r0 r1 r2 r3 r4 r5 r6 r7 r8 r9 r10 r11 r12 r13 r14 r15 e0
  cases hE : eqB sb sc
  · have hE' := hid (eqB_false hE)
    clear hE
    gi_wp2
    exact Hdiff.out hE'.out _ _ rfl hW2
  · have hE' := hid (eqB_true hE)
    clear hE
    gi_wp2
    exact Hsame.out hE'.out _ _ rfl hW2
end Go.Proofs.Ytdcglphekafpdaa
namespace Go.Proofs.Ytdcglphekafpdaa
open Go.RowKit Go.Shelf
attribute [local go_sem] Oper.semAt_some
theorem settle_leave (w W : World) (g n : Nat) (V : Value) (M : Nat → Mt) (s sb : Nat → Rg) (f : Nat → Value) (b : Bool) (Ds : List Nat) (hnd : Ds.Nodup)
    (hmk : ∀ D, D ∈ Ds → w.heap.size + 1 + 1 ≤ D ∧ W.heap[D]? = some (.deferred (some []))) (hgr : w.grownBy W (some g)) (hbk : Book W g V sb) (hout : Blk W (w.heap.size + 1) 4 #[.bool b])
    (hR : (b = true ∧ Settled n M s sb) ∨ (b = false ∧ ∀ T, ¬ Truth n M s T)) :
    bodyPostM (Wd none) 9 Try.prog Try.f81 (SettlePost w g n V M s) Exit.ret { tmps := frameOf g w.heap.size f, defers := Ds.map markOf } W := by
  have o0 := hout.cell 0
  refine (leavesM_marks Ds _ hnd (fun D hD => (hmk D hD).2) (fun w' ho => ⟨.bool b, by simp [results, Try.results81, go_sem, frameOf, ho.cell, o0], ⟨ho.os.trans hgr.os, ho.tape.trans hgr.tape, ho.output.trans hgr.output, by rw [ho.size]; exact hgr.size, fun i hi hne => (ho.block i (fun hD => by have := (hmk i hD).1; omega)).trans (hgr.block i hi hne)⟩, sb, ho.blk hbk, ?_⟩))
  rcases hR with ⟨rfl, h⟩ | ⟨rfl, h⟩
  · exact .inl ⟨rfl, h⟩
  · exact .inr ⟨rfl, h⟩

set_option maxRecDepth 100000 in
set_option maxHeartbeats 4000000 in
theorem settle_any (w : World) (g : Nat) (A : Option Addr) (n c : Nat) (row : List Mt) (s : Nat → Rg) (hb : Book w g (.slice A n c) s) (hr : MtS w g A n row) (hn : n ≤ 7) (hok : row.all okM = true) (hs : okS s) (h0 : 1 ≤ n ∨ (s 0).lo ≤ (s 0).hi) :
    Calls Try.prog 81 #[.pointer (some ⟨g, 0, none⟩)] w (SettlePost w g n (.slice A n c) (mAt row) s) := by
  have hok' := hid hok
  clear hok
  have hlen := hid hr.len
  have hg := Blk.lt hb
  (refine (callsIn_wide (n := 9)).1 ?_; refine callsIn_of_wp_marks (F := Wd none) Try.func81 rfl trivial ?_ rfl; simp only [Try.ntmps81, List.size_toArray, List.length_cons, List.length_nil, Nat.reduceAdd, Nat.reduceSub, Array.replicate_succ, Array.replicate_zero, List.push_toArray, List.append_toArray, List.nil_append, List.cons_append])
  gi_wp2
  refine wpIn_loop (SetI w g n (.slice A n c) (mAt row) s) (fun _ W => mu (readR W g)) ⟨fun _ => undef, [], s, rfl, ⟨by simp, fun _ h => (by cases h), (Blk.alloc hb _).alloc _, (Blk.new' rfl).alloc _, Blk.new' (by first | (simp; done) | (simp; omega) | omega), Nar.refl _ _ _, hs, h0, ⟨rfl, rfl, rfl, by simp; omega, fun k hk _ => ((Below.heap_alloc _ _ _ (by simp; omega)).trans (Below.heap_alloc _ _ _ hk))⟩⟩⟩ ?_
  rintro a W ⟨f, Ds, sc, rfl, hW⟩
  have hz := hW.size
  obtain ⟨hnd, hmk, hbk, hbx, hout, hnar, hoks, h1, hgr⟩ := hW
  rw [mu_read hbk]
  have e0 := hbx.cell 0
  have e17 : W.cell? ⟨g, 0, none⟩ = some (.slice A n c) := Blk.cell hbk 0
  have q1 : (W).cell? ⟨g, 1, none⟩ = some (.int .i64 (sc 0).lo) := Blk.cell hbk 1; have q2 : (W).cell? ⟨g, 2, none⟩ = some (.int .i64 (sc 0).hi) := Blk.cell hbk 2; have q3 : (W).cell? ⟨g, 3, none⟩ = some (.int .i64 (sc 1).lo) := Blk.cell hbk 3; have q4 : (W).cell? ⟨g, 4, none⟩ = some (.int .i64 (sc 1).hi) := Blk.cell hbk 4; have q5 : (W).cell? ⟨g, 5, none⟩ = some (.int .i64 (sc 2).lo) := Blk.cell hbk 5; have q6 : (W).cell? ⟨g, 6, none⟩ = some (.int .i64 (sc 2).hi) := Blk.cell hbk 6; have q7 : (W).cell? ⟨g, 7, none⟩ = some (.int .i64 (sc 3).lo) := Blk.cell hbk 7; have q8 : (W).cell? ⟨g, 8, none⟩ = some (.int .i64 (sc 3).hi) := Blk.cell hbk 8; have q9 : (W).cell? ⟨g, 9, none⟩ = some (.int .i64 (sc 4).lo) := Blk.cell hbk 9; have q10 : (W).cell? ⟨g, 10, none⟩ = some (.int .i64 (sc 4).hi) := Blk.cell hbk 10; have q11 : (W).cell? ⟨g, 11, none⟩ = some (.int .i64 (sc 5).lo) := Blk.cell hbk 11; have q12 : (W).cell? ⟨g, 12, none⟩ = some (.int .i64 (sc 5).hi) := Blk.cell hbk 12; have q13 : (W).cell? ⟨g, 13, none⟩ = some (.int .i64 (sc 6).lo) := Blk.cell hbk 13; have q14 : (W).cell? ⟨g, 14, none⟩ = some (.int .i64 (sc 6).hi) := Blk.cell hbk 14; have q15 : (W).cell? ⟨g, 15, none⟩ = some (.int .i64 (sc 7).lo) := Blk.cell hbk 15; have q16 : (W).cell? ⟨g, 16, none⟩ = some (.int .i64 (sc 7).hi) := Blk.cell hbk 16
  have hz0 : w.heap.size < W.heap.size := by omega
  have hzg : g < W.heap.size := by omega
  simp only [frameOf]
  gi_wp2
  clear q1 q2 q3 q4 q5 q6 q7 q8 q9 q10 q11 q12 q13 q14 q15 q16
  have hbx1 := hbx.alloc (.cells (sk sc) 106)
  have hout1 := hout.alloc (.cells (sk sc) 106)
  have hbk1 : Book (W.alloc (.cells (sk sc) 106)) g (.slice A n c) sc := Blk.alloc hbk _
  have b3 : Blk (W.alloc (.cells (sk sc) 106)) W.heap.size 106 (sk sc) := Blk.new _ _ _
  have hgr1 := grown_alloc hgr (.cells (sk sc) 106)
  have hmk1 : ∀ D, D ∈ Ds → w.heap.size + 1 + 1 ≤ D ∧ (W.alloc (.cells (sk sc) 106)).heap[D]? = some (.deferred (some [])) := fun D hD => ⟨(hmk D hD).1, (Below.heap_alloc _ _ _ (Array.getElem?_eq_some_iff.1 (hmk D hD).2).1).trans (hmk D hD).2⟩
  have hlt1 : ∀ D, D ∈ Ds → D < W.heap.size := fun D hD => (Array.getElem?_eq_some_iff.1 (hmk D hD).2).1
  have hr1 : MtS (W.alloc (.cells (sk sc) 106)) g A n row := Sl.keep hr (fun p hp => World.cell?_of_block (hgr1.block p.block (by omega) (by simp; omega)))
  simp only [sk] at hbx1 hout1 hbk1 b3 hgr1 hmk1 hr1
  generalize W.alloc _ = W1 at *
  generalize W.heap.size = B3 at *
  clear e0 e17 hbk hbx hout hmk hz0 hzg
  refine with_frame fun T hT => ?_
  have hTf : T = frameOf g w.heap.size (fun i => T.getD i undef) := by rw [hT]; rfl
  have h3 : T.getD 3 undef = .pointer (some ⟨B3, 0, none⟩) := by rw [hT]; rfl
  have h19 : T.getD 19 undef = .slice A n c := by rw [hT]; rfl
  have h20 : T.getD 20 undef = .int .i64 n := by rw [hT]; rfl
  have h21 : T.getD 21 undef = .int .i64 0 := by rw [hT]; rfl
  clear hT
  rw [hTf]
  refine settle_fwd w.heap.size W1 g A n c row sc (fun i => T.getD i undef) _ (.pointer (some ⟨B3, 0, none⟩)) h3 h19 h20 h21 hbk1 hbx1 hout1 hr1 hg hn hok'.out hoks (fun T2 W2 sf hT2 hgr2 hbk2 hnar2 hoks2 hfw2 hone2 => ?_) (fun T2 W2 sf hT2 hgr2 hbk2 hno2 => ?_)
  · rename_i hK
    refine hK _ _ (wpIn_seq ?_)
    have hz2 := hgr2.size
    have hzg : g < W1.heap.size := Blk.lt hbk1
    have hgrs : w.grownBy W2 (some g) := ⟨hgr2.os.trans hgr1.os, hgr2.tape.trans hgr1.tape, hgr2.output.trans hgr1.output, Nat.le_trans hgr1.size hgr2.size, fun i hi hne => (hgr2.block i (by have := hgr1.size; omega) hne).trans (hgr1.block i hi hne)⟩
    have hbx2 := hbx1.grown hgr2 (by simp; omega)
    have hout2 := hout1.grown hgr2 (by simp; omega)
    have b32 := b3.grown hgr2 (by simp; omega)
    have hr2 : MtS W2 g A n row := Sl.keep hr (fun p hp => World.cell?_of_block (hgrs.block p.block (by omega) (by simp; omega)))
    obtain ⟨hT2, hT23⟩ := hT2
    rw [hT2]
    refine settle_back w.heap.size W2 g A n c row sf (fun i => T2.getD i undef) _ (.pointer (some ⟨B3, 0, none⟩)) hT23 hbk2 hbx2 hout2 hr2 hg hn hok'.out hoks2 (fun T4 W4 sb D hT4 hgr4 hD hW4 hbk4 hnar4 hoks4 hbw4 hone4 => ?_) (fun T4 W4 sb D hT4 hgr4 hD hW4 hbk4 hno4 => ?_)
    · obtain ⟨hT4, hT43⟩ := hT4
      have hz4 := hgr4.size
      have hgrf : w.grownBy W4 (some g) := ⟨hgr4.os.trans hgrs.os, hgr4.tape.trans hgrs.tape, hgr4.output.trans hgrs.output, Nat.le_trans hgrs.size hgr4.size, fun i hi hne => (hgr4.block i (by have := hgrs.size; omega) hne).trans (hgrs.block i hi hne)⟩
      have hbx4 := hbx2.grown hgr4 (by simp; omega)
      have hout4 := hout2.grown hgr4 (by simp; omega)
      have b34 := b32.grown hgr4 (by simp; omega)
      have hmk4 : ∀ E, E ∈ D :: Ds → w.heap.size + 1 + 1 ≤ E ∧ W4.heap[E]? = some (.deferred (some [])) := fun E hE => by
        rcases List.mem_cons.1 hE with rfl | hE
        · exact ⟨by have := hout2.lt; omega, hW4⟩
        · have h1 := hmk1 E hE
          have h2 := (Array.getElem?_eq_some_iff.1 h1.2).1
          exact ⟨h1.1, (hgr4.block E (by have := hlt1 E hE; omega) (by simp; omega)).trans ((hgr2.block E h2 (by simp; omega)).trans h1.2)⟩
      have hlt4 : ∀ E, E ∈ Ds → E < W2.heap.size := fun E hE => by
        have h2 := (Array.getElem?_eq_some_iff.1 (hmk1 E hE).2).1
        omega
      have hnd4 : (D :: Ds).Nodup := List.nodup_cons.2 ⟨fun hE => by have := hlt4 D hE; omega, hnd⟩
      clear hmk1 hlt1 hlt4 hr1 hr2 b3 b32 hbx1 hbx2 hout1 hout2 hgr1 hgr2 hgrs hgr4 h3 h19 h20 h21 hTf hbk1 hbk2
      rw [hT4]
      show Code.wpIn _ _ _ _ _ _ _
      refine settle_end w.heap.size W4 g _ sc sb B3 (fun i => T4.getD i undef) _ hT43 hbk4 hbx4 hout4 b34 (fun hsame T6 W6 hT6 hW6 => ?_) (fun hdiff T6 W6 hT6 hW6 => ?_)
      · rw [hT6]
        gi_wp2
        have hgr6 := grown_trans hgrf hW6
        have hz6 := hW6.size
        have ho6 := (hout4.below hW6 hout4.lt).set_ 0 (.bool true)
        have hlz := hout4.lt
        refine settle_leave w _ g n _ _ s sb _ true (D :: Ds) hnd4 (fun E hE => ⟨(hmk4 E hE).1, ?_⟩) ⟨hgr6.os, hgr6.tape, hgr6.output, by have := hgr6.size; simp; omega, fun i hi hne => (Below.heap_setCell _ _ _ _ (by simp; omega)).trans (hgr6.block i hi hne)⟩ (Blk.far (Blk.below hbk4 hW6 (Blk.lt hbk4)) (by simp; omega) _) ho6 (.inl ⟨rfl, ?_⟩)
        · have h8 := (hmk4 E hE).1
          exact (Below.heap_setCell _ _ _ _ (by simp; omega)).trans ((hW6.block E (Array.getElem?_eq_some_iff.1 (hmk4 E hE).2).1).trans (hmk4 E hE).2)
        · have hsf : ∀ i, i < 8 → sf i = sb i := fun i hi => by
            have a1 := hnar4.1 i
            have a2 := hnar2.1 i
            have a3 := hsame i hi
            rw [← a3] at a2
            cases hx : sf i with
            | mk x y => cases hy : sb i with
              | mk x' y' =>
                rw [hx, hy] at a1
                rw [hx, hy] at a2
                simp only at a1 a2
                congr 1 <;> omega
          have hfw : FwdC (mAt row) sb n := fun i hi => by
            have := hfw2 i hi
            rwa [hsf i (by omega), hsf (i + 1) (by omega)] at this
          refine ⟨(hnar.trans hnar2).trans hnar4, hoks4, hfw, hbw4, ?_⟩
          rcases Nat.eq_zero_or_pos n with hn0 | hn0
          · have e1 : sb = sf := hone4.resolve_left (by omega)
            have e2 : sf = sc := hone2.resolve_left (by omega)
            rw [e1, e2]
            exact h1.resolve_left (by omega)
          · exact (hbw4 0 (by omega) hn0).2.2
      · rw [hT6]
        gi_wp2
        have hbk6 : Book W6 g (.slice A n c) sb := Blk.below hbk4 hW6 (Blk.lt hbk4)
        refine ⟨⟨_, D :: Ds, sb, rfl, hnd4, fun E hE => ⟨(hmk4 E hE).1, (hW6.block E (Array.getElem?_eq_some_iff.1 (hmk4 E hE).2).1).trans (hmk4 E hE).2⟩, hbk6, hbx4.below hW6 hbx4.lt, hout4.below hW6 hout4.lt, (hnar.trans hnar2).trans hnar4, hoks4, ?_, grown_trans hgrf hW6⟩, ?_⟩
        · rcases Nat.eq_zero_or_pos n with hn0 | hn0
          · have e1 : sb = sf := hone4.resolve_left (by omega)
            have e2 : sf = sc := hone2.resolve_left (by omega)
            rw [e1, e2]
            exact h1
          · exact .inl hn0
        · rw [mu_read hbk6]
          exact mu_lt hoks4 (hnar4.1.trans hnar2.1) hdiff
    · rw [hT4]
      gi_wp2
      have hz4 := hgr4.size
      have hlz := hout2.lt
      refine settle_leave w _ g n _ _ s sb _ false (D :: Ds) (List.nodup_cons.2 ⟨fun hE => by have := (Array.getElem?_eq_some_iff.1 (hmk1 D hE).2).1; omega, hnd⟩) (fun E hE => ?_) ⟨hgr4.os.trans hgrs.os, hgr4.tape.trans hgrs.tape, hgr4.output.trans hgrs.output, Nat.le_trans hgrs.size hgr4.size, fun i hi hne => (hgr4.block i (by have := hgrs.size; omega) hne).trans (hgrs.block i hi hne)⟩ hbk4 (hout2.grown hgr4 (by simp; omega)) (.inr ⟨rfl, fun T => (hnar.trans hnar2).none hno4 T⟩)
      rcases List.mem_cons.1 hE with rfl | hE
      · exact ⟨by omega, hW4⟩
      · have h1 := hmk1 E hE
        have h2 := (Array.getElem?_eq_some_iff.1 h1.2).1
        exact ⟨h1.1, (hgr4.block E (by omega) (by simp; omega)).trans ((hgr2.block E h2 (by simp; omega)).trans h1.2)⟩
  · rw [hT2]
    gi_wp2
    have hz2 := hgr2.size
    have hlz := hout1.lt
    refine settle_leave w _ g n _ _ s sf _ false Ds hnd (fun E hE => ?_) ⟨hgr2.os.trans hgr1.os, hgr2.tape.trans hgr1.tape, hgr2.output.trans hgr1.output, Nat.le_trans hgr1.size hgr2.size, fun i hi hne => (hgr2.block i (by have := hgr1.size; omega) hne).trans (hgr1.block i hi hne)⟩ hbk2 (hout1.grown hgr2 (by simp; omega)) (.inr ⟨rfl, fun T => hnar.none hno2 T⟩)
    have h1 := hmk1 E hE
    exact ⟨h1.1, (hgr2.block E (Array.getElem?_eq_some_iff.1 h1.2).1 (by simp; omega)).trans h1.2⟩
end Go.Proofs.Ytdcglphekafpdaa
