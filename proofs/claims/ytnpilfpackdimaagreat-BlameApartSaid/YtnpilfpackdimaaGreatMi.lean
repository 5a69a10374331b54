/- Texts of the proof, laid together by program. -/
import Derived.Test.YtnpilfpackdimaaGreatMh
import Derived.Test.YtnpilfpackdimaaGreatMf
import Derived.Test.YtnpilfpackdimaaGreatMe
import Derived.Test.YtnpilfpackdimaaGreatMa
set_option linter.unusedSimpArgs false
set_option linter.unusedVariables false
/- Walk: the sets of so many inns: the iterator and who makes it. -/
namespace Go.Proofs.YtnpilfpackdimaaGreat
open Go.RowKit Go.Shelf
attribute [local go_sem] Oper.semAt_some run_store_func
/-- What the iterator of sets reads. -/
structure SIn (W : World) (own : Foot) (Bd Bm g I m : Nat) : Prop where
  hd : W.cell? ⟨Bd, 0, none⟩ = some (.pointer (some ⟨g, 0, none⟩))
  hm : W.cell? ⟨Bm, 0, none⟩ = some (.int .i64 (m : Int))
  ld : Bd < W.heap.size
  lm : Bm < W.heap.size
  od : ¬ own Bd
  om : ¬ own Bm
  gi : GIn W own g I
theorem SIn.grow {W W' : World} {own own' : Foot} {Bd Bm g I m : Nat} (h : SIn W own Bd Bm g I m) (hg : Grow own W own' W') : SIn W' own' Bd Bm g I m :=
  ⟨(World.cell?_of_block (hg.same _ h.ld h.od)).trans h.hd, (World.cell?_of_block (hg.same _ h.lm h.om)).trans h.hm, Nat.lt_of_lt_of_le h.ld hg.size, Nat.lt_of_lt_of_le h.lm hg.size, no_grow hg h.ld h.od, no_grow hg h.lm h.om, h.gi.grow hg⟩
theorem enSets1 : ∀ args w, (callFunc 97 args).run Tryz.prog w = .ok (.enter 97 args) w := enters_of Tryz.func97 (by kernel_rfl) rfl
set_option maxRecDepth 100000 in
set_option maxHeartbeats 2000000 in
theorem sets_gives (W : World) (own₀ : Foot) (Bd Bm g I m : Nat) (hI8 : I ≤ 8) (hm8 : m ≤ 8) (hin : SIn W own₀ Bd Bm g I m) :
    Gives (Wd none) Tryz.prog 97 #[.pointer (some ⟨Bd, 0, none⟩), .pointer (some ⟨Bm, 0, none⟩)] encP (RdP m) (gooF I m I 0 []).length (fun xs => xs.map PE.l = gooF I m I 0 []) (fun p => p.map PE.l <+: gooF I m I 0 []) own₀ W := by
  intro D l J Jx hJs hJxs hT hown h0
  have HIN := hid hin
  have Hown := hid hown
  have c1 := hin.hd
  have c2 := hin.hm
  have l1 := hin.ld
  have l2 := hin.lm
  have hdr : Below W.heap.size W W.drew := (Below.refl _ _).drew
  have HG := hid (fun (V : World) (hb : Below W.heap.size W V) => goOn_walk I m g l W.heap.size (gooF I m I 0 []).length hI8 hm8 J Jx hJs hJxs hT I 0 [] [] own₀ V none 0 0 (D - 1) (by omega) (by omega) rfl (by omega) (fun _ => ⟨rfl, rfl⟩) (by simp) (by omega) (HIN.out.gi.grow (grow_below Hown.out hb)) ⟨Sl.none_, fun _ _ e => by cases e⟩ (hJs [] own₀ W V h0 (fun k _ hlt => hb.block k hlt) hb.size hb.os hb.tape hb.output) (by simp) (fun q hq => Nat.lt_of_lt_of_le (Hown.out q hq) hb.size) hb.size)
  have HJs := hid hJs
  have HJxs := hid hJxs
  clear hin hown hT h0 hJs hJxs
  refine callsIn_of_wp_marks (F := Wd none) Tryz.func97 rfl trivial ?_ rfl
  simp only [Tryz.ntmps97, List.size_toArray, List.length_cons, List.length_nil, Nat.reduceAdd, Nat.reduceSub, Array.replicate_succ, Array.replicate_zero, List.push_toArray, List.append_toArray, List.nil_append, List.cons_append]
  gi_wp2_with (gi_at_call 98; refine CallsIn.mono (HG.out _ (Below.refl _ _)) ?_; rintro e w5 ⟨bv, rfl, ht, hf⟩)
  refine leavesM_marks [] _ (by simp) (by simp) (fun w' ho' => ⟨_, results_none rfl _ _ _, ⟨_, rfl⟩, ?_⟩)
  cases bv with
  | true =>
    obtain ⟨xs, own', hx, hj, hgr⟩ := ht rfl
    exact .inl ⟨xs, own', hx, stab_off HJs.out (by simpa using hj) ho' (by simp), grow_off hgr ho' (by simp)⟩
  | false =>
    obtain ⟨p, own', hx, hj, hgr⟩ := hf rfl
    exact .inr ⟨p, own', hx, stab_off HJxs.out (by simpa using hj) ho' (by simp), grow_off hgr ho' (by simp)⟩
set_option maxRecDepth 100000 in
theorem sets_any (w : World) (g m : Nat) :
    Calls Tryz.prog 60 #[.pointer (some ⟨g, 0, none⟩), .int .i64 (m : Int)] w fun e w' => ∃ Bd Bm, e = .returned (.func (.func 97) #[] #[.pointer (some ⟨Bd, 0, none⟩), .pointer (some ⟨Bm, 0, none⟩)]) ∧ w'.cell? ⟨Bd, 0, none⟩ = some (.pointer (some ⟨g, 0, none⟩)) ∧ w'.cell? ⟨Bm, 0, none⟩ = some (.int .i64 (m : Int)) ∧ w.heap.size ≤ Bd ∧ w.heap.size ≤ Bm ∧ Bd < w'.heap.size ∧ Bm < w'.heap.size ∧ Below w.heap.size w w' := by
  go_enter Tryz.func60, Tryz.ntmps60
  go_wp2
  refine bodyPost_ret (v := .func (.func 97) #[] #[.pointer (some ⟨w.heap.size, 0, none⟩), .pointer (some ⟨w.heap.size + 1, 0, none⟩)]) (by simp [results, Tryz.results60, go_sem]) rfl ⟨_, _, rfl, by go_simp, by go_simp, by simp, by simp, by simp; omega, by simp, (by repeat' (first | with_reducible assumption | with_reducible exact Below.refl _ _ | refine Below.alloc ?_ ?_ _ | refine Below.setCell ?_ ?_ _ | refine Below.drew ?_ | refine below_drewN ?_ _ | (simp; done) | (simp; omega) | omega))⟩
end Go.Proofs.YtnpilfpackdimaaGreat
/- Walk: Blame: the first of the smallest blames. -/
namespace Go.Proofs.YtnpilfpackdimaaGreat
open Go.RowKit Go.Shelf
attribute [local go_sem] Oper.semAt_some
/-- A set is a blame. -/
def isB (ls : List (List Int)) (l : List Int) : Bool := decide (missI ls (bitsL l) < 0)
/-- All sets of fewer than k inns, as the program looks at them. -/
def setsTo (I k : Nat) : List (List Int) := (List.range k).flatMap fun m => gooF I m I 0 []
theorem setsTo_next (I k : Nat) : setsTo I (k + 1) = setsTo I k ++ gooF I k I 0 [] := by
  unfold setsTo
  rw [List.range_succ, List.flatMap_append]; simp
def bestO (I : Nat) (ls : List (List Int)) : Option (List Int) := (setsTo I (I + 1)).find? (isB ls)
def bestE (I : Int) (ls : List (List Int)) : Int := if chkBook I ls ≠ 0 then chkBook I ls else if (bestO I.toNat ls).isSome then 0 else 21
def bestV (I : Int) (ls : List (List Int)) : List Int := if chkBook I ls ≠ 0 then [] else (bestO I.toNat ls).getD []
/-- A set stays while only blocks of another type turn. -/
theorem rdP_blocks {n : Nat} (x : PE) (W W' : World) (h : RdP n x W) (hk : ∀ (b : Nat) (o : Obj), W.heap[b]? = some o → (∃ cs fr, o = .cells cs 3 fr) → W'.heap[b]? = some o) (hz : W.heap.size ≤ W'.heap.size) : RdP n x W' := by
  obtain ⟨A, c, h1, h2, h4, h8, h9⟩ := h
  refine ⟨A, c, h1, ins_at h2 hz (fun b off e _ => ?_), h4, h8, fun b off e => ⟨Nat.lt_of_lt_of_le (h9 b off e).1 hz, by obtain ⟨-, cs, fr, h6⟩ := h9 b off e; exact ⟨cs, fr, hk _ _ h6 ⟨cs, fr, rfl⟩⟩⟩⟩
  obtain ⟨-, cs, fr, h6⟩ := h9 b off e
  rw [h6, hk _ _ h6 ⟨cs, fr, rfl⟩]
theorem rdP_set {n g i : Nat} {t : TypeId} {cs : Array Value} {u : Value} (x : PE) (W : World) (h : RdP n x W) (hb : Blk W g t cs) (ht : t ≠ 3) : RdP n x (W.setCell ⟨g, i, none⟩ u) := by
  refine rdP_blocks x W _ h (fun b o hh ⟨cs', fr, ho⟩ => ?_) (by simp [World.setCell])
  refine (Below.heap_setCell _ _ _ _ (fun e => ?_)).trans hh
  have e' : b = g := e
  subst e'
  unfold Blk at hb
  rw [hb, ho] at hh
  cases hh
  exact ht rfl
theorem setsTo_split {I k : Nat} : ∀ {m : Nat}, k < m → ∃ r, setsTo I m = setsTo I k ++ gooF I k I 0 [] ++ r
  | 0, h => by omega
  | m + 1, h => by
    rcases Nat.eq_or_lt_of_le (Nat.le_of_lt_succ h) with h1 | h1
    · subst h1; exact ⟨[], by rw [setsTo_next, List.append_nil]⟩
    · obtain ⟨r, hr⟩ := setsTo_split h1
      exact ⟨r ++ gooF I m I 0 [], by rw [setsTo_next, hr, List.append_assoc]⟩
theorem best_some {I k : Nat} {ls : List (List Int)} {p : List (List Int)} {y : List Int} (hk : k ≤ I) (h0 : ∀ l ∈ setsTo I k, isB ls l = false) (hp : p ++ [y] <+: gooF I k I 0 []) (h1 : ∀ z ∈ p, isB ls z = false) (hy : isB ls y = true) : bestO I ls = some y := by
  obtain ⟨r, hr⟩ := setsTo_split (I := I) (show k < I + 1 by omega)
  obtain ⟨t, ht⟩ := hp
  unfold bestO
  have e1 : (setsTo I k).find? (isB ls) = none := List.find?_eq_none.2 fun l hl => by rw [h0 l hl]; decide
  have e2 : p.find? (isB ls) = none := List.find?_eq_none.2 fun l hl => by rw [h1 l hl]; decide
  rw [hr, ← ht]
  simp only [List.find?_append, e1, e2, Option.none_or]
  rw [List.find?_cons_of_pos hy]
  rfl
theorem best_none {I : Nat} {ls : List (List Int)} (h : ∀ l ∈ setsTo I (I + 1), isB ls l = false) : bestO I ls = none := List.find?_eq_none.2 fun l hl => by rw [h l hl]; decide
theorem rdP_off {n : Nat} {x : PE} {W W' : World} {Ds : List Nat} (h : RdP n x W) (ho : Off Ds W W') : ∃ A c, x.v = .slice A n c ∧ InS W' W'.heap.size A n x.l := by
  obtain ⟨A, c, h1, h2, -⟩ := h
  refine ⟨A, c, h1, h2.1, fun hn => ?_⟩
  obtain ⟨b, off, e, hb, hc⟩ := h2.2 hn
  exact ⟨b, off, e, by rw [ho.size]; exact hb, fun j u hu => (ho.cell ⟨b, off + j, none⟩).trans (hc j u hu)⟩
set_option maxRecDepth 100000 in
set_option maxHeartbeats 4000000 in
theorem blame_ok (A : Option Addr) (n c : Nat) (ls : List (List Int)) (I : Nat) (w : World) (hl : LiS w w.heap.size A n ls) (hn : n ≤ 1000000) (hw : ∀ l ∈ ls, l.length ≤ 1000000) (he : chkBook I ls = 0) :
    Calls Tryz.prog 18 #[.agg #[.int .i64 (I : Int), .slice A n c]] w fun e w' => ∃ A' m' c', e = .returned (.tuple #[.slice A' m' c', .int .i64 (bestE I ls)]) ∧ InS w' w'.heap.size A' m' (bestV I ls) ∧ Below w.heap.size w w' := by
  have HL := hid hl
  have HW := hid hw
  have HO := hid (fun w h => open_ok A none n c 0 0 ls [] (I : Int) w h (lis_nil _ _) hn HW.out (by omega) (by simp) (by rw [openE_nil]; exact he))
  have hI1 : 1 ≤ I := by have := (book_good he).1; omega
  have hI8 : I ≤ 8 := by have := (book_good he).2.1; omega
  have hbe : Hid (bestE I ls = if (bestO I ls).isSome then 0 else 21) := hid (if_neg (by simpa using he))
  have hbv : Hid (bestV I ls = (bestO I ls).getD []) := hid (if_neg (by simpa using he))
  have HM := hid (fun g w b h => missed_any g I A n c ls b w h hn (book8 he))
  clear hl hw he
  (refine (callsIn_wide (n := 9)).1 ?_; refine callsIn_of_wp_marks (F := Wd none) Tryz.func18 rfl trivial ?_ rfl; simp only [Tryz.ntmps18, List.size_toArray, List.length_cons, List.length_nil, Nat.reduceAdd, Nat.reduceSub, Array.replicate_succ, Array.replicate_zero, List.push_toArray, List.append_toArray, List.nil_append, List.cons_append])
  gi_wp2_with (fail)
  obtain ⟨W0, hW0⟩ : ∃ W0, (((w.alloc (.cells #[.int .i64 (I : Int), .slice A n c] 24)).alloc (.cells #[.slice none 0 0] 25)).alloc (.cells #[.int .i64 0] 28)) = W0 := ⟨_, rfl⟩
  have hba : Below w.heap.size w W0 := by rw [← hW0]; exact (by repeat' (first | with_reducible assumption | with_reducible exact Below.refl _ _ | refine Below.alloc ?_ ?_ _ | refine Below.setCell ?_ ?_ _ | refine Below.drew ?_ | refine below_drewN ?_ _ | (simp; done) | (simp; omega) | omega))
  have hz0 : W0.heap.size = w.heap.size + 1 + 1 + 1 := by rw [← hW0]; simp
  have B1 : Blk W0 w.heap.size 24 #[.int .i64 (I : Int), .slice A n c] := by rw [← hW0]; exact ((Blk.new' rfl).alloc _).alloc _
  have B2 : Blk W0 (w.heap.size + 1) 25 #[.slice none 0 0] := by rw [← hW0]; exact (Blk.new' (by first | (simp; done) | (simp; omega) | omega)).alloc _
  have B3 : Blk W0 (w.heap.size + 1 + 1) 28 #[.int .i64 0] := by rw [← hW0]; exact Blk.new' (by first | (simp; done) | (simp; omega) | omega)
  rw [hW0] at ⊢
  clear hW0
  refine (calls_wd (HO.out _ (HL.out.below hba hba.size))).mono ?_
  rintro e W1 ⟨g, rfl, hg, hd, hb1⟩
  have hbw := hba.trans (hb1.mono hba.size)
  obtain ⟨W2, hW2⟩ : ∃ W2, W1.alloc (.cells #[.pointer (some ⟨g, 0, none⟩)] 69) = W2 := ⟨_, rfl⟩
  have hb12 : Below W1.heap.size W1 W2 := by rw [← hW2]; exact (Below.refl _ _).alloc (Nat.le_refl _) _
  have hb02 := hb1.trans (hb12.mono hb1.size)
  have hbw2 := hba.trans (hb02.mono hba.size)
  replace B1 := B1.below hb02 B1.lt
  replace B2 := B2.below hb02 B2.lt
  replace B3 := B3.below hb02 B3.lt
  have B4 : Blk W2 W1.heap.size 69 #[.pointer (some ⟨g, 0, none⟩)] := by rw [← hW2]; exact Blk.new' rfl
  have Bg := hd.1.below hb12 hd.1.lt
  have hgT : w.heap.size + 1 + 1 < g := by omega
  have hg4 : g < W1.heap.size := hd.1.lt
  have hz2 : W2.heap.size = W1.heap.size + 1 := by rw [← hW2]; simp
  obtain ⟨T1, hT1⟩ : ∃ T, w.heap.size = T := ⟨_, rfl⟩
  obtain ⟨T2, hT2⟩ : ∃ T, T1 + 1 = T := ⟨_, rfl⟩
  obtain ⟨T3, hT3⟩ : ∃ T, T2 + 1 = T := ⟨_, rfl⟩
  obtain ⟨T4, hT4⟩ : ∃ T, W1.heap.size = T := ⟨_, rfl⟩
  rw [hT1, hT2, hT3] at B3 hgT
  rw [hT1, hT2] at B2
  rw [hT1] at B1
  rw [hT4] at B4 hg4 hz2
  rw [hT1, hT2, hT3]
  have c10 := B1.cell 0
  have c11 := B1.cell 1
  have l1 := B1.lt
  have c2 := B2.cell 0
  have l2 := B2.lt
  have f2 := B2.frozen 0
  have c3 := B3.cell 0
  have l3 := B3.lt
  have f3 := B3.frozen 0
  have HB2 := hid B2
  have HB3 := hid B3
  have HB4 := hid B4
  have HBg := hid Bg
  have Hbw2 := hid hbw2
  clear hd hb1 hb02 hba hbw hbw2 hb12 B2 B3 B4 Bg hz0 hg
  gi_wp2
  have Ho0 : Hid (∀ j, (fun j => j = T2 ∨ j = T3) j → j < W2.heap.size) := hid (by rintro j (h | h) <;> omega)
  refine wpIn_loop (fun a' wr => ∃ (ds : List Deferred) (u6 u7 u8 u9 u10 u11 u12 u13 u14 u15 u16 u17 u19 u20 u21 u22 u23 u24 u25 u26 u27 u28 u29 u30 u31 u32 : Value), (∃ (k : Nat) (own : Foot), k ≤ I + 1 ∧ u19 = .int .i64 (k : Int) ∧ Hid (∀ l ∈ setsTo I k, isB ls l = false) ∧ Hid (own T2 ∧ own T3 ∧ Blk wr T2 25 #[.slice none 0 0] ∧ Blk wr T3 28 #[.int .i64 0]) ∧ Hid (Grow (fun j => j = T2 ∨ j = T3) W2 own wr) ∧ Hid (MarksO own W2.heap.size wr.heap.size wr ds)) ∧ a' = { tmps := #[.agg #[.int .i64 (I : Int), .slice A n c], .pointer (some ⟨T1, 0, none⟩), .pointer (some ⟨T2, 0, none⟩), .pointer (some ⟨T3, 0, none⟩), .pointer (some ⟨T4, 0, none⟩), .int .i64 0, u6, u7, u8, u9, u10, u11, u12, u13, u14, u15, u16, u17, .int .i64 ((I : Int) + 1), u19, u20, u21, u22, u23, u24, u25, u26, u27, u28, u29, u30, u31, u32], defers := ds }) (fun a' wr => I + 1 - (intOf (a'.tmps.getD 19 undef)).toNat) ?_ ?_
  · (repeat apply Exists.intro); refine ⟨?_, rfl⟩
    exact ⟨0, _, by omega, rfl, hid (fun l hl => by simp [setsTo] at hl), hid ⟨Or.inl rfl, Or.inr rfl, HB2.out, HB3.out⟩, hid (Grow.refl Ho0.out), hid (MarksO.nil _ _ _ _)⟩
  · intro _ wr hinv; obtain ⟨ds, hinv⟩ := hinv; obtain ⟨u6, hinv⟩ := hinv; obtain ⟨u7, hinv⟩ := hinv; obtain ⟨u8, hinv⟩ := hinv; obtain ⟨u9, hinv⟩ := hinv; obtain ⟨u10, hinv⟩ := hinv; obtain ⟨u11, hinv⟩ := hinv; obtain ⟨u12, hinv⟩ := hinv; obtain ⟨u13, hinv⟩ := hinv; obtain ⟨u14, hinv⟩ := hinv; obtain ⟨u15, hinv⟩ := hinv; obtain ⟨u16, hinv⟩ := hinv; obtain ⟨u17, hinv⟩ := hinv; obtain ⟨u19, hinv⟩ := hinv; obtain ⟨u20, hinv⟩ := hinv; obtain ⟨u21, hinv⟩ := hinv; obtain ⟨u22, hinv⟩ := hinv; obtain ⟨u23, hinv⟩ := hinv; obtain ⟨u24, hinv⟩ := hinv; obtain ⟨u25, hinv⟩ := hinv; obtain ⟨u26, hinv⟩ := hinv; obtain ⟨u27, hinv⟩ := hinv; obtain ⟨u28, hinv⟩ := hinv; obtain ⟨u29, hinv⟩ := hinv; obtain ⟨u30, hinv⟩ := hinv; obtain ⟨u31, hinv⟩ := hinv; obtain ⟨u32, hinv⟩ := hinv; obtain ⟨hrel, ha⟩ := hinv; subst ha; dsimp only
    obtain ⟨k, own, hkI, rfl, hno, hown, hgr, hmk⟩ := hrel
    have hoT4 : ¬ own T4 := no_grow hgr.out (by omega) (by omega)
    have hog : ¬ own g := no_grow hgr.out (by omega) (by omega)
    have B4r : Blk wr T4 69 #[.pointer (some ⟨g, 0, none⟩)] := (hgr.out.same _ HB4.out.lt (by omega)).trans HB4.out
    have Bgr : Blk wr g 93 #[.int .i64 (I : Int), .slice A n c] := (hgr.out.same _ HBg.out.lt (by omega)).trans HBg.out
    have hbr : Below w.heap.size w wr := below_grow Hbw2.out hgr.out Hbw2.out.size (by rintro j (h | h) <;> omega)
    have c4 := B4r.cell 0
    have l4 := B4r.lt
    have HB4r := hid B4r
    have HBgr := hid Bgr
    have Hbr := hid hbr
    have hzr := hgr.out.size
    clear B4r Bgr hbr c10 c11 l1 c2 l2 f2 c3 l3 f3
    by_cases hlt : k < I + 1
    · have hlti : (k : Int) < (I : Int) + 1 := by omega
      gi_wp2_with (fail)
      refine (calls_wd (sets_any wr g k)).mono ?_
      rintro e X6 ⟨Bd, Bm, rfl, d1, d2, d3, d4, d5, d6, hb6⟩
      have hbX := Hbr.out.trans (hb6.mono Hbr.out.size)
      have hzX := hb6.size
      have hoX : ∀ j, own j → j < wr.heap.size := hgr.out.lt
      have HB4x := hid (HB4r.out.below hb6 HB4r.out.lt)
      have HBgx := hid (HBgr.out.below hb6 HBgr.out.lt)
      have HB2x := hid (hown.out.2.2.1.below hb6 hown.out.2.2.1.lt)
      have HB3x := hid (hown.out.2.2.2.below hb6 hown.out.2.2.2.lt)
      have hSIn : SIn X6 (fun j => own j ∨ j = X6.heap.size ∨ j = X6.heap.size + 1) Bd Bm g I k := ⟨d1, d2, d5, d6, by rintro (h | h | h); have := hoX _ h; omega; omega; omega, by rintro (h | h | h); have := hoX _ h; omega; omega; omega, ⟨HBgx.out.cell 0, HBgx.out.lt, by
        have := HBgr.out.lt
        rintro (h | h | h); exact hog h; omega; omega⟩⟩
      have Hb6 := hid hb6
      have HbX := hid hbX
      have HSIn := hid hSIn
      have hk8 : k ≤ 8 := by omega
      have hT23 : T2 < wr.heap.size ∧ T3 < wr.heap.size ∧ T4 < wr.heap.size ∧ g < wr.heap.size := ⟨hown.out.2.2.1.lt, hown.out.2.2.2.lt, HB4r.out.lt, HBgr.out.lt⟩
      clear d1 d2 hb6 hbX hSIn c4 l4
      gi_wp2
      refine with_frame fun TT hTT => ?_
      refine wpIn_rangeFunc_foot (F := Wd none) (α := PE) X6.heap.size rfl rfl rfl (gf := 97) (lb := #[.pointer (some ⟨Bd, 0, none⟩), .pointer (some ⟨Bm, 0, none⟩)]) (by rw [hTT]; rfl) trivial enSets1
        (encs := encP) (Rd := RdP k) (Nb := (gooF I k I 0 []).length) (S := fun ys => ys.map PE.l = gooF I k I 0 []) (Sp := fun ys => ys.map PE.l <+: gooF I k I 0 []) own (fun j hj => by have := hoX j hj; omega) ?hseq rdP_keep (fun _ => rfl)
        (fun ys ow V => (∀ y ∈ ys, isB ls y.l = false) ∧ Below X6.heap.size X6 V ∧ ow T2 ∧ ow T3 ∧ ¬ ow T4 ∧ ¬ ow g) (fun c' ys ow V => c' = .ret ∧ ∃ ys0 y, ys = ys0 ++ [y] ∧ (∀ z ∈ ys0, isB ls z.l = false) ∧ isB ls y.l = true ∧ RdP k y V ∧ Blk V T2 25 #[y.v] ∧ Blk V T3 28 #[.int .i64 0] ∧ ow T2 ∧ ow T3) ?hI ?hIx ⟨fun y hy => (by cases hy), Below.refl _ _, hown.out.1, hown.out.2.1, hoT4, hog⟩
        (fun x a' V => a' = { tmps := (TT.setIfInBounds 25 x.v).setIfInBounds 7 x.v, defers := [] }) ?assign (fun x a' V o h => h) ?body ?done ?stop
      case hseq =>
        intro W' hW'
        exact sets_gives W' _ Bd Bm g I k hI8 hk8 ⟨(hW'.cell (p := ⟨Bd, 0, none⟩) d5).trans HSIn.out.hd, (hW'.cell (p := ⟨Bm, 0, none⟩) d6).trans HSIn.out.hm, Nat.lt_of_lt_of_le d5 hW'.size, Nat.lt_of_lt_of_le d6 hW'.size, HSIn.out.od, HSIn.out.om, ⟨(hW'.cell (p := ⟨g, 0, none⟩) HBgx.out.lt).trans HSIn.out.gi.hI, Nat.lt_of_lt_of_le HBgx.out.lt hW'.size, HSIn.out.gi.no⟩⟩
      case hI =>
        rintro ys ow V V' ⟨h0, h1, h2, h3, h4, h5⟩ hk hz e1 e2 e3
        exact ⟨h0, stab_below h1 (Nat.le_refl _) (Nat.le_refl _) (fun q hq hq' => hk q (.inl hq) hq') hz e1 e2 e3, h2, h3, h4, h5⟩
      case hIx =>
        rintro c' ys ow V V' ⟨hc', ys0, y, h0, h1, h2, h3, h4, h5, h6, h7⟩ hk hz e1 e2 e3
        exact ⟨hc', ys0, y, h0, h1, h2, rdP_keep y V V' h3 (fun q o ho hc => (hk q (.inr (.inr ⟨o, ho, hc⟩)) (Array.getElem?_eq_some_iff.1 ho).1).trans ho) hz, (hk _ (.inr (.inl h6)) h4.lt).trans h4, (hk _ (.inr (.inl h7)) h5.lt).trans h5, h6, h7⟩
      case assign =>
        rintro l x V Kk hrd hV hK
        simp only [encP, hTT]
        gi_wp2
        exact hK _ _ (Below.refl _ _) (by rw [hTT]; rfl)
      case body =>
        rintro l pre ow x a' V ⟨h0, h1, h2, h3, h4, h5⟩ hNb hlt' hnB hrd rfl hV
        obtain ⟨xv, xl⟩ := x
        obtain ⟨Ax, cx, hxv, hxin, hxn, hxb, hxc⟩ := hrd
        have hxv' : xv = .slice Ax k cx := hxv
        subst hxv'
        have hxin' : InS V V.heap.size Ax k xl := hxin
        have hxb' : ∀ v ∈ xl, 0 ≤ v ∧ v < 8 := hxb
        have q4 := (HB4x.out.below h1 HB4x.out.lt).cell 0
        have l4 := (HB4x.out.below h1 HB4x.out.lt).lt
        have Hbg := hid (HBgx.out.below h1 HBgx.out.lt)
        have HbV := hid (HbX.out.trans (h1.mono HbX.out.size))
        have HX := hid hxin'
        have HXb := hid hxb'
        have HRd : Hid (RdP k ⟨.slice Ax k cx, xl⟩ V) := hid ⟨Ax, cx, rfl, hxin, hxn, hxb, hxc⟩
        have H0 := hid h0
        have H1 := hid h1
        have Hlv := hid (fun (W : World) (h : Below V.heap.size V W) => HL.out.below (HbV.out.trans (h.mono HbV.out.size)) (Nat.le_trans HbV.out.size h.size))
        clear hxin hxin' h0 h1 hxb hxb' hxc hxn
        simp only [hTT, List.setIfInBounds_toArray, List.set_cons_zero, List.set_cons_succ]
        gi_wp2
        refine wpIn_region_hd_all (fun W => Below V.heap.size V W) (by kernel_rfl) (by kernel_rfl) ((Below.refl _ _).drew) ?_
        (refine wpHd_val (v := ?_) (by rfl) (fun W hW => ?_) ?_; rotate_left; (· obtain ⟨hcW, hfW⟩ := bcell hW; go_simp; with_reducible rfl); simp only [Act.put, List.setIfInBounds_toArray, List.set_cons_zero, List.set_cons_succ])
        (refine wpHd_val (v := ?_) (by rfl) (fun W hW => ?_) ?_; rotate_left; (· obtain ⟨hcW, hfW⟩ := bcell hW; go_simp; with_reducible rfl); simp only [Act.put, List.setIfInBounds_toArray, List.set_cons_zero, List.set_cons_succ])
        (refine wpHd_callB (by rfl) (fun W hW => (marked_any Ax k cx xl W (HX.out.below hW hW.size) (by omega) HXb.out)) (fun W hW => ?_) ?_; (· obtain ⟨hcW, hfW⟩ := bcell hW; go_simp); simp only [Act.put, List.setIfInBounds_toArray, List.set_cons_zero, List.set_cons_succ])
        (refine wpHd_callB (by rfl) (fun W hW => (HM.out g W (bitsL xl) ⟨Hbg.out.below hW Hbg.out.lt, Hlv.out W hW⟩)) (fun W hW => ?_) ?_; (· obtain ⟨hcW, hfW⟩ := bcell hW; go_simp); simp only [Act.put, List.setIfInBounds_toArray, List.set_cons_zero, List.set_cons_succ])
        cases hm : isB ls xl
        · have hmi : ¬ missI ls (bitsL xl) < 0 := of_decide_eq_false hm
          have h0' : Hid (∀ y ∈ pre ++ [(⟨.slice Ax k cx, xl⟩ : PE)], isB ls y.l = false) := hid (fun y hy => by
            rcases List.mem_append.1 hy with h | h
            · exact H0.out y h
            · rw [List.mem_singleton.1 h]; exact hm)
          clear hm
          obtain ⟨mv, hmv⟩ : ∃ mv, missI ls (bitsL xl) = mv := ⟨_, rfl⟩
          rw [hmv] at hmi ⊢
          clear hmv
          (refine wpHd_val (v := ?_) (by rfl) (fun W hW => ?_) ?_; rotate_left; (· obtain ⟨hcW, hfW⟩ := bcell hW; go_simp; with_reducible rfl); simp only [Act.put, List.setIfInBounds_toArray, List.set_cons_zero, List.set_cons_succ])
          refine wpHd_nil ?_
          intro W9 hW9
          clear q4
          gi_wp2
          exact ⟨ow, ⟨h0'.out, H1.out.trans (hW9.mono H1.out.size), h2, h3, h4, h5⟩, grow_below hlt' hW9⟩
        · have hmi : missI ls (bitsL xl) < 0 := of_decide_eq_true hm
          have Hm := hid hm
          clear hm
          obtain ⟨mv, hmv⟩ : ∃ mv, missI ls (bitsL xl) = mv := ⟨_, rfl⟩
          rw [hmv] at hmi ⊢
          clear hmv
          (refine wpHd_val (v := ?_) (by rfl) (fun W hW => ?_) ?_; rotate_left; (· obtain ⟨hcW, hfW⟩ := bcell hW; go_simp; with_reducible rfl); simp only [Act.put, List.setIfInBounds_toArray, List.set_cons_zero, List.set_cons_succ])
          refine wpHd_nil ?_
          intro W9 hW9
          have b2 := (HB2x.out.below H1.out HB2x.out.lt).below hW9 (HB2x.out.below H1.out HB2x.out.lt).lt
          have b3 := (HB3x.out.below H1.out HB3x.out.lt).below hW9 (HB3x.out.below H1.out HB3x.out.lt).lt
          have q2 := b2.cell 0
          have q3 := b3.cell 0
          have p2 := b2.lt
          have p3 := b3.lt
          have f2 := b2.frozen 0
          have f3 := b3.frozen 0
          have hg9 : Grow ow V ow W9 := grow_below hlt' hW9
          have HRd9 : RdP k ⟨.slice Ax k cx, xl⟩ W9 := rdP_keep _ V W9 HRd.out (fun q o ho _ => (hW9.block q (Array.getElem?_eq_some_iff.1 ho).1).trans ho) hW9.size
          have hT2e : T2 ≠ T3 := by omega
          clear q4
          gi_wp2
          refine ⟨ow, ⟨rfl, pre, _, rfl, H0.out, Hm.out, ?_, ?_, ?_, h2, h3⟩, grow_set (grow_set hg9 h2 _) h3 _⟩
          · exact rdP_set _ _ (rdP_set _ _ HRd9 b2 (by decide)) (b3.far (by simp; omega) _) (by decide)
          · exact (b2.set_ 0 _).far (by simp; omega) _
          · exact (b3.far (by simp; omega) _).set_ 0 _
      case done =>
        rintro Dm ys ow V hDm hys ⟨h0, h1, h2, h3, h4, h5⟩ hg hnB rfl hK
        have hgx : Grow own wr ow V := (grow_below hoX Hb6.out).trans hg
        have hmx : MarksO ow W2.heap.size X6.heap.size V ds := hmk.out.step hzX (fun E hE hn h => by
          rcases hgx.from_ E h with h4 | h4
          · exact hn h4
          · omega) (fun E hE hn => hgx.same E hE hn)
        have hmx2 := hmx.push (by omega : W2.heap.size ≤ X6.heap.size) (Nat.le_refl _) (fun h => (hnB _ h).1 rfl) hK
        have hVlt : X6.heap.size < V.heap.size := (Array.getElem?_eq_some_iff.1 hK).1
        have hmx3 := hid (hmx2.step (M' := V.heap.size) (W' := V) (by omega) (fun _ _ h => h) (fun _ _ _ => rfl))
        have hno2 : Hid (∀ l ∈ setsTo I (k + 1), isB ls l = false) := hid (fun l hl => by
          rw [setsTo_next] at hl
          rcases List.mem_append.1 hl with h | h
          · exact hno.out l h
          · rw [← hys] at h
            obtain ⟨y, hy, rfl⟩ := List.mem_map.1 h
            exact h0 y hy)
        have hgr2 := hid (hgr.out.trans hgx)
        have hB2 := hid (HB2x.out.below h1 HB2x.out.lt)
        have hB3 := hid (HB3x.out.below h1 HB3x.out.lt)
        simp only [hTT]
        clear hmx hmx2 hgx hys h0 h1
        gi_wp2
        (first | exact ⟨⟨k + 1, ow, by omega, by go_num, hno2, hid ⟨h2, h3, hB2.out, hB3.out⟩, hgr2, hmx3⟩, (by first | (simp [intOf]; omega) | (simp [intOf]; done))⟩ | (refine ⟨?_, ?_⟩; (focus ((repeat apply Exists.intro); refine ⟨?_, rfl⟩; exact ⟨k + 1, ow, by omega, by go_num, hno2, hid ⟨h2, h3, hB2.out, hB3.out⟩, hgr2, hmx3⟩)); (first | (simp [intOf]; omega) | (simp [intOf]; done))))
      case stop =>
        rintro Dm c' ys ow V hDm hpre ⟨rfl, ys0, y, h0, h1, h2, h3, h4, h5, h6, h7⟩ hg hnB rfl hK
        have hgx : Grow own wr ow V := (grow_below hoX Hb6.out).trans hg
        have hmx : MarksO ow W2.heap.size X6.heap.size V ds := hmk.out.step hzX (fun E hE hn h => by
          rcases hgx.from_ E h with h4 | h4
          · exact hn h4
          · omega) (fun E hE hn => hgx.same E hE hn)
        have hmx2 := hmx.push (by omega : W2.heap.size ≤ X6.heap.size) (Nat.le_refl _) (fun h => (hnB _ h).1 rfl) hK
        obtain ⟨yv, yl⟩ := y
        have hpre' : ys0.map PE.l ++ [yl] <+: gooF I k I 0 [] := by rw [h0, List.map_append] at hpre; exact hpre
        have hbo := best_some (by omega) hno.out hpre' (fun z hz => by obtain ⟨q, hq, rfl⟩ := List.mem_map.1 hz; exact h1 q hq) h2
        have hgr2 := hid (hgr.out.trans hgx)
        have hbV : Below w.heap.size w V := below_grow Hbw2.out hgr2.out Hbw2.out.size (by rintro j (h | h) <;> omega)
        have HbV := hid hbV
        have H3 := hid h3
        have H4 := hid h4
        have H5 := hid h5
        have Hbe : Hid (bestE I ls = 0) := hid (by rw [hbe.out, hbo]; rfl)
        have Hbv : Hid (bestV I ls = yl) := hid (by rw [hbv.out, hbo]; rfl)
        simp only [hTT]
        clear hmx hgx hpre hpre' h0 h1 h2 h3 h4 h5 hbo hbV
        gi_wp2
        refine hmx2.leaves (fun Ds w' hDs ho => ⟨.tuple #[yv, .int .i64 0], ?_, ?_⟩)
        · have e2 := (ho.cell ⟨T2, 0, none⟩).trans (H4.out.cell 0)
          have e3 := (ho.cell ⟨T3, 0, none⟩).trans (H5.out.cell 0)
          simp [results, Tryz.results18, go_sem, *]
        · obtain ⟨A', c', hyv, hin⟩ := rdP_off H3.out ho
          have hyv' : yv = .slice A' k c' := hyv
          subst hyv'
          exact ⟨A', k, ⟨c', by rw [Hbe.out]⟩, by rw [Hbv.out]; exact hin, ho.below (by have h9 := HbV.out; rw [hT1] at h9; exact h9) (fun D hD => by have := (hDs D hD).1; have := Hbw2.out.size; omega)⟩
    · obtain rfl : k = I + 1 := by omega
      have hlti : ¬ ((I : Int) + 1 < (I : Int) + 1) := by omega
      have hbo := best_none hno.out
      have Hbe : Hid (bestE I ls = 21) := hid (by rw [hbe.out, hbo]; rfl)
      have Hbv : Hid (bestV I ls = []) := hid (by rw [hbv.out, hbo]; rfl)
      have b2 := hown.out.2.2.1
      have b3 := hown.out.2.2.2
      have q2 := b2.cell 0
      have q3 := b3.cell 0
      have p2 := b2.lt
      have p3 := b3.lt
      have f2 := b2.frozen 0
      have f3 := b3.frozen 0
      have hT2e : T2 ≠ T3 := by omega
      have hmk2 := hmk.out.step (M' := wr.heap.size) (W' := (wr.setCell ⟨T2, 0, none⟩ (.slice none 0 0)).setCell ⟨T3, 0, none⟩ (.int .i64 21)) (Nat.le_refl _) (fun _ _ h => h) (fun D hD hn => (Below.heap_setCell _ _ _ _ (fun e => hn (by have e' : D = T3 := e; rw [e']; exact hown.out.2.1))).trans (Below.heap_setCell _ _ _ _ (fun e => hn (by have e' : D = T2 := e; rw [e']; exact hown.out.1))))
      have hB2 : Blk ((wr.setCell ⟨T2, 0, none⟩ (.slice none 0 0)).setCell ⟨T3, 0, none⟩ (.int .i64 21)) T2 25 #[.slice none 0 0] := (b2.set_ 0 _).far (by simp; omega) _
      have hB3 : Blk ((wr.setCell ⟨T2, 0, none⟩ (.slice none 0 0)).setCell ⟨T3, 0, none⟩ (.int .i64 21)) T3 28 #[.int .i64 21] := (b3.far (by simp; omega) _).set_ 0 _
      have hbV : Below w.heap.size w ((wr.setCell ⟨T2, 0, none⟩ (.slice none 0 0)).setCell ⟨T3, 0, none⟩ (.int .i64 21)) := (Hbr.out.setCell (by simp; omega) _).setCell (by simp; omega) _
      have HbV := hid hbV
      have H4 := hid hB2
      have H5 := hid hB3
      clear c4 l4 hbo hbV hB2 hB3
      gi_wp2
      refine hmk2.leaves (fun Ds w' hDs ho => ⟨.tuple #[.slice none 0 0, .int .i64 21], ?_, ?_⟩)
      · have e2 := (ho.cell ⟨T2, 0, none⟩).trans (H4.out.cell 0)
        have e3 := (ho.cell ⟨T3, 0, none⟩).trans (H5.out.cell 0)
        simp [results, Tryz.results18, go_sem, *]
      · exact ⟨none, 0, ⟨0, by rw [Hbe.out]⟩, by rw [Hbv.out]; exact Sl.none_, ho.below (by have h9 := HbV.out; rw [hT1] at h9; exact h9) (fun D hD => by have := (hDs D hD).1; have := Hbw2.out.size; omega)⟩
end Go.Proofs.YtnpilfpackdimaaGreat
/- Plain law: the first of the smallest blames. -/
namespace Go.Proofs.YtnpilfpackdimaaGreat
theorem isL_none {I f : Nat} {t : List Int} (h : isL (I : Int) (f : Int) t = true) (hf : I ≤ f) : t = [] := by
  cases t with
  | nil => rfl
  | cons y t => have := (isL_cons.1 h).1; omega
theorem mem_goo {I m : Nat} : ∀ (d f : Nat) (b : List Int) {l : List Int}, I ≤ f + d → (l ∈ gooF I m d f b ↔ ∃ t, l = b ++ t ∧ isL (I : Int) (f : Int) t = true ∧ l.length = m)
  | 0, f, b, l, h => by
    rw [gooF]
    constructor
    · intro hl
      split at hl
      · rename_i hb
        rw [List.mem_singleton.1 hl]
        exact ⟨[], by rw [List.append_nil], rfl, hb⟩
      · cases hl
    · rintro ⟨t, rfl, ht, hm⟩
      have ht0 := isL_none ht (by omega)
      subst ht0
      rw [List.append_nil] at hm ⊢
      rw [if_pos hm]; exact List.mem_singleton.2 rfl
  | d + 1, f, b, l, h => by
    rw [gooF]
    by_cases hb : b.length = m
    · rw [if_pos hb, List.mem_singleton]
      constructor
      · rintro rfl
        exact ⟨[], by rw [List.append_nil], rfl, hb⟩
      · rintro ⟨t, rfl, -, hm⟩
        have : t = [] := List.eq_nil_of_length_eq_zero (by rw [List.length_append] at hm; omega)
        rw [this, List.append_nil]
    · rw [if_neg hb, List.mem_flatMap]
      constructor
      · rintro ⟨i, hi, hl⟩
        rw [List.mem_range'_1] at hi
        obtain ⟨t, rfl, ht, hm⟩ := (mem_goo d (i + 1) (b ++ [(i : Int)]) (by omega)).1 hl
        exact ⟨(i : Int) :: t, by simp, isL_cons.2 ⟨⟨by omega, by omega⟩, ht⟩, hm⟩
      · rintro ⟨t, rfl, ht, hm⟩
        cases t with
        | nil => rw [List.append_nil] at hm; exact absurd hm hb
        | cons y t =>
          obtain ⟨⟨h1, h2⟩, h3⟩ := isL_cons.1 ht
          obtain ⟨i, rfl⟩ : ∃ i : Nat, y = i := ⟨y.toNat, by omega⟩
          refine ⟨i, by rw [List.mem_range'_1]; omega, (mem_goo d (i + 1) (b ++ [(i : Int)]) (by omega)).2 ⟨t, by simp, h3, hm⟩⟩
theorem srt_goo {I m : Nat} : ∀ (d f : Nat) (b : List Int), I ≤ f + d → Srt (gooF I m d f b)
  | 0, f, b, _ => by
    rw [gooF]; split
    · exact List.pairwise_singleton _ _
    · exact List.Pairwise.nil
  | d + 1, f, b, h => by
    rw [gooF]
    split
    · exact List.pairwise_singleton _ _
    · unfold Srt
      rw [List.pairwise_flatMap]
      refine ⟨fun i hi => srt_goo d (i + 1) _ (by rw [List.mem_range'_1] at hi; omega), ?_⟩
      refine List.Pairwise.imp_of_mem ?_ (List.pairwise_lt_range' (s := f) (n := I - f))
      intro i j hi hj hlt x hx y hy
      rw [List.mem_range'_1] at hi hj
      obtain ⟨t, rfl, -, -⟩ := (mem_goo d (i + 1) _ (by omega)).1 hx
      obtain ⟨t', rfl, -, -⟩ := (mem_goo d (j + 1) _ (by omega)).1 hy
      rw [List.append_assoc, List.append_assoc, before_app, List.singleton_append, List.singleton_append, before_cons, if_neg (by omega)]
      simp; omega
/-- Fewer, or as many and before. -/
def Rr (a b : List Int) : Prop := a.length < b.length ∨ (a.length = b.length ∧ before a b = true)
theorem srt_sets (I : Nat) : ∀ k, (setsTo I k).Pairwise Rr
  | 0 => List.Pairwise.nil
  | k + 1 => by
    rw [setsTo_next, List.pairwise_append]
    refine ⟨srt_sets I k, List.Pairwise.imp_of_mem ?_ (srt_goo (I := I) (m := k) I 0 [] (by omega)), ?_⟩
    · intro a b ha hb h
      obtain ⟨-, -, -, e1⟩ := (mem_goo I 0 [] (by omega)).1 ha
      obtain ⟨-, -, -, e2⟩ := (mem_goo I 0 [] (by omega)).1 hb
      exact .inr ⟨by rw [e1, e2], h⟩
    · intro a ha b hb
      left
      unfold setsTo at ha
      obtain ⟨m, hm, ha⟩ := List.mem_flatMap.1 ha
      have hm := List.mem_range.1 hm
      obtain ⟨-, -, -, e1⟩ := (mem_goo I 0 [] (by omega)).1 ha
      obtain ⟨-, -, -, e2⟩ := (mem_goo I 0 [] (by omega)).1 hb
      omega
theorem mem_sets {I : Nat} {l : List Int} : l ∈ setsTo I (I + 1) ↔ isL (I : Int) 0 l = true := by
  unfold setsTo
  rw [List.mem_flatMap]
  constructor
  · rintro ⟨m, -, h⟩
    obtain ⟨t, rfl, ht, -⟩ := (mem_goo I 0 [] (by omega)).1 h
    exact ht
  · intro h
    have := isL_len8 h (by omega)
    exact ⟨l.length, List.mem_range.2 (by omega), (mem_goo I 0 [] (by omega)).2 ⟨l, rfl, h, rfl⟩⟩
/-- r is the least of some lists. -/
def LeastOf (E : List Int → Prop) (r : List Int) : Prop := E r ∧ ∀ l, E l → l = r ∨ Rr r l
theorem least_uniq {E : List Int → Prop} {r r' : List Int} (h : LeastOf E r) (h' : LeastOf E r') : r = r' := by
  rcases h.2 r' h'.1 with e | h1
  · exact e.symm
  · rcases h'.2 r h.1 with e | h2
    · exact e
    · rcases h1 with h1 | ⟨h1, h3⟩
      · rcases h2 with h2 | ⟨h2, -⟩ <;> omega
      · rcases h2 with h2 | ⟨-, h4⟩
        · omega
        · rw [before_asym h3] at h4; cases h4
theorem find_least {p : List Int → Bool} : ∀ {L : List (List Int)} {r : List Int}, L.Pairwise Rr → L.find? p = some r → LeastOf (fun l => l ∈ L ∧ p l = true) r
  | [], r, _, h => by cases h
  | x :: L, r, hs, h => by
    obtain ⟨h1, h2⟩ := List.pairwise_cons.1 hs
    rw [List.find?_cons] at h
    cases hp : p x
    · rw [hp] at h
      obtain ⟨⟨h3, h4⟩, h5⟩ := find_least h2 h
      refine ⟨⟨List.mem_cons_of_mem _ h3, h4⟩, ?_⟩
      rintro l ⟨hl, hpl⟩
      rcases List.mem_cons.1 hl with rfl | hl
      · rw [hp] at hpl; cases hpl
      · exact h5 l ⟨hl, hpl⟩
    · rw [hp] at h
      cases h
      refine ⟨⟨List.mem_cons_self .., hp⟩, ?_⟩
      rintro l ⟨hl, -⟩
      rcases List.mem_cons.1 hl with rfl | hl
      · exact .inl rfl
      · exact .inr (h1 l hl)
theorem isB_hit {ls : List (List Int)} {l : List Int} : isB ls l = hitB ls (bitsL l) := miss_dec ls _
theorem bestO_least {I : Nat} {ls : List (List Int)} {r : List Int} (h : bestO I ls = some r) : LeastOf (fun l => isL (I : Int) 0 l = true ∧ hitB ls (bitsL l) = true) r := by
  obtain ⟨⟨h1, h2⟩, h3⟩ := find_least (srt_sets I (I + 1)) h
  refine ⟨⟨mem_sets.1 h1, by rw [← isB_hit]; exact h2⟩, ?_⟩
  rintro l ⟨hl, hh⟩
  exact h3 l ⟨mem_sets.2 hl, by rw [isB_hit]; exact hh⟩
theorem bestO_no {I : Nat} {ls : List (List Int)} (h : bestO I ls = none) {l : List Int} (hl : isL (I : Int) 0 l = true) : hitB ls (bitsL l) = false := by
  have := List.find?_eq_none.1 h l (mem_sets.2 hl)
  rw [isB_hit] at this
  simpa using this
theorem minF_least : ∀ {T D : List (List Int)} {b : List Int}, b ∈ D → (∀ p ∈ D, p = b ∨ Rr b p) → (∀ p ∈ D, ∀ x ∈ T, before p x = true) → Srt T → LeastOf (fun l => l ∈ D ∨ l ∈ T) (T.foldl minF b)
  | [], D, b, hb, hD, _, _ => ⟨.inl hb, fun l hl => by rcases hl with h | h; exact hD l h; cases h⟩
  | x :: T, D, b, hb, hD, hDT, hT => by
    obtain ⟨h1, h2⟩ := List.pairwise_cons.1 hT
    have hbx := hDT b hb x (List.mem_cons_self ..)
    have key := minF_least (T := T) (D := D ++ [x]) (b := minF b x) ?_ ?_ ?_ h2
    · refine ⟨?_, fun l hl => ?_⟩
      · rcases key.1 with h | h
        · rcases List.mem_append.1 h with h | h
          · exact .inl h
          · exact .inr (by rw [show List.foldl minF b (x :: T) = List.foldl minF (minF b x) T from rfl, List.mem_singleton.1 h]; exact List.mem_cons_self ..)
        · exact .inr (List.mem_cons_of_mem _ h)
      · refine key.2 l ?_
        rcases hl with h | h
        · exact .inl (List.mem_append_left _ h)
        · rcases List.mem_cons.1 h with h | h
          · exact .inl (List.mem_append_right _ (List.mem_singleton.2 h))
          · exact .inr h
    · unfold minF; split
      · exact List.mem_append_right _ (List.mem_singleton.2 rfl)
      · exact List.mem_append_left _ hb
    · intro p hp
      unfold minF
      split
      · rename_i hlt
        rcases List.mem_append.1 hp with h | h
        · right; left
          rcases hD p h with rfl | h3
          · exact hlt
          · rcases h3 with h3 | ⟨h3, -⟩ <;> omega
        · exact .inl (List.mem_singleton.1 h)
      · rename_i hlt
        rcases List.mem_append.1 hp with h | h
        · exact hD p h
        · rw [List.mem_singleton.1 h]
          right
          rcases Nat.lt_or_ge b.length x.length with h3 | h3
          · exact .inl h3
          · exact .inr ⟨by omega, hbx⟩
    · intro p hp y hy
      rcases List.mem_append.1 hp with h | h
      · exact hDT p h y (List.mem_cons_of_mem _ hy)
      · rw [List.mem_singleton.1 h]; exact h1 y hy
theorem minL_least {L : List (List Int)} (hs : Srt L) (hne : L ≠ []) : LeastOf (fun l => l ∈ L) (minL L) := by
  cases L with
  | nil => exact absurd rfl hne
  | cons x T =>
    obtain ⟨h1, h2⟩ := List.pairwise_cons.1 hs
    have e : minL (x :: T) = T.foldl minF x := by
      unfold minL
      show List.foldl minF (minF x x) T = _
      unfold minF; simp
    rw [e]
    have := minF_least (T := T) (D := [x]) (b := x) (List.mem_singleton.2 rfl) (fun p hp => .inl (List.mem_singleton.1 hp)) (fun p hp y hy => by rw [List.mem_singleton.1 hp]; exact h1 y hy) h2
    refine ⟨?_, fun l hl => this.2 l ?_⟩
    · rcases this.1 with h | h
      · rw [List.mem_singleton.1 h]; exact List.mem_cons_self ..
      · exact List.mem_cons_of_mem _ h
    · rcases List.mem_cons.1 hl with h | h
      · exact .inl (List.mem_singleton.2 h)
      · exact .inr h
theorem cnt_le {y x : Nat} : ∀ n, (∀ i, i < n → y.testBit i = true → x.testBit i = true) → (listed y n).length ≤ (listed x n).length
  | 0, _ => Nat.le_refl _
  | n + 1, h => by
    have ih := cnt_le n fun i hi => h i (by omega)
    have hn := h n (by omega)
    rw [listed_succ, listed_succ, List.length_append, List.length_append]
    cases hy : y.testBit n
    · simp; omega
    · rw [hn hy]; simp; omega
theorem cnt_lt {y x : Nat} : ∀ n, (∀ i, i < n → y.testBit i = true → x.testBit i = true) → (∃ i, i < n ∧ x.testBit i = true ∧ y.testBit i = false) → (listed y n).length < (listed x n).length
  | 0, _, ⟨i, hi, _⟩ => by omega
  | n + 1, h, ⟨i, hi, h1, h2⟩ => by
    rw [listed_succ, listed_succ, List.length_append, List.length_append]
    by_cases e : i = n
    · subst e
      have := cnt_le i fun j hj => h j (by omega)
      rw [h1, h2]; simp; omega
    · have ih := cnt_lt n (fun j hj => h j (by omega)) ⟨i, by omega, h1, h2⟩
      have hn := h n (by omega)
      cases hy : y.testBit n
      · simp; omega
      · rw [hn hy]; simp; omega
theorem sub_lt {y x : Nat} (hy : y < 256) (hx : x < 256) (h : subB y x = true) (hne : y ≠ x) : (listed y 8).length < (listed x 8).length := by
  have hs := (subB_iff hy).1 h
  refine cnt_lt 8 (fun i _ => hs i) ?_
  refine Classical.byContradiction fun hn => hne (bits8_ext hy hx fun i hi => ?_)
  cases hxi : x.testBit i
  · cases hyi : y.testBit i
    · rfl
    · rw [hs i hyi] at hxi; cases hxi
  · cases hyi : y.testBit i
    · exact absurd ⟨i, hi, hxi, hyi⟩ hn
    · rfl
/-- Of the least of all tight blames no blame is less. -/
theorem least_tight {I : Nat} {ls : List (List Int)} (hI : I ≤ 8) (hv : ∀ l ∈ ls, isL (I : Int) 0 l = true) {r : List Int} (h : LeastOf (fun l => l ∈ allR I ls) r) : LeastOf (fun l => isL (I : Int) 0 l = true ∧ hitB ls (bitsL l) = true) r := by
  have hm := h.1
  rw [allR_eq hI hv, mem_ordL] at hm
  obtain ⟨x, hx, hmx, hxr⟩ := hm
  have hxI := min_in hv hx hmx
  refine ⟨⟨by rw [← hxr, ← listed_more hxI hI]; exact isL_listed' _ _, by rw [← hxr, bits_listed (n := 8) hx]; exact (minB_iff.1 hmx).1⟩, ?_⟩
  rintro l ⟨hl, hh⟩
  have hl8 := isL_weak (below' := 8) (by omega) hl
  have hlb := bits8 hl8
  obtain ⟨y, hy, hmy, hyl⟩ := minB_below _ hlb hh
  have hyE : listed y 8 ∈ allR I ls := by rw [allR_eq hI hv]; exact mem_ordL.2 ⟨y, hy, hmy, rfl⟩
  by_cases e : y = bitsL l
  · have : listed y 8 = l := by rw [e]; exact listed_bits (n := 8) hl8
    rw [this] at hyE
    exact h.2 l hyE
  · have hlt := sub_lt hy hlb hyl e
    rw [listed_bits (n := 8) hl8] at hlt
    right; left
    rcases h.2 _ hyE with e2 | h2
    · rw [← e2]; exact hlt
    · rcases h2 with h2 | ⟨h2, -⟩ <;> omega
theorem allR_srt {I : Nat} {ls : List (List Int)} (hI : I ≤ 8) : Srt (allR I ls) := sortL_srt (outL_nodup hI)
/-- The first of the smallest blames, as the program and the reference say it. -/
theorem best_eq {I : Nat} {ls : List (List Int)} (hI : I ≤ 8) (hv : ∀ l ∈ ls, isL (I : Int) 0 l = true) : bestO I ls = if (allR I ls).length = 0 then none else some (minL (allR I ls)) := by
  cases hb : bestO I ls with
  | none =>
    by_cases h0 : (allR I ls).length = 0
    · rw [if_pos h0]
    · exfalso
      have hne : allR I ls ≠ [] := fun e => h0 (by rw [e]; rfl)
      obtain ⟨⟨h1, h2⟩, -⟩ := least_tight hI hv (minL_least (allR_srt hI) hne)
      rw [bestO_no hb h1] at h2; cases h2
  | some r =>
    have hr := bestO_least hb
    by_cases h0 : (allR I ls).length = 0
    · exfalso
      have hl8 := isL_weak (below' := 8) (by omega) hr.1.1
      obtain ⟨y, hy, hmy, -⟩ := minB_below _ (bits8 hl8) hr.1.2
      have : listed y 8 ∈ allR I ls := by rw [allR_eq hI hv]; exact mem_ordL.2 ⟨y, hy, hmy, rfl⟩
      rw [List.eq_nil_of_length_eq_zero h0] at this; cases this
    · rw [if_neg h0]
      have hne : allR I ls ≠ [] := fun e => h0 (by rw [e]; rfl)
      exact congrArg some (least_uniq hr (least_tight hI hv (minL_least (allR_srt hI) hne)))
end Go.Proofs.YtnpilfpackdimaaGreat
/- Walks: Blame and Fewest. -/
namespace Go.Proofs.YtnpilfpackdimaaGreat
open Go.RowKit Go.Shelf
attribute [local go_sem] Oper.semAt_some
set_option maxRecDepth 100000 in
set_option maxHeartbeats 1600000 in
theorem blame_any (A : Option Addr) (n c : Nat) (ls : List (List Int)) (I : Int) (w : World) (hl : LiS w w.heap.size A n ls) (hn : n ≤ 1000000) (hw : ∀ l ∈ ls, l.length ≤ 1000000) :
    Calls Tryz.prog 18 #[.agg #[.int .i64 I, .slice A n c]] w fun e w' => ∃ A' m' c', e = .returned (.tuple #[.slice A' m' c', .int .i64 (bestE I ls)]) ∧ InS w' w'.heap.size A' m' (bestV I ls) ∧ Below w.heap.size w w' := by
  by_cases he : chkBook I ls = 0
  · obtain ⟨J, rfl⟩ : ∃ J : Nat, I = J := ⟨I.toNat, by have := (book_good he).1; omega⟩
    exact blame_ok A n c ls J w hl hn hw he
  · have HL := hid hl
    have HW := hid hw
    clear hl hw
    have hv : Hid (bestV I ls = []) := hid (if_pos he)
    have hve : Hid (bestE I ls = chkBook I ls) := hid (if_pos he)
    have HO := hid (fun w h => open_bad A none n c 0 0 ls [] I w h (lis_nil _ _) hn HW.out (by omega) (by simp) (by rw [openE_nil]; exact he))
    rw [openE_nil] at HO
    obtain ⟨ev, hev⟩ : ∃ ev, chkBook I ls = ev := ⟨_, rfl⟩
    rw [hev] at HO he hve
    have hbi : (ev != 0) = true := by simpa using he
    clear hev
    (refine (callsIn_wide (n := 9)).1 ?_; refine callsIn_of_wp_marks (F := Wd none) Tryz.func18 rfl trivial ?_ rfl; simp only [Tryz.ntmps18, List.size_toArray, List.length_cons, List.length_nil, Nat.reduceAdd, Nat.reduceSub, Array.replicate_succ, Array.replicate_zero, List.push_toArray, List.append_toArray, List.nil_append, List.cons_append])
    gi_wp2_with (fail)
    obtain ⟨W0, hW0⟩ : ∃ W0, (((w.alloc (.cells #[.int .i64 I, .slice A n c] 24)).alloc (.cells #[.slice none 0 0] 25)).alloc (.cells #[.int .i64 0] 28)) = W0 := ⟨_, rfl⟩
    have hba : Below w.heap.size w W0 := by rw [← hW0]; exact (by repeat' (first | with_reducible assumption | with_reducible exact Below.refl _ _ | refine Below.alloc ?_ ?_ _ | refine Below.setCell ?_ ?_ _ | refine Below.drew ?_ | refine below_drewN ?_ _ | (simp; done) | (simp; omega) | omega))
    have hz0 : W0.heap.size = w.heap.size + 1 + 1 + 1 := by rw [← hW0]; simp
    have B2 : Blk W0 (w.heap.size + 1) 25 #[.slice none 0 0] := by rw [← hW0]; exact (Blk.new' (by first | (simp; done) | (simp; omega) | omega)).alloc _
    have B3 : Blk W0 (w.heap.size + 1 + 1) 28 #[.int .i64 0] := by rw [← hW0]; exact Blk.new' (by first | (simp; done) | (simp; omega) | omega)
    rw [hW0] at ⊢
    clear hW0
    refine (calls_wd (HO.out _ (HL.out.below hba hba.size))).mono ?_
    rintro e W1 ⟨rfl, hb1⟩
    have hbw := hba.trans (hb1.mono hba.size)
    have hb12 : Below W1.heap.size W1 (W1.alloc (.cells #[.pointer none] 69)) := by exact (Below.refl _ _).alloc (Nat.le_refl _) _
    have hb02 := hb1.trans (hb12.mono hb1.size)
    have hbw2 := hba.trans (hb02.mono hba.size)
    replace B2 := B2.below hb02 B2.lt
    replace B3 := B3.below hb02 B3.lt
    obtain ⟨T2, hT2⟩ : ∃ T, w.heap.size + 1 = T := ⟨_, rfl⟩
    obtain ⟨T3, hT3⟩ : ∃ T, T2 + 1 = T := ⟨_, rfl⟩
    rw [hT2, hT3] at B3
    rw [hT2] at B2
    rw [hT2, hT3]
    have c2 := B2.cell 0
    have l2 := B2.lt
    have f2 := B2.frozen 0
    have c3 := B3.cell 0
    have l3 := B3.lt
    have f3 := B3.frozen 0
    have hT2e : T2 ≠ T3 := by omega
    have hB2 : Blk (((W1.alloc (.cells #[.pointer none] 69)).setCell ⟨T2, 0, none⟩ (.slice none 0 0)).setCell ⟨T3, 0, none⟩ (.int .i64 ev)) T2 25 #[.slice none 0 0] := (B2.set_ 0 _).far (by simp; omega) _
    have hB3 : Blk (((W1.alloc (.cells #[.pointer none] 69)).setCell ⟨T2, 0, none⟩ (.slice none 0 0)).setCell ⟨T3, 0, none⟩ (.int .i64 ev)) T3 28 #[.int .i64 ev] := (B3.far (by simp; omega) _).set_ 0 _
    have hbV : Below w.heap.size w (((W1.alloc (.cells #[.pointer none] 69)).setCell ⟨T2, 0, none⟩ (.slice none 0 0)).setCell ⟨T3, 0, none⟩ (.int .i64 ev)) := (hbw2.setCell (by simp; omega) _).setCell (by simp; omega) _
    have HbV := hid hbV
    have H4 := hid hB2
    have H5 := hid hB3
    clear hb1 hb02 hba hbw hbw2 hb12 B2 B3 hB2 hB3 hbV hz0
    gi_wp2
    refine leavesM_marks [] _ (by simp) (by simp) (fun w' ho => ⟨.tuple #[.slice none 0 0, .int .i64 ev], ?_, ?_⟩)
    · have e2 := (ho.cell ⟨T2, 0, none⟩).trans (H4.out.cell 0)
      have e3 := (ho.cell ⟨T3, 0, none⟩).trans (H5.out.cell 0)
      simp [results, Tryz.results18, go_sem, *]
    · exact ⟨none, 0, 0, by rw [hve.out], by rw [hv.out]; exact Sl.none_, ho.below HbV.out (by simp)⟩
def fewE (I : Int) (ls : List (List Int)) : Int := bestE I ls
def fewV (I : Int) (ls : List (List Int)) : Int := (bestV I ls).length
set_option maxRecDepth 100000 in
set_option maxHeartbeats 1600000 in
theorem fewest_any (A : Option Addr) (n c : Nat) (ls : List (List Int)) (I : Int) (w : World) (hl : LiS w w.heap.size A n ls) (hn : n ≤ 1000000) (hw : ∀ l ∈ ls, l.length ≤ 1000000) :
    Calls Tryz.prog 16 #[.agg #[.int .i64 I, .slice A n c]] w fun e w' => e = .returned (.tuple #[.int .i64 (fewV I ls), .int .i64 (fewE I ls)]) ∧ Below w.heap.size w w' := by
  have HL := hid hl
  have HB := hid (fun w h => blame_any A n c ls I w h hn hw)
  clear hl hw
  unfold fewV fewE
  go_enter Tryz.func16, Tryz.ntmps16
  go_wp2_with (fail)
  refine (HB.out _ (HL.out.below (by repeat' (first | with_reducible assumption | with_reducible exact Below.refl _ _ | refine Below.alloc ?_ ?_ _ | refine Below.setCell ?_ ?_ _ | refine Below.drew ?_ | refine below_drewN ?_ _ | (simp; done) | (simp; omega) | omega)) (by first | (simp; done) | (simp; omega) | omega))).mono ?_
  rintro e w1 ⟨A', m', c', rfl, hin, hb1⟩
  have hbel : Below w.heap.size w w1 := Below.trans (by repeat' (first | with_reducible assumption | with_reducible exact Below.refl _ _ | refine Below.alloc ?_ ?_ _ | refine Below.setCell ?_ ?_ _ | refine Below.drew ?_ | refine below_drewN ?_ _ | (simp; done) | (simp; omega) | omega)) (hb1.mono (by first | (simp; done) | (simp; omega) | omega))
  have hlen := hid hin.len
  clear hin hb1
  go_wp2
  refine bodyPost_ret (v := .tuple #[.int .i64 (m' : Int), .int .i64 (bestE I ls)]) (by first | (simp [results, Tryz.results16, go_sem]; done) | (simp [results, Tryz.results16, go_sem, *]; done) | (simp [results, Tryz.results16, go_sem, World.cell?_setCell_same', *]; done) | (simp [results, Tryz.results16, go_sem]; first | exact ⟨rfl, rfl⟩ | rfl)) rfl ⟨by rw [hlen.out], hbel⟩
end Go.Proofs.YtnpilfpackdimaaGreat
/- Plain law: what the program answers is what the reference answers. -/
namespace Go.Proofs.YtnpilfpackdimaaGreat
theorem book_nat {I : Int} {ls : List (List Int)} (h : chkBook I ls = 0) : ∃ J : Nat, I = J ∧ I.toNat = J ∧ 1 ≤ J ∧ J ≤ 8 ∧ ls.length ≤ 10 ∧ (∀ l ∈ ls, isL (J : Int) 0 l = true) ∧ ∀ l ∈ ls, isL 8 0 l = true := by
  obtain ⟨h1, h2, h3, h4⟩ := book_good h
  obtain ⟨J, rfl⟩ : ∃ J : Nat, I = J := ⟨I.toNat, by omega⟩
  exact ⟨J, rfl, by simp, by omega, by omega, h3, h4, book8 h⟩
theorem all_eq {I : Int} {ls : List (List Int)} (h : chkBook I ls = 0) : allP ls = allR I.toNat ls := by
  obtain ⟨J, rfl, hJ, -, hJ8, -, hv, hv8⟩ := book_nat h
  rw [hJ, allP_eq hv8, allR_eq hJ8 hv]
theorem allV_eq (I : Int) (ls : List (List Int)) : allV I ls = ralV I ls := by
  unfold allV ralV
  by_cases h : chkBook I ls = 0
  · have hn : ¬ (chkBook I ls ≠ 0) := fun e => e h
    rw [if_neg hn, if_neg hn, all_eq h]
  · rw [if_pos h, if_pos h]
theorem dualV_eq (I : Int) (ls : List (List Int)) : dualV I ls = ralV I ls := allV_eq I ls
theorem callE_eq (I : Int) (ls ss : List (List Int)) : callE I ls ss = rcaE I ls ss := by
  unfold callE rcaE
  by_cases h : lisE I ls ss = 0
  · have hn : ¬ (lisE I ls ss ≠ 0) := fun e => e h
    rw [if_neg hn, if_neg hn, all_eq (lisE_good h).1]
  · rw [if_pos h, if_pos h]
theorem forgB_eq (ss : List (List Int)) (l : List Int) : forgB ss l = !hldB ss l := rfl
theorem forO_eq {I : Int} {ls ss : List (List Int)} (h : chkBook I ls = 0) : forO ls ss = rfoO I ls ss := by
  unfold forO rfoO
  rw [all_eq h]; rfl
theorem forE_eq (I : Int) (ls ss : List (List Int)) : forE I ls ss = rfoE I ls ss := by
  unfold forE rfoE
  by_cases h : lisE I ls ss = 0
  · have hn : ¬ (lisE I ls ss ≠ 0) := fun e => e h
    rw [if_neg hn, if_neg hn, forO_eq (lisE_good h).1]
  · rw [if_pos h, if_pos h]
theorem forV_eq (I : Int) (ls ss : List (List Int)) : forV I ls ss = rfoV I ls ss := by
  unfold forV rfoV
  by_cases h : lisE I ls ss = 0
  · have hn : ¬ (lisE I ls ss ≠ 0) := fun e => e h
    rw [if_neg hn, if_neg hn, forO_eq (lisE_good h).1]
  · rw [if_pos h, if_pos h]
theorem kinE_eq (I : Int) (ls : List (List Int)) (inn : Int) : kinE I ls inn = rkE I ls inn := by
  unfold kinE rkE
  by_cases h : chkBook I ls = 0
  · have hn : ¬ (chkBook I ls ≠ 0) := fun e => e h
    rw [if_neg hn, if_neg hn, all_eq h]
  · rw [if_pos h, if_pos h]
theorem kinV_eq (I : Int) (ls : List (List Int)) (inn : Int) : kinV I ls inn = rkV I ls inn := by
  unfold kinV rkV kinN rkN
  by_cases h : chkBook I ls = 0
  · have hn : ¬ (chkBook I ls ≠ 0) := fun e => e h
    rw [if_neg hn, if_neg hn, all_eq h]
  · rw [if_pos h, if_pos h]
theorem coreV_eq (I : Int) (ls : List (List Int)) : coreV I ls = rcrV I ls := by
  unfold coreV rcrV
  by_cases h : chkBook I ls = 0
  · have hn : ¬ (chkBook I ls ≠ 0) := fun e => e h
    rw [if_neg hn, if_neg hn, core_eq (book8 h)]
  · rw [if_pos h, if_pos h]
theorem aprV_eq (I : Int) (ls : List (List Int)) : aprV I ls = rapV I ls := by
  unfold aprV rapV
  by_cases h : chkBook I ls = 0
  · have hn : ¬ (chkBook I ls ≠ 0) := fun e => e h
    rw [if_neg hn, if_neg hn, apart_eq (book8 h)]
  · rw [if_pos h, if_pos h]
theorem capE_eq (I : Int) (ls : List (List Int)) (hs : List Int) : capE I ls hs = rcpE I ls hs := by
  unfold capE rcpE
  by_cases h : chkBook I ls = 0
  · have hn : ¬ (chkBook I ls ≠ 0) := fun e => e h
    rw [if_neg hn, if_neg hn]
    cases hx : isL (ls.length : Int) 0 hs
    · rfl
    · rw [rapB_bits (book8 h) hx]
  · rw [if_pos h, if_pos h]
theorem bestE_eq (I : Int) (ls : List (List Int)) : bestE I ls = rblE I ls := by
  unfold bestE rblE
  by_cases h : chkBook I ls = 0
  · obtain ⟨J, rfl, hJ, -, hJ8, -, hv, hv8⟩ := book_nat h
    have hn : ¬ (chkBook (J : Int) ls ≠ 0) := fun e => e h
    rw [if_neg hn, if_neg hn, hJ, best_eq hJ8 hv]
    by_cases h0 : (allR J ls).length = 0
    · rw [if_pos h0, if_pos h0]; rfl
    · rw [if_neg h0, if_neg h0]; rfl
  · rw [if_pos h, if_pos h]
theorem bestV_eq (I : Int) (ls : List (List Int)) : bestV I ls = rblV I ls := by
  unfold bestV rblV
  by_cases h : chkBook I ls = 0
  · obtain ⟨J, rfl, hJ, -, hJ8, -, hv, hv8⟩ := book_nat h
    have hn : ¬ (chkBook (J : Int) ls ≠ 0) := fun e => e h
    rw [if_neg hn, if_neg hn, hJ, best_eq hJ8 hv]
    by_cases h0 : (allR J ls).length = 0
    · rw [if_pos h0, if_pos h0]; rfl
    · rw [if_neg h0, if_neg h0]; rfl
  · rw [if_pos h, if_pos h]
theorem tgt_sp {I : Int} {ls : List (List Int)} {s : List Int} (h : blmE I ls s = 0) : spO ls (bitsL s) = if 0 ≤ spR I.toNat ls (bitsL s) then some (spR I.toNat ls (bitsL s)) else none := by
  obtain ⟨ho, -⟩ := blmE_good h
  obtain ⟨hc, hall⟩ := openE_good ho
  obtain ⟨J, rfl, hJ, -, hJ8, -, hv, hv8⟩ := book_nat hc
  rw [hJ]
  exact spO_eq hJ8 (bitsL_lt (hall s (List.mem_singleton.2 rfl)))
theorem tgtE_eq (I : Int) (ls : List (List Int)) (s : List Int) : tgtE I ls s = rtgE I ls s := by
  unfold tgtE rtgE
  by_cases h : blmE I ls s = 0
  · have hn : ¬ (blmE I ls s ≠ 0) := fun e => e h
    rw [if_neg hn, if_neg hn, tgt_sp h]
    by_cases h0 : 0 ≤ spR I.toNat ls (bitsL s)
    · rw [if_pos h0, if_pos h0]; rfl
    · rw [if_neg h0, if_neg h0]; rfl
  · rw [if_pos h, if_pos h]
theorem tgtV_eq (I : Int) (ls : List (List Int)) (s : List Int) : tgtV I ls s = rtgV I ls s := by
  unfold tgtV rtgV
  by_cases h : blmE I ls s = 0
  · have hn : ¬ (blmE I ls s ≠ 0) := fun e => e h
    rw [if_neg hn, if_neg hn, tgt_sp h]
    by_cases h0 : 0 ≤ spR I.toNat ls (bitsL s)
    · rw [if_pos h0, if_pos h0]; rfl
    · rw [if_neg h0, if_neg h0]; rfl
  · rw [if_pos h, if_pos h]
end Go.Proofs.YtnpilfpackdimaaGreat
/- The examples' numbers, by the kernel. -/
namespace Go.Proofs.YtnpilfpackdimaaGreat
def bB : List (List Int) := [[0, 1], [1, 2], [2, 3], [0, 3]]
def bC : List (List Int) := [[2], [0, 1, 2], [1, 3]]
def bD : List (List Int) := [[], [0]]
set_option maxRecDepth 100000 in
theorem kA : blmV 5 [[0, 1], [1, 2], [2, 3], [0, 3]] [0, 1, 3] = 3 ∧ blmE 5 [[0, 1], [1, 2], [2, 3], [0, 3]] [0, 1, 3] = 0 ∧ blmV 5 [[0, 1], [1, 2], [2, 3], [0, 3]] [0, 1] = 2 ∧ blmE 5 [[0, 1], [1, 2], [2, 3], [0, 3]] [0, 1] = 21 ∧ blmV 5 [[0, 1], [1, 2], [2, 3], [0, 3]] [5] = 0 ∧ blmE 5 [[0, 1], [1, 2], [2, 3], [0, 3]] [5] = 3 := by decide +kernel
set_option maxRecDepth 100000 in
theorem kB : tgtV 5 [[0, 1], [1, 2], [2, 3], [0, 3]] [0, 2] = 2 ∧ tgtE 5 [[0, 1], [1, 2], [2, 3], [0, 3]] [0, 2] = 0 ∧ tgtV 5 [[0, 1], [1, 2], [2, 3], [0, 3]] [0, 1, 3] = 0 ∧ tgtE 5 [[0, 1], [1, 2], [2, 3], [0, 3]] [0, 1, 3] = 16 ∧ tgtV 2 [[], [0]] [0, 1] = 0 ∧ tgtE 2 [[], [0]] [0, 1] = 21 := by decide +kernel
set_option maxRecDepth 100000 in
theorem kC : fewV 5 [[0, 1], [1, 2], [2, 3], [0, 3]] = 2 ∧ fewE 5 [[0, 1], [1, 2], [2, 3], [0, 3]] = 0 ∧ fewV 2 [[], [0]] = 0 ∧ fewE 2 [[], [0]] = 21 ∧ bestV 4 [[2], [0, 1, 2], [1, 3]] = [1, 2] ∧ bestE 4 [[2], [0, 1, 2], [1, 3]] = 0 := by decide +kernel
set_option maxRecDepth 100000 in
theorem kD : aprV 5 [[0, 1], [1, 2], [2, 3], [0, 3]] = [0, 2] ∧ chkBook 5 [[0, 1], [1, 2], [2, 3], [0, 3]] = 0 ∧ capE 5 [[0, 1], [1, 2], [2, 3], [0, 3]] [0, 1] = 16 ∧ capE 5 [[0, 1], [1, 2], [2, 3], [0, 3]] [2, 0] = 3 ∧ tigV 4 [[2], [0, 1, 2], [1, 3]] [0, 1, 2, 3] = [1, 2] ∧ blmE 4 [[2], [0, 1, 2], [1, 3]] [0, 1, 2, 3] = 0 ∧ chkBook 4 [[2], [0, 1, 2], [1, 3]] = 0 := by decide +kernel
set_option maxRecDepth 100000 in
theorem kE : allV 4 [[2], [0, 1, 2], [1, 3]] = [[1, 2], [2, 3]] ∧ allV 5 [[0, 1], [1, 2], [2, 3], [0, 3]] = [[0, 2], [1, 3]] ∧ coreV 4 [[2], [0, 1, 2], [1, 3]] = [[1, 3], [2]] := by decide +kernel
set_option maxRecDepth 100000 in
theorem kF : callE 5 [[0, 1], [1, 2], [2, 3], [0, 3]] [[0, 2], [1, 3]] = 0 ∧ callE 5 [[0, 1], [1, 2], [2, 3], [0, 3]] [[0, 2]] = 14 ∧ forV 5 [[0, 1], [1, 2], [2, 3], [0, 3]] [[0, 2]] = [1, 3] ∧ forE 5 [[0, 1], [1, 2], [2, 3], [0, 3]] [[0, 2]] = 0 ∧ forE 5 [[0, 1], [1, 2], [2, 3], [0, 3]] [[0], [1]] = 5 ∧ forV 5 [[0, 1], [1, 2], [2, 3], [0, 3]] [[0], [1]] = [] := by decide +kernel
set_option maxRecDepth 100000 in
theorem kG : kinV 4 [[2], [0, 1, 2], [1, 3]] 2 = 2 ∧ kinE 4 [[2], [0, 1, 2], [1, 3]] 2 = 0 ∧ kinV 4 [[2], [0, 1, 2], [1, 3]] 4 = 0 ∧ kinE 4 [[2], [0, 1, 2], [1, 3]] 4 = 2 ∧ dualV 5 [[0, 1], [1, 2], [2, 3], [0, 3]] = [[0, 2], [1, 3]] ∧ coreI 4 [[2], [0, 1, 2], [1, 3]] = 4 ∧ coreI 5 [[0, 1], [1, 2], [2, 3], [0, 3]] = 5 := by decide +kernel
end Go.Proofs.YtnpilfpackdimaaGreat
/- Walks (law): of, wide, great, Lists, Same, fine, set. -/
namespace Go.Proofs.YtnpilfpackdimaaGreat
open Go.RowKit Go.Shelf
attribute [local go_sem] Oper.semAt_some
theorem of_any (v : Value) (w : World) : Calls Tryz.prog 53 #[v] w fun e w' => e = .returned v ∧ w = w' := by
  go_enter Tryz.func53, Tryz.ntmps53
  go_wp2
  refine bodyPost_ret (v := v) (by first | (simp [results, Tryz.results53, go_sem]; done) | (simp [results, Tryz.results53, go_sem, *]; done) | (simp [results, Tryz.results53, go_sem, World.cell?_setCell_same', *]; done) | (simp [results, Tryz.results53, go_sem]; first | exact ⟨rfl, rfl⟩ | rfl)) rfl ⟨rfl, rfl⟩
def wideL (l : List (List Int)) : Bool := decide (90 < l.length) || !(l.all fun x => decide (x.length ≤ 12))
def greatL (l : List (List Int)) : Bool := decide (14 < l.length) || wideL l
def fineB (I : Int) (l : List (List Int)) : Bool := !greatL l && chkBook I l == 0
theorem wide_off {l : List (List Int)} (h : wideL l = false) : l.length ≤ 90 ∧ ∀ x ∈ l, x.length ≤ 12 := by
  unfold wideL at h
  rw [Bool.or_eq_false_iff] at h
  obtain ⟨h1, h2⟩ := h
  refine ⟨by have := of_decide_eq_false h1; omega, fun x hx => ?_⟩
  have h3 : (l.all fun x => decide (x.length ≤ 12)) = true := by simpa using h2
  exact of_decide_eq_true (List.all_eq_true.1 h3 x hx)
theorem great_off {l : List (List Int)} (h : greatL l = false) : l.length ≤ 14 ∧ ∀ x ∈ l, x.length ≤ 12 := by
  unfold greatL at h
  rw [Bool.or_eq_false_iff] at h
  exact ⟨by have := of_decide_eq_false h.1; omega, (wide_off h.2).2⟩
theorem fineB_t {I : Int} {l : List (List Int)} : fineB I l = true ↔ greatL l = false ∧ chkBook I l = 0 := by
  unfold fineB; rw [Bool.and_eq_true, Bool.not_eq_true', beq_iff_eq]
set_option maxRecDepth 10000 in
set_option maxHeartbeats 1600000 in
theorem wide_any (A : Option Addr) (n c : Nat) (l : List (List Int)) (w : World) (hl : LiS w w.heap.size A n l) :
    Calls Tryz.prog 25 #[.slice A n c] w fun e w' => e = .returned (.bool (wideL l)) ∧ Below w.heap.size w w' := by
  have HL := hid hl
  have la := hid hl.1
  clear hl
  by_cases hn : 90 < n
  · have hni : ((90 : Int) < (n : Int)) := by omega
    have hf : Hid (wideL l = true) := hid (by unfold wideL; rw [la.out, decide_eq_true hn]; rfl)
    go_enter Tryz.func25, Tryz.ntmps25
    go_wp2
    refine bodyPost_ret (v := .bool true) (by first | (simp [results, Tryz.results25, go_sem]; done) | (simp [results, Tryz.results25, go_sem, *]; done) | (simp [results, Tryz.results25, go_sem, World.cell?_setCell_same', *]; done) | (simp [results, Tryz.results25, go_sem]; first | exact ⟨rfl, rfl⟩ | rfl)) rfl ⟨by rw [hf.out], Below.refl _ _⟩
  · have hni : ¬ ((90 : Int) < (n : Int)) := by omega
    have hf : Hid (wideL l = !(l.all fun x => decide (x.length ≤ 12))) := hid (by unfold wideL; rw [la.out, decide_eq_false hn]; rfl)
    go_enter Tryz.func25, Tryz.ntmps25
    go_wp2_with (fail)
    go_loopw [3, 4] (fun v i wr => ∃ k mx : Nat, k ≤ n ∧ v = .int .i64 mx ∧ i = .int .i64 k ∧ Hid (decide (12 < mx) = !((l.take k).all fun x => decide (x.length ≤ 12))) ∧ w = wr) (fun _ i _ => n - (intOf i).toNat)
    case atStart => exact ⟨0, 0, by omega, rfl, rfl, hid (by simp), rfl⟩
    case round =>
      obtain ⟨k, mx, hk, rfl, rfl, hall, rfl⟩ := hrel
      by_cases hlt : k < n
      · obtain ⟨b1, o1, x, A1, m1, c1, rfl, hb1, hx, d1, hinx⟩ := HL.out.at_ hlt
        have hxl : Hid (x.length = m1) := hid hinx.len
        have hst : Hid (((l.take (k + 1)).all fun x => decide (x.length ≤ 12)) = (((l.take k).all fun x => decide (x.length ≤ 12)) && decide (m1 ≤ 12))) := hid (by rw [List.take_add_one, hx, List.all_append, ← hxl.out]; simp)
        have hlti : (k : Int) < n := by omega
        clear hx hinx
        have hnx : Hid (decide (12 < max mx m1) = !((l.take (k + 1)).all fun x => decide (x.length ≤ 12))) := hid (by
          rw [hst.out, Bool.not_and, ← hall.out]
          by_cases h1 : 12 < mx <;> by_cases h2 : m1 ≤ 12 <;> simp [h1, h2] <;> omega)
        go_wp2
        exact ⟨⟨k + 1, max mx m1, by omega, by congr 1; omega, by go_num, hnx, trivial⟩, by simp [intOf]; omega⟩
      · obtain rfl : n = k := by omega
        have hall2 := hall.out
        rw [List.take_of_length_le (by rw [la.out]; exact Nat.le_refl _)] at hall2
        have hf2 := hid (hf.out.trans hall2.symm)
        clear hall2
        by_cases h12 : 12 < mx
        · have h12i : ((12 : Int) < (mx : Int)) := by omega
          have hf3 := hid (hf2.out.trans (decide_eq_true h12))
          go_wp2
          refine bodyPost_ret (v := .bool true) (by first | (simp [results, Tryz.results25, go_sem]; done) | (simp [results, Tryz.results25, go_sem, *]; done) | (simp [results, Tryz.results25, go_sem, World.cell?_setCell_same', *]; done) | (simp [results, Tryz.results25, go_sem]; first | exact ⟨rfl, rfl⟩ | rfl)) rfl ⟨by rw [hf3.out], Below.refl _ _⟩
        · have h12i : ¬ ((12 : Int) < (mx : Int)) := by omega
          have hf3 := hid (hf2.out.trans (decide_eq_false h12))
          go_wp2
          refine bodyPost_ret (v := .bool false) (by first | (simp [results, Tryz.results25, go_sem]; done) | (simp [results, Tryz.results25, go_sem, *]; done) | (simp [results, Tryz.results25, go_sem, World.cell?_setCell_same', *]; done) | (simp [results, Tryz.results25, go_sem]; first | exact ⟨rfl, rfl⟩ | rfl)) rfl ⟨by rw [hf3.out], Below.refl _ _⟩
set_option maxRecDepth 10000 in
set_option maxHeartbeats 1600000 in
theorem great_any (A : Option Addr) (n c : Nat) (l : List (List Int)) (I : Int) (w : World) (hl : LiS w w.heap.size A n l) :
    Calls Tryz.prog 14 #[.agg #[.int .i64 I, .slice A n c]] w fun e w' => e = .returned (.bool (greatL l)) ∧ Below w.heap.size w w' := by
  have HL := hid hl
  have la := hid hl.1
  have hb0 : Below w.heap.size w (w.alloc (.cells #[.int .i64 I, .slice A n c] 24)) := (Below.refl _ _).alloc (Nat.le_refl _) _
  clear hl
  by_cases hn : 14 < n
  · have hni : ((14 : Int) < (n : Int)) := by omega
    have hf : Hid (greatL l = true) := hid (by unfold greatL; rw [la.out, decide_eq_true hn]; rfl)
    go_enter Tryz.func14, Tryz.ntmps14
    go_wp2
    refine bodyPost_ret (v := .bool true) (by first | (simp [results, Tryz.results14, go_sem]; done) | (simp [results, Tryz.results14, go_sem, *]; done) | (simp [results, Tryz.results14, go_sem, World.cell?_setCell_same', *]; done) | (simp [results, Tryz.results14, go_sem]; first | exact ⟨rfl, rfl⟩ | rfl)) rfl ⟨by rw [hf.out], hb0⟩
  · have hni : ¬ ((14 : Int) < (n : Int)) := by omega
    have hf : Hid (greatL l = wideL l) := hid (by unfold greatL; rw [la.out, decide_eq_false hn]; rfl)
    have hwd := wide_any A n c l _ (HL.out.below hb0 hb0.size)
    obtain ⟨bv, hbv⟩ : ∃ bv, wideL l = bv := ⟨_, rfl⟩
    rw [hbv] at hwd hf
    have Hwd := hid hwd
    clear hbv hwd
    go_enter Tryz.func14, Tryz.ntmps14
    go_wp2_with (go_at_call 25; refine Hwd.out.mono ?_; rintro e w1 ⟨rfl, hb1⟩)
    have hbel : Below w.heap.size w w1 := Below.trans (by repeat' (first | with_reducible assumption | with_reducible exact Below.refl _ _ | refine Below.alloc ?_ ?_ _ | refine Below.setCell ?_ ?_ _ | refine Below.drew ?_ | refine below_drewN ?_ _ | (simp; done) | (simp; omega) | omega)) (hb1.mono (by first | (simp; done) | (simp; omega) | omega))
    refine bodyPost_ret (v := .bool bv) (by first | (simp [results, Tryz.results14, go_sem]; done) | (simp [results, Tryz.results14, go_sem, *]; done) | (simp [results, Tryz.results14, go_sem, World.cell?_setCell_same', *]; done) | (simp [results, Tryz.results14, go_sem]; first | exact ⟨rfl, rfl⟩ | rfl)) rfl ⟨by rw [hf.out], hbel⟩
def eqLs (a b : List (List Int)) : Bool := decide (a = b)
theorem eqLs_t {a b : List (List Int)} : eqLs a b = true ↔ a = b := by simp [eqLs]
set_option maxRecDepth 10000 in
set_option maxHeartbeats 1600000 in
theorem lists_any (A B : Option Addr) (n c m d : Nat) (a b : List (List Int)) (w : World) (ha : LiS w w.heap.size A n a) (hb : LiS w w.heap.size B m b) (hw : ∀ l ∈ a, l.length ≤ 1000000) (hn : n ≤ 1000000) :
    Calls Tryz.prog 32 #[.slice A n c, .slice B m d] w fun e w' => e = .returned (.bool (eqLs a b)) ∧ Below w.heap.size w w' := by
  have la := hid ha.1
  have lb := hid hb.1
  have HA := hid ha
  have HB := hid hb
  have HW := hid hw
  clear ha hb hw
  by_cases hnm : n = m
  · subst hnm
    have t0 : ((n : Int) != (n : Int)) = false := by simp
    go_enter Tryz.func32, Tryz.ntmps32
    go_wp2
    go_loopw [5] (fun i wr => ∃ k : Nat, k ≤ n ∧ i = .int .i64 k ∧ Hid (a.take k = b.take k) ∧ Below w.heap.size w wr) (fun i _ => n - (intOf i).toNat)
    case atStart => exact ⟨0, by omega, rfl, by simp [Hid], Below.refl _ _⟩
    case round =>
      obtain ⟨k, hk, rfl, heq, hbw⟩ := hrel
      have hszw := hbw.size
      by_cases hlt : k < n
      · obtain ⟨b1, o1, x, A3, m3, c3, rfl, hb1, hx, q0, hin3⟩ := (HA.out.below hbw hszw).at_ hlt
        obtain ⟨b2, o2, y, A4, m4, c4, rfl, hb2, hy, r0, hin4⟩ := (HB.out.below hbw hszw).at_ hlt
        have hlti : (k : Int) < n := by omega
        have hxl : m3 ≤ 1000000 := by have := HW.out x (List.mem_of_getElem? hx); have := hin3.len; omega
        have Hx := hid hx
        have Hy := hid hy
        have Hin3 := hid hin3
        have Hin4 := hid hin4
        have hcs := hid (fun W h h2 => ints_any W A3 A4 m3 c3 m4 c4 x y h h2 hxl)
        have hb1r : b1 < wr.heap.size := by omega
        have hb2r : b2 < wr.heap.size := by omega
        clear hx hy hin3 hin4
        cases hq : eqI x y
        · have hxy : x ≠ y := fun e => by rw [eqI_t.2 e] at hq; cases hq
          have hne : a ≠ b := ne_of_at Hx.out Hy.out hxy
          have Hf : Hid (eqLs a b = false) := hid (by unfold eqLs; exact decide_eq_false hne)
          rw [hq] at hcs
          clear hq hxy hne
          go_wp2
          refine wp_region_hd_all (fun W => Below wr.heap.size wr W) (by kernel_rfl) (by kernel_rfl) ((Below.refl _ _).drew) ?_
          iterate 8 (refine wpHd_val (v := ?_) (by rfl) (fun W hW => ?_) ?_; rotate_left; (· obtain ⟨hcW, hfW⟩ := bcell hW; go_simp; with_reducible rfl); simp only [Act.put, List.setIfInBounds_toArray, List.set_cons_zero, List.set_cons_succ])
          (refine wpHd_callB (by rfl) (fun W hW => (hcs.out W (Hin3.out.below hW hW.size) (Hin4.out.below hW hW.size))) (fun W hW => ?_) ?_; (· obtain ⟨hcW, hfW⟩ := bcell hW; go_simp); simp only [Act.put, List.setIfInBounds_toArray, List.set_cons_zero, List.set_cons_succ])
          (refine wpHd_val (v := ?_) (by rfl) (fun W hW => ?_) ?_; rotate_left; (· obtain ⟨hcW, hfW⟩ := bcell hW; go_simp; with_reducible rfl); simp only [Act.put, List.setIfInBounds_toArray, List.set_cons_zero, List.set_cons_succ])
          refine wpHd_nil ?_
          intro W9 hW9
          have hbw9 := hbw.trans (hW9.mono hszw)
          clear q0 r0
          go_wp2
          refine bodyPost_ret (v := .bool false) (by first | (simp [results, Tryz.results32, go_sem]; done) | (simp [results, Tryz.results32, go_sem, *]; done) | (simp [results, Tryz.results32, go_sem, World.cell?_setCell_same', *]; done) | (simp [results, Tryz.results32, go_sem]; first | exact ⟨rfl, rfl⟩ | rfl)) rfl ⟨by rw [Hf.out], hbw9⟩
        · have hxy : x = y := eqI_t.1 hq
          have Hs := hid (take_eq_succ heq.out Hx.out (by rw [Hy.out, hxy]))
          rw [hq] at hcs
          clear hq hxy
          go_wp2
          refine wp_region_hd_all (fun W => Below wr.heap.size wr W) (by kernel_rfl) (by kernel_rfl) ((Below.refl _ _).drew) ?_
          iterate 8 (refine wpHd_val (v := ?_) (by rfl) (fun W hW => ?_) ?_; rotate_left; (· obtain ⟨hcW, hfW⟩ := bcell hW; go_simp; with_reducible rfl); simp only [Act.put, List.setIfInBounds_toArray, List.set_cons_zero, List.set_cons_succ])
          (refine wpHd_callB (by rfl) (fun W hW => (hcs.out W (Hin3.out.below hW hW.size) (Hin4.out.below hW hW.size))) (fun W hW => ?_) ?_; (· obtain ⟨hcW, hfW⟩ := bcell hW; go_simp); simp only [Act.put, List.setIfInBounds_toArray, List.set_cons_zero, List.set_cons_succ])
          (refine wpHd_val (v := ?_) (by rfl) (fun W hW => ?_) ?_; rotate_left; (· obtain ⟨hcW, hfW⟩ := bcell hW; go_simp; with_reducible rfl); simp only [Act.put, List.setIfInBounds_toArray, List.set_cons_zero, List.set_cons_succ])
          refine wpHd_nil ?_
          intro W9 hW9
          have hbw9 := hbw.trans (hW9.mono hszw)
          clear q0 r0
          go_wp2
          exact ⟨⟨k + 1, by omega, by go_num, Hs, hbw9⟩, by simp [intOf]; omega⟩
      · obtain rfl : k = n := by omega
        have Hf : Hid (eqLs a b = true) := hid (by
          have h := heq.out
          rw [List.take_of_length_le (by rw [la.out]; exact Nat.le_refl _), List.take_of_length_le (by rw [lb.out]; exact Nat.le_refl _)] at h
          exact eqLs_t.2 h)
        go_wp2
        refine bodyPost_ret (v := .bool true) (by first | (simp [results, Tryz.results32, go_sem]; done) | (simp [results, Tryz.results32, go_sem, *]; done) | (simp [results, Tryz.results32, go_sem, World.cell?_setCell_same', *]; done) | (simp [results, Tryz.results32, go_sem]; first | exact ⟨rfl, rfl⟩ | rfl)) rfl ⟨by rw [Hf.out], hbw⟩
  · have hne : a ≠ b := fun e => hnm (by rw [← la.out, ← lb.out, e])
    have Hf : Hid (eqLs a b = false) := hid (decide_eq_false hne)
    have t0 : ((n : Int) != (m : Int)) = true := by simp; omega
    clear hne
    go_enter Tryz.func32, Tryz.ntmps32
    go_wp2
    refine bodyPost_ret (v := .bool false) (by first | (simp [results, Tryz.results32, go_sem]; done) | (simp [results, Tryz.results32, go_sem, *]; done) | (simp [results, Tryz.results32, go_sem, World.cell?_setCell_same', *]; done) | (simp [results, Tryz.results32, go_sem]; first | exact ⟨rfl, rfl⟩ | rfl)) rfl ⟨by rw [Hf.out], Below.refl _ _⟩
set_option maxRecDepth 10000 in
set_option maxHeartbeats 1600000 in
theorem sameB_any (A B : Option Addr) (n c m d : Nat) (a b : List (List Int)) (I J : Int) (w : World) (ha : LiS w w.heap.size A n a) (hb : LiS w w.heap.size B m b) (hw : ∀ l ∈ a, l.length ≤ 1000000) (hn : n ≤ 1000000) :
    Calls Tryz.prog 39 #[.agg #[.int .i64 I, .slice A n c], .agg #[.int .i64 J, .slice B m d]] w fun e w' => e = .returned (.bool (decide (I = J) && eqLs a b)) ∧ Below w.heap.size w w' := by
  have HA := hid ha
  have HB := hid hb
  have hbl : Below w.heap.size w ((w.alloc (.cells #[.int .i64 I, .slice A n c] 24)).alloc (.cells #[.int .i64 J, .slice B m d] 24)) := (by repeat' (first | with_reducible assumption | with_reducible exact Below.refl _ _ | refine Below.alloc ?_ ?_ _ | refine Below.setCell ?_ ?_ _ | refine Below.drew ?_ | refine below_drewN ?_ _ | (simp; done) | (simp; omega) | omega))
  have hcl := hid (lists_any A B n c m d a b _ (HA.out.below hbl hbl.size) (HB.out.below hbl hbl.size) hw hn)
  clear ha hb hw
  by_cases hI : I = J
  · have hIb : (I == J) = true := by simpa using hI
    obtain ⟨bv, hbv⟩ : ∃ bv, eqLs a b = bv := ⟨_, rfl⟩
    rw [hbv] at hcl ⊢
    rw [decide_eq_true hI, Bool.true_and]
    clear hbv hI
    go_enter Tryz.func39, Tryz.ntmps39
    go_wp2_with (go_at_call 32; refine hcl.out.mono ?_; rintro e w1 ⟨rfl, hb1⟩)
    have hbel : Below w.heap.size w w1 := Below.trans (by repeat' (first | with_reducible assumption | with_reducible exact Below.refl _ _ | refine Below.alloc ?_ ?_ _ | refine Below.setCell ?_ ?_ _ | refine Below.drew ?_ | refine below_drewN ?_ _ | (simp; done) | (simp; omega) | omega)) (hb1.mono (by first | (simp; done) | (simp; omega) | omega))
    refine bodyPost_ret (v := .bool bv) (by first | (simp [results, Tryz.results39, go_sem]; done) | (simp [results, Tryz.results39, go_sem, *]; done) | (simp [results, Tryz.results39, go_sem, World.cell?_setCell_same', *]; done) | (simp [results, Tryz.results39, go_sem]; first | exact ⟨rfl, rfl⟩ | rfl)) rfl ⟨rfl, hbel⟩
  · have hIb : (I == J) = false := by simpa using hI
    rw [decide_eq_false hI, Bool.false_and]
    go_enter Tryz.func39, Tryz.ntmps39
    go_wp2
    refine bodyPost_ret (v := .bool false) (by first | (simp [results, Tryz.results39, go_sem]; done) | (simp [results, Tryz.results39, go_sem, *]; done) | (simp [results, Tryz.results39, go_sem, World.cell?_setCell_same', *]; done) | (simp [results, Tryz.results39, go_sem]; first | exact ⟨rfl, rfl⟩ | rfl)) rfl ⟨rfl, hbl⟩
set_option maxRecDepth 10000 in
set_option maxHeartbeats 1600000 in
theorem fine_any (A : Option Addr) (n c : Nat) (l : List (List Int)) (I : Int) (w : World) (hl : LiS w w.heap.size A n l) :
    Calls Tryz.prog 40 #[.agg #[.int .i64 I, .slice A n c]] w fun e w' => e = .returned (.bool (fineB I l)) ∧ Below w.heap.size w w' := by
  have HL := hid hl
  have la := hid hl.1
  have hb0 : Below w.heap.size w (w.alloc (.cells #[.int .i64 I, .slice A n c] 24)) := (Below.refl _ _).alloc (Nat.le_refl _) _
  have hgr := great_any A n c l I _ (HL.out.below hb0 hb0.size)
  clear hl
  cases hg : greatL l
  · obtain ⟨k1, k2⟩ := great_off hg
    rw [la.out] at k1
    have hck := hid (fun W h => rcheckBook_any A n c l I W h (by omega) (fun x hx => by have := k2 x hx; omega))
    have hf : Hid (fineB I l = (chkBook I l == 0)) := hid (by unfold fineB; rw [hg]; rfl)
    rw [hg] at hgr
    obtain ⟨cv, hcv⟩ : ∃ cv, chkBook I l = cv := ⟨_, rfl⟩
    rw [hcv] at hck hf
    have Hgr := hid hgr
    clear hg hcv hgr k2
    go_enter Tryz.func40, Tryz.ntmps40
    go_wp2_with (first | (go_at_call 14; refine Hgr.out.mono ?_; rintro e w1 ⟨rfl, hb1⟩; have hbel : Below w.heap.size w w1 := Below.trans (by repeat' (first | with_reducible assumption | with_reducible exact Below.refl _ _ | refine Below.alloc ?_ ?_ _ | refine Below.setCell ?_ ?_ _ | refine Below.drew ?_ | refine below_drewN ?_ _ | (simp; done) | (simp; omega) | omega)) (hb1.mono (by first | (simp; done) | (simp; omega) | omega)); have c0 : w1.cell? ⟨w.heap.size, 0, none⟩ = some (.int .i64 I) := (hb1.cell (p := ⟨w.heap.size, 0, none⟩) (by first | (simp; done) | (simp; omega) | omega)).trans (by go_simp); have c1 : w1.cell? ⟨w.heap.size, 1, none⟩ = some (.slice A n c) := (hb1.cell (p := ⟨w.heap.size, 1, none⟩) (by first | (simp; done) | (simp; omega) | omega)).trans (by go_simp); have hq0 : w.heap.size < w1.heap.size := (by have := hb1.size; simp at this; omega)) | (go_at_call 63; refine (hck.out _ (HL.out.below hbel hbel.size)).mono ?_; rintro e w2 ⟨rfl, hb2⟩))
    refine bodyPost_ret (v := .bool (cv == 0)) (by first | (simp [results, Tryz.results40, go_sem]; done) | (simp [results, Tryz.results40, go_sem, *]; done) | (simp [results, Tryz.results40, go_sem, World.cell?_setCell_same', *]; done) | (simp [results, Tryz.results40, go_sem]; first | exact ⟨rfl, rfl⟩ | rfl)) rfl ⟨by rw [hf.out], hbel.trans (hb2.mono hbel.size)⟩
  · have hf : Hid (fineB I l = false) := hid (by unfold fineB; rw [hg]; rfl)
    rw [hg] at hgr
    have Hgr := hid hgr
    clear hg hgr
    go_enter Tryz.func40, Tryz.ntmps40
    go_wp2_with (go_at_call 14; refine Hgr.out.mono ?_; rintro e w1 ⟨rfl, hb1⟩)
    have hbel : Below w.heap.size w w1 := Below.trans (by repeat' (first | with_reducible assumption | with_reducible exact Below.refl _ _ | refine Below.alloc ?_ ?_ _ | refine Below.setCell ?_ ?_ _ | refine Below.drew ?_ | refine below_drewN ?_ _ | (simp; done) | (simp; omega) | omega)) (hb1.mono (by first | (simp; done) | (simp; omega) | omega))
    refine bodyPost_ret (v := .bool false) (by first | (simp [results, Tryz.results40, go_sem]; done) | (simp [results, Tryz.results40, go_sem, *]; done) | (simp [results, Tryz.results40, go_sem, World.cell?_setCell_same', *]; done) | (simp [results, Tryz.results40, go_sem]; first | exact ⟨rfl, rfl⟩ | rfl)) rfl ⟨by rw [hf.out], hbel⟩
set_option maxRecDepth 10000 in
set_option maxHeartbeats 1600000 in
theorem set_any (A : Option Addr) (n c : Nat) (I b : Nat) (w : World) (hI : I ≤ 16) (hb : b < 256) :
    Calls Tryz.prog 44 #[.agg #[.int .i64 (I : Int), .slice A n c], .int .u8 (b : Int)] w fun e w' => ∃ v, e = .returned v ∧ w'.ownsRow w.heap.size 3 1 v (listed b I).length ((listed b I).flatMap cI) ∧ Below w.heap.size w w' := by
  have hb0 : Below w.heap.size w (w.alloc (.cells #[.int .i64 (I : Int), .slice A n c] 24)) := (Below.refl _ _).alloc (Nat.le_refl _) _
  have hz : IntKind.i64.wrap (b : Int) = (b : Int) := by rw [IntKind.wrap_i64]; omega
  go_enter Tryz.func44, Tryz.ntmps44
  go_wp2_with (go_at_call 42; refine (rlisted_any b I _ hI (by omega)).mono ?_; rintro e w1 ⟨v, rfl, ho, hb1⟩)
  have hbel : Below w.heap.size w w1 := Below.trans (by repeat' (first | with_reducible assumption | with_reducible exact Below.refl _ _ | refine Below.alloc ?_ ?_ _ | refine Below.setCell ?_ ?_ _ | refine Below.drew ?_ | refine below_drewN ?_ _ | (simp; done) | (simp; omega) | omega)) (hb1.mono (by first | (simp; done) | (simp; omega) | omega))
  refine bodyPost_ret (v := v) (by first | (simp [results, Tryz.results44, go_sem]; done) | (simp [results, Tryz.results44, go_sem, *]; done) | (simp [results, Tryz.results44, go_sem, World.cell?_setCell_same', *]; done) | (simp [results, Tryz.results44, go_sem]; first | exact ⟨rfl, rfl⟩ | rfl)) rfl ⟨v, rfl, owns_mono ho (by simp), hbel⟩
end Go.Proofs.YtnpilfpackdimaaGreat
/- Walks (law): Book, and the books of the examples. -/
namespace Go.Proofs.YtnpilfpackdimaaGreat
open Go.RowKit Go.Shelf
attribute [local go_sem] Oper.semAt_some
set_option maxRecDepth 10000 in
theorem book_any (I : Int) (A : Option Addr) (n c : Nat) (w : World) : Calls Tryz.prog 58 #[.int .i64 I, .slice A n c] w fun e w' => e = .returned (.agg #[.int .i64 I, .slice A n c]) ∧ Below w.heap.size w w' := by
  go_enter Tryz.func58, Tryz.ntmps58
  go_wp2
  refine bodyPost_ret (v := .agg #[.int .i64 I, .slice A n c]) (by first | (simp [results, Tryz.results58, go_sem]; done) | (simp [results, Tryz.results58, go_sem, *]; done) | (simp [results, Tryz.results58, go_sem, World.cell?_setCell_same', *]; done) | (simp [results, Tryz.results58, go_sem]; first | exact ⟨rfl, rfl⟩ | rfl)) rfl ⟨rfl, (by repeat' (first | with_reducible assumption | with_reducible exact Below.refl _ _ | refine Below.alloc ?_ ?_ _ | refine Below.setCell ?_ ?_ _ | refine Below.drew ?_ | refine below_drewN ?_ _ | (simp; done) | (simp; omega) | omega))⟩
set_option maxRecDepth 10000 in
set_option maxHeartbeats 1600000 in
theorem none_any (w : World) : Calls Tryz.prog 57 #[] w fun e w' => ∃ A c, e = .returned (.agg #[.int .i64 2, .slice A 2 c]) ∧ LiS w' w'.heap.size A 2 [[], [0]] ∧ Below w.heap.size w w' := by
  go_enter Tryz.func57, Tryz.ntmps57
  go_wp2_with (first | (go_at_call 53; refine (of_any _ _).mono ?_; rintro e w1 ⟨rfl, rfl⟩) | (go_at_call 58; refine (book_any _ _ _ _ _).mono ?_; rintro e w2 ⟨rfl, hb2⟩; have T0 : Blk w2 w.heap.size 24 #[.int .i64 0, .slice none 0 0] := (((Blk.new' rfl).alloc _).alloc _).below hb2 (by first | (simp; done) | (simp; omega) | omega); have T1 : Blk w2 (w.heap.size + 1) 3 #[.int .i64 0] := ((Blk.new' (by first | (simp; done) | (simp; omega) | omega)).alloc _).below hb2 (by first | (simp; done) | (simp; omega) | omega); have T2 : Blk w2 (w.heap.size + 1 + 1) 25 #[.slice none 0 0, .slice (some ⟨w.heap.size + 1, 0, none⟩) 1 1] := (Blk.new' (by first | (simp; done) | (simp; omega) | omega)).below hb2 (by first | (simp; done) | (simp; omega) | omega); have k0 := T0.cell 0; have k1 := T0.cell 1; have l0 := T0.lt; have f0 := T0.frozen 0; have f1 := T0.frozen 1; have hbel : Below w.heap.size w w2 := Below.trans (by repeat' (first | with_reducible assumption | with_reducible exact Below.refl _ _ | refine Below.alloc ?_ ?_ _ | refine Below.setCell ?_ ?_ _ | refine Below.drew ?_ | refine below_drewN ?_ _ | (simp; done) | (simp; omega) | omega)) (hb2.mono (by first | (simp; done) | (simp; omega) | omega))))
  have T1' := (T1.far (p := ⟨w.heap.size, 0, none⟩) (by simp) (.int .i64 2)).far (p := ⟨w.heap.size, 1, none⟩) (by simp) (.slice (some ⟨w.heap.size + 1 + 1, 0, none⟩) 2 2)
  have T2' := (T2.far (p := ⟨w.heap.size, 0, none⟩) (by simp; omega) (.int .i64 2)).far (p := ⟨w.heap.size, 1, none⟩) (by simp; omega) (.slice (some ⟨w.heap.size + 1 + 1, 0, none⟩) 2 2)
  refine bodyPost_ret (v := .agg #[.int .i64 2, .slice (some ⟨w.heap.size + 1 + 1, 0, none⟩) 2 2]) (by first | (simp [results, Tryz.results57, go_sem]; done) | (simp [results, Tryz.results57, go_sem, *]; done) | (simp [results, Tryz.results57, go_sem, World.cell?_setCell_same', *]; done) | (simp [results, Tryz.results57, go_sem]; first | exact ⟨rfl, rfl⟩ | rfl)) rfl ⟨_, _, rfl, ?_, (hbel.setCell (by simp) _).setCell (by simp) _⟩
  refine lis_lit (vs := [.slice none 0 0, .slice (some ⟨w.heap.size + 1, 0, none⟩) 1 1]) T2' rfl fun k l hk => ?_
  rcases k with _ | _ | k
  · cases hk; exact ⟨none, 0, 0, rfl, Sl.none_⟩
  · cases hk; exact ⟨_, 1, 1, rfl, rfl, fun _ => ⟨_, 0, rfl, T1'.lt, fun j u hu => by rw [Nat.zero_add, T1'.cell]; simpa [cI] using hu⟩⟩
  · simp at hk
-- printed by tools/blame/f4.py
set_option maxRecDepth 10000 in
set_option maxHeartbeats 1600000 in
theorem three_any (w : World) : Calls Tryz.prog 56 #[] w fun e w' => ∃ A c, e = .returned (.agg #[.int .i64 4, .slice A 3 c]) ∧ LiS w' w'.heap.size A 3 [[2], [0, 1, 2], [1, 3]] ∧ Below w.heap.size w w' := by
  go_enter Tryz.func56, Tryz.ntmps56
  go_wp2_with (first | (go_at_call 53; refine (of_any _ _).mono ?_; rintro e w1 ⟨rfl, rfl⟩) | (go_at_call 58; refine (book_any _ _ _ _ _).mono ?_; rintro e w2 ⟨rfl, hb2⟩; have T0 : Blk w2 w.heap.size 24 #[.int .i64 0, .slice none 0 0] := (((((Blk.new' rfl).alloc _).alloc _).alloc _).alloc _).below hb2 (by first | (simp; done) | (simp; omega) | omega); have T1 : Blk w2 (w.heap.size + 1) 3 #[.int .i64 2] := ((((Blk.new' (by first | (simp; done) | (simp; omega) | omega)).alloc _).alloc _).alloc _).below hb2 (by first | (simp; done) | (simp; omega) | omega); have T2 : Blk w2 (w.heap.size + 1 + 1) 3 #[.int .i64 0, .int .i64 1, .int .i64 2] := (((Blk.new' (by first | (simp; done) | (simp; omega) | omega)).alloc _).alloc _).below hb2 (by first | (simp; done) | (simp; omega) | omega); have T3 : Blk w2 (w.heap.size + 1 + 1 + 1) 3 #[.int .i64 1, .int .i64 3] := ((Blk.new' (by first | (simp; done) | (simp; omega) | omega)).alloc _).below hb2 (by first | (simp; done) | (simp; omega) | omega); have T4 : Blk w2 (w.heap.size + 1 + 1 + 1 + 1) 25 #[.slice (some ⟨w.heap.size + 1, 0, none⟩) 1 1, .slice (some ⟨w.heap.size + 1 + 1, 0, none⟩) 3 3, .slice (some ⟨w.heap.size + 1 + 1 + 1, 0, none⟩) 2 2] := (Blk.new' (by first | (simp; done) | (simp; omega) | omega)).below hb2 (by first | (simp; done) | (simp; omega) | omega); have k0 := T0.cell 0; have k1 := T0.cell 1; have l0 := T0.lt; have f0 := T0.frozen 0; have f1 := T0.frozen 1; have hbel : Below w.heap.size w w2 := Below.trans (by repeat' (first | with_reducible assumption | with_reducible exact Below.refl _ _ | refine Below.alloc ?_ ?_ _ | refine Below.setCell ?_ ?_ _ | refine Below.drew ?_ | refine below_drewN ?_ _ | (simp; done) | (simp; omega) | omega)) (hb2.mono (by first | (simp; done) | (simp; omega) | omega))))
  have T1' := (T1.far (p := ⟨w.heap.size, 0, none⟩) (by simp <;> omega) (.int .i64 4)).far (p := ⟨w.heap.size, 1, none⟩) (by simp <;> omega) (.slice (some ⟨w.heap.size + 1 + 1 + 1 + 1, 0, none⟩) 3 3)
  have T2' := (T2.far (p := ⟨w.heap.size, 0, none⟩) (by simp <;> omega) (.int .i64 4)).far (p := ⟨w.heap.size, 1, none⟩) (by simp <;> omega) (.slice (some ⟨w.heap.size + 1 + 1 + 1 + 1, 0, none⟩) 3 3)
  have T3' := (T3.far (p := ⟨w.heap.size, 0, none⟩) (by simp <;> omega) (.int .i64 4)).far (p := ⟨w.heap.size, 1, none⟩) (by simp <;> omega) (.slice (some ⟨w.heap.size + 1 + 1 + 1 + 1, 0, none⟩) 3 3)
  have T4' := (T4.far (p := ⟨w.heap.size, 0, none⟩) (by simp <;> omega) (.int .i64 4)).far (p := ⟨w.heap.size, 1, none⟩) (by simp <;> omega) (.slice (some ⟨w.heap.size + 1 + 1 + 1 + 1, 0, none⟩) 3 3)
  refine bodyPost_ret (v := .agg #[.int .i64 4, .slice (some ⟨w.heap.size + 1 + 1 + 1 + 1, 0, none⟩) 3 3]) (by first | (simp [results, Tryz.results56, go_sem]; done) | (simp [results, Tryz.results56, go_sem, *]; done) | (simp [results, Tryz.results56, go_sem, World.cell?_setCell_same', *]; done) | (simp [results, Tryz.results56, go_sem]; first | exact ⟨rfl, rfl⟩ | rfl)) rfl ⟨_, _, rfl, ?_, (hbel.setCell (by simp) _).setCell (by simp) _⟩
  refine lis_lit (vs := [.slice (some ⟨w.heap.size + 1, 0, none⟩) 1 1, .slice (some ⟨w.heap.size + 1 + 1, 0, none⟩) 3 3, .slice (some ⟨w.heap.size + 1 + 1 + 1, 0, none⟩) 2 2]) T4' rfl fun k l hk => ?_
  rcases k with _ | _ | _ | k
  · cases hk; exact ⟨_, 1, 1, rfl, rfl, fun _ => ⟨_, 0, rfl, T1'.lt, fun j u hu => by rw [Nat.zero_add, T1'.cell]; simpa [cI] using hu⟩⟩
  · cases hk; exact ⟨_, 3, 3, rfl, rfl, fun _ => ⟨_, 0, rfl, T2'.lt, fun j u hu => by rw [Nat.zero_add, T2'.cell]; simpa [cI] using hu⟩⟩
  · cases hk; exact ⟨_, 2, 2, rfl, rfl, fun _ => ⟨_, 0, rfl, T3'.lt, fun j u hu => by rw [Nat.zero_add, T3'.cell]; simpa [cI] using hu⟩⟩
  · simp at hk
set_option maxRecDepth 10000 in
set_option maxHeartbeats 1600000 in
theorem round_any (w : World) : Calls Tryz.prog 55 #[] w fun e w' => ∃ A c, e = .returned (.agg #[.int .i64 5, .slice A 4 c]) ∧ LiS w' w'.heap.size A 4 [[0, 1], [1, 2], [2, 3], [0, 3]] ∧ Below w.heap.size w w' := by
  go_enter Tryz.func55, Tryz.ntmps55
  go_wp2_with (first | (go_at_call 53; refine (of_any _ _).mono ?_; rintro e w1 ⟨rfl, rfl⟩) | (go_at_call 58; refine (book_any _ _ _ _ _).mono ?_; rintro e w2 ⟨rfl, hb2⟩; have T0 : Blk w2 w.heap.size 24 #[.int .i64 0, .slice none 0 0] := ((((((Blk.new' rfl).alloc _).alloc _).alloc _).alloc _).alloc _).below hb2 (by first | (simp; done) | (simp; omega) | omega); have T1 : Blk w2 (w.heap.size + 1) 3 #[.int .i64 0, .int .i64 1] := (((((Blk.new' (by first | (simp; done) | (simp; omega) | omega)).alloc _).alloc _).alloc _).alloc _).below hb2 (by first | (simp; done) | (simp; omega) | omega); have T2 : Blk w2 (w.heap.size + 1 + 1) 3 #[.int .i64 1, .int .i64 2] := ((((Blk.new' (by first | (simp; done) | (simp; omega) | omega)).alloc _).alloc _).alloc _).below hb2 (by first | (simp; done) | (simp; omega) | omega); have T3 : Blk w2 (w.heap.size + 1 + 1 + 1) 3 #[.int .i64 2, .int .i64 3] := (((Blk.new' (by first | (simp; done) | (simp; omega) | omega)).alloc _).alloc _).below hb2 (by first | (simp; done) | (simp; omega) | omega); have T4 : Blk w2 (w.heap.size + 1 + 1 + 1 + 1) 3 #[.int .i64 0, .int .i64 3] := ((Blk.new' (by first | (simp; done) | (simp; omega) | omega)).alloc _).below hb2 (by first | (simp; done) | (simp; omega) | omega); have T5 : Blk w2 (w.heap.size + 1 + 1 + 1 + 1 + 1) 25 #[.slice (some ⟨w.heap.size + 1, 0, none⟩) 2 2, .slice (some ⟨w.heap.size + 1 + 1, 0, none⟩) 2 2, .slice (some ⟨w.heap.size + 1 + 1 + 1, 0, none⟩) 2 2, .slice (some ⟨w.heap.size + 1 + 1 + 1 + 1, 0, none⟩) 2 2] := (Blk.new' (by first | (simp; done) | (simp; omega) | omega)).below hb2 (by first | (simp; done) | (simp; omega) | omega); have k0 := T0.cell 0; have k1 := T0.cell 1; have l0 := T0.lt; have f0 := T0.frozen 0; have f1 := T0.frozen 1; have hbel : Below w.heap.size w w2 := Below.trans (by repeat' (first | with_reducible assumption | with_reducible exact Below.refl _ _ | refine Below.alloc ?_ ?_ _ | refine Below.setCell ?_ ?_ _ | refine Below.drew ?_ | refine below_drewN ?_ _ | (simp; done) | (simp; omega) | omega)) (hb2.mono (by first | (simp; done) | (simp; omega) | omega))))
  have T1' := (T1.far (p := ⟨w.heap.size, 0, none⟩) (by simp <;> omega) (.int .i64 5)).far (p := ⟨w.heap.size, 1, none⟩) (by simp <;> omega) (.slice (some ⟨w.heap.size + 1 + 1 + 1 + 1 + 1, 0, none⟩) 4 4)
  have T2' := (T2.far (p := ⟨w.heap.size, 0, none⟩) (by simp <;> omega) (.int .i64 5)).far (p := ⟨w.heap.size, 1, none⟩) (by simp <;> omega) (.slice (some ⟨w.heap.size + 1 + 1 + 1 + 1 + 1, 0, none⟩) 4 4)
  have T3' := (T3.far (p := ⟨w.heap.size, 0, none⟩) (by simp <;> omega) (.int .i64 5)).far (p := ⟨w.heap.size, 1, none⟩) (by simp <;> omega) (.slice (some ⟨w.heap.size + 1 + 1 + 1 + 1 + 1, 0, none⟩) 4 4)
  have T4' := (T4.far (p := ⟨w.heap.size, 0, none⟩) (by simp <;> omega) (.int .i64 5)).far (p := ⟨w.heap.size, 1, none⟩) (by simp <;> omega) (.slice (some ⟨w.heap.size + 1 + 1 + 1 + 1 + 1, 0, none⟩) 4 4)
  have T5' := (T5.far (p := ⟨w.heap.size, 0, none⟩) (by simp <;> omega) (.int .i64 5)).far (p := ⟨w.heap.size, 1, none⟩) (by simp <;> omega) (.slice (some ⟨w.heap.size + 1 + 1 + 1 + 1 + 1, 0, none⟩) 4 4)
  refine bodyPost_ret (v := .agg #[.int .i64 5, .slice (some ⟨w.heap.size + 1 + 1 + 1 + 1 + 1, 0, none⟩) 4 4]) (by first | (simp [results, Tryz.results55, go_sem]; done) | (simp [results, Tryz.results55, go_sem, *]; done) | (simp [results, Tryz.results55, go_sem, World.cell?_setCell_same', *]; done) | (simp [results, Tryz.results55, go_sem]; first | exact ⟨rfl, rfl⟩ | rfl)) rfl ⟨_, _, rfl, ?_, (hbel.setCell (by simp) _).setCell (by simp) _⟩
  refine lis_lit (vs := [.slice (some ⟨w.heap.size + 1, 0, none⟩) 2 2, .slice (some ⟨w.heap.size + 1 + 1, 0, none⟩) 2 2, .slice (some ⟨w.heap.size + 1 + 1 + 1, 0, none⟩) 2 2, .slice (some ⟨w.heap.size + 1 + 1 + 1 + 1, 0, none⟩) 2 2]) T5' rfl fun k l hk => ?_
  rcases k with _ | _ | _ | _ | k
  · cases hk; exact ⟨_, 2, 2, rfl, rfl, fun _ => ⟨_, 0, rfl, T1'.lt, fun j u hu => by rw [Nat.zero_add, T1'.cell]; simpa [cI] using hu⟩⟩
  · cases hk; exact ⟨_, 2, 2, rfl, rfl, fun _ => ⟨_, 0, rfl, T2'.lt, fun j u hu => by rw [Nat.zero_add, T2'.cell]; simpa [cI] using hu⟩⟩
  · cases hk; exact ⟨_, 2, 2, rfl, rfl, fun _ => ⟨_, 0, rfl, T3'.lt, fun j u hu => by rw [Nat.zero_add, T3'.cell]; simpa [cI] using hu⟩⟩
  · cases hk; exact ⟨_, 2, 2, rfl, rfl, fun _ => ⟨_, 0, rfl, T4'.lt, fun j u hu => by rw [Nat.zero_add, T4'.cell]; simpa [cI] using hu⟩⟩
  · simp at hk
end Go.Proofs.YtnpilfpackdimaaGreat
/- The law of drawn regions under a condition on worlds, with a post of its own: what the region leaves is said once, for all orders. -/
namespace Go.Proofs.YtnpilfpackdimaaGreat.Sx
open Go
section
variable {P : Program} {ops : Array Oper} {md : Region.Mode} {S : World → Prop}
theorem wpM_mono {Q Q' : Act → World → Prop} (h : ∀ a W, S W → Q a W → Q' a W) : ∀ (f : Nat) (listed : Array Bool) (a : Act) (w : World), wpM P md ops S Q f listed a w → wpM P md ops S Q' f listed a w
  | 0, _, _, _, hh => ⟨hh.1, fun W h1 h2 => h _ _ h2 (hh.2 W h1 h2)⟩
  | f + 1, _, _, _, hh => fun W h1 h2 => ⟨fun h0 => h _ _ h2 ((hh W h1 h2).1 h0), fun i hi => lOp_mono (fun _ _ hk => ⟨hk.1, wpM_mono h f _ _ _ hk.2⟩) ((hh W h1 h2).2 i hi)⟩
theorem wpE_mono {L L' : Act → Prop} (h : ∀ a, L a → L' a) : ∀ (l : List (Nat × Oper)) (a : Act), wpE P ops S L l a → wpE P ops S L' l a
  | [], _, hh => h _ hh
  | (_, _) :: rest, _, ⟨v, hy, hh⟩ => ⟨v, hy, wpE_mono h rest _ hh⟩
/-- The law with a post of its own. -/
theorem wp_region_elQ (S : World → Prop) (Q1 : Act → World → Prop) (hS : ∀ W W', S W → Ext W W' → S W') {id : Nat} {Q : Exit → Act → World → Prop} {a : Act} {w : World} {l : List Oper} (E : List Nat) (g : Nat) (hm : P.follows .mixedOrders = true)
    (hB : (Region.noSelect l.toArray && decide (E.length + g = l.length) && earlyB .any l.toArray E (Array.replicate l.length false)) = true) (h0 : S w.drew)
    (h : wpE P l.toArray S (fun a' => wpM P .any l.toArray S Q1 g (setAll (Array.replicate l.length false) E) a' w.drew) (pick l.toArray E) a)
    (hQ : ∀ a W, S W → Q1 a W → wpList P l.toArray Q [] a W) : (Code.region id l.toArray true).wp P Q a w :=
  wp_region_el S hS E g hm hB h0 (wpE_mono (fun _ hk => wpM_mono hQ _ _ _ _ hk) _ _ h)
/-- From here on a stronger condition holds. -/
theorem wpM_narrow {S' : World → Prop} (hcl : ∀ W W', S' W → Ext W W' → S' W') (hSS : ∀ W, S' W → S W) {Q : Act → World → Prop} : ∀ (f : Nat) (listed : Array Bool) (a : Act) (w : World), S' w → wpM P md ops S' Q f listed a w → wpM P md ops S Q f listed a w
  | 0, _, _, _, hw, hh => ⟨hh.1, fun W h1 _ => hh.2 W h1 (hcl _ _ hw h1)⟩
  | f + 1, _, _, _, hw, hh => fun W h1 _ =>
    have hW := hcl _ _ hw h1
    ⟨(hh W h1 hW).1, fun i hi => lOp_mono (fun _ _ hk => ⟨hSS _ hk.1, wpM_narrow hcl hSS f _ _ _ hk.1 hk.2⟩) ((hh W h1 hW).2 i hi)⟩
/-- Three operations may come up. -/
theorem wpM_three {Q : Act → World → Prop} {f : Nat} {listed : Array Bool} {a : Act} {w : World} (i j k : Nat) (o o' o'' : Oper) (ho : ops[i]? = some o) (ho' : ops[j]? = some o') (ho'' : ops[k]? = some o'') (hr : decide (Region.ready md ops listed = [i, j, k]) = true) (hw : Region.wanted o (yielded ops a.tmps) = true) (hw' : Region.wanted o' (yielded ops a.tmps) = true) (hw'' : Region.wanted o'' (yielded ops a.tmps) = true)
    (h : ∀ W, Ext w W → S W → LUpon P o a (fun a' W' => S W' ∧ wpM P md ops S Q f (listed.setIfInBounds i true) a' W') ((execOp a.eval o).run P W))
    (h' : ∀ W, Ext w W → S W → LUpon P o' a (fun a' W' => S W' ∧ wpM P md ops S Q f (listed.setIfInBounds j true) a' W') ((execOp a.eval o').run P W))
    (h'' : ∀ W, Ext w W → S W → LUpon P o'' a (fun a' W' => S W' ∧ wpM P md ops S Q f (listed.setIfInBounds k true) a' W') ((execOp a.eval o'').run P W)) : wpM P md ops S Q (f + 1) listed a w := by
  intro W h1 h2
  rw [of_decide_eq_true hr]
  refine ⟨fun h => (by cases h), fun q hq => ?_⟩
  rcases List.mem_cons.1 hq with rfl | hq
  · unfold lOp
    simp only [ho, hw, if_true]
    exact h W h1 h2
  · rcases List.mem_cons.1 hq with rfl | hq
    · unfold lOp
      simp only [ho', hw', if_true]
      exact h' W h1 h2
    · obtain rfl : q = k := by simpa using hq
      unfold lOp
      simp only [ho'', hw'', if_true]
      exact h'' W h1 h2
end
end Go.Proofs.YtnpilfpackdimaaGreat.Sx
/- Two operations come up in either order; behind them the proof goes on once. -/
namespace Go.Proofs.YtnpilfpackdimaaGreat.Sx
open Go.Proofs.YtnpilfpackdimaaGreat
variable {P : Program} {md : Region.Mode} {ops : Array Oper} {S : World → Prop}
theorem put_comm (a : Act) {d d' : Option Nat} (hd : d ≠ d') (v v' : Value) : (a.put d v).put d' v' = (a.put d' v').put d v := by
  cases d with
  | none => cases d' <;> rfl
  | some x =>
    cases d' with
    | none => rfl
    | some y =>
      have : x ≠ y := fun e => hd (by rw [e])
      simp only [Act.put]
      rw [Array.setIfInBounds_comm _ _ this]
theorem wpM_twoC (hS : ∀ W W', S W → Ext W W' → S W') {Q : Act → World → Prop} {f : Nat} {listed : Array Bool} {a : Act} {w : World} (i j : Nat) (hij : i ≠ j) (o o' : Oper) (ho : ops[i]? = some o) (ho' : ops[j]? = some o') (hr : decide (Region.ready md ops listed = [i, j]) = true)
    (hri : decide (Region.ready md ops (listed.setIfInBounds i true) = [j]) = true) (hrj : decide (Region.ready md ops (listed.setIfInBounds j true) = [i]) = true)
    (hw : Region.wanted o (yielded ops a.tmps) = true) (hw' : Region.wanted o' (yielded ops a.tmps) = true) (hwi : ∀ v, Region.wanted o' (yielded ops (a.put o.dst v).tmps) = true) (hwj : ∀ v, Region.wanted o (yielded ops (a.put o'.dst v).tmps) = true)
    (Φ Φ' : Value → World → Prop) (hΦ : ∀ v W W', Φ v W → Ext W W' → Φ v W') (hΦ' : ∀ v W W', Φ' v W → Ext W W' → Φ' v W')
    (hd : o.dst ≠ o'.dst)
    (h : ∀ W, Ext w W → S W → LUpon P o a (fun a' W' => ∃ v, a' = a.put o.dst v ∧ Ext W W' ∧ Φ v W') ((execOp a.eval o).run P W))
    (g : ∀ u W, Ext w W → S W → LUpon P o' (a.put o.dst u) (fun a' W' => ∃ v, a' = (a.put o.dst u).put o'.dst v ∧ Ext W W' ∧ Φ' v W') ((execOp (a.put o.dst u).eval o').run P W))
    (h' : ∀ W, Ext w W → S W → LUpon P o' a (fun a' W' => ∃ v, a' = a.put o'.dst v ∧ Ext W W' ∧ Φ' v W') ((execOp a.eval o').run P W))
    (g' : ∀ u W, Ext w W → S W → LUpon P o (a.put o'.dst u) (fun a' W' => ∃ v, a' = (a.put o'.dst u).put o.dst v ∧ Ext W W' ∧ Φ v W') ((execOp (a.put o'.dst u).eval o).run P W))
    (rest : ∀ v v' W, Ext w W → S W → Φ v W → Φ' v' W → wpM P md ops S Q f ((listed.setIfInBounds i true).setIfInBounds j true) ((a.put o.dst v).put o'.dst v') W) : wpM P md ops S Q (f + 1 + 1) listed a w := by
  refine wpM_two i j o o' ho ho' hr hw hw' ?_ ?_
  · intro W h1 h2
    refine LUpon_mono ?_ (h W h1 h2)
    rintro a' W1 ⟨v, rfl, hx, hp⟩
    have hs1 := hS _ _ h2 hx
    refine ⟨hs1, wpM_one j o' ho' hri (hwi v) ?_⟩
    intro W2 hx2 hs2
    refine LUpon_mono ?_ (g v W2 ((h1.trans' hx).trans' hx2) hs2)
    rintro a' W3 ⟨v', rfl, hx3, hp'⟩
    have hs3 := hS _ _ hs2 hx3
    exact ⟨hs3, rest v v' W3 (((h1.trans' hx).trans' hx2).trans' hx3) hs3 (hΦ _ _ _ (hΦ _ _ _ hp hx2) hx3) hp'⟩
  · intro W h1 h2
    refine LUpon_mono ?_ (h' W h1 h2)
    rintro a' W1 ⟨v', rfl, hx, hp⟩
    have hs1 := hS _ _ h2 hx
    refine ⟨hs1, wpM_one i o ho hrj (hwj v') ?_⟩
    intro W2 hx2 hs2
    refine LUpon_mono ?_ (g' v' W2 ((h1.trans' hx).trans' hx2) hs2)
    rintro a' W3 ⟨v, rfl, hx3, hp'⟩
    have hs3 := hS _ _ hs2 hx3
    refine ⟨hs3, ?_⟩
    rw [← put_comm a hd v v', Array.setIfInBounds_comm _ _ (Ne.symm hij)]
    exact rest v v' W3 (((h1.trans' hx).trans' hx2).trans' hx3) hs3 hp' (hΦ' _ _ _ (hΦ' _ _ _ hp hx2) hx3)
end Go.Proofs.YtnpilfpackdimaaGreat.Sx
