/- Texts of the proof, laid together by program. -/
import Derived.Test.YtpgdfipikfbjeaaMk
import Derived.Maps.OwnIn
import Derived.Maps.OwnSet
import Derived.Maps.OwnOps
import Derived.DeepKeys4
import Derived.Test.YtpgdfipikfbjeaaMi
import Derived.Lib.MinMax
set_option linter.unusedSimpArgs false
set_option linter.unusedVariables false
/- Walks: splits. -/
namespace Go.Proofs.Ytpgdfipikfbjeaa
open Go.RowKit Go.Shelf
attribute [local go_sem] Oper.semAt_some
theorem under97 : Try.prog.underlying 97 = some (.slice 94) := by kernel_rfl
theorem info94 : (Try.prog.info? 94).map (fun i => (i.zero, i.size, i.bytes)) = some (some (.agg #[.slice none 0 0, .int .u64 0, .int .u64 0]), 3, 40) := by kernel_rfl
/-- The cells of a split: its rod, and the cases. -/
def spC (CL : List (List Int)) (s : Nat) (p : Value × List Int) : List Value := [p.1, .int .u64 (withN CL s p.2 CL.length : Nat), .int .u64 (gooN CL s p.2 CL.length : Nat)]
theorem spC_len (CL : List (List Int)) (s : Nat) (p : Value × List Int) : (spC CL s p).length = 3 := rfl
theorem one_sp (A : Option Addr) (m c : Nat) (b g : Int) : ∀ u ∈ [Value.slice A m c, .int .u64 b, .int .u64 g], u.oneCell' = true := by
  intro u hu
  simp only [List.mem_cons, List.not_mem_nil, or_false] at hu
  rcases hu with rfl | rfl | rfl <;> rfl
/-- Splits in memory. -/
def SpS (w : World) (B : Nat) (A : Option Addr) (CL : List (List Int)) (s : Nat) (ls : List (List Int)) : Prop :=
  ∃ vs : List Value, vs.length = ls.length ∧ Sl w B 3 A ls.length ((vs.zip ls).flatMap (spC CL s)) ∧ ∀ (k : Nat) (l : List Int), ls[k]? = some l → ∃ (A' : Option Addr) (m c : Nat), vs[k]? = some (.slice A' m c) ∧ InS w B A' m l
theorem SpS.below {w w' : World} {B B' s : Nat} {A : Option Addr} {CL ls : List (List Int)} (h : SpS w B A CL s ls) (hb : Below B w w') (hB : B ≤ B') : SpS w' B' A CL s ls := by
  obtain ⟨vs, h1, h2, h3⟩ := h
  exact ⟨vs, h1, h2.below' hb hB, fun k l hl => by obtain ⟨A', m, c, e, h4⟩ := h3 k l hl; exact ⟨A', m, c, e, h4.below hb hB⟩⟩
theorem SpS.cells {w w' : World} {B s : Nat} {A : Option Addr} {CL ls : List (List Int)} (h : SpS w B A CL s ls) (hk : ∀ p : Addr, w'.cell? p = w.cell? p) : SpS w' B A CL s ls := by
  obtain ⟨vs, h1, h2, h3⟩ := h
  exact ⟨vs, h1, h2.keep (fun p _ => hk p), fun k l hl => by obtain ⟨A', m, c, e, h4⟩ := h3 k l hl; exact ⟨A', m, c, e, Sl.keep h4 (fun p _ => hk p)⟩⟩
/-- What splits holds while it gathers. -/
def SInv (T5 Bo : Nat) (CL : List (List Int)) (s : Nat) (ls : List (List Int)) (ow : Foot) (V : World) : Prop :=
  ∃ (vs : List Value) (A : Option Addr) (c : Nat), Blk V T5 97 #[.slice A vs.length c] ∧ ow T5 ∧ V.ownsRow Bo 94 3 (.slice A vs.length c) vs.length ((vs.zip ls).flatMap (spC CL s)) ∧ (∀ q, (Value.slice A vs.length c).ownBlock = some q → ow q) ∧ LiC V ow vs ls ∧ ∀ q, ow q → q = T5 ∨ (Value.slice A vs.length c).ownBlock = some q
theorem SInv.keep {T5 Bo s : Nat} {CL ls : List (List Int)} {ow : Foot} {V V' : World} (h : SInv T5 Bo CL s ls ow V) (hk : ∀ k, (ow k ∨ ∃ o : Obj, V.heap[k]? = some o ∧ o.isCells = true) → k < V.heap.size → V'.heap[k]? = V.heap[k]?) (hz : V.heap.size ≤ V'.heap.size) : SInv T5 Bo CL s ls ow V' := by
  obtain ⟨vs, A, c, h1, h2, h3, h4, h5, h6⟩ := h
  refine ⟨vs, A, c, (hk _ (.inl h2) h1.lt).trans h1, h2, owns_same h3 (fun q hq => hk q (.inl (h4 q hq)) (h3.lt q hq).2), h4, h5.stab (fun k o ho hc _ => ?_) hz, h6⟩
  exact (hk k (.inr ⟨o, ho, hc⟩) (Array.getElem?_eq_some_iff.1 ho).1).trans ho
set_option maxRecDepth 100000 in
set_option maxHeartbeats 8000000 in
theorem splits_any (g P M mp s : Nat) (CL pl : List (List Int)) (w : World) (hB : Bench w g P M CL pl mp) (hP : P ≤ 8) (hcl : CL.length ≤ 16) (hs : s < 65536) (hlb : ∀ x ∈ CL, ∀ v ∈ x, 0 ≤ v ∧ v < 8) (hls : ∀ x ∈ CL, x.length ≤ 12) :
    Calls Try.prog 83 #[.pointer (some ⟨g, 0, none⟩), .agg #[.int .u64 (s : Int)]] w fun e w' => ∃ A c, e = .returned (.slice A (splR CL s P).length c) ∧ SpS w' w'.heap.size A CL s (splR CL s P) ∧ (splR CL s P).length ≤ c ∧ Below w.heap.size w w' := by
  have HBn := hid hB
  have Hlb := hid hlb
  have Hls := hid hls
  obtain ⟨A1, c1, A2, c2, hG, hC, -, -⟩ := hB
  have HG := hid hG
  have HC := hid hC
  have lg := hG.lt
  clear hG hC hlb hls
  (refine (callsIn_wide (n := 9)).1 ?_; refine callsIn_of_wp_marks (F := Wd none) Try.func83 rfl trivial ?_ rfl; simp only [Try.ntmps83, List.size_toArray, List.length_cons, List.length_nil, Nat.reduceAdd, Nat.reduceSub, Array.replicate_succ, Array.replicate_zero, List.push_toArray, List.append_toArray, List.nil_append, List.cons_append])
  gi_wp2
  obtain ⟨W1, hW1⟩ : ∃ W1, ((w.alloc (.cells #[.pointer (some ⟨g, 0, none⟩)] 69)).alloc (.cells #[.int .u64 (s : Int)] 88)).alloc (.cells #[.slice none 0 0] 97) = W1 := ⟨_, rfl⟩
  rw [hW1]
  obtain ⟨T3, hT3⟩ : ∃ T3, w.heap.size + 1 = T3 := ⟨_, rfl⟩
  obtain ⟨T5, hT5⟩ : ∃ T5, T3 + 1 = T5 := ⟨_, rfl⟩
  have hb1 : Below w.heap.size w W1 := by rw [← hW1]; exact (by repeat' (first | with_reducible assumption | with_reducible exact Below.refl _ _ | refine Below.alloc ?_ ?_ _ | refine Below.setCell ?_ ?_ _ | refine Below.drew ?_ | refine below_drewN ?_ _ | (simp; done) | (simp; omega) | omega))
  have hz1 : W1.heap.size = T5 + 1 := by rw [← hW1]; simp; omega
  have B2 : Blk W1 w.heap.size 69 #[.pointer (some ⟨g, 0, none⟩)] := by rw [← hW1]; exact ((Blk.new' rfl).alloc _).alloc _
  have B3 : Blk W1 T3 88 #[.int .u64 (s : Int)] := by rw [← hW1]; exact (Blk.new' (by simp; omega)).alloc _
  have B5 : Blk W1 T5 97 #[.slice none 0 0] := by rw [← hW1]; exact Blk.new' (by simp; omega)
  have hC0 : SInv T5 w.heap.size CL s (splTo CL s P 0) (fun j => j = T5) W1 := ⟨[], none, 0, B5, rfl, World.ownsRow_nil _ _ _ _, (fun q hq => by cases hq), ⟨rfl, fun k l hl => by simp [splTo, rodsTo] at hl⟩, fun q hq => .inl hq⟩
  rw [hT3, hT5]
  have H2 := hid B2
  have H3 := hid B3
  have Hz1 := hid hz1
  have hwT : w.heap.size < T5 := by omega
  have hwT3 : w.heap.size < T3 := by omega
  clear hW1 B2 B3 B5
  refine wpIn_loop (fun a' wr => ∃ (ds : List Deferred) (u6 u7 u8 u9 u10 u11 u12 u13 u14 u15 u16 u17 u18 u19 u20 u21 u22 u23 u24 u25 u26 u27 u28 u29 u30 u31 u32 u33 u34 u35 u36 u37 u38 u39 u40 u41 u42 u43 u44 u45 u46 u47 u48 u49 u50 u51 u52 u53 u54 u55 u56 u57 u58 u59 u60 u61 u62 u63 u64 u65 u66 u67 u68 u69 u70 u71 u72 u73 u74 u75 u76 u77 u78 u79 u80 u81 u82 u83 u84 u85 u86 : Value), (∃ (k : Nat) (own : Foot), k ≤ P ∧ u6 = .int .i64 ((k : Int) + 1) ∧ Hid (SInv T5 w.heap.size CL s (splTo CL s P k) own wr) ∧ Hid (Grow (fun j => j = T5) W1 own wr) ∧ Hid (MarksO own W1.heap.size wr.heap.size wr ds)) ∧ a' = { tmps := #[.pointer (some ⟨g, 0, none⟩), .agg #[.int .u64 (s : Int)], .pointer (some ⟨w.heap.size, 0, none⟩), .pointer (some ⟨T3, 0, none⟩), .slice none 0 0, .pointer (some ⟨T5, 0, none⟩), u6, u7, u8, u9, u10, u11, u12, u13, u14, u15, u16, u17, u18, u19, u20, u21, u22, u23, u24, u25, u26, u27, u28, u29, u30, u31, u32, u33, u34, u35, u36, u37, u38, u39, u40, u41, u42, u43, u44, u45, u46, u47, u48, u49, u50, u51, u52, u53, u54, u55, u56, u57, u58, u59, u60, u61, u62, u63, u64, u65, u66, u67, u68, u69, u70, u71, u72, u73, u74, u75, u76, u77, u78, u79, u80, u81, u82, u83, u84, u85, u86], defers := ds }) (fun a' wr => P + 1 - (intOf (a'.tmps.getD 6 undef)).toNat) ?_ ?_
  · (repeat apply Exists.intro); refine ⟨?_, rfl⟩
    exact ⟨0, _, by omega, rfl, hid hC0, hid (Grow.refl (fun j hj => by have := Hz1.out; omega)), hid (MarksO.nil _ _ _ _)⟩
  · intro _ wr hinv; obtain ⟨ds, hinv⟩ := hinv; obtain ⟨u6, hinv⟩ := hinv; obtain ⟨u7, hinv⟩ := hinv; obtain ⟨u8, hinv⟩ := hinv; obtain ⟨u9, hinv⟩ := hinv; obtain ⟨u10, hinv⟩ := hinv; obtain ⟨u11, hinv⟩ := hinv; obtain ⟨u12, hinv⟩ := hinv; obtain ⟨u13, hinv⟩ := hinv; obtain ⟨u14, hinv⟩ := hinv; obtain ⟨u15, hinv⟩ := hinv; obtain ⟨u16, hinv⟩ := hinv; obtain ⟨u17, hinv⟩ := hinv; obtain ⟨u18, hinv⟩ := hinv; obtain ⟨u19, hinv⟩ := hinv; obtain ⟨u20, hinv⟩ := hinv; obtain ⟨u21, hinv⟩ := hinv; obtain ⟨u22, hinv⟩ := hinv; obtain ⟨u23, hinv⟩ := hinv; obtain ⟨u24, hinv⟩ := hinv; obtain ⟨u25, hinv⟩ := hinv; obtain ⟨u26, hinv⟩ := hinv; obtain ⟨u27, hinv⟩ := hinv; obtain ⟨u28, hinv⟩ := hinv; obtain ⟨u29, hinv⟩ := hinv; obtain ⟨u30, hinv⟩ := hinv; obtain ⟨u31, hinv⟩ := hinv; obtain ⟨u32, hinv⟩ := hinv; obtain ⟨u33, hinv⟩ := hinv; obtain ⟨u34, hinv⟩ := hinv; obtain ⟨u35, hinv⟩ := hinv; obtain ⟨u36, hinv⟩ := hinv; obtain ⟨u37, hinv⟩ := hinv; obtain ⟨u38, hinv⟩ := hinv; obtain ⟨u39, hinv⟩ := hinv; obtain ⟨u40, hinv⟩ := hinv; obtain ⟨u41, hinv⟩ := hinv; obtain ⟨u42, hinv⟩ := hinv; obtain ⟨u43, hinv⟩ := hinv; obtain ⟨u44, hinv⟩ := hinv; obtain ⟨u45, hinv⟩ := hinv; obtain ⟨u46, hinv⟩ := hinv; obtain ⟨u47, hinv⟩ := hinv; obtain ⟨u48, hinv⟩ := hinv; obtain ⟨u49, hinv⟩ := hinv; obtain ⟨u50, hinv⟩ := hinv; obtain ⟨u51, hinv⟩ := hinv; obtain ⟨u52, hinv⟩ := hinv; obtain ⟨u53, hinv⟩ := hinv; obtain ⟨u54, hinv⟩ := hinv; obtain ⟨u55, hinv⟩ := hinv; obtain ⟨u56, hinv⟩ := hinv; obtain ⟨u57, hinv⟩ := hinv; obtain ⟨u58, hinv⟩ := hinv; obtain ⟨u59, hinv⟩ := hinv; obtain ⟨u60, hinv⟩ := hinv; obtain ⟨u61, hinv⟩ := hinv; obtain ⟨u62, hinv⟩ := hinv; obtain ⟨u63, hinv⟩ := hinv; obtain ⟨u64, hinv⟩ := hinv; obtain ⟨u65, hinv⟩ := hinv; obtain ⟨u66, hinv⟩ := hinv; obtain ⟨u67, hinv⟩ := hinv; obtain ⟨u68, hinv⟩ := hinv; obtain ⟨u69, hinv⟩ := hinv; obtain ⟨u70, hinv⟩ := hinv; obtain ⟨u71, hinv⟩ := hinv; obtain ⟨u72, hinv⟩ := hinv; obtain ⟨u73, hinv⟩ := hinv; obtain ⟨u74, hinv⟩ := hinv; obtain ⟨u75, hinv⟩ := hinv; obtain ⟨u76, hinv⟩ := hinv; obtain ⟨u77, hinv⟩ := hinv; obtain ⟨u78, hinv⟩ := hinv; obtain ⟨u79, hinv⟩ := hinv; obtain ⟨u80, hinv⟩ := hinv; obtain ⟨u81, hinv⟩ := hinv; obtain ⟨u82, hinv⟩ := hinv; obtain ⟨u83, hinv⟩ := hinv; obtain ⟨u84, hinv⟩ := hinv; obtain ⟨u85, hinv⟩ := hinv; obtain ⟨u86, hinv⟩ := hinv; obtain ⟨hrel, ha⟩ := hinv; subst ha; dsimp only
    obtain ⟨k, own, hk, rfl, hC, hgr, hmk⟩ := hrel
    have hzr := hgr.out.size
    have hbwr : Below w.heap.size w wr := ⟨hgr.out.os.trans hb1.os, hgr.out.tape.trans hb1.tape, hgr.out.output.trans hb1.output, Nat.le_trans hb1.size hzr, fun q hq => (hgr.out.same q (Nat.lt_of_lt_of_le hq hb1.size) (by omega)).trans (hb1.block q hq)⟩
    have B2r : Blk wr w.heap.size 69 #[.pointer (some ⟨g, 0, none⟩)] := (hgr.out.same _ H2.out.lt (fun h => by omega)).trans H2.out
    have B3r : Blk wr T3 88 #[.int .u64 (s : Int)] := (hgr.out.same _ H3.out.lt (fun h => by omega)).trans H3.out
    have r2 := B2r.cell 0
    have k2 := B2r.lt
    have rg := (HG.out.below hbwr lg).cell 0
    have kg : g < wr.heap.size := Nat.lt_of_lt_of_le lg hbwr.size
    have HB2r := hid B2r
    have HB3r := hid B3r
    clear B2r B3r hC0
    by_cases hlt : k < P
    · have hlti : (k : Int) + 1 ≤ P := by omega
      gi_wp2_with (fail)
      obtain ⟨Z, hZ⟩ : ∃ Z, wr.heap.size = Z := ⟨_, rfl⟩
      have hc := listsIt_any ((k : Int) + 1) 0 (P : Int) wr
      rw [hZ] at hc
      refine (calls_wd hc).mono ?_
      rintro e X6 ⟨rfl, hX6⟩
      have Hb06 : Hid (Below wr.heap.size wr X6) := hid (by rw [← hX6]; exact (by repeat' (first | with_reducible assumption | with_reducible exact Below.refl _ _ | refine Below.alloc ?_ ?_ _ | refine Below.setCell ?_ ?_ _ | refine Below.drew ?_ | refine below_drewN ?_ _ | (simp; done) | (simp; omega) | omega)))
      have HN1 : Hid (Blk X6 Z 3 #[.int .i64 ((k + 1 : Nat) : Int)]) := hid (by rw [← hX6]; exact ((Blk.new' hZ).alloc _).alloc _)
      have HN2 : Hid (Blk X6 (Z + 1) 3 #[.int .i64 0]) := hid (by rw [← hX6]; exact (Blk.new' (by simp [hZ])).alloc _)
      have HN3 : Hid (Blk X6 (Z + 2) 3 #[.int .i64 (P : Int)]) := hid (by rw [← hX6]; exact Blk.new' (by simp [hZ]))
      have Hz6 : Hid (X6.heap.size = Z + 3) := hid (by rw [← hX6]; simp [hZ])
      clear hX6 r2 rg hc
      gi_wp2
      have hB : X6.heap.size = X6.heap.size := rfl
      have hzw6 := Hb06.out.size
      have hownlt : ∀ j, own j → j < wr.heap.size := hgr.out.lt
      have hown5 : ∀ j, own j → w.heap.size ≤ j ∧ j ≠ w.heap.size ∧ j ≠ T3 := fun j hj => by
        rcases hgr.out.from_ j hj with h1 | h1
        · omega
        · have := Hz1.out; omega
      have B26 : Blk X6 w.heap.size 69 #[.pointer (some ⟨g, 0, none⟩)] := HB2r.out.below Hb06.out k2
      have B36 : Blk X6 T3 88 #[.int .u64 (s : Int)] := HB3r.out.below Hb06.out HB3r.out.lt
      have hC6 : SInv T5 w.heap.size CL s (splTo CL s P k) own X6 := hC.out.keep (fun j _ hlt => Hb06.out.block j hlt) hzw6
      have hbw6 : Below w.heap.size w X6 := hbwr.trans (Hb06.out.mono hbwr.size)
      refine with_frame fun TT hTT => ?_
      refine wpIn_rangeFunc_foot (F := Wd none) (α := PE) X6.heap.size hB rfl rfl (gf := 106) (lb := #[.pointer (some ⟨Z, 0, none⟩), .pointer (some ⟨Z + 1, 0, none⟩), .pointer (some ⟨Z + 2, 0, none⟩)]) (by rw [hTT]; rfl) trivial (enters_of Try.func106 (by kernel_rfl) rfl)
        (encs := encP) (Rd := RdP (k + 1)) (Nb := (comb (k + 1) 0 P).length) (S := fun ys => ys.map PE.l = comb (k + 1) 0 P) (Sp := fun _ => True) own (fun j hj => by have := hownlt j hj; omega) ?hseq rdP_keep (fun _ => rfl)
        (fun ys ow V => SInv T5 w.heap.size CL s (splTo CL s P k ++ (ys.map PE.l).filter (keepS CL s)) ow V ∧ Blk V w.heap.size 69 #[.pointer (some ⟨g, 0, none⟩)] ∧ Blk V T3 88 #[.int .u64 (s : Int)] ∧ Below w.heap.size w V ∧ ∀ j, ow j → w.heap.size ≤ j ∧ j ≠ w.heap.size ∧ j ≠ T3) (fun c ys ow V => False) ?hI (fun c x ow V V' h => h.elim) ⟨by rw [List.map_nil, List.filter_nil, List.append_nil]; exact hC6, B26, B36, hbw6, hown5⟩
        (fun x a' V => a' = { tmps := (TT.setIfInBounds 28 x.v).setIfInBounds 7 x.v, defers := [] }) ?assign (fun x a' V o h => h) ?body ?done ?stop
      case hseq =>
        intro W' hW'
        have hz6 := Hz6.out
        have hzw' := hW'.size
        refine comb_gives (k + 1) 0 P W' _ Z (Z + 1) (Z + 2) (by omega) (by omega) hP ⟨?_, ?_, ?_, by omega, by omega, by omega, ?_, ?_, ?_⟩
        · exact (HN1.out.below hW' HN1.out.lt).cell 0
        · exact (HN2.out.below hW' HN2.out.lt).cell 0
        · exact (HN3.out.below hW' HN3.out.lt).cell 0
        all_goals
          rintro (h | h | h)
          · have := hownlt _ h; omega
          · omega
          · omega
      case hI =>
        rintro ys ow V V' ⟨h1, h2, h3, h4, h5⟩ hk hz e1 e2 e3
        refine ⟨h1.keep (fun j hj => hk j (.inr hj)) hz, (hk _ (.inl (by have := B26.lt; omega)) h2.lt).trans h2, (hk _ (.inl (by have := B36.lt; omega)) h3.lt).trans h3, ⟨e1.trans h4.os, e2.trans h4.tape, e3.trans h4.output, Nat.le_trans h4.size hz, fun q hq => (hk q (.inl (by have := hbw6.size; omega)) (Nat.lt_of_lt_of_le hq h4.size)).trans (h4.block q hq)⟩, h5⟩
      case assign =>
        rintro l x V K hrd hV hK
        simp only [encP, hTT]
        gi_wp2
        exact hK _ _ (Below.refl _ _) (by rw [hTT]; rfl)
      case stop =>
        rintro Dm c pre own' V _ _ h
        exact h.elim
      case body =>
        rintro l pre ow x a' V ⟨⟨vs, A0, c0, h1, h2, h3, h4, h5, h5t⟩, h6, h7, hbV, howB⟩ hNb hlt hnB hrd rfl hV
        obtain ⟨xv, xl⟩ := x
        obtain ⟨Ax, cx, hxv, hxin, -, hAb, hxb0⟩ := hrd
        have hxv' : xv = .slice Ax (k + 1) cx := hxv
        subst hxv'
        have hxin' : InS V V.heap.size Ax (k + 1) xl := hxin
        have hAn : ∀ b off, Ax = some ⟨b, off, none⟩ → ¬ ow b := fun b off e ho => by
          obtain ⟨-, cs, fr, h⟩ := hAb b off e
          rcases h5t b ho with h8 | h8
          · subst h8
            have h9 : V.heap[b]? = _ := h1
            rw [h] at h9; cases h9
          · obtain ⟨cs', fr', h9⟩ := own_block h3 h8
            rw [h] at h9; cases h9
        have hxb : ∀ v ∈ xl, 0 ≤ v ∧ v < 8 := hxb0
        obtain ⟨Wo, hWo⟩ : ∃ Wo, Wo = wr := ⟨_, rfl⟩
        subst hWo
        have Hxb := hid hxb
        have HX := hid hxin'
        have hAll : Hid (∀ b off, Ax = some ⟨b, off, none⟩ → b < V.heap.size ∧ ¬ ow b) := hid (fun b off e => ⟨(hAb b off e).1, hAn b off e⟩)
        have H5b := hid h1
        have H3r := hid h3
        have H4 := hid h4
        have H5 := hid h5
        have H5t := hid h5t
        have HB2 := hid h6
        have HB3 := hid h7
        have HbV := hid hbV
        have HowB := hid howB
        have hT5V : T5 < V.heap.size := h1.lt
        have hT3V : T3 < V.heap.size := h7.lt
        have hT2V : w.heap.size < V.heap.size := h6.lt
        have hzwV := hbV.size
        have hvsl : vs.length ≤ 1000 := by
          have e2 := h5.1
          have e1 := splTo_len (l := CL) (s := s) (P := P) (k := k) hP (by omega)
          have e3 : ((pre.map PE.l).filter (keepS CL s)).length ≤ (comb (k + 1) 0 P).length := by
            refine Nat.le_trans (List.length_filter_le _ _) ?_
            rw [List.length_map]; omega
          have e4 := rodsTo_len (P := P) (k := k + 1) hP (by omega)
          rw [rodsTo_succ, List.length_append] at e4
          rw [List.length_append] at e2
          omega
        obtain ⟨j0, hj0, hj1, hj2, hj3⟩ := info_parts' info94
        have J0 := hid hj0; have J1 := hid hj1; have J2 := hid hj2; have J3 := hid hj3
        obtain ⟨T8, hT8⟩ : ∃ T8, V.heap.size = T8 := ⟨_, rfl⟩
        clear h1 h3 h4 h5 h5t h6 h7 hbV howB hxin hxv hxin' hAb hAn hj0 hj1 hj2 hj3 hNb hxb hxb0 B26 B36 hC6 hbw6
        simp only [hTT, List.setIfInBounds_toArray, List.set_cons_zero, List.set_cons_succ]
        gi_wp2_with (gi_at_call 74; refine (calls_wd (marked_any Ax (k + 1) cx xl _ (HX.out.below (by repeat' (first | with_reducible assumption | with_reducible exact Below.refl _ _ | refine Below.alloc ?_ ?_ _ | refine Below.setCell ?_ ?_ _ | refine Below.drew ?_ | refine below_drewN ?_ _ | (simp; done) | (simp; omega) | omega)) (by first | (simp; done) | (simp; omega) | omega)) (by omega) Hxb.out)).mono ?_; simp only [mkA]; rintro e W5 ⟨rfl, hb5⟩; have hbV5 : Below V.heap.size V W5 := Below.trans ((Below.refl _ _).alloc (Nat.le_refl _) _) (hb5.mono (by simp)); have B85 : Blk W5 T8 94 #[.slice Ax (k + 1) cx, .int .u64 (withN CL s xl 0 : Nat), .int .u64 (gooN CL s xl 0 : Nat)] := Blk.below (Blk.new' hT8) hb5 (by simp; omega); obtain ⟨T9, hT9⟩ : ∃ T9, W5.heap.size = T9 := ⟨_, rfl⟩; obtain ⟨Vb, hVb⟩ : ∃ Vb, W5.alloc (.cells #[mk1 xl 0, mk1 xl 1, mk1 xl 2, mk1 xl 3, mk1 xl 4, mk1 xl 5, mk1 xl 6, mk1 xl 7] 82) = Vb := ⟨_, rfl⟩; have hbc : Below W5.heap.size W5 Vb := (by rw [← hVb]; exact (Below.refl _ _).alloc (Nat.le_refl _) _); have B9 : Blk Vb T9 82 (mkA xl) := (by rw [← hVb]; exact Blk.new' hT9); have hT98 : T9 ≠ T8 := (by have := B85.lt; omega); have hbVb : Below V.heap.size V Vb := hbV5.trans (hbc.mono hbV5.size); have B8b := B85.below hbc B85.lt; have q2 := (HB2.out.below hbVb hT2V).cell 0; have l2 : w.heap.size < Vb.heap.size := Nat.lt_of_lt_of_le hT2V hbVb.size; have hwVb : Below w.heap.size w Vb := HbV.out.trans (hbVb.mono hzwV); have qg := (HG.out.below hwVb lg).cell 2; have lgb : g < Vb.heap.size := Nat.lt_of_lt_of_le lg hwVb.size)
        have H9 := hid B9
        have H8b := hid B8b
        have HwVb := hid hwVb
        have HbVb := hid hbVb
        have hzVb := hbVb.size
        clear q2 qg hVb B9 B8b hwVb hbVb hbc hb5 hbV5 B85
        gi_loopw [38] (fun i wr => ∃ j : Nat, j ≤ CL.length ∧ i = .int .i64 (j : Int) ∧ Hid (Blk wr T8 94 #[.slice Ax (k + 1) cx, .int .u64 (withN CL s xl j : Nat), .int .u64 (gooN CL s xl j : Nat)]) ∧ Vb.grownBy wr (some T8)) (fun i _ => CL.length - (intOf i).toNat)
        case atStart => exact ⟨0, by omega, rfl, H8b, grownM_below (Below.refl _ _)⟩
        case round =>
          obtain ⟨j, hj, rfl, H8, hgw⟩ := hrel
          have hzw := hgw.size
          have hwr : Below w.heap.size w wr := HwVb.out.grown hgw HwVb.out.size (fun r hr => by cases hr; omega)
          have hzr2 := hwr.size
          have l8 := H8.out.lt
          by_cases hjn : j < CL.length
          · obtain ⟨b0, off, y, A', m', c', rfl, hb0, hy, cy, hin, -⟩ := (HC.out.below hwr hzr2).at_ hjn
            have hjni : (j : Int) < CL.length := by omega
            have hm' : m' ≤ 1000000 := by have := hin.len; have := Hls.out y (List.mem_of_getElem? hy); omega
            have HIn := hid hin
            have hyb := Hlb.out y (List.mem_of_getElem? hy)
            have Hyb := hid hyb
            have hgy : CL.getD j [] = y := by rw [List.getD_eq_getElem?_getD, hy]; rfl
            have B3w := ((HB3.out.below HbVb.out hT3V).grown hgw (fun e => by have := Option.some.inj e; omega))
            have q3 := B3w.cell 0
            have l3 := B3w.lt
            have hlow := low_bit_u s j (by omega)
            have hwst : withN CL s xl (j + 1) = if s.testBit j && meet y xl then withN CL s xl j ||| 2 ^ j else withN CL s xl j := by rw [← hgy]; rfl
            have hgst : gooN CL s xl (j + 1) = if s.testBit j && !meet y xl then gooN CL s xl j ||| 2 ^ j else gooN CL s xl j := by rw [← hgy]; rfl
            have hwl := withN_lt CL s xl j
            have hgl := gooN_lt CL s xl j
            have hp16 : 2 ^ j ≤ 2 ^ 16 := Nat.pow_le_pow_right (by omega) (by omega)
            have e16 : (2 : Nat) ^ 16 = 65536 := by decide
            clear hin hy hgy hyb B3w
            obtain ⟨W0, hW0⟩ : ∃ W0, withN CL s xl j = W0 := ⟨_, rfl⟩
            obtain ⟨G0, hG0⟩ : ∃ G0, gooN CL s xl j = G0 := ⟨_, rfl⟩
            obtain ⟨q, hq⟩ : ∃ q : Nat, 2 ^ j = q := ⟨_, rfl⟩
            have hpw := pow_wrap_u j (by omega)
            have hor := bits_or_u64_nat W0 q (by omega) (by omega)
            have hog := bits_or_u64_nat G0 q (by omega) (by omega)
            rw [hW0, hq] at hwst
            rw [hG0, hq] at hgst
            rw [hW0, hG0] at H8
            rw [hW0, hq] at hwl
            rw [hG0, hq] at hgl
            rw [hq] at hpw hp16
            have Hw := hid hwst
            have Hg := hid hgst
            clear hW0 hG0 hq hwst hgst
            cases hbt : s.testBit j
            · rw [hbt] at hlow
              have e1 : withN CL s xl (j + 1) = W0 := by rw [Hw.out, hbt]; rfl
              have e2 : gooN CL s xl (j + 1) = G0 := by rw [Hg.out, hbt]; rfl
              have H8n : Hid (Blk wr T8 94 #[.slice Ax (k + 1) cx, .int .u64 (withN CL s xl (j + 1) : Nat), .int .u64 (gooN CL s xl (j + 1) : Nat)]) := hid (by rw [e1, e2]; exact H8.out)
              clear hbt e1 e2
              gi_wp2
              (first | exact ⟨⟨j + 1, by omega, by go_num, H8n, hgw⟩, (by first | (simp [intOf]; omega) | (simp [intOf]; done))⟩ | (refine ⟨?_, ?_⟩; (focus ((repeat apply Exists.intro); refine ⟨?_, rfl⟩; exact ⟨j + 1, by omega, by go_num, H8n, hgw⟩)); (first | (simp [intOf]; omega) | (simp [intOf]; done))))
            · rw [hbt] at hlow
              have B9w := ((H9.out.grown hgw (fun e => by have := Option.some.inj e; omega)))
              have H9w := hid B9w
              have l9 := B9w.lt
              have hmm : (List.range 8).any (meetAt xl y) = meet y xl := by rw [meet_marks' Hyb.out, meet_comm]
              cases hmt : meet y xl
              · have Hmt := hid (hmm.trans hmt)
                have e1 : withN CL s xl (j + 1) = W0 := by rw [Hw.out, hbt, hmt]; rfl
                have e2 : gooN CL s xl (j + 1) = G0 ||| q := by rw [Hg.out, hbt, hmt]; rfl
                have E1 := hid e1
                have E2 := hid e2
                clear hbt hmt hmm e1 e2 B9w
                gi_wp2
                have hmet : ∀ W, Calls Try.prog 75 #[.agg #[mk1 xl 0, mk1 xl 1, mk1 xl 2, mk1 xl 3, mk1 xl 4, mk1 xl 5, mk1 xl 6, mk1 xl 7], .agg #[mk1 y 0, mk1 y 1, mk1 y 2, mk1 y 3, mk1 y 4, mk1 y 5, mk1 y 6, mk1 y 7]] W fun e w' => e = .returned (.bool false) ∧ Below W.heap.size W w' := fun W => by have h := meets_any xl y W; rw [Hmt.out] at h; exact h
                have hmkd : ∀ W, Below wr.heap.size wr W → Calls Try.prog 74 #[.slice A' m' c'] W fun e w' => e = .returned (.agg #[mk1 y 0, mk1 y 1, mk1 y 2, mk1 y 3, mk1 y 4, mk1 y 5, mk1 y 6, mk1 y 7]) ∧ Below W.heap.size W w' := fun W hW => marked_any A' m' c' y W (HIn.out.below hW hW.size) hm' Hyb.out
                have r0 := H9w.out.cell 0
                have r1 := H9w.out.cell 1
                have r2 := H9w.out.cell 2
                have r3 := H9w.out.cell 3
                have r4 := H9w.out.cell 4
                have r5 := H9w.out.cell 5
                have r6 := H9w.out.cell 6
                have r7 := H9w.out.cell 7
                simp only [mkA, List.getElem?_toArray, List.getElem?_cons_zero, List.getElem?_cons_succ] at r0 r1 r2 r3 r4 r5 r6 r7
                refine wpIn_region_hd_all (fun W' => Below wr.heap.size wr W') (by kernel_rfl) (by kernel_rfl) ((Below.refl _ _).drew) ?_
                (refine wpHd_val (v := ?_) (by rfl) (fun W hW => ?_) ?_; rotate_left; (· obtain ⟨hcW, hfW⟩ := bcell hW; go_simp; with_reducible rfl); simp only [Act.put, List.setIfInBounds_toArray, List.set_cons_zero, List.set_cons_succ])
                (refine wpHd_val (v := ?_) (by rfl) (fun W hW => ?_) ?_; rotate_left; (· obtain ⟨hcW, hfW⟩ := bcell hW; go_simp; with_reducible rfl); simp only [Act.put, List.setIfInBounds_toArray, List.set_cons_zero, List.set_cons_succ])
                (refine wpHd_callB (by rfl) (fun W hW => hmkd W hW) (fun W hW => ?_) ?_; (· obtain ⟨hcW, hfW⟩ := bcell hW; go_simp); simp only [Act.put, List.setIfInBounds_toArray, List.set_cons_zero, List.set_cons_succ])
                (refine wpHd_callB (by rfl) (fun W hW => hmet W) (fun W hW => ?_) ?_; (· obtain ⟨hcW, hfW⟩ := bcell hW; go_simp); simp only [Act.put, List.setIfInBounds_toArray, List.set_cons_zero, List.set_cons_succ])
                (refine wpHd_val (v := ?_) (by rfl) (fun W hW => ?_) ?_; rotate_left; (· obtain ⟨hcW, hfW⟩ := bcell hW; go_simp; with_reducible rfl); simp only [Act.put, List.setIfInBounds_toArray, List.set_cons_zero, List.set_cons_succ])
                refine wpHd_nil ?_
                intro W7 hW7
                clear r0 r1 r2 r3 r4 r5 r6 r7
                gi_wp2
                have hg7 := grownM_then hgw hW7
                have H87 := H8.out.below hW7 l8
                have d7 := H87.cell 2
                have l87 := H87.lt
                refine wpIn_region_hd 8 (fun W' => Below W7.heap.size W7 W') (by kernel_rfl) (by kernel_rfl) ((Below.refl _ _).drew) ?_
                simp only [List.take_succ_cons, List.take_zero, List.drop_succ_cons, List.drop_zero]
                iterate 8 (refine wpHd_val (v := ?_) (by rfl) (fun W hW => ?_) ?_; rotate_left; (· obtain ⟨hcW, hfW⟩ := bcell hW; go_simp; with_reducible rfl); simp only [Act.put, List.setIfInBounds_toArray, List.set_cons_zero, List.set_cons_succ])
                refine wpHd_nil ?_
                intro W8 hW8
                have H88 := H87.below hW8 l87
                have d8 := H88.cell 2
                have f8 := H88.frozen 2
                have l88 := H88.lt
                have hg8 := grownM_setCell (o := 2) (grownM_then hg7 hW8) (.inr rfl : Vb.heap.size ≤ T8 ∨ T8 = T8) (.int .u64 ((G0 ||| q : Nat) : Int))
                have hS := H88.set_ 2 (.int .u64 ((G0 ||| q : Nat) : Int))
                have H8n : Hid (Blk (W8.setCell ⟨T8, 2, none⟩ (.int .u64 ((G0 ||| q : Nat) : Int))) T8 94 #[.slice Ax (k + 1) cx, .int .u64 (withN CL s xl (j + 1) : Nat), .int .u64 (gooN CL s xl (j + 1) : Nat)]) := hid (by rw [E1.out, E2.out]; exact hS)
                clear hS H88 H87 d7
                gi_wp2
                (first | exact ⟨⟨j + 1, by omega, by go_num, H8n, hg8⟩, (by first | (simp [intOf]; omega) | (simp [intOf]; done))⟩ | (refine ⟨?_, ?_⟩; (focus ((repeat apply Exists.intro); refine ⟨?_, rfl⟩; exact ⟨j + 1, by omega, by go_num, H8n, hg8⟩)); (first | (simp [intOf]; omega) | (simp [intOf]; done))))
              · have Hmt := hid (hmm.trans hmt)
                have e1 : withN CL s xl (j + 1) = W0 ||| q := by rw [Hw.out, hbt, hmt]; rfl
                have e2 : gooN CL s xl (j + 1) = G0 := by rw [Hg.out, hbt, hmt]; rfl
                have E1 := hid e1
                have E2 := hid e2
                clear hbt hmt hmm e1 e2 B9w
                gi_wp2
                have hmet : ∀ W, Calls Try.prog 75 #[.agg #[mk1 xl 0, mk1 xl 1, mk1 xl 2, mk1 xl 3, mk1 xl 4, mk1 xl 5, mk1 xl 6, mk1 xl 7], .agg #[mk1 y 0, mk1 y 1, mk1 y 2, mk1 y 3, mk1 y 4, mk1 y 5, mk1 y 6, mk1 y 7]] W fun e w' => e = .returned (.bool true) ∧ Below W.heap.size W w' := fun W => by have h := meets_any xl y W; rw [Hmt.out] at h; exact h
                have hmkd : ∀ W, Below wr.heap.size wr W → Calls Try.prog 74 #[.slice A' m' c'] W fun e w' => e = .returned (.agg #[mk1 y 0, mk1 y 1, mk1 y 2, mk1 y 3, mk1 y 4, mk1 y 5, mk1 y 6, mk1 y 7]) ∧ Below W.heap.size W w' := fun W hW => marked_any A' m' c' y W (HIn.out.below hW hW.size) hm' Hyb.out
                have r0 := H9w.out.cell 0
                have r1 := H9w.out.cell 1
                have r2 := H9w.out.cell 2
                have r3 := H9w.out.cell 3
                have r4 := H9w.out.cell 4
                have r5 := H9w.out.cell 5
                have r6 := H9w.out.cell 6
                have r7 := H9w.out.cell 7
                simp only [mkA, List.getElem?_toArray, List.getElem?_cons_zero, List.getElem?_cons_succ] at r0 r1 r2 r3 r4 r5 r6 r7
                refine wpIn_region_hd_all (fun W' => Below wr.heap.size wr W') (by kernel_rfl) (by kernel_rfl) ((Below.refl _ _).drew) ?_
                (refine wpHd_val (v := ?_) (by rfl) (fun W hW => ?_) ?_; rotate_left; (· obtain ⟨hcW, hfW⟩ := bcell hW; go_simp; with_reducible rfl); simp only [Act.put, List.setIfInBounds_toArray, List.set_cons_zero, List.set_cons_succ])
                (refine wpHd_val (v := ?_) (by rfl) (fun W hW => ?_) ?_; rotate_left; (· obtain ⟨hcW, hfW⟩ := bcell hW; go_simp; with_reducible rfl); simp only [Act.put, List.setIfInBounds_toArray, List.set_cons_zero, List.set_cons_succ])
                (refine wpHd_callB (by rfl) (fun W hW => hmkd W hW) (fun W hW => ?_) ?_; (· obtain ⟨hcW, hfW⟩ := bcell hW; go_simp); simp only [Act.put, List.setIfInBounds_toArray, List.set_cons_zero, List.set_cons_succ])
                (refine wpHd_callB (by rfl) (fun W hW => hmet W) (fun W hW => ?_) ?_; (· obtain ⟨hcW, hfW⟩ := bcell hW; go_simp); simp only [Act.put, List.setIfInBounds_toArray, List.set_cons_zero, List.set_cons_succ])
                (refine wpHd_val (v := ?_) (by rfl) (fun W hW => ?_) ?_; rotate_left; (· obtain ⟨hcW, hfW⟩ := bcell hW; go_simp; with_reducible rfl); simp only [Act.put, List.setIfInBounds_toArray, List.set_cons_zero, List.set_cons_succ])
                refine wpHd_nil ?_
                intro W7 hW7
                clear r0 r1 r2 r3 r4 r5 r6 r7
                gi_wp2
                have hg7 := grownM_then hgw hW7
                have H87 := H8.out.below hW7 l8
                have d7 := H87.cell 1
                have l87 := H87.lt
                refine wpIn_region_hd 8 (fun W' => Below W7.heap.size W7 W') (by kernel_rfl) (by kernel_rfl) ((Below.refl _ _).drew) ?_
                simp only [List.take_succ_cons, List.take_zero, List.drop_succ_cons, List.drop_zero]
                iterate 8 (refine wpHd_val (v := ?_) (by rfl) (fun W hW => ?_) ?_; rotate_left; (· obtain ⟨hcW, hfW⟩ := bcell hW; go_simp; with_reducible rfl); simp only [Act.put, List.setIfInBounds_toArray, List.set_cons_zero, List.set_cons_succ])
                refine wpHd_nil ?_
                intro W8 hW8
                have H88 := H87.below hW8 l87
                have d8 := H88.cell 1
                have f8 := H88.frozen 1
                have l88 := H88.lt
                have hg8 := grownM_setCell (o := 1) (grownM_then hg7 hW8) (.inr rfl : Vb.heap.size ≤ T8 ∨ T8 = T8) (.int .u64 ((W0 ||| q : Nat) : Int))
                have hS := H88.set_ 1 (.int .u64 ((W0 ||| q : Nat) : Int))
                have H8n : Hid (Blk (W8.setCell ⟨T8, 1, none⟩ (.int .u64 ((W0 ||| q : Nat) : Int))) T8 94 #[.slice Ax (k + 1) cx, .int .u64 (withN CL s xl (j + 1) : Nat), .int .u64 (gooN CL s xl (j + 1) : Nat)]) := hid (by rw [E1.out, E2.out]; exact hS)
                clear hS H88 H87 d7
                gi_wp2
                (first | exact ⟨⟨j + 1, by omega, by go_num, H8n, hg8⟩, (by first | (simp [intOf]; omega) | (simp [intOf]; done))⟩ | (refine ⟨?_, ?_⟩; (focus ((repeat apply Exists.intro); refine ⟨?_, rfl⟩; exact ⟨j + 1, by omega, by go_num, H8n, hg8⟩)); (first | (simp [intOf]; omega) | (simp [intOf]; done))))
          · have hje : CL.length = j := by omega
            have hjni : ¬ (j : Int) < CL.length := by omega
            rw [← hje] at H8
            have q81 := H8.out.cell 0
            have q82 := H8.out.cell 1
            have q83 := H8.out.cell 2
            have hVe : Below V.heap.size V wr := HbVb.out.grown hgw hzVb (fun r hr => by cases hr; omega)
            have hcut : ((pre ++ [(⟨.slice Ax (k + 1) cx, xl⟩ : PE)]).map PE.l).filter (keepS CL s) = (pre.map PE.l).filter (keepS CL s) ++ (if keepS CL s xl then [xl] else []) := by
              rw [List.map_append, List.filter_append]
              congr 1
              show ([xl].filter (keepS CL s)) = _
              cases hkk : keepS CL s xl <;> simp [hkk]
            have Hcut := hid hcut
            have hkd : keepS CL s xl = (decide (0 < withN CL s xl CL.length) && decide (0 < gooN CL s xl CL.length)) := rfl
            obtain ⟨W0, hW0⟩ : ∃ W0, withN CL s xl CL.length = W0 := ⟨_, rfl⟩
            obtain ⟨G0, hG0⟩ : ∃ G0, gooN CL s xl CL.length = G0 := ⟨_, rfl⟩
            rw [hW0, hG0] at hkd H8
            rw [hW0] at q82
            rw [hG0] at q83
            have HW0 := hid hW0
            have HG0 := hid hG0
            clear hje hcut hW0 hG0
            have skip : ∀ (hk0 : keepS CL s xl = false), ∃ own', (SInv T5 w.heap.size CL s (splTo CL s P k ++ ((pre ++ [(⟨.slice Ax (k + 1) cx, xl⟩ : PE)]).map PE.l).filter (keepS CL s)) own' wr ∧ Blk wr w.heap.size 69 #[.pointer (some ⟨g, 0, none⟩)] ∧ Blk wr T3 88 #[.int .u64 (s : Int)] ∧ Below w.heap.size w wr ∧ ∀ j, own' j → w.heap.size ≤ j ∧ j ≠ w.heap.size ∧ j ≠ T3) ∧ Grow ow V own' wr := fun hk0 => by
              refine ⟨ow, ⟨?_, HB2.out.below hVe hT2V, HB3.out.below hVe hT3V, hwr, HowB.out⟩, grow_below hlt hVe⟩
              rw [Hcut.out, hk0]
              simp only [Bool.false_eq_true, if_false, List.append_nil]
              have hS : SInv T5 w.heap.size CL s (splTo CL s P k ++ (pre.map PE.l).filter (keepS CL s)) ow V := ⟨vs, A0, c0, H5b.out, h2, H3r.out, H4.out, H5.out, H5t.out⟩
              exact hS.keep (fun q _ hq => hVe.block q hq) hVe.size
            have Hskip := hid skip
            clear skip
            by_cases hw0 : 0 < W0
            · have hw0i : (0 : Int) < W0 := by omega
              by_cases hg0 : 0 < G0
              · have hg0i : (0 : Int) < G0 := by omega
                have hk1 : keepS CL s xl = true := by rw [hkd, decide_eq_true hw0, decide_eq_true hg0]; rfl
                have Hk1 := hid hk1
                have q5 := (H5b.out.below hVe hT5V).cell 0
                have f5 := (H5b.out.below hVe hT5V).frozen 0
                have l5 : T5 < wr.heap.size := Nat.lt_of_lt_of_le hT5V hVe.size
                clear hkd hk1 hw0 hg0 Hskip
                obtain ⟨X1, hX1⟩ : ∃ X1, wr.alloc (.cells #[.slice Ax (k + 1) cx, .int .u64 (W0 : Int), .int .u64 (G0 : Int)] 94) = X1 := ⟨_, rfl⟩
                have hbX1 : Below wr.heap.size wr X1 := by rw [← hX1]; exact (Below.refl _ _).alloc (Nat.le_refl _) _
                have BL : Blk X1 wr.heap.size 94 #[.slice Ax (k + 1) cx, .int .u64 (W0 : Int), .int .u64 (G0 : Int)] := by rw [← hX1]; exact Blk.new' rfl
                have hbVX : Below V.heap.size V X1 := hVe.trans (hbX1.mono hVe.size)
                have B5X := H5b.out.below hbVX hT5V
                have hzX := hbVX.size
                gi_wp2_with (gi_at_builtin; refine wpListIn_append_own_at _ rfl _ _ 97 rfl w.heap.size 94 j0 _ 3 40 under97 J0.out J1.out J2.out J3.out rfl (by decide) _ vs.length ((vs.zip (splTo CL s P k ++ (pre.map PE.l).filter (keepS CL s))).flatMap (spC CL s)) rfl (owns_below H3r.out hbVX) ⟨wr.heap.size, 0, none⟩ 1 1 [.slice Ax (k + 1) cx, .int .u64 (W0 : Int), .int .u64 (G0 : Int)] rfl rfl (fun j u hj => World.news_of_block BL j u hj) (one_sp _ _ _ _ _) (by unfold maxLen; omega) (by omega) (by omega) ?_; intro v10 w10 ho10 hg10 _ hat10; obtain ⟨g10, c10, hv10, hg1b, hlt10⟩ := World.ownsRow.form ho10 (Nat.succ_pos _); subst hv10; have H2t := hid (B5X.grown hg10 (own_ne_blk (owns_below H3r.out hbVX) B5X (by decide)).symm); have q10 := H2t.out.cell 0; have f10 := H2t.out.frozen 0; have l10 := H2t.out.lt; have Ho10 := hid ho10; have Hat10 := hid hat10; have Hg10 := hid hg10; clear ho10 hat10 hg10)
                obtain ⟨w11, hw11⟩ : ∃ w11, w10.setCell ⟨T5, 0, none⟩ (.slice (some ⟨g10, 0, none⟩) (vs.length + 1) c10) = w11 := ⟨_, rfl⟩
                have hz11 : w11.heap.size = w10.heap.size := by rw [← hw11]; simp
                have hz10 := Hg10.out.size
                have hkeep : ∀ q, q < V.heap.size → ¬ ow q → w11.heap[q]? = V.heap[q]? := fun q hq hn => by
                  rw [← hw11]
                  refine (Below.heap_setCell _ _ _ _ (fun e => hn (by simp only at e; subst e; exact h2))).trans ((Hg10.out.block q (by omega) (fun e => hn (H4.out q e.symm))).trans (hbVX.block q hq))
                have hos : w11.os = V.os ∧ w11.tape = V.tape ∧ w11.output = V.output := by rw [← hw11]; exact ⟨Hg10.out.os.trans hbVX.os, Hg10.out.tape.trans hbVX.tape, Hg10.out.output.trans hbVX.output⟩
                have hVz : V.heap.size ≤ w11.heap.size := by omega
                have hg10g : g10 ≠ T5 := fun e => own_ne_blk Ho10.out H2t.out (by decide) (by rw [← e]; rfl)
                have hbw11 : Below w.heap.size w w11 := by
                  rw [← hw11]
                  exact ((HbV.out.trans (hbVX.mono hzwV)).grown Hg10.out (HbV.out.trans (hbVX.mono hzwV)).size (fun r hr => (World.ownsRow.lt (owns_below H3r.out hbVX) r hr).1)).setCell (by simp only; omega) _
                have hvl := H5.out.1
                have ho11 : w11.ownsRow w.heap.size 94 3 (.slice (some ⟨g10, 0, none⟩) (vs.length + 1) c10) (vs.length + 1) (((vs ++ [Value.slice Ax (k + 1) cx]).zip ((splTo CL s P k ++ (pre.map PE.l).filter (keepS CL s)) ++ [xl])).flatMap (spC CL s)) := by
                  rw [List.zip_append hvl, List.flatMap_append]
                  have e9 : ([Value.slice Ax (k + 1) cx].zip [xl]).flatMap (spC CL s) = [.slice Ax (k + 1) cx, .int .u64 (W0 : Int), .int .u64 (G0 : Int)] := by
                    rw [← HW0.out, ← HG0.out]; rfl
                  rw [e9]
                  refine owns_same Ho10.out (fun q hq => ?_)
                  have e3 : some g10 = some q := hq
                  cases e3
                  rw [← hw11]
                  exact Below.heap_setCell _ _ _ _ (by simp only; omega)
                have B11 : Blk w11 T5 97 #[.slice (some ⟨g10, 0, none⟩) (vs.length + 1) c10] := by rw [← hw11]; exact H2t.out.set_ 0 _
                have hg1011 : g10 < w11.heap.size := by omega
                have hg10V : g10 < V.heap.size → ow g10 := fun hh => by
                  rcases Hat10.out with h | h
                  · exact H4.out g10 h.symm
                  · have e3 : some g10 = some X1.heap.size := h
                    have := Option.some.inj e3
                    omega
                have hLC : LiC V (fun q => ow q ∨ q = g10) (vs ++ [.slice Ax (k + 1) cx]) ((splTo CL s P k ++ (pre.map PE.l).filter (keepS CL s)) ++ [xl]) := by
                  refine LiC.snoc (H5.out.foot (fun b hb hh => ?_)) HX.out (fun b off e => ⟨(hAll.out b off e).1, fun hh => (hAll.out b off e).2 ?_⟩)
                  · rcases hh with h | rfl
                    · exact h
                    · exact hg10V hb
                  · have hb := (hAll.out b off e).1
                    rcases hh with h | rfl
                    · exact h
                    · exact hg10V hb
                have hLC7 := (hLC.stab (V' := w11) (fun q o ho hc hn => (hkeep q (Array.getElem?_eq_some_iff.1 ho).1 (fun h => hn (.inl h))).trans ho) hVz).foot (ow' := fun q => q = T5 ∨ q = g10) (fun b _ hh => by
                  rcases hh with rfl | h
                  · exact .inl h2
                  · exact .inr h)
                have hvl2 : (vs ++ [Value.slice Ax (k + 1) cx]).length = vs.length + 1 := by simp
                have B2f : Blk w11 w.heap.size 69 #[.pointer (some ⟨g, 0, none⟩)] := (hkeep _ hT2V (fun h => (HowB.out _ h).2.1 rfl)).trans HB2.out
                have B3f : Blk w11 T3 88 #[.int .u64 (s : Int)] := (hkeep _ hT3V (fun h => (HowB.out _ h).2.2 rfl)).trans HB3.out
                have hgb := (World.ownsRow.lt Ho10.out g10 rfl).1
                have hn3 : g10 ≠ T3 := fun e => by
                  obtain ⟨cs, fr, h9⟩ := own_block Ho10.out (q := g10) rfl
                  have h10 := B3f
                  unfold Blk at h10
                  obtain ⟨cs', fr', h11⟩ := own_block ho11 (q := g10) rfl
                  rw [e] at h11
                  rw [h10] at h11; cases h11
                have hn2 : g10 ≠ w.heap.size := fun e => by
                  have h10 := B2f
                  unfold Blk at h10
                  obtain ⟨cs', fr', h11⟩ := own_block ho11 (q := g10) rfl
                  rw [e] at h11
                  rw [h10] at h11; cases h11
                show footPost _ _ _ ow V .normal _ (w10.setCell ⟨T5, 0, none⟩ (.slice (some ⟨g10, 0, none⟩) (vs.length + 1) c10))
                rw [hw11]
                refine ⟨fun q => q = T5 ∨ q = g10, ⟨⟨vs ++ [.slice Ax (k + 1) cx], some ⟨g10, 0, none⟩, c10, ?_, .inl rfl, ?_, ?_, ?_, ?_⟩, B2f, B3f, hbw11, ?_⟩, ⟨hos.1, hos.2.1, hos.2.2, hVz, ?_, ?_, hkeep⟩⟩
                · rw [hvl2]; exact B11
                · rw [hvl2, Hcut.out, Hk1.out]
                  simp only [if_true]
                  rw [← List.append_assoc]
                  exact ho11
                · intro q hq
                  have e3 : some g10 = some q := hq
                  cases e3
                  exact .inr rfl
                · rw [Hcut.out, Hk1.out]
                  simp only [if_true]
                  rw [← List.append_assoc]
                  exact hLC7
                · intro q hq
                  rcases hq with h | h
                  · exact .inl h
                  · exact .inr (by rw [h]; rfl)
                · rintro q (rfl | rfl)
                  · omega
                  · exact ⟨hgb, hn2, hn3⟩
                · rintro q (rfl | rfl)
                  · exact .inl h2
                  · rcases Nat.lt_or_ge q V.heap.size with h | h
                    · exact .inl (hg10V h)
                    · exact .inr h
                · rintro q (rfl | rfl)
                  · exact B11.lt
                  · exact hg1011
              · have hg0i : ¬ (0 : Int) < G0 := by omega
                have hk0 : keepS CL s xl = false := by rw [hkd, decide_eq_false hg0, Bool.and_false]
                have hsk := Hskip.out hk0
                have Hsk := hid hsk
                clear hkd hk0 hsk Hskip
                gi_wp2
                exact Hsk.out
            · have hw0i : ¬ (0 : Int) < W0 := by omega
              have hk0 : keepS CL s xl = false := by rw [hkd, decide_eq_false hw0, Bool.false_and]
              have hsk := Hskip.out hk0
              have Hsk := hid hsk
              clear hkd hk0 hsk Hskip
              gi_wp2
              exact Hsk.out
      case done =>
        rintro Dm ys ow V hDm hys ⟨h1, h2, h3, h4, h5⟩ hg6 hnB rfl hK
        have hgx : Grow own wr ow V := (grow_below hownlt Hb06.out).trans hg6
        have hmx : MarksO ow W1.heap.size X6.heap.size V ds := hmk.out.step hzw6 (fun E hE hn h => by
          rcases hgx.from_ E h with h4 | h4
          · exact hn h4
          · omega) (fun E hE hn => hgx.same E hE hn)
        have hmx2 := hmx.push (by omega : W1.heap.size ≤ X6.heap.size) (Nat.le_refl _) (fun h => (hnB _ h).1 rfl) hK
        have hVlt : X6.heap.size < V.heap.size := (Array.getElem?_eq_some_iff.1 hK).1
        have hmx3 := hid (hmx2.step (M' := V.heap.size) (W' := V) (by omega) (fun _ _ h => h) (fun _ _ _ => rfl))
        have hC2 : Hid (SInv T5 w.heap.size CL s (splTo CL s P (k + 1)) ow V) := hid (by rw [splTo_succ, ← hys]; exact h1)
        have hgr2 := hid (hgr.out.trans hgx)
        have zk : IntKind.i64.wrap ((k : Int) + 1 + 1) = (k : Int) + 1 + 1 := IntWalk.i64_in _ (by omega)
        simp only [hTT]
        clear h1 h2 h3 h4 h5 hmx hmx2 hgx hys
        gi_wp2
        refine ⟨?_, by simp [intOf]; omega⟩
        repeat apply Exists.intro
        refine ⟨⟨k + 1, ow, by omega, (by go_num : Value.int .i64 ((k : Int) + 1 + 1) = _), hC2, hgr2, hmx3⟩, rfl⟩
    · have hke : P = k := by omega
      have hlti : ¬ (k : Int) + 1 ≤ P := by omega
      obtain ⟨vs, A5, c5, h1, h2, h3, h4, h5, h6⟩ := hC.out
      have r5 := h1.cell 0
      have k5 := h1.lt
      have hsp : SpS wr wr.heap.size A5 CL s (splR CL s P) := by
        have e : splTo CL s P k = splR CL s P := by rw [← hke]; rfl
        rw [e] at h3 h5
        have hsl := Sl.of_own h3
        rw [h5.1] at hsl
        exact ⟨vs, h5.1, hsl, fun j l hl => by obtain ⟨A', m, c', q1, q2, -⟩ := h5.2 j l hl; exact ⟨A', m, c', q1, q2⟩⟩
      have hlv : vs.length = (splR CL s P).length := by rw [h5.1, ← hke]; rfl
      have hcap := own_cap h3
      have HSP := hid hsp
      have Hlv := hid hlv
      clear h1 h2 h3 h4 h5 h6 hsp hlv hC hke
      gi_wp2
      refine hmk.out.leaves (fun Ds w' hDs ho => ⟨.slice A5 vs.length c5, (by first | (simp [results, Try.results83, go_sem]; done) | (simp [results, Try.results83, go_sem, *]; done) | (simp [results, Try.results83, go_sem, World.cell?_setCell_same', *]; done) | (simp [results, Try.results83, go_sem]; first | exact ⟨rfl, rfl⟩ | rfl)), A5, c5, by rw [Hlv.out], ?_, by rw [← Hlv.out]; exact hcap, ho.below hbwr (fun D hD => by have := (hDs D hD).1; have := Hz1.out; omega)⟩)
      rw [ho.size]
      exact HSP.out.cells (fun p => ho.cell p)
end Go.Proofs.Ytpgdfipikfbjeaa
/- Keys of the memory of what is needed; what the memory holds. -/
namespace Go.Proofs.Ytpgdfipikfbjeaa
open Go.RowKit Go.WideMaps
open Go.Maps (Keyed)
attribute [local go_sem] Oper.semAt_some
theorem laidOut : laidOutB Try.prog = true := by kernel_rfl
set_option maxRecDepth 100000 in
theorem row88 : (88 : TypeId) < Try.prog.types.size := by
  have : decide ((88 : TypeId) < Try.prog.types.size) = true := by kernel_rfl
  exact of_decide_eq_true this
set_option maxRecDepth 100000 in
theorem wide88 : (match Try.prog.underlying 88 with | some (.array _ _) | some (.struct _) => true | _ => false) = true := by kernel_rfl
set_option maxRecDepth 100000 in
theorem law88 : KeyLaw Try.prog 88 := deep_law_laid laidOut (m := 2) (by omega) row88 (by kernel_rfl) wide88
theorem K88 : Keyed Try.prog 88 := Maps.Keyed.of_law law88
theorem under73 : Try.prog.underlying 73 = some (.map 88 3) := by kernel_rfl
theorem under86 : Try.prog.underlying 86 = some (.int .u64) := by kernel_rfl
def kS (s : Nat) : Lit := .string (keyBytes [.int .u64 (s : Int)])
theorem wf_u64 {a : Nat} (h2 : a < 1000000) : (Lit.int .u64 (a : Int)).wf = true := by
  simp [Lit.wf, IntKind.min, IntKind.max, IntKind.signed, IntKind.bits]
  omega
set_option maxRecDepth 100000 in
theorem key_kS {s : Nat} (h : s < 65536) : keyOf Try.prog 88 (.agg #[.int .u64 (s : Int)]) = some (kS s) := by
  have hf : (match Try.prog.underlying 88 with | some (.struct fs) => fs.toList.map (fun f => (f.type, f.offset, f.name != "_")) | _ => []) = [(86, 0, true)] := by kernel_rfl
  have hkt : Try.prog.keyType 88 = true := by kernel_rfl
  have c88 : Try.prog.cellsOf 88 = 1 := by kernel_rfl
  have c86 : Try.prog.cellsOf 86 = 1 := by kernel_rfl
  obtain ⟨d, hd⟩ : ∃ d, Try.prog.types.size + 1 = d + 2 := ⟨Try.prog.types.size - 1, by have h := row88; have h2 : 88 < Try.prog.types.size := h; omega⟩
  have w1 : (Lit.int .u64 (s : Int)).wf = true := wf_u64 (by omega)
  have hcs : keyOf Try.prog 88 (.agg #[.int .u64 (s : Int)]) = (match Try.prog.underlying 88 with | some (.array _ _) | some (.struct _) => (Try.prog.keyLits (d + 2) 88 [.int .u64 (s : Int)]).map fun ls => .string (keyBytes ls) | _ => mapKey Try.prog 88 (.agg #[.int .u64 (s : Int)])) := by
    unfold keyOf
    rw [hkt, hd]
    have hform : Value.formed Try.prog 88 (.agg #[.int .u64 (s : Int)]) = true := by
      have hw := wide88
      unfold Value.formed
      revert hw
      cases Try.prog.underlying 88 with
      | none => intro h; cases h
      | some T => cases T <;> intro h <;> first | (simp [c88]; done) | (cases h)
    rw [hform]
    rfl
  rw [hcs]
  have hkl : ∀ (fs : Array Field), Try.prog.underlying 88 = some (.struct fs) → fs.toList.map (fun f => (f.type, f.offset, f.name != "_")) = [(86, 0, true)] → Try.prog.keyLits (d + 2) 88 [.int .u64 (s : Int)] = some [.int .u64 (s : Int)] := by
    intro fs hu hfs
    obtain ⟨fl⟩ := fs
    rcases fl with _ | ⟨f1, _ | ⟨f2, r⟩⟩
    · simp at hfs
    · simp only [List.map_cons, List.map_nil, List.cons.injEq, Prod.mk.injEq, and_true] at hfs
      obtain ⟨a1, a2, a3⟩ := hfs
      unfold Program.keyLits
      rw [hu]
      simp only [List.length_cons, List.length_nil, c88, List.all_toArray, List.all_cons, List.all_nil, a3, Bool.and_true, and_self, if_true, List.mapM_cons, List.mapM_nil, a1, a2, c86, List.drop_zero, List.take_succ_cons, List.take_zero]
      unfold Program.keyLits
      simp only [under86, w1, and_self, if_true]
      rfl
    · simp at hfs
  revert hf hkl
  cases Try.prog.underlying 88 with
  | none => intro hf; cases hf
  | some T =>
    cases T with
    | struct fs => intro hf hkl; rw [hkl fs rfl hf]; rfl
    | _ => intro hf; cases hf
theorem kS_ne {s t : Nat} (hs : s < 65536) (ht : t < 65536) (hne : s ≠ t) : kS s ≠ kS t := by
  intro e
  have x := key_kS hs
  have y := key_kS ht
  rw [e] at x
  have := K88.inj x y
  injection this with this
  simp only [Array.mk.injEq, List.cons.injEq, Value.int.injEq, true_and, and_true] at this
  exact hne (by omega)
/-- The memory holds nothing wrong. -/
structure Memo (CL : List (List Int)) (P : Nat) (D : DataW Unit) : Prop where
  ok : ∀ s, s < 65536 → Maps.has D (kS s) = true → ∀ z, D.atKey (kS s) z = .lit (.int .i64 (need CL P s : Nat))
  keys : ∃ es : List (Lit × DataW Unit), D = .map es ∧ ∀ p ∈ es, ∃ s, s < 65536 ∧ p.1 = kS s
theorem Memo.isMap {CL : List (List Int)} {P : Nat} {D : DataW Unit} (h : Memo CL P D) : Maps.IsMap D := by obtain ⟨es, e, -⟩ := h.keys; exact ⟨es, e⟩
theorem Memo.nil (CL : List (List Int)) (P : Nat) : Memo CL P (.map []) := ⟨fun s _ h => by simp [Maps.has] at h, [], rfl, fun p hp => by cases hp⟩
theorem Memo.put {CL : List (List Int)} {P : Nat} {D : DataW Unit} (h : Memo CL P D) {s : Nat} (hs : s < 65536) : Memo CL P (D.put (kS s) (.lit (.int .i64 (need CL P s : Nat)))) := by
  have hk := K88.key (key_kS hs)
  have ha := fun z => Maps.atKey_put_same h.isMap hk (.lit (.int .i64 (need CL P s : Nat))) z
  refine ⟨fun t ht hh z => ?_, ?_⟩
  · by_cases e : t = s
    · subst e; exact ha z
    · have hne := kS_ne ht hs e
      rw [Maps.has_put_other hne] at hh
      rw [Maps.atKey_put_other hne]
      exact h.ok t ht hh z
  · obtain ⟨es, rfl, h2⟩ := h.keys
    refine ⟨_, rfl, fun p hp => ?_⟩
    rcases Go.ChangeMaps.mem_insert_iff.1 hp with rfl | hp
    · exact ⟨s, hs, rfl⟩
    · exact h2 p (List.mem_filter.1 hp).1
theorem Memo.del {CL : List (List Int)} {P : Nat} {D : DataW Unit} (h : Memo CL P D) {s : Nat} (hs : s < 65536) : Memo CL P (D.del (kS s)) := by
  refine ⟨fun t ht hh z => ?_, ?_⟩
  · by_cases e : t = s
    · subst e
      rw [Maps.has_del_same] at hh; cases hh
    · have hne := kS_ne ht hs e
      rw [Maps.has_del_other hne] at hh
      rw [Maps.atKey_del_other hne]
      exact h.ok t ht hh z
  · obtain ⟨es, rfl, h2⟩ := h.keys
    exact ⟨_, rfl, fun p hp => h2 p (List.mem_filter.1 hp).1⟩
/-- There are no more entries than keys. -/
theorem Memo.small {CL : List (List Int)} {P : Nat} {D : DataW Unit} (h : Memo CL P D) (ht : Maps.Tidy D) : Maps.size D ≤ 65536 := by
  obtain ⟨es, rfl, h2⟩ := h.keys
  obtain ⟨es', e, h3⟩ := ht
  cases e
  have hc : ∀ p : Lit × DataW Unit, ∃ s, p ∈ es → s < 65536 ∧ p.1 = kS s := fun p => by
    by_cases hp : p ∈ es
    · obtain ⟨s, h4⟩ := h2 p hp; exact ⟨s, fun _ => h4⟩
    · exact ⟨0, fun h => absurd h hp⟩
  have hn : (es.map fun p => Classical.choose (hc p)).Nodup := by
    rw [List.nodup_iff_pairwise_ne, List.pairwise_map]
    refine h3.imp_of_mem (fun {a b} ha hb hab e => hab ?_)
    have q1 := (Classical.choose_spec (hc a) ha).2
    have q2 := (Classical.choose_spec (hc b) hb).2
    rw [q1, q2, e]
  have := (Sx.nodup_len (n := 65536) hn (fun k hk => by
    obtain ⟨p, hp, rfl⟩ := List.mem_map.1 hk
    exact (Classical.choose_spec (hc p) hp).1)).1
  rw [List.length_map] at this
  exact this
end Go.Proofs.Ytpgdfipikfbjeaa
/- Plain law of what is needed: the program's fold over all rods that split; the best rod. -/
namespace Go.Proofs.Ytpgdfipikfbjeaa
theorem cnt_ext {x n m : Nat} (hx : x < 2 ^ n) (hm : n ≤ m) : cnt x m = cnt x n := by
  obtain ⟨d, rfl⟩ : ∃ d, m = n + d := ⟨m - n, by omega⟩
  clear hm
  induction d with
  | zero => rfl
  | succ d ih =>
    have hb : x.testBit (n + d) = false := Nat.testBit_lt_two_pow (Nat.lt_of_lt_of_le hx (Nat.pow_le_pow_right (by omega) (Nat.le_add_right n d)))
    show cnt x (n + d) + (if x.testBit (n + d) = true then 1 else 0) = _
    rw [ih, hb]
    simp
/-- What a rod's results leave to be needed, and one more. -/
def vN (l : List (List Int)) (P s : Nat) (x : List Int) : Nat := 1 + max (need l P (withN l s x l.length)) (need l P (gooN l s x l.length))
/-- The least that it can be. -/
def leastN (l : List (List Int)) (s : Nat) (x : List Int) : Nat := max (Go.Lib.bitLen (cnt (withN l s x l.length) 16 - 1)) (Go.Lib.bitLen (cnt (gooN l s x l.length) 16 - 1))
def stepP (l : List (List Int)) (P s : Nat) (out : Nat) (x : List Int) : Nat := if leastN l s x + 1 < out then min out (vN l P s x) else out
/-- The first k of the rods are tried. -/
def foldP (l : List (List Int)) (P s : Nat) (X : List (List Int)) (k : Nat) : Nat := (X.take k).foldl (stepP l P s) l.length
theorem foldP_succ {l : List (List Int)} {P s : Nat} {X : List (List Int)} {k : Nat} {x : List Int} (h : X[k]? = some x) : foldP l P s X (k + 1) = stepP l P s (foldP l P s X k) x := by
  unfold foldP
  rw [List.take_add_one, h, List.foldl_append]; rfl
theorem foldP_le (l : List (List Int)) (P s : Nat) (X : List (List Int)) : ∀ k, foldP l P s X k ≤ l.length := by
  intro k
  induction k with
  | zero => exact Nat.le_refl _
  | succ k ih =>
    cases h : X[k]? with
    | none =>
      have : X.take (k + 1) = X.take k := by rw [List.take_add_one, h]; simp
      unfold foldP at *
      rw [this]; exact ih
    | some x =>
      rw [foldP_succ h]
      unfold stepP
      split <;> omega
theorem rod_mem {P k : Nat} (hP : P ≤ 8) (hk : k ≤ 8) : ∀ x ∈ rodsTo P k, isL P 0 x = true := by
  have : ∀ P : Fin 9, ∀ k : Fin 9, (rodsTo P.val k.val).all (fun x => isL P.val 0 x) = true := by decide +kernel
  exact fun x hx => List.all_eq_true.1 (this ⟨P, by omega⟩ ⟨k, by omega⟩) x hx
theorem rod_bd {P k : Nat} (hP : P ≤ 8) (hk : k ≤ 8) : ∀ x ∈ rodsTo P k, ∀ v ∈ x, 0 ≤ v ∧ v < (P : Int) := fun x hx => isL_bd (rod_mem hP hk x hx)
theorem rod_len {P k : Nat} (hP : P ≤ 8) (hk : k ≤ 8) : ∀ x ∈ rodsTo P k, x.length ≤ 8 := by
  have : ∀ P : Fin 9, ∀ k : Fin 9, (rodsTo P.val k.val).all (fun x => decide (x.length ≤ 8)) = true := by decide +kernel
  exact fun x hx => of_decide_eq_true (List.all_eq_true.1 (this ⟨P, by omega⟩ ⟨k, by omega⟩) x hx)
theorem listed_rod {P b : Nat} (hP : P ≤ 5) (h1 : 1 ≤ b) (hb : b < 2 ^ P) : listed b P ∈ rodsTo P P := by
  have : ∀ P : Fin 6, ∀ b : Fin 32, 1 ≤ b.val → b.val < 2 ^ P.val → listed b.val P.val ∈ rodsTo P.val P.val := by decide +kernel
  exact this ⟨P, by omega⟩ ⟨b, by have : 2 ^ P ≤ 2 ^ 5 := Nat.pow_le_pow_right (by omega) hP; omega⟩ h1 hb
section
variable {l : List (List Int)} {P s : Nat}
theorem keepS_iff (hs : s < 2 ^ l.length) (x : List Int) : keepS l s x = true ↔ withN l s x l.length ≠ 0 ∧ withN l s x l.length ≠ s := by
  have hle := withN_le l s x l.length
  unfold keepS
  rw [Bool.and_eq_true, decide_eq_true_eq, decide_eq_true_eq, gooN_sub hs]
  omega
theorem vN_up (hs : s < 2 ^ l.length) (hP : P ≤ 8) {x : List Int} (hx : x ∈ splR l s P) : need l P s ≤ vN l P s x := by
  obtain ⟨hx1, hx2⟩ := List.mem_filter.1 hx
  obtain ⟨h1, h2⟩ := (keepS_iff hs x).1 hx2
  have hb := rod_bd hP hP x hx1
  have hw := withN_mask (l := l) (left := s) hb l.length
  have hb1 : 1 ≤ maskR x P := by
    rcases Nat.eq_zero_or_pos (maskR x P) with h | h
    · rw [h, listed_zero, withN_nil] at hw
      exact absurd hw.symm h1
    · exact h
  have := need_up l P s (maskR x P) hb1 (maskR_lt x P) (by rw [hw]; exact h1) (by rw [hw]; exact h2)
  rw [hw] at this
  unfold vN
  rw [gooN_sub hs]
  omega
theorem withN_lt' (l : List (List Int)) (s : Nat) (x : List Int) : withN l s x l.length < 2 ^ l.length := withN_lt l s x l.length
theorem bit_le {c k : Nat} (hc : c ≤ 2 ^ k) (hk : k ≤ 64) : Go.Lib.bitLen (c - 1) ≤ k := Go.Lib.bitLen_le (c - 1) k hk (by have := Nat.two_pow_pos k; omega)
theorem leastN_le (hl : l.length ≤ 16) (x : List Int) : leastN l s x + 1 ≤ vN l P s x := by
  have h1 := need_low l P _ (withN_lt' l s x)
  have h2 := need_low l P _ (gooN_lt l s x l.length)
  rw [← cnt_ext (withN_lt' l s x) hl] at h1
  rw [← cnt_ext (gooN_lt l s x l.length) hl] at h2
  have n1 := need_le l P (withN l s x l.length)
  have n2 := need_le l P (gooN l s x l.length)
  have b1 := bit_le h1 (by omega)
  have b2 := bit_le h2 (by omega)
  unfold leastN vN
  omega
theorem stepP_min (hl : l.length ≤ 16) (out : Nat) (x : List Int) : stepP l P s out x = min out (vN l P s x) := by
  have := leastN_le (P := P) (s := s) hl x
  unfold stepP
  split <;> omega
theorem foldl_min (f : List Int → Nat) : ∀ (X : List (List Int)) (a : Nat), X.foldl (fun o x => min o (f x)) a ≤ a ∧ (∀ x ∈ X, X.foldl (fun o x => min o (f x)) a ≤ f x) ∧ (∀ m, m ≤ a → (∀ x ∈ X, m ≤ f x) → m ≤ X.foldl (fun o x => min o (f x)) a)
  | [], a => ⟨Nat.le_refl _, fun x hx => (by cases hx), fun m hm _ => hm⟩
  | y :: X, a => by
    obtain ⟨h1, h2, h3⟩ := foldl_min f X (min a (f y))
    refine ⟨Nat.le_trans h1 (by omega), fun x hx => ?_, fun m hm hX => h3 m (by have := hX y (by simp); omega) (fun x hx => hX x (by simp [hx]))⟩
    rcases List.mem_cons.1 hx with rfl | hx
    · exact Nat.le_trans h1 (by omega)
    · exact h2 x hx
/-- The program's fold over all rods that split is what is needed. -/
theorem foldP_need (hl : l.length ≤ 16) (hP : P ≤ 5) (hs : s < 2 ^ l.length) (hc : 2 ≤ cnt s 16) : foldP l P s (splR l s P) (splR l s P).length = need l P s := by
  have e : foldP l P s (splR l s P) (splR l s P).length = (splR l s P).foldl (fun o x => min o (vN l P s x)) l.length := by
    unfold foldP
    rw [List.take_length]
    congr 1
    funext o x
    exact stepP_min hl o x
  rw [e]
  obtain ⟨h1, h2, h3⟩ := foldl_min (vN l P s) (splR l s P) l.length
  have lo := h3 (need l P s) (need_le _ _ _) (fun x hx => vN_up hs (by omega) hx)
  rcases need_at l P s with h | h | ⟨b, k1, k2, k3, k4, k5⟩
  · exfalso
    have := need_low l P s hs
    rw [h, ← cnt_ext hs hl] at this
    omega
  · omega
  · have hm : listed b P ∈ splR l s P := List.mem_filter.2 ⟨listed_rod hP k1 k2, (keepS_iff hs _).2 ⟨k3, k4⟩⟩
    have := h2 _ hm
    have e2 : vN l P s (listed b P) = need l P s := by
      unfold vN
      rw [gooN_sub hs, k5]; omega
    omega
/-- There is a rod that is as good. -/
theorem best_rod (hP : P ≤ 5) (hs : s < 2 ^ l.length) (h0 : need l P s ≠ 0) (hn : need l P s < l.length) : ∃ x ∈ splR l s P, vN l P s x = need l P s := by
  rcases need_at l P s with h | h | ⟨b, k1, k2, k3, k4, k5⟩
  · exact absurd h h0
  · omega
  · refine ⟨listed b P, List.mem_filter.2 ⟨listed_rod hP k1 k2, (keepS_iff hs _).2 ⟨k3, k4⟩⟩, ?_⟩
    unfold vN
    rw [gooN_sub hs, k5]; omega
end
/-- The first of several whose number is least. -/
def bestX (f : List Int → Nat) : List (List Int) → List Int
  | [] => []
  | x :: l => l.foldl (fun o y => if f y < f o then y else o) x
theorem bestX_foldl (f : List Int → Nat) : ∀ (l : List (List Int)) (x : List Int), (l.foldl (fun o y => if f y < f o then y else o) x ∈ x :: l) ∧ f (l.foldl (fun o y => if f y < f o then y else o) x) ≤ f x ∧ ∀ y ∈ l, f (l.foldl (fun o y => if f y < f o then y else o) x) ≤ f y
  | [], x => ⟨by simp, Nat.le_refl _, fun y hy => (by cases hy)⟩
  | z :: l, x => by
    simp only [List.foldl_cons]
    by_cases h : f z < f x
    · rw [if_pos h]
      obtain ⟨h1, h2, h3⟩ := bestX_foldl f l z
      refine ⟨List.mem_cons_of_mem _ h1, by omega, fun y hy => ?_⟩
      rcases List.mem_cons.1 hy with rfl | hy
      · exact h2
      · exact h3 y hy
    · rw [if_neg h]
      obtain ⟨h1, h2, h3⟩ := bestX_foldl f l x
      refine ⟨?_, h2, fun y hy => ?_⟩
      · rcases List.mem_cons.1 h1 with e | e
        · rw [e]; simp
        · exact List.mem_cons_of_mem _ (List.mem_cons_of_mem _ e)
      · rcases List.mem_cons.1 hy with rfl | hy
        · omega
        · exact h3 y hy
theorem bestX_mem (f : List Int → Nat) {l : List (List Int)} (h : l ≠ []) : bestX f l ∈ l ∧ ∀ y ∈ l, f (bestX f l) ≤ f y := by
  cases l with
  | nil => exact absurd rfl h
  | cons x l =>
    obtain ⟨h1, h2, h3⟩ := bestX_foldl f l x
    exact ⟨h1, fun y hy => by
      rcases List.mem_cons.1 hy with rfl | hy
      · exact h2
      · exact h3 y hy⟩
end Go.Proofs.Ytpgdfipikfbjeaa
/- The memory of what is needed, in a world. -/
namespace Go.Proofs.Ytpgdfipikfbjeaa
open Go.RowKit Go.WideMaps
open Go.Maps (Keyed)
attribute [local go_sem] Oper.semAt_some
abbrev OM (w : World) (mp n : Nat) (D : DataW Unit) : Prop := w.ownsMap Try.prog 88 (plainElem (H := Unit) Try.prog 3) mp n D
theorem om_size {w : World} {mp n k : Nat} {D : DataW Unit} (h : OM w mp n D) (hk : Maps.size D ≤ k) : OM w mp k D := by
  obtain ⟨es, clock, h1, h2, h3, rfl⟩ := h
  refine ⟨es, clock, h1, h2, ?_, rfl⟩
  rw [Maps.size_eq, length_sorted] at hk
  simpa using hk
/-- The memory holds nothing wrong, and is small. -/
def MemW (CL : List (List Int)) (P mp : Nat) (w : World) : Prop := ∃ D, OM w mp 65536 D ∧ Memo CL P D
theorem MemW.isMap {CL : List (List Int)} {P mp : Nat} {w : World} (h : MemW CL P mp w) : ∃ es c, w.heap[mp]? = some (.map es c) := by
  obtain ⟨D, ⟨es, c, h1, -⟩, -⟩ := h
  exact ⟨es, c, h1⟩
theorem MemW.kept {CL : List (List Int)} {P mp : Nat} {w w' : World} (h : MemW CL P mp w) (hb : w'.heap[mp]? = w.heap[mp]?) : MemW CL P mp w' := by
  obtain ⟨D, ⟨es, c, h1, h2⟩, h3⟩ := h
  exact ⟨D, ⟨es, c, hb.trans h1, h2⟩, h3⟩
theorem MemW.lt {CL : List (List Int)} {P mp : Nat} {w : World} (h : MemW CL P mp w) : mp < w.heap.size := by
  obtain ⟨es, c, h1⟩ := h.isMap
  exact (Array.getElem?_eq_some_iff.1 h1).1
theorem MemW.below {CL : List (List Int)} {P mp : Nat} {w w' : World} (h : MemW CL P mp w) (hb : Below w.heap.size w w') : MemW CL P mp w' := h.kept (hb.block mp h.lt)
theorem MemW.new {CL : List (List Int)} {P mp : Nat} {w : World} (h : w.heap[mp]? = some (.map #[] 0)) : MemW CL P mp w := by
  obtain ⟨es, c, h1, h2, h3, h4⟩ := World.ownsMap_made (H := Unit) w Try.prog 88 (plainElem (H := Unit) Try.prog 3)
  have e : (w.alloc (.map #[] 0)).heap[w.heap.size]? = some (.map #[] 0) := World.alloc_heap_new w _
  rw [e] at h1
  cases h1
  exact ⟨_, ⟨#[], 0, h, h2, by simp, h4⟩, Memo.nil CL P⟩
theorem cell_grownM {w w' : World} {mp : Nat} {es : Array MapEntry} {c : Nat} (hg : w.grownBy w' (some mp)) (hm : w.heap[mp]? = some (.map es c)) {p : Addr} {u : Value} (h : w.cell? p = some u) : w'.cell? p = some u :=
  hg.cell h (fun e => by
    have e2 : p.block = mp := (Option.some.inj e)
    simp [World.cell?, e2, hm] at h)
theorem Sl.growM {w w' : World} {mp B s n : Nat} {es : Array MapEntry} {c : Nat} {A : Option Addr} {xs : List Value} (hg : w.grownBy w' (some mp)) (hm : w.heap[mp]? = some (.map es c)) (h : Sl w B s A n xs) : Sl w' B s A n xs :=
  ⟨h.1, fun hn => by
    obtain ⟨b, off, e, hb, hc⟩ := h.2 hn
    exact ⟨b, off, e, hb, fun j u hu => cell_grownM hg hm (hc j u hu)⟩⟩
theorem blk_growM {w w' : World} {mp g t : Nat} {es : Array MapEntry} {c : Nat} {cs : Array Value} (hg : w.grownBy w' (some mp)) (hm : w.heap[mp]? = some (.map es c)) (h : Blk w g t cs) : Blk w' g t cs :=
  h.grown hg (fun e => by
    have e2 : g = mp := Option.some.inj e
    unfold Blk at h
    rw [e2, hm] at h; cases h)
theorem LiT.growM {w w' : World} {mp B n : Nat} {es : Array MapEntry} {c : Nat} {A : Option Addr} {ls : List (List Int)} (hg : w.grownBy w' (some mp)) (hm : w.heap[mp]? = some (.map es c)) (h : LiT w B A n ls) : LiT w' B A n ls := by
  obtain ⟨⟨h1, vs, h2, h3⟩, h4⟩ := h
  refine ⟨⟨h1, vs, h2.growM hg hm, fun k l hl => by obtain ⟨A', m, c', e, h5⟩ := h3 k l hl; exact ⟨A', m, c', e, Sl.growM hg hm h5⟩⟩, fun k hk b off A' m c' hA hcl b' off' hA' => ?_⟩
  obtain ⟨b1, o1, eA, hb1, hc1⟩ := h2.2 (by omega)
  rw [hA] at eA; cases eA
  have hvl := h2.1
  obtain ⟨v, hv⟩ : ∃ v, vs[k]? = some v := ⟨_, List.getElem?_eq_getElem (by omega)⟩
  have hw := hc1 k v hv
  rw [cell_grownM hg hm hw] at hcl
  cases hcl
  exact h4 k hk b off A' m c' hA hw b' off' hA'
theorem Bench.growM {W W' : World} {g P M mp mq : Nat} {CL pl : List (List Int)} {es : Array MapEntry} {c : Nat} (h : Bench W g P M CL pl mp) (hg : W.grownBy W' (some mq)) (hm : W.heap[mq]? = some (.map es c)) : Bench W' g P M CL pl mp := by
  obtain ⟨A1, c1, A2, c2, h1, h2, h3, h4⟩ := h
  refine ⟨A1, c1, A2, c2, blk_growM hg hm h1, ?_, ?_, h4⟩
  · exact LiT.below (LiT.growM hg hm h2) (Below.refl _ _) hg.size
  · exact (Sl.growM hg hm h3).more hg.size
theorem SpS.growM {w w' : World} {mp B s : Nat} {es : Array MapEntry} {c : Nat} {A : Option Addr} {CL ls : List (List Int)} (hg : w.grownBy w' (some mp)) (hm : w.heap[mp]? = some (.map es c)) (h : SpS w B A CL s ls) : SpS w' B A CL s ls := by
  obtain ⟨vs, h1, h2, h3⟩ := h
  exact ⟨vs, h1, h2.growM hg hm, fun k l hl => by obtain ⟨A', m, c', e, h4⟩ := h3 k l hl; exact ⟨A', m, c', e, Sl.growM hg hm h4⟩⟩
theorem zero3 (W : World) : (zeroValue 3).run Try.prog W = .ok (.int .i64 0) W := by go_simp
/-- What the memory says of a set of cases. -/
theorem look_okS {w : World} {mp n : Nat} {D : DataW Unit} {s : Nat} {c : Int} (hown : OM w mp n D) (hs : s < 65536) (hat : D.atKey (kS s) (.lit (.int .i64 0)) = .lit (.int .i64 c)) :
    (Instr.lookup 73 (.map (some mp)) (.agg #[.int .u64 (s : Int)]) true).run Try.prog w = .ok (.tuple #[.int .i64 c, .bool (Maps.has D (kS s))]) w := by
  obtain ⟨v, ps, hrun, hv⟩ := World.ownsMap.look_ok hown K88 under73 (zero3 w) (zd := .lit (.int .i64 0)) (zp := []) (plainElem_int under3 (by decide)) (key_kS hs)
  obtain ⟨c', rfl, hc, -⟩ := plainElem_int_inv under3 hv
  have hc' := congrArg Prod.fst hc
  simp only at hc'
  rw [hat] at hc'
  cases hc'
  exact hrun
theorem look_some {w : World} {mp n : Nat} {D : DataW Unit} {s : Nat} (hown : OM w mp n D) (hs : s < 65536) : ∃ c : Int, D.atKey (kS s) (.lit (.int .i64 0)) = .lit (.int .i64 c) := by
  obtain ⟨v, ps, hrun, hv⟩ := World.ownsMap.look_ok hown K88 under73 (zero3 w) (zd := .lit (.int .i64 0)) (zp := []) (plainElem_int under3 (by decide)) (key_kS hs)
  obtain ⟨c', rfl, hc, -⟩ := plainElem_int_inv under3 hv
  exact ⟨c', congrArg Prod.fst hc⟩
theorem MemW.put {CL : List (List Int)} {P mp n s : Nat} {w : World} {D : DataW Unit} (hs : s < 65536) (hm : Memo CL P D) (h : OM w mp n (D.put (kS s) (.lit (.int .i64 (need CL P s : Nat))))) : MemW CL P mp w := by
  have h2 := hm.put hs
  exact ⟨_, om_size h (h2.small (World.ownsMap.tidy h K88)), h2⟩
theorem MemW.del {CL : List (List Int)} {P mp n s : Nat} {w : World} {D : DataW Unit} (hs : s < 65536) (hm : Memo CL P D) (h : OM w mp n (D.del (kS s))) : MemW CL P mp w := by
  have h2 := hm.del hs
  exact ⟨_, om_size h (h2.small (World.ownsMap.tidy h K88)), h2⟩
end Go.Proofs.Ytpgdfipikfbjeaa
