/- Texts of the proof, laid together by program. -/
import Derived.Test.YtolghmhodaphfaaMa
import Derived.Test.YtolghmhodaphfaaMf
import Derived.Test.YtolghmhodaphfaaMc
import Derived.Test.YtolghmhodaphfaaMj
/- The law of drawn regions under a condition on worlds, with a post of its own: what the region leaves is said once, for all orders. -/
namespace Go.Proofs.Ytolghmhodaphfaa.Sx
open Go
section
variable {P : Program} {ops : Array Oper} {md : Region.Mode} {S : World → Prop}
theorem wpM_mono {Q Q' : Act → World → Prop} (h : ∀ a W, S W → Q a W → Q' a W) : ∀ (f : Nat) (listed : Array Bool) (a : Act) (w : World), wpM P md ops S Q f listed a w → wpM P md ops S Q' f listed a w
  | 0, _, _, _, hh => ⟨hh.1, fun W h1 h2 => h _ _ h2 (hh.2 W h1 h2)⟩
  | f + 1, _, _, _, hh => fun W h1 h2 => ⟨fun h0 => h _ _ h2 ((hh W h1 h2).1 h0), fun i hi => lOp_mono (fun _ _ hk => ⟨hk.1, wpM_mono h f _ _ _ hk.2⟩) ((hh W h1 h2).2 i hi)⟩
theorem wpE_mono {L L' : Act → Prop} (h : ∀ a, L a → L' a) : ∀ (l : List (Nat × Oper)) (a : Act), wpE P ops S L l a → wpE P ops S L' l a
  | [], _, hh => h _ hh
  | (_, _) :: rest, _, ⟨v, hy, hh⟩ => ⟨v, hy, wpE_mono h rest _ hh⟩
/-- The law with a post of its own. -/
theorem wp_region_elQ (S : World → Prop) (Q1 : Act → World → Prop) (hS : ∀ W W', S W → Ext W W' → S W') {id : Nat} {Q : Exit → Act → World → Prop} {a : Act} {w : World} {l : List Oper} (E : List Nat) (g : Nat) (hm : P.follows .mixedOrders = true)
    (hB : (Region.noSelect l.toArray && decide (E.length + g = l.length) && earlyB .any l.toArray E (Array.replicate l.length false)) = true) (h0 : S w.drew)
    (h : wpE P l.toArray S (fun a' => wpM P .any l.toArray S Q1 g (setAll (Array.replicate l.length false) E) a' w.drew) (pick l.toArray E) a)
    (hQ : ∀ a W, S W → Q1 a W → wpList P l.toArray Q [] a W) : (Code.region id l.toArray true).wp P Q a w :=
  wp_region_el S hS E g hm hB h0 (wpE_mono (fun _ hk => wpM_mono hQ _ _ _ _ hk) _ _ h)
/-- From here on a stronger condition holds. -/
theorem wpM_narrow {S' : World → Prop} (hcl : ∀ W W', S' W → Ext W W' → S' W') (hSS : ∀ W, S' W → S W) {Q : Act → World → Prop} : ∀ (f : Nat) (listed : Array Bool) (a : Act) (w : World), S' w → wpM P md ops S' Q f listed a w → wpM P md ops S Q f listed a w
  | 0, _, _, _, hw, hh => ⟨hh.1, fun W h1 _ => hh.2 W h1 (hcl _ _ hw h1)⟩
  | f + 1, _, _, _, hw, hh => fun W h1 _ =>
    have hW := hcl _ _ hw h1
    ⟨(hh W h1 hW).1, fun i hi => lOp_mono (fun _ _ hk => ⟨hSS _ hk.1, wpM_narrow hcl hSS f _ _ _ hk.1 hk.2⟩) ((hh W h1 hW).2 i hi)⟩
/-- Three operations may come up. -/
theorem wpM_three {Q : Act → World → Prop} {f : Nat} {listed : Array Bool} {a : Act} {w : World} (i j k : Nat) (o o' o'' : Oper) (ho : ops[i]? = some o) (ho' : ops[j]? = some o') (ho'' : ops[k]? = some o'') (hr : decide (Region.ready md ops listed = [i, j, k]) = true) (hw : Region.wanted o (yielded ops a.tmps) = true) (hw' : Region.wanted o' (yielded ops a.tmps) = true) (hw'' : Region.wanted o'' (yielded ops a.tmps) = true)
    (h : ∀ W, Ext w W → S W → LUpon P o a (fun a' W' => S W' ∧ wpM P md ops S Q f (listed.setIfInBounds i true) a' W') ((execOp a.eval o).run P W))
    (h' : ∀ W, Ext w W → S W → LUpon P o' a (fun a' W' => S W' ∧ wpM P md ops S Q f (listed.setIfInBounds j true) a' W') ((execOp a.eval o').run P W))
    (h'' : ∀ W, Ext w W → S W → LUpon P o'' a (fun a' W' => S W' ∧ wpM P md ops S Q f (listed.setIfInBounds k true) a' W') ((execOp a.eval o'').run P W)) : wpM P md ops S Q (f + 1) listed a w := by
  intro W h1 h2
  rw [of_decide_eq_true hr]
  refine ⟨fun h => (by cases h), fun q hq => ?_⟩
  rcases List.mem_cons.1 hq with rfl | hq
  · unfold lOp
    simp only [ho, hw, if_true]
    exact h W h1 h2
  · rcases List.mem_cons.1 hq with rfl | hq
    · unfold lOp
      simp only [ho', hw', if_true]
      exact h' W h1 h2
    · obtain rfl : q = k := by simpa using hq
      unfold lOp
      simp only [ho'', hw'', if_true]
      exact h'' W h1 h2
end
end Go.Proofs.Ytolghmhodaphfaa.Sx
/- Plain law: the reference's table, cell by cell. No program in sight. -/
namespace Go.Proofs.Ytolghmhodaphfaa
/-- A number that may be none, as the table has it. -/
def fv (o : Option Int) : Int := o.getD (-1)
def wvT (p : Int) (ks : List Kd) (t : Int) : Int := ways p ks (t - 300)
def fvT (p : Int) (ks : List Kd) (t : Int) : Int := fv (fewO p ks (t - 300))
def accF (f : Int → Option Int) (lo wt : Int) (j : Nat) (x : Int) : Option Int := foldF (fun n => f (x - n * wt)) lo j
theorem accF_none {f : Int → Option Int} {lo wt x : Int} {j : Nat} (h : f (x - (lo + j) * wt) = none) : accF f lo wt (j + 1) x = accF f lo wt j x := by
  unfold accF; rw [foldF_succ]; unfold stepF; simp only [h]
theorem accF_some {f : Int → Option Int} {lo wt x m : Int} {j : Nat} (h : f (x - (lo + j) * wt) = some m) : accF f lo wt (j + 1) x = minO (accF f lo wt j x) (m + absI (lo + j)) := by
  unfold accF; rw [foldF_succ]; unfold stepF; simp only [h]
theorem fv_some (y : Int) : fv (some y) = y := rfl
theorem fv_none : fv none = -1 := rfl
theorem fv_lt {o : Option Int} (h : ∀ y, o = some y → 0 ≤ y) : decide (fv o < 0) = o.isNone := by
  cases o with
  | none => rfl
  | some y => have := h y rfl; rw [fv_some, Option.isNone_some]; exact decide_eq_false (by omega)
theorem fv_min {o : Option Int} {x : Int} (h : ∀ y, o = some y → 0 ≤ y) : fv (minO o x) = if fv o < 0 ∨ x < fv o then x else fv o := by
  cases o with
  | none => rfl
  | some y =>
    have := h y rfl
    rw [fv_some]
    show fv (if x < y then some x else some y) = _
    by_cases hx : x < y
    · rw [if_pos hx, if_pos (Or.inr hx), fv_some]
    · rw [if_neg hx, if_neg (by omega), fv_some]
theorem accF_pos {f : Int → Option Int} (hf : ∀ x m, f x = some m → 0 ≤ m) {lo wt x : Int} {j : Nat} {y : Int} (h : accF f lo wt j x = some y) : 0 ≤ y := by
  obtain ⟨i, -, m, hm, rfl⟩ := (foldF_some h).1
  have := hf _ _ hm
  have := absI_nonneg (lo + i)
  omega
theorem accF_le {f : Int → Option Int} {B : Int} (hf : ∀ x m, f x = some m → m ≤ B) {lo wt x : Int} {j : Nat} {y C : Int} (hC : ∀ i : Nat, i < j → absI (lo + i) ≤ C) (h : accF f lo wt j x = some y) : y ≤ B + C := by
  obtain ⟨i, hi, m, hm, rfl⟩ := (foldF_some h).1
  have := hf _ _ hm
  have := hC i hi
  omega
theorem accF_all (p : Int) (m : Kd) (ks : List Kd) (x : Int) : accF (fewO p ks) (leastK p m) m.wt (m.many - leastK p m + 1).toNat x = fewO p (m :: ks) x := rfl
theorem accW_drop (p : Int) (m : Kd) (ks : List Kd) (x : Int) : accW (ways p ks) (leastK p m) m.wt (m.many - leastK p m + 1).toNat x = ways p (m :: ks) x := rfl
/-- A row up to a place, what is there in progress, and a number behind it. -/
def cellR (f : Int → Int) (a : Nat) (v d : Int) (t : Int) : Int := if t < a then f t else if t = a then v else d
theorem cellR_start (f : Int → Int) (d t : Int) (h : 0 ≤ t) : cellR f 0 d d t = d := by unfold cellR; rw [if_neg (by omega)]; split <;> rfl
theorem cellR_here (f : Int → Int) (a : Nat) (v d : Int) : cellR f a v d a = v := by unfold cellR; rw [if_neg (by omega), if_pos rfl]
theorem cellR_put (f : Int → Int) (a : Nat) (v v' d : Int) (s : Nat) : cellR f a v' d s = if s = a then v' else cellR f a v d s := by
  unfold cellR
  by_cases h : s = a
  · subst h; rw [if_neg (by omega), if_pos rfl, if_pos rfl]
  · rw [if_neg h]
    split
    · rfl
    · rw [if_neg (by omega), if_neg (by omega)]
theorem cellR_next (f : Int → Int) (a : Nat) (d t : Int) : cellR f (a + 1) d d t = cellR f a (f a) d t := by
  unfold cellR
  rw [show ((a + 1 : Nat) : Int) = a + 1 by omega]
  by_cases h1 : t < a
  · rw [if_pos (by omega), if_pos h1]
  · rw [if_neg h1]
    by_cases h2 : t = a
    · rw [if_pos (by omega), if_pos h2, h2]
    · rw [if_neg (by omega), if_neg h2]; split <;> rfl
theorem cellR_end (f : Int → Int) (a : Nat) (v d t : Int) (h : t < a) : cellR f a v d t = f t := by unfold cellR; rw [if_pos h]
theorem cellR_row {f : Int → Int} {a : Nat} {v v' d : Int} {L : Nat} : (rowOf L fun t => cellR f a v d t).set a v' = rowOf L fun t => cellR f a v' d t :=
  rowOf_set fun s _ => cellR_put f a v v' d s
theorem pw_drop : ∀ (ms : List Nat) (i : Nat), pw (ms.drop i) ≤ pw ms
  | [], i => by simp
  | m :: ms, 0 => Nat.le_refl _
  | m :: ms, i + 1 => Nat.le_trans (pw_drop ms i) (Nat.le_mul_of_pos_left _ (by omega))
theorem ways_validD {p : Int} {l : List Kd} (h : checkSet l = 0) (hp : p = 1 ∨ p = 2) (i : Nat) (a : Int) : ways p (l.drop i) a ≤ 1000000000000 := by
  have hk := List.all_eq_true.1 (checkSet_good h).2.2.1
  have h1 := ways_pw hp (ks := l.drop i) (fun k hm => hk k (List.mem_of_mem_drop hm)) a
  have h2 := pw_drop (manys l) i
  have h3 := pw_valid h
  have h4 : manys (l.drop i) = (manys l).drop i := by simp [manys, List.map_drop]
  rw [h4] at h1
  omega
theorem sum_drop {l : List Kd} (h : l.all okK = true) (i : Nat) : (l.drop i).all okK = true ∧ 0 ≤ sumOf (l.drop i) ∧ sumOf (l.drop i) ≤ sumOf l := by
  have hk := List.all_eq_true.1 h
  have h1 : (l.drop i).all okK = true := List.all_eq_true.2 fun k hm => hk k (List.mem_of_mem_drop hm)
  have h2 : (l.take i).all okK = true := List.all_eq_true.2 fun k hm => hk k (List.mem_of_mem_take hm)
  have e : sumOf l = sumOf (l.take i) + sumOf (l.drop i) := by
    conv => lhs; rw [← List.take_append_drop i l]
    unfold sumOf; rw [List.map_append, List.sum_append]
  have := sumOf_nonneg h1
  have := sumOf_nonneg h2
  exact ⟨h1, by omega, by omega⟩
/-- Beyond the table no amount is weighed. -/
theorem ways_beyond {p : Int} {l : List Kd} (h : checkSet l = 0) (hp : p = 1 ∨ p = 2) (i : Nat) (t : Int) (ht : t < 0 ∨ 600 < t) : ways p (l.drop i) (t - 300) = 0 := by
  obtain ⟨-, -, h3, -, h5⟩ := checkSet_good h
  obtain ⟨k1, k2, k3⟩ := sum_drop h3 i
  exact ways_far hp k1 _ (by rcases hp with rfl | rfl <;> omega)
theorem few_validD {p : Int} {l : List Kd} (h : checkSet l = 0) (hp : p = 1 ∨ p = 2) (i : Nat) (x m : Int) (hm : fewO p (l.drop i) x = some m) : 0 ≤ m ∧ m ≤ 2400 := by
  obtain ⟨-, h2, h3, -, -⟩ := checkSet_good h
  have := few_bd hp (sum_drop h3 i).1 hm
  have : (l.drop i).length ≤ 8 := by rw [List.length_drop]; omega
  omega
end Go.Proofs.Ytolghmhodaphfaa
/- Words for the reference's table in memory. -/
namespace Go.Proofs.Ytolghmhodaphfaa
open Go.RowKit
attribute [local go_sem] Oper.semAt_some
theorem info23 : (Try.prog.info? 23).map (fun i => (i.zero, i.size, i.bytes)) = some (some (.slice none 0 0), 1, 24) := by kernel_rfl
theorem under93 : Try.prog.underlying 93 = some (.slice 23) := by kernel_rfl
theorem make_rows {L : Nat} (hL : L ≤ 100000) (w0 : World) : (Instr.makeSlice 93 (.int .i64 (L : Int)) (.int .i64 (L : Int))).run Try.prog w0 = .ok (.slice (some ⟨w0.heap.size, 0, none⟩) L L) (w0.alloc (.cells (madeCells #[.slice none 0 0] L) 23)) := by
  obtain ⟨i, hi, hz0, hz1, hz2⟩ := info_parts' info23
  have := run_makeSlice (P := Try.prog) (w := w0) 93 23 i (.slice none 0 0) under93 hi hz0 .i64 .i64 (L : Int) (L : Int) (by omega) (Int.le_refl _) (by rw [hz1]; omega) (by rw [hz2]; omega) (by omega)
  rw [this, hz1, Int.toNat_natCast, Nat.mul_one]
  rfl
/-- A row of the table, as cells. -/
def rowC (f : Int → Int) : Array Value := ((rowOf 601 f).flatMap cI).toArray
theorem rowC_at {w : World} {g : Nat} {f : Int → Int} (h : Blk w g 2 (rowC f)) {a : Nat} (ha : a < 601) : w.cell? ⟨g, a, none⟩ = some (.int .i64 (f a)) := by
  rw [h.cell]; unfold rowC; rw [List.getElem?_toArray, flatI_get, rowOf_at ha]; rfl
theorem rowC_set {w : World} {g : Nat} {f f' : Int → Int} {a : Nat} {v : Int} (h : Blk w g 2 (rowC f)) (hf : ∀ s : Nat, s < 601 → f' s = if s = a then v else f s) : Blk (w.setCell ⟨g, a, none⟩ (.int .i64 v)) g 2 (rowC f') := by
  have := h.set_ a (.int .i64 v)
  unfold rowC at this
  rwa [row_set hf] at this
theorem rowC_congr {f g : Int → Int} (h : ∀ t : Nat, t < 601 → f t = g t) : rowC f = rowC g := by unfold rowC; rw [rowOf_congr h]
theorem make_row (w0 : World) : (Instr.makeSlice 23 (.int .i64 601) (.int .i64 601)).run Try.prog w0 = .ok (.slice (some ⟨w0.heap.size, 0, none⟩) 601 601) (w0.alloc (.cells (rowC fun _ => 0) 2)) := by
  have := make_i64 (L := 601) (by omega) w0
  rw [made_row] at this
  exact this
theorem CS_at {n j : Nat} {CS : Array Value} (h : madeCells #[.slice none 0 0] (n + 1) = CS) (hj : j ≤ n) : CS[j]? = some (.slice none 0 0) := by
  rw [← h, ← Array.getElem?_toList, toList_madeCells_one, List.getElem?_replicate, if_pos (by omega)]
theorem CS_size {n : Nat} {CS : Array Value} (h : madeCells #[.slice none 0 0] (n + 1) = CS) : CS.size = n + 1 := by
  rw [← h, ← Array.length_toList, toList_madeCells_one, List.length_replicate]
theorem hSt (w : World) (t : Nat) (cs : Array Value) : ∀ W W', (Below w.heap.size w W ∧ Blk W t 95 cs) → Ext W W' → Below w.heap.size w W' ∧ Blk W' t 95 cs := fun _ _ h he => ⟨h.1.trans (he.mono h.1.size), h.2.below he h.2.lt⟩
/-- Row j of the table: two slices of numbers, made behind block B0, below block M. -/
def TRow (w : World) (B0 M : Nat) (csW csF : Array Value) (j : Nat) (f g : Int → Int) : Prop :=
  ∃ rW rF : Nat, B0 ≤ rW ∧ rW < M ∧ B0 ≤ rF ∧ rF < M ∧ csW[j]? = some (.slice (some ⟨rW, 0, none⟩) 601 601) ∧ csF[j]? = some (.slice (some ⟨rF, 0, none⟩) 601 601) ∧ Blk w rW 2 (rowC f) ∧ Blk w rF 2 (rowC g)
section
variable {W W' : World} {B0 M M' j : Nat} {csW csF : Array Value} {f g : Int → Int}
theorem TRow.kp {G : Nat → Prop} (h : TRow W B0 M csW csF j f g) (hK : KpG M G W W') (hG : ∀ q, G q → q < B0) : TRow W' B0 M csW csF j f g := by
  obtain ⟨rW, rF, h1, h2, h3, h4, h5, h6, h7, h8⟩ := h
  exact ⟨rW, rF, h1, h2, h3, h4, h5, h6, hK.blk h7 h2 (fun hg => by have := hG _ hg; omega), hK.blk h8 h4 (fun hg => by have := hG _ hg; omega)⟩
theorem TRow.below (h : TRow W B0 M csW csF j f g) (hb : Below M W W') : TRow W' B0 M csW csF j f g := by
  obtain ⟨rW, rF, h1, h2, h3, h4, h5, h6, h7, h8⟩ := h
  exact ⟨rW, rF, h1, h2, h3, h4, h5, h6, h7.below hb h2, h8.below hb h4⟩
theorem TRow.zero (h : TRow W B0 M csW csF j f g) : TRow W 0 M csW csF j f g := by
  obtain ⟨rW, rF, -, h2, -, h4, h5, h6, h7, h8⟩ := h
  exact ⟨rW, rF, Nat.zero_le _, h2, Nat.zero_le _, h4, h5, h6, h7, h8⟩
theorem TRow.more (h : TRow W B0 M csW csF j f g) (hM : M ≤ M') : TRow W B0 M' csW csF j f g := by
  obtain ⟨rW, rF, h1, h2, h3, h4, h5, h6, h7, h8⟩ := h
  exact ⟨rW, rF, h1, by omega, h3, by omega, h5, h6, h7, h8⟩
theorem TRow.set (h : TRow W B0 M csW csF j f g) {i : Nat} (hij : i ≠ j) (v v' : Value) : TRow W B0 M (csW.setIfInBounds i v) (csF.setIfInBounds i v') j f g := by
  obtain ⟨rW, rF, h1, h2, h3, h4, h5, h6, h7, h8⟩ := h
  exact ⟨rW, rF, h1, h2, h3, h4, by rw [Array.getElem?_setIfInBounds_ne hij]; exact h5, by rw [Array.getElem?_setIfInBounds_ne hij]; exact h6, h7, h8⟩
end
theorem with_frameW {P : Program} {c : Code} {Q : Exit → Act → World → Prop} {tmps : Array Value} {ds : List Deferred} {w : World} (h : ∀ T, T = tmps → c.wp P Q { tmps := T, defers := ds } w) : c.wp P Q { tmps, defers := ds } w := h _ rfl
theorem field95 (W : World) (v1 v2 : Value) : (Instr.field 95 (.agg #[v1, v2]) 0).run Try.prog W = .ok v1 W := by
  unfold Instr.field
  go_simp
  rfl
theorem field95' (W : World) (v1 v2 : Value) : (Instr.field 95 (.agg #[v1, v2]) 1).run Try.prog W = .ok v2 W := by
  unfold Instr.field
  go_simp
  rfl
/-- The table in memory: two slices of rows. -/
def TabAt (w : World) (gW gF n : Nat) (p : Int) (ks : List Kd) : Prop :=
  ∃ csW csF : Array Value, Blk w gW 23 csW ∧ Blk w gF 23 csF ∧ ∀ j, j ≤ n → TRow w 0 w.heap.size csW csF j (wvT p (ks.drop j)) (fvT p (ks.drop j))
theorem TabAt.below {w w' : World} {gW gF n : Nat} {p : Int} {ks : List Kd} (h : TabAt w gW gF n p ks) (hb : Below w.heap.size w w') : TabAt w' gW gF n p ks := by
  obtain ⟨csW, csF, h1, h2, h3⟩ := h
  exact ⟨csW, csF, h1.below hb h1.lt, h2.below hb h2.lt, fun j hj => ((h3 j hj).below hb).more hb.size⟩
/-- What a row of the table reads as. -/
theorem TabAt.row {w : World} {gW gF n : Nat} {p : Int} {ks : List Kd} (h : TabAt w gW gF n p ks) {j : Nat} (hj : j ≤ n) : ∃ rW rF : Nat, rW < w.heap.size ∧ rF < w.heap.size ∧ w.cell? ⟨gW, j, none⟩ = some (.slice (some ⟨rW, 0, none⟩) 601 601) ∧ w.cell? ⟨gF, j, none⟩ = some (.slice (some ⟨rF, 0, none⟩) 601 601) ∧ gW < w.heap.size ∧ gF < w.heap.size ∧ Blk w rW 2 (rowC (wvT p (ks.drop j))) ∧ Blk w rF 2 (rowC (fvT p (ks.drop j))) := by
  obtain ⟨csW, csF, h1, h2, h3⟩ := h
  obtain ⟨rW, rF, -, k2, -, k4, k5, k6, k7, k8⟩ := h3 j hj
  exact ⟨rW, rF, k2, k4, (h1.cell j).trans k5, (h2.cell j).trans k6, h1.lt, h2.lt, k7, k8⟩
def TabPost (w : World) (n : Nat) (p : Int) (ks : List Kd) (e : Ending) (w' : World) : Prop :=
  ∃ gW gF : Nat, e = .returned (.agg #[.slice (some ⟨gW, 0, none⟩) (n + 1) (n + 1), .slice (some ⟨gF, 0, none⟩) (n + 1) (n + 1)]) ∧ TabAt w' gW gF n p ks ∧ Below w.heap.size w w'
end Go.Proofs.Ytolghmhodaphfaa
/- Walks: the reference's table. -/
namespace Go.Proofs.Ytolghmhodaphfaa
open Go.RowKit
attribute [local go_sem] Oper.semAt_some
set_option maxRecDepth 100000 in
set_option maxHeartbeats 4000000 in
theorem tabled_any (w : World) (A : Option Addr) (n c : Nat) (ks : List Kd) (p : Int) (hk : KdS w w.heap.size A n ks) (h0 : checkSet ks = 0) (hp : p = 1 ∨ p = 2) :
    Calls Try.prog 82 #[.slice A n c, .int .i64 p] w (TabPost w n p ks) := by
  obtain ⟨h1, h2, h3, h4, h5⟩ := checkSet_good h0
  have hlen := hk.len
  have hn8 : n ≤ 8 := by omega
  have hmkR := make_rows (L := n + 1) (by omega)
  rw [Int.natCast_add, Int.natCast_one] at hmkR
  have hmk6 := make_row
  obtain ⟨CS, hCS⟩ : ∃ CS, madeCells #[.slice none 0 0] (n + 1) = CS := ⟨_, rfl⟩
  rw [hCS] at hmkR
  have HCS := hid hCS
  have z1 : IntKind.i64.wrap ((n : Int) + 1) = (n : Int) + 1 := wrap_ok (by omega)
  clear hCS h1 h2 h3 h4 h5
  go_enter Try.func82, Try.ntmps82
  go_wp2
  have b4 : Blk (w.alloc (.cells #[.slice none 0 0, .slice none 0 0] 95)).drew w.heap.size 95 #[.slice none 0 0, .slice none 0 0] := Blk.new w 95 _
  have lw4 := b4.lt
  refine Sx.wp_region_elQ (fun W => Below w.heap.size w W) (fun a W => ∃ gW gF t : Nat, a = { tmps := #[.slice A n c, .int .i64 p, undef, undef, .pointer (some ⟨w.heap.size, 0, none⟩), .int .i64 n, .pointer (some ⟨t, 0, none⟩), undef, undef, undef, undef, undef, undef, .slice A n c, .int .i64 n, .int .i64 n, .int .i64 ((n : Int) + 1), .slice (some ⟨gW, 0, none⟩) (n + 1) (n + 1), .int .i64 n, .int .i64 ((n : Int) + 1), .slice (some ⟨gF, 0, none⟩) (n + 1) (n + 1), .agg #[.slice (some ⟨gW, 0, none⟩) (n + 1) (n + 1), .slice (some ⟨gF, 0, none⟩) (n + 1) (n + 1)], undef, undef, undef, undef, undef, undef, undef, undef, undef, undef, undef, undef, undef, undef, undef, undef, undef, undef, undef, undef, undef, undef, undef, undef, undef, undef, undef, undef, undef, undef, undef, undef, undef, undef, undef, undef, undef, undef, undef, undef, undef, undef, undef, undef, undef, undef, undef, undef, undef, undef, undef, undef, undef, undef, undef, undef, undef, undef, undef, undef, undef, undef, undef, undef, undef, undef, undef, undef, undef, undef, undef, undef, undef, undef, undef, undef, undef, undef, undef, undef, undef, undef, undef, undef, undef, undef, undef, undef, undef, undef, undef, undef, undef, undef, undef, undef, undef, undef, undef, undef, undef, undef, undef, undef, undef, undef, undef, undef, undef, undef, undef, undef, undef, undef, undef, undef, undef, undef, undef, undef, undef, undef, undef, undef, undef, undef, undef, undef, undef, undef, undef, undef, undef, undef, undef, undef, undef, undef, undef, undef, undef, undef, undef, undef, undef, undef, undef, undef, undef, undef, undef, undef, undef, undef, undef, undef, undef, undef, undef, undef, undef, undef, undef, undef, undef], defers := [] } ∧
      gW ≠ gF ∧ gW ≠ t ∧ gF ≠ t ∧ w.heap.size < gW ∧ w.heap.size < gF ∧ w.heap.size < t ∧ Blk W t 95 #[.slice (some ⟨gW, 0, none⟩) (n + 1) (n + 1), .slice (some ⟨gF, 0, none⟩) (n + 1) (n + 1)] ∧ Blk W gW 23 CS ∧ Blk W gF 23 CS ∧ Blk W w.heap.size 95 #[.slice none 0 0, .slice none 0 0]) (hSb w) [0, 1, 3, 4] 5 (by kernel_rfl) (by kernel_rfl) ?_ ?_ ?_
  · exact (by repeat' (first | with_reducible assumption | with_reducible exact Below.refl _ _ | refine Below.alloc ?_ ?_ _ | refine Below.setCell ?_ ?_ _ | refine Below.drew ?_ | refine below_drewN ?_ _ | (simp; done) | (simp; omega) | omega))
  · simp only [pick, List.getElem?_toArray, List.getElem?_cons_zero, List.getElem?_cons_succ]
    iterate 4 (refine Sx.wpE_val (v := ?_) (by rfl) (fun W hW => ?_) ?_; rotate_left; (· go_simp; with_reducible rfl); simp only [Act.put, List.setIfInBounds_toArray, List.set_cons_zero, List.set_cons_succ])
    simp only [Sx.wpE]
    (refine Sx.wpM_three 2 5 7 _ _ _ (by simp only [List.getElem?_toArray, List.getElem?_cons_zero, List.getElem?_cons_succ]; rfl) (by simp only [List.getElem?_toArray, List.getElem?_cons_zero, List.getElem?_cons_succ]; rfl) (by simp only [List.getElem?_toArray, List.getElem?_cons_zero, List.getElem?_cons_succ]; rfl) (by kernel_rfl) (by rfl) (by rfl) (by rfl) ?_ ?_ ?_)
    · ((intro X hX hS; have sz := hX.size; (try rw [World.size_alloc] at sz); (try replace bW := bW.below hX bW.lt); (try replace bF := bF.below hX bF.lt); (try replace bT := bT.below hX bT.lt); (try replace b4 := b4.below hX b4.lt)); (go_simp; simp only [LUpon, Act.put]; try simp only [List.setIfInBounds_toArray, List.set_cons_zero, List.set_cons_succ]); obtain ⟨gW, hgW⟩ : ∃ g, g = X.heap.size := ⟨_, rfl⟩; rw [← hgW]; refine ⟨hS.alloc hS.size _, ?_⟩; have bW := Blk.new X 23 CS; rw [← hgW] at bW; have u1 : X.heap.size ≤ gW := (by omega); have u2 : gW ≤ X.heap.size := (by omega); clear hgW; (try replace bF := bF.alloc (.cells CS 23)); (try replace bT := bT.alloc (.cells CS 23)); replace b4 := b4.alloc (.cells CS 23))
      (refine Sx.wpM_two 5 7 _ _ (by simp only [List.getElem?_toArray, List.getElem?_cons_zero, List.getElem?_cons_succ]; rfl) (by simp only [List.getElem?_toArray, List.getElem?_cons_zero, List.getElem?_cons_succ]; rfl) (by kernel_rfl) (by rfl) (by rfl) ?_ ?_)
      · ((intro X hX hS; have sz := hX.size; (try rw [World.size_alloc] at sz); (try replace bW := bW.below hX bW.lt); (try replace bF := bF.below hX bF.lt); (try replace bT := bT.below hX bT.lt); (try replace b4 := b4.below hX b4.lt)); (go_simp; simp only [LUpon, Act.put]; try simp only [List.setIfInBounds_toArray, List.set_cons_zero, List.set_cons_succ]); obtain ⟨gF, hgF⟩ : ∃ g, g = X.heap.size := ⟨_, rfl⟩; rw [← hgF]; refine ⟨hS.alloc hS.size _, ?_⟩; have bF := Blk.new X 23 CS; rw [← hgF] at bF; have u1 : X.heap.size ≤ gF := (by omega); have u2 : gF ≤ X.heap.size := (by omega); clear hgF; (try replace bW := bW.alloc (.cells CS 23)); (try replace bT := bT.alloc (.cells CS 23)); replace b4 := b4.alloc (.cells CS 23))
        (refine Sx.wpM_two 6 7 _ _ (by simp only [List.getElem?_toArray, List.getElem?_cons_zero, List.getElem?_cons_succ]; rfl) (by simp only [List.getElem?_toArray, List.getElem?_cons_zero, List.getElem?_cons_succ]; rfl) (by kernel_rfl) (by rfl) (by rfl) ?_ ?_)
        · ((intro X hX hS; have sz := hX.size; (try rw [World.size_alloc] at sz); (try replace bW := bW.below hX bW.lt); (try replace bF := bF.below hX bF.lt); (try replace bT := bT.below hX bT.lt); (try replace b4 := b4.below hX b4.lt)); (go_simp; simp only [LUpon, Act.put]; try simp only [List.setIfInBounds_toArray, List.set_cons_zero, List.set_cons_succ]); refine ⟨hS, ?_⟩)
          (refine Sx.wpM_one 7 _ (by simp only [List.getElem?_toArray, List.getElem?_cons_zero, List.getElem?_cons_succ]; rfl) (by kernel_rfl) (by rfl) ?_)
          ((intro X hX hS; have sz := hX.size; (try rw [World.size_alloc] at sz); (try replace bW := bW.below hX bW.lt); (try replace bF := bF.below hX bF.lt); (try replace bT := bT.below hX bT.lt); (try replace b4 := b4.below hX b4.lt)); (go_simp; simp only [LUpon, Act.put]; try simp only [List.setIfInBounds_toArray, List.set_cons_zero, List.set_cons_succ]); obtain ⟨t, ht⟩ : ∃ g, g = X.heap.size := ⟨_, rfl⟩; rw [← ht]; refine ⟨hS.alloc hS.size _, ?_⟩; have bT := Blk.new X 95 #[.slice none 0 0, .slice none 0 0]; rw [← ht] at bT; have u1 : X.heap.size ≤ t := (by omega); have u2 : t ≤ X.heap.size := (by omega); clear ht; (try replace bW := bW.alloc (.cells #[.slice none 0 0, .slice none 0 0] 95)); (try replace bF := bF.alloc (.cells #[.slice none 0 0, .slice none 0 0] 95)); replace b4 := b4.alloc (.cells #[.slice none 0 0, .slice none 0 0] 95))
          (refine Sx.wpM_one 8 _ (by simp only [List.getElem?_toArray, List.getElem?_cons_zero, List.getElem?_cons_succ]; rfl) (by kernel_rfl) (by rfl) ?_)
          ((intro X hX hS; have sz := hX.size; (try rw [World.size_alloc] at sz); (try replace bW := bW.below hX bW.lt); (try replace bF := bF.below hX bF.lt); (try replace bT := bT.below hX bT.lt); (try replace b4 := b4.below hX b4.lt)); have c0 := bT.cell 0; have c1 := bT.cell 1; have d0 := bT.frozen 0; have d1 := bT.frozen 1; have lT := bT.lt; have lW := bW.lt; have lF := bF.lt; (go_simp; simp only [LUpon, Act.put]; try simp only [List.setIfInBounds_toArray, List.set_cons_zero, List.set_cons_succ]); clear c0 c1 d0 d1; refine ⟨(hS.setCell (by simp; omega) _).setCell (by simp; omega) _, ?_⟩; refine Sx.wpM_end (by kernel_rfl) ?_; have e1 := (bT.set_ 0 (.slice (some ⟨gW, 0, none⟩) (n + 1) (n + 1))).set_ 1 (.slice (some ⟨gF, 0, none⟩) (n + 1) (n + 1)); simp only [List.setIfInBounds_toArray, List.set_cons_zero, List.set_cons_succ] at e1; have e2 := (bW.far (p := ⟨t, 0, none⟩) (by simp; omega) (.slice (some ⟨gW, 0, none⟩) (n + 1) (n + 1))).far (p := ⟨t, 1, none⟩) (by simp; omega) (.slice (some ⟨gF, 0, none⟩) (n + 1) (n + 1)); have e3 := (bF.far (p := ⟨t, 0, none⟩) (by simp; omega) (.slice (some ⟨gW, 0, none⟩) (n + 1) (n + 1))).far (p := ⟨t, 1, none⟩) (by simp; omega) (.slice (some ⟨gF, 0, none⟩) (n + 1) (n + 1)); have e4 := (b4.far (p := ⟨t, 0, none⟩) (by simp; omega) (.slice (some ⟨gW, 0, none⟩) (n + 1) (n + 1))).far (p := ⟨t, 1, none⟩) (by simp; omega) (.slice (some ⟨gF, 0, none⟩) (n + 1) (n + 1)); intro Y hY hSY; exact ⟨gW, gF, t, rfl, by omega, by omega, by omega, by omega, by omega, by omega, e1.below hY e1.lt, e2.below hY e2.lt, e3.below hY e3.lt, e4.below hY e4.lt⟩)
        · ((intro X hX hS; have sz := hX.size; (try rw [World.size_alloc] at sz); (try replace bW := bW.below hX bW.lt); (try replace bF := bF.below hX bF.lt); (try replace bT := bT.below hX bT.lt); (try replace b4 := b4.below hX b4.lt)); (go_simp; simp only [LUpon, Act.put]; try simp only [List.setIfInBounds_toArray, List.set_cons_zero, List.set_cons_succ]); obtain ⟨t, ht⟩ : ∃ g, g = X.heap.size := ⟨_, rfl⟩; rw [← ht]; refine ⟨hS.alloc hS.size _, ?_⟩; have bT := Blk.new X 95 #[.slice none 0 0, .slice none 0 0]; rw [← ht] at bT; have u1 : X.heap.size ≤ t := (by omega); have u2 : t ≤ X.heap.size := (by omega); clear ht; (try replace bW := bW.alloc (.cells #[.slice none 0 0, .slice none 0 0] 95)); (try replace bF := bF.alloc (.cells #[.slice none 0 0, .slice none 0 0] 95)); replace b4 := b4.alloc (.cells #[.slice none 0 0, .slice none 0 0] 95))
          (refine Sx.wpM_one 6 _ (by simp only [List.getElem?_toArray, List.getElem?_cons_zero, List.getElem?_cons_succ]; rfl) (by kernel_rfl) (by rfl) ?_)
          ((intro X hX hS; have sz := hX.size; (try rw [World.size_alloc] at sz); (try replace bW := bW.below hX bW.lt); (try replace bF := bF.below hX bF.lt); (try replace bT := bT.below hX bT.lt); (try replace b4 := b4.below hX b4.lt)); (go_simp; simp only [LUpon, Act.put]; try simp only [List.setIfInBounds_toArray, List.set_cons_zero, List.set_cons_succ]); refine ⟨hS, ?_⟩)
          (refine Sx.wpM_one 8 _ (by simp only [List.getElem?_toArray, List.getElem?_cons_zero, List.getElem?_cons_succ]; rfl) (by kernel_rfl) (by rfl) ?_)
          ((intro X hX hS; have sz := hX.size; (try rw [World.size_alloc] at sz); (try replace bW := bW.below hX bW.lt); (try replace bF := bF.below hX bF.lt); (try replace bT := bT.below hX bT.lt); (try replace b4 := b4.below hX b4.lt)); have c0 := bT.cell 0; have c1 := bT.cell 1; have d0 := bT.frozen 0; have d1 := bT.frozen 1; have lT := bT.lt; have lW := bW.lt; have lF := bF.lt; (go_simp; simp only [LUpon, Act.put]; try simp only [List.setIfInBounds_toArray, List.set_cons_zero, List.set_cons_succ]); clear c0 c1 d0 d1; refine ⟨(hS.setCell (by simp; omega) _).setCell (by simp; omega) _, ?_⟩; refine Sx.wpM_end (by kernel_rfl) ?_; have e1 := (bT.set_ 0 (.slice (some ⟨gW, 0, none⟩) (n + 1) (n + 1))).set_ 1 (.slice (some ⟨gF, 0, none⟩) (n + 1) (n + 1)); simp only [List.setIfInBounds_toArray, List.set_cons_zero, List.set_cons_succ] at e1; have e2 := (bW.far (p := ⟨t, 0, none⟩) (by simp; omega) (.slice (some ⟨gW, 0, none⟩) (n + 1) (n + 1))).far (p := ⟨t, 1, none⟩) (by simp; omega) (.slice (some ⟨gF, 0, none⟩) (n + 1) (n + 1)); have e3 := (bF.far (p := ⟨t, 0, none⟩) (by simp; omega) (.slice (some ⟨gW, 0, none⟩) (n + 1) (n + 1))).far (p := ⟨t, 1, none⟩) (by simp; omega) (.slice (some ⟨gF, 0, none⟩) (n + 1) (n + 1)); have e4 := (b4.far (p := ⟨t, 0, none⟩) (by simp; omega) (.slice (some ⟨gW, 0, none⟩) (n + 1) (n + 1))).far (p := ⟨t, 1, none⟩) (by simp; omega) (.slice (some ⟨gF, 0, none⟩) (n + 1) (n + 1)); intro Y hY hSY; exact ⟨gW, gF, t, rfl, by omega, by omega, by omega, by omega, by omega, by omega, e1.below hY e1.lt, e2.below hY e2.lt, e3.below hY e3.lt, e4.below hY e4.lt⟩)
      · ((intro X hX hS; have sz := hX.size; (try rw [World.size_alloc] at sz); (try replace bW := bW.below hX bW.lt); (try replace bF := bF.below hX bF.lt); (try replace bT := bT.below hX bT.lt); (try replace b4 := b4.below hX b4.lt)); (go_simp; simp only [LUpon, Act.put]; try simp only [List.setIfInBounds_toArray, List.set_cons_zero, List.set_cons_succ]); obtain ⟨t, ht⟩ : ∃ g, g = X.heap.size := ⟨_, rfl⟩; rw [← ht]; refine ⟨hS.alloc hS.size _, ?_⟩; have bT := Blk.new X 95 #[.slice none 0 0, .slice none 0 0]; rw [← ht] at bT; have u1 : X.heap.size ≤ t := (by omega); have u2 : t ≤ X.heap.size := (by omega); clear ht; (try replace bW := bW.alloc (.cells #[.slice none 0 0, .slice none 0 0] 95)); (try replace bF := bF.alloc (.cells #[.slice none 0 0, .slice none 0 0] 95)); replace b4 := b4.alloc (.cells #[.slice none 0 0, .slice none 0 0] 95))
        (refine Sx.wpM_one 5 _ (by simp only [List.getElem?_toArray, List.getElem?_cons_zero, List.getElem?_cons_succ]; rfl) (by kernel_rfl) (by rfl) ?_)
        ((intro X hX hS; have sz := hX.size; (try rw [World.size_alloc] at sz); (try replace bW := bW.below hX bW.lt); (try replace bF := bF.below hX bF.lt); (try replace bT := bT.below hX bT.lt); (try replace b4 := b4.below hX b4.lt)); (go_simp; simp only [LUpon, Act.put]; try simp only [List.setIfInBounds_toArray, List.set_cons_zero, List.set_cons_succ]); obtain ⟨gF, hgF⟩ : ∃ g, g = X.heap.size := ⟨_, rfl⟩; rw [← hgF]; refine ⟨hS.alloc hS.size _, ?_⟩; have bF := Blk.new X 23 CS; rw [← hgF] at bF; have u1 : X.heap.size ≤ gF := (by omega); have u2 : gF ≤ X.heap.size := (by omega); clear hgF; (try replace bW := bW.alloc (.cells CS 23)); (try replace bT := bT.alloc (.cells CS 23)); replace b4 := b4.alloc (.cells CS 23))
        (refine Sx.wpM_one 6 _ (by simp only [List.getElem?_toArray, List.getElem?_cons_zero, List.getElem?_cons_succ]; rfl) (by kernel_rfl) (by rfl) ?_)
        ((intro X hX hS; have sz := hX.size; (try rw [World.size_alloc] at sz); (try replace bW := bW.below hX bW.lt); (try replace bF := bF.below hX bF.lt); (try replace bT := bT.below hX bT.lt); (try replace b4 := b4.below hX b4.lt)); (go_simp; simp only [LUpon, Act.put]; try simp only [List.setIfInBounds_toArray, List.set_cons_zero, List.set_cons_succ]); refine ⟨hS, ?_⟩)
        (refine Sx.wpM_one 8 _ (by simp only [List.getElem?_toArray, List.getElem?_cons_zero, List.getElem?_cons_succ]; rfl) (by kernel_rfl) (by rfl) ?_)
        ((intro X hX hS; have sz := hX.size; (try rw [World.size_alloc] at sz); (try replace bW := bW.below hX bW.lt); (try replace bF := bF.below hX bF.lt); (try replace bT := bT.below hX bT.lt); (try replace b4 := b4.below hX b4.lt)); have c0 := bT.cell 0; have c1 := bT.cell 1; have d0 := bT.frozen 0; have d1 := bT.frozen 1; have lT := bT.lt; have lW := bW.lt; have lF := bF.lt; (go_simp; simp only [LUpon, Act.put]; try simp only [List.setIfInBounds_toArray, List.set_cons_zero, List.set_cons_succ]); clear c0 c1 d0 d1; refine ⟨(hS.setCell (by simp; omega) _).setCell (by simp; omega) _, ?_⟩; refine Sx.wpM_end (by kernel_rfl) ?_; have e1 := (bT.set_ 0 (.slice (some ⟨gW, 0, none⟩) (n + 1) (n + 1))).set_ 1 (.slice (some ⟨gF, 0, none⟩) (n + 1) (n + 1)); simp only [List.setIfInBounds_toArray, List.set_cons_zero, List.set_cons_succ] at e1; have e2 := (bW.far (p := ⟨t, 0, none⟩) (by simp; omega) (.slice (some ⟨gW, 0, none⟩) (n + 1) (n + 1))).far (p := ⟨t, 1, none⟩) (by simp; omega) (.slice (some ⟨gF, 0, none⟩) (n + 1) (n + 1)); have e3 := (bF.far (p := ⟨t, 0, none⟩) (by simp; omega) (.slice (some ⟨gW, 0, none⟩) (n + 1) (n + 1))).far (p := ⟨t, 1, none⟩) (by simp; omega) (.slice (some ⟨gF, 0, none⟩) (n + 1) (n + 1)); have e4 := (b4.far (p := ⟨t, 0, none⟩) (by simp; omega) (.slice (some ⟨gW, 0, none⟩) (n + 1) (n + 1))).far (p := ⟨t, 1, none⟩) (by simp; omega) (.slice (some ⟨gF, 0, none⟩) (n + 1) (n + 1)); intro Y hY hSY; exact ⟨gW, gF, t, rfl, by omega, by omega, by omega, by omega, by omega, by omega, e1.below hY e1.lt, e2.below hY e2.lt, e3.below hY e3.lt, e4.below hY e4.lt⟩)
    · ((intro X hX hS; have sz := hX.size; (try rw [World.size_alloc] at sz); (try replace bW := bW.below hX bW.lt); (try replace bF := bF.below hX bF.lt); (try replace bT := bT.below hX bT.lt); (try replace b4 := b4.below hX b4.lt)); (go_simp; simp only [LUpon, Act.put]; try simp only [List.setIfInBounds_toArray, List.set_cons_zero, List.set_cons_succ]); obtain ⟨gF, hgF⟩ : ∃ g, g = X.heap.size := ⟨_, rfl⟩; rw [← hgF]; refine ⟨hS.alloc hS.size _, ?_⟩; have bF := Blk.new X 23 CS; rw [← hgF] at bF; have u1 : X.heap.size ≤ gF := (by omega); have u2 : gF ≤ X.heap.size := (by omega); clear hgF; (try replace bW := bW.alloc (.cells CS 23)); (try replace bT := bT.alloc (.cells CS 23)); replace b4 := b4.alloc (.cells CS 23))
      (refine Sx.wpM_two 2 7 _ _ (by simp only [List.getElem?_toArray, List.getElem?_cons_zero, List.getElem?_cons_succ]; rfl) (by simp only [List.getElem?_toArray, List.getElem?_cons_zero, List.getElem?_cons_succ]; rfl) (by kernel_rfl) (by rfl) (by rfl) ?_ ?_)
      · ((intro X hX hS; have sz := hX.size; (try rw [World.size_alloc] at sz); (try replace bW := bW.below hX bW.lt); (try replace bF := bF.below hX bF.lt); (try replace bT := bT.below hX bT.lt); (try replace b4 := b4.below hX b4.lt)); (go_simp; simp only [LUpon, Act.put]; try simp only [List.setIfInBounds_toArray, List.set_cons_zero, List.set_cons_succ]); obtain ⟨gW, hgW⟩ : ∃ g, g = X.heap.size := ⟨_, rfl⟩; rw [← hgW]; refine ⟨hS.alloc hS.size _, ?_⟩; have bW := Blk.new X 23 CS; rw [← hgW] at bW; have u1 : X.heap.size ≤ gW := (by omega); have u2 : gW ≤ X.heap.size := (by omega); clear hgW; (try replace bF := bF.alloc (.cells CS 23)); (try replace bT := bT.alloc (.cells CS 23)); replace b4 := b4.alloc (.cells CS 23))
        (refine Sx.wpM_two 6 7 _ _ (by simp only [List.getElem?_toArray, List.getElem?_cons_zero, List.getElem?_cons_succ]; rfl) (by simp only [List.getElem?_toArray, List.getElem?_cons_zero, List.getElem?_cons_succ]; rfl) (by kernel_rfl) (by rfl) (by rfl) ?_ ?_)
        · ((intro X hX hS; have sz := hX.size; (try rw [World.size_alloc] at sz); (try replace bW := bW.below hX bW.lt); (try replace bF := bF.below hX bF.lt); (try replace bT := bT.below hX bT.lt); (try replace b4 := b4.below hX b4.lt)); (go_simp; simp only [LUpon, Act.put]; try simp only [List.setIfInBounds_toArray, List.set_cons_zero, List.set_cons_succ]); refine ⟨hS, ?_⟩)
          (refine Sx.wpM_one 7 _ (by simp only [List.getElem?_toArray, List.getElem?_cons_zero, List.getElem?_cons_succ]; rfl) (by kernel_rfl) (by rfl) ?_)
          ((intro X hX hS; have sz := hX.size; (try rw [World.size_alloc] at sz); (try replace bW := bW.below hX bW.lt); (try replace bF := bF.below hX bF.lt); (try replace bT := bT.below hX bT.lt); (try replace b4 := b4.below hX b4.lt)); (go_simp; simp only [LUpon, Act.put]; try simp only [List.setIfInBounds_toArray, List.set_cons_zero, List.set_cons_succ]); obtain ⟨t, ht⟩ : ∃ g, g = X.heap.size := ⟨_, rfl⟩; rw [← ht]; refine ⟨hS.alloc hS.size _, ?_⟩; have bT := Blk.new X 95 #[.slice none 0 0, .slice none 0 0]; rw [← ht] at bT; have u1 : X.heap.size ≤ t := (by omega); have u2 : t ≤ X.heap.size := (by omega); clear ht; (try replace bW := bW.alloc (.cells #[.slice none 0 0, .slice none 0 0] 95)); (try replace bF := bF.alloc (.cells #[.slice none 0 0, .slice none 0 0] 95)); replace b4 := b4.alloc (.cells #[.slice none 0 0, .slice none 0 0] 95))
          (refine Sx.wpM_one 8 _ (by simp only [List.getElem?_toArray, List.getElem?_cons_zero, List.getElem?_cons_succ]; rfl) (by kernel_rfl) (by rfl) ?_)
          ((intro X hX hS; have sz := hX.size; (try rw [World.size_alloc] at sz); (try replace bW := bW.below hX bW.lt); (try replace bF := bF.below hX bF.lt); (try replace bT := bT.below hX bT.lt); (try replace b4 := b4.below hX b4.lt)); have c0 := bT.cell 0; have c1 := bT.cell 1; have d0 := bT.frozen 0; have d1 := bT.frozen 1; have lT := bT.lt; have lW := bW.lt; have lF := bF.lt; (go_simp; simp only [LUpon, Act.put]; try simp only [List.setIfInBounds_toArray, List.set_cons_zero, List.set_cons_succ]); clear c0 c1 d0 d1; refine ⟨(hS.setCell (by simp; omega) _).setCell (by simp; omega) _, ?_⟩; refine Sx.wpM_end (by kernel_rfl) ?_; have e1 := (bT.set_ 0 (.slice (some ⟨gW, 0, none⟩) (n + 1) (n + 1))).set_ 1 (.slice (some ⟨gF, 0, none⟩) (n + 1) (n + 1)); simp only [List.setIfInBounds_toArray, List.set_cons_zero, List.set_cons_succ] at e1; have e2 := (bW.far (p := ⟨t, 0, none⟩) (by simp; omega) (.slice (some ⟨gW, 0, none⟩) (n + 1) (n + 1))).far (p := ⟨t, 1, none⟩) (by simp; omega) (.slice (some ⟨gF, 0, none⟩) (n + 1) (n + 1)); have e3 := (bF.far (p := ⟨t, 0, none⟩) (by simp; omega) (.slice (some ⟨gW, 0, none⟩) (n + 1) (n + 1))).far (p := ⟨t, 1, none⟩) (by simp; omega) (.slice (some ⟨gF, 0, none⟩) (n + 1) (n + 1)); have e4 := (b4.far (p := ⟨t, 0, none⟩) (by simp; omega) (.slice (some ⟨gW, 0, none⟩) (n + 1) (n + 1))).far (p := ⟨t, 1, none⟩) (by simp; omega) (.slice (some ⟨gF, 0, none⟩) (n + 1) (n + 1)); intro Y hY hSY; exact ⟨gW, gF, t, rfl, by omega, by omega, by omega, by omega, by omega, by omega, e1.below hY e1.lt, e2.below hY e2.lt, e3.below hY e3.lt, e4.below hY e4.lt⟩)
        · ((intro X hX hS; have sz := hX.size; (try rw [World.size_alloc] at sz); (try replace bW := bW.below hX bW.lt); (try replace bF := bF.below hX bF.lt); (try replace bT := bT.below hX bT.lt); (try replace b4 := b4.below hX b4.lt)); (go_simp; simp only [LUpon, Act.put]; try simp only [List.setIfInBounds_toArray, List.set_cons_zero, List.set_cons_succ]); obtain ⟨t, ht⟩ : ∃ g, g = X.heap.size := ⟨_, rfl⟩; rw [← ht]; refine ⟨hS.alloc hS.size _, ?_⟩; have bT := Blk.new X 95 #[.slice none 0 0, .slice none 0 0]; rw [← ht] at bT; have u1 : X.heap.size ≤ t := (by omega); have u2 : t ≤ X.heap.size := (by omega); clear ht; (try replace bW := bW.alloc (.cells #[.slice none 0 0, .slice none 0 0] 95)); (try replace bF := bF.alloc (.cells #[.slice none 0 0, .slice none 0 0] 95)); replace b4 := b4.alloc (.cells #[.slice none 0 0, .slice none 0 0] 95))
          (refine Sx.wpM_one 6 _ (by simp only [List.getElem?_toArray, List.getElem?_cons_zero, List.getElem?_cons_succ]; rfl) (by kernel_rfl) (by rfl) ?_)
          ((intro X hX hS; have sz := hX.size; (try rw [World.size_alloc] at sz); (try replace bW := bW.below hX bW.lt); (try replace bF := bF.below hX bF.lt); (try replace bT := bT.below hX bT.lt); (try replace b4 := b4.below hX b4.lt)); (go_simp; simp only [LUpon, Act.put]; try simp only [List.setIfInBounds_toArray, List.set_cons_zero, List.set_cons_succ]); refine ⟨hS, ?_⟩)
          (refine Sx.wpM_one 8 _ (by simp only [List.getElem?_toArray, List.getElem?_cons_zero, List.getElem?_cons_succ]; rfl) (by kernel_rfl) (by rfl) ?_)
          ((intro X hX hS; have sz := hX.size; (try rw [World.size_alloc] at sz); (try replace bW := bW.below hX bW.lt); (try replace bF := bF.below hX bF.lt); (try replace bT := bT.below hX bT.lt); (try replace b4 := b4.below hX b4.lt)); have c0 := bT.cell 0; have c1 := bT.cell 1; have d0 := bT.frozen 0; have d1 := bT.frozen 1; have lT := bT.lt; have lW := bW.lt; have lF := bF.lt; (go_simp; simp only [LUpon, Act.put]; try simp only [List.setIfInBounds_toArray, List.set_cons_zero, List.set_cons_succ]); clear c0 c1 d0 d1; refine ⟨(hS.setCell (by simp; omega) _).setCell (by simp; omega) _, ?_⟩; refine Sx.wpM_end (by kernel_rfl) ?_; have e1 := (bT.set_ 0 (.slice (some ⟨gW, 0, none⟩) (n + 1) (n + 1))).set_ 1 (.slice (some ⟨gF, 0, none⟩) (n + 1) (n + 1)); simp only [List.setIfInBounds_toArray, List.set_cons_zero, List.set_cons_succ] at e1; have e2 := (bW.far (p := ⟨t, 0, none⟩) (by simp; omega) (.slice (some ⟨gW, 0, none⟩) (n + 1) (n + 1))).far (p := ⟨t, 1, none⟩) (by simp; omega) (.slice (some ⟨gF, 0, none⟩) (n + 1) (n + 1)); have e3 := (bF.far (p := ⟨t, 0, none⟩) (by simp; omega) (.slice (some ⟨gW, 0, none⟩) (n + 1) (n + 1))).far (p := ⟨t, 1, none⟩) (by simp; omega) (.slice (some ⟨gF, 0, none⟩) (n + 1) (n + 1)); have e4 := (b4.far (p := ⟨t, 0, none⟩) (by simp; omega) (.slice (some ⟨gW, 0, none⟩) (n + 1) (n + 1))).far (p := ⟨t, 1, none⟩) (by simp; omega) (.slice (some ⟨gF, 0, none⟩) (n + 1) (n + 1)); intro Y hY hSY; exact ⟨gW, gF, t, rfl, by omega, by omega, by omega, by omega, by omega, by omega, e1.below hY e1.lt, e2.below hY e2.lt, e3.below hY e3.lt, e4.below hY e4.lt⟩)
      · ((intro X hX hS; have sz := hX.size; (try rw [World.size_alloc] at sz); (try replace bW := bW.below hX bW.lt); (try replace bF := bF.below hX bF.lt); (try replace bT := bT.below hX bT.lt); (try replace b4 := b4.below hX b4.lt)); (go_simp; simp only [LUpon, Act.put]; try simp only [List.setIfInBounds_toArray, List.set_cons_zero, List.set_cons_succ]); obtain ⟨t, ht⟩ : ∃ g, g = X.heap.size := ⟨_, rfl⟩; rw [← ht]; refine ⟨hS.alloc hS.size _, ?_⟩; have bT := Blk.new X 95 #[.slice none 0 0, .slice none 0 0]; rw [← ht] at bT; have u1 : X.heap.size ≤ t := (by omega); have u2 : t ≤ X.heap.size := (by omega); clear ht; (try replace bW := bW.alloc (.cells #[.slice none 0 0, .slice none 0 0] 95)); (try replace bF := bF.alloc (.cells #[.slice none 0 0, .slice none 0 0] 95)); replace b4 := b4.alloc (.cells #[.slice none 0 0, .slice none 0 0] 95))
        (refine Sx.wpM_one 2 _ (by simp only [List.getElem?_toArray, List.getElem?_cons_zero, List.getElem?_cons_succ]; rfl) (by kernel_rfl) (by rfl) ?_)
        ((intro X hX hS; have sz := hX.size; (try rw [World.size_alloc] at sz); (try replace bW := bW.below hX bW.lt); (try replace bF := bF.below hX bF.lt); (try replace bT := bT.below hX bT.lt); (try replace b4 := b4.below hX b4.lt)); (go_simp; simp only [LUpon, Act.put]; try simp only [List.setIfInBounds_toArray, List.set_cons_zero, List.set_cons_succ]); obtain ⟨gW, hgW⟩ : ∃ g, g = X.heap.size := ⟨_, rfl⟩; rw [← hgW]; refine ⟨hS.alloc hS.size _, ?_⟩; have bW := Blk.new X 23 CS; rw [← hgW] at bW; have u1 : X.heap.size ≤ gW := (by omega); have u2 : gW ≤ X.heap.size := (by omega); clear hgW; (try replace bF := bF.alloc (.cells CS 23)); (try replace bT := bT.alloc (.cells CS 23)); replace b4 := b4.alloc (.cells CS 23))
        (refine Sx.wpM_one 6 _ (by simp only [List.getElem?_toArray, List.getElem?_cons_zero, List.getElem?_cons_succ]; rfl) (by kernel_rfl) (by rfl) ?_)
        ((intro X hX hS; have sz := hX.size; (try rw [World.size_alloc] at sz); (try replace bW := bW.below hX bW.lt); (try replace bF := bF.below hX bF.lt); (try replace bT := bT.below hX bT.lt); (try replace b4 := b4.below hX b4.lt)); (go_simp; simp only [LUpon, Act.put]; try simp only [List.setIfInBounds_toArray, List.set_cons_zero, List.set_cons_succ]); refine ⟨hS, ?_⟩)
        (refine Sx.wpM_one 8 _ (by simp only [List.getElem?_toArray, List.getElem?_cons_zero, List.getElem?_cons_succ]; rfl) (by kernel_rfl) (by rfl) ?_)
        ((intro X hX hS; have sz := hX.size; (try rw [World.size_alloc] at sz); (try replace bW := bW.below hX bW.lt); (try replace bF := bF.below hX bF.lt); (try replace bT := bT.below hX bT.lt); (try replace b4 := b4.below hX b4.lt)); have c0 := bT.cell 0; have c1 := bT.cell 1; have d0 := bT.frozen 0; have d1 := bT.frozen 1; have lT := bT.lt; have lW := bW.lt; have lF := bF.lt; (go_simp; simp only [LUpon, Act.put]; try simp only [List.setIfInBounds_toArray, List.set_cons_zero, List.set_cons_succ]); clear c0 c1 d0 d1; refine ⟨(hS.setCell (by simp; omega) _).setCell (by simp; omega) _, ?_⟩; refine Sx.wpM_end (by kernel_rfl) ?_; have e1 := (bT.set_ 0 (.slice (some ⟨gW, 0, none⟩) (n + 1) (n + 1))).set_ 1 (.slice (some ⟨gF, 0, none⟩) (n + 1) (n + 1)); simp only [List.setIfInBounds_toArray, List.set_cons_zero, List.set_cons_succ] at e1; have e2 := (bW.far (p := ⟨t, 0, none⟩) (by simp; omega) (.slice (some ⟨gW, 0, none⟩) (n + 1) (n + 1))).far (p := ⟨t, 1, none⟩) (by simp; omega) (.slice (some ⟨gF, 0, none⟩) (n + 1) (n + 1)); have e3 := (bF.far (p := ⟨t, 0, none⟩) (by simp; omega) (.slice (some ⟨gW, 0, none⟩) (n + 1) (n + 1))).far (p := ⟨t, 1, none⟩) (by simp; omega) (.slice (some ⟨gF, 0, none⟩) (n + 1) (n + 1)); have e4 := (b4.far (p := ⟨t, 0, none⟩) (by simp; omega) (.slice (some ⟨gW, 0, none⟩) (n + 1) (n + 1))).far (p := ⟨t, 1, none⟩) (by simp; omega) (.slice (some ⟨gF, 0, none⟩) (n + 1) (n + 1)); intro Y hY hSY; exact ⟨gW, gF, t, rfl, by omega, by omega, by omega, by omega, by omega, by omega, e1.below hY e1.lt, e2.below hY e2.lt, e3.below hY e3.lt, e4.below hY e4.lt⟩)
    · ((intro X hX hS; have sz := hX.size; (try rw [World.size_alloc] at sz); (try replace bW := bW.below hX bW.lt); (try replace bF := bF.below hX bF.lt); (try replace bT := bT.below hX bT.lt); (try replace b4 := b4.below hX b4.lt)); (go_simp; simp only [LUpon, Act.put]; try simp only [List.setIfInBounds_toArray, List.set_cons_zero, List.set_cons_succ]); obtain ⟨t, ht⟩ : ∃ g, g = X.heap.size := ⟨_, rfl⟩; rw [← ht]; refine ⟨hS.alloc hS.size _, ?_⟩; have bT := Blk.new X 95 #[.slice none 0 0, .slice none 0 0]; rw [← ht] at bT; have u1 : X.heap.size ≤ t := (by omega); have u2 : t ≤ X.heap.size := (by omega); clear ht; (try replace bW := bW.alloc (.cells #[.slice none 0 0, .slice none 0 0] 95)); (try replace bF := bF.alloc (.cells #[.slice none 0 0, .slice none 0 0] 95)); replace b4 := b4.alloc (.cells #[.slice none 0 0, .slice none 0 0] 95))
      (refine Sx.wpM_two 2 5 _ _ (by simp only [List.getElem?_toArray, List.getElem?_cons_zero, List.getElem?_cons_succ]; rfl) (by simp only [List.getElem?_toArray, List.getElem?_cons_zero, List.getElem?_cons_succ]; rfl) (by kernel_rfl) (by rfl) (by rfl) ?_ ?_)
      · ((intro X hX hS; have sz := hX.size; (try rw [World.size_alloc] at sz); (try replace bW := bW.below hX bW.lt); (try replace bF := bF.below hX bF.lt); (try replace bT := bT.below hX bT.lt); (try replace b4 := b4.below hX b4.lt)); (go_simp; simp only [LUpon, Act.put]; try simp only [List.setIfInBounds_toArray, List.set_cons_zero, List.set_cons_succ]); obtain ⟨gW, hgW⟩ : ∃ g, g = X.heap.size := ⟨_, rfl⟩; rw [← hgW]; refine ⟨hS.alloc hS.size _, ?_⟩; have bW := Blk.new X 23 CS; rw [← hgW] at bW; have u1 : X.heap.size ≤ gW := (by omega); have u2 : gW ≤ X.heap.size := (by omega); clear hgW; (try replace bF := bF.alloc (.cells CS 23)); (try replace bT := bT.alloc (.cells CS 23)); replace b4 := b4.alloc (.cells CS 23))
        (refine Sx.wpM_one 5 _ (by simp only [List.getElem?_toArray, List.getElem?_cons_zero, List.getElem?_cons_succ]; rfl) (by kernel_rfl) (by rfl) ?_)
        ((intro X hX hS; have sz := hX.size; (try rw [World.size_alloc] at sz); (try replace bW := bW.below hX bW.lt); (try replace bF := bF.below hX bF.lt); (try replace bT := bT.below hX bT.lt); (try replace b4 := b4.below hX b4.lt)); (go_simp; simp only [LUpon, Act.put]; try simp only [List.setIfInBounds_toArray, List.set_cons_zero, List.set_cons_succ]); obtain ⟨gF, hgF⟩ : ∃ g, g = X.heap.size := ⟨_, rfl⟩; rw [← hgF]; refine ⟨hS.alloc hS.size _, ?_⟩; have bF := Blk.new X 23 CS; rw [← hgF] at bF; have u1 : X.heap.size ≤ gF := (by omega); have u2 : gF ≤ X.heap.size := (by omega); clear hgF; (try replace bW := bW.alloc (.cells CS 23)); (try replace bT := bT.alloc (.cells CS 23)); replace b4 := b4.alloc (.cells CS 23))
        (refine Sx.wpM_one 6 _ (by simp only [List.getElem?_toArray, List.getElem?_cons_zero, List.getElem?_cons_succ]; rfl) (by kernel_rfl) (by rfl) ?_)
        ((intro X hX hS; have sz := hX.size; (try rw [World.size_alloc] at sz); (try replace bW := bW.below hX bW.lt); (try replace bF := bF.below hX bF.lt); (try replace bT := bT.below hX bT.lt); (try replace b4 := b4.below hX b4.lt)); (go_simp; simp only [LUpon, Act.put]; try simp only [List.setIfInBounds_toArray, List.set_cons_zero, List.set_cons_succ]); refine ⟨hS, ?_⟩)
        (refine Sx.wpM_one 8 _ (by simp only [List.getElem?_toArray, List.getElem?_cons_zero, List.getElem?_cons_succ]; rfl) (by kernel_rfl) (by rfl) ?_)
        ((intro X hX hS; have sz := hX.size; (try rw [World.size_alloc] at sz); (try replace bW := bW.below hX bW.lt); (try replace bF := bF.below hX bF.lt); (try replace bT := bT.below hX bT.lt); (try replace b4 := b4.below hX b4.lt)); have c0 := bT.cell 0; have c1 := bT.cell 1; have d0 := bT.frozen 0; have d1 := bT.frozen 1; have lT := bT.lt; have lW := bW.lt; have lF := bF.lt; (go_simp; simp only [LUpon, Act.put]; try simp only [List.setIfInBounds_toArray, List.set_cons_zero, List.set_cons_succ]); clear c0 c1 d0 d1; refine ⟨(hS.setCell (by simp; omega) _).setCell (by simp; omega) _, ?_⟩; refine Sx.wpM_end (by kernel_rfl) ?_; have e1 := (bT.set_ 0 (.slice (some ⟨gW, 0, none⟩) (n + 1) (n + 1))).set_ 1 (.slice (some ⟨gF, 0, none⟩) (n + 1) (n + 1)); simp only [List.setIfInBounds_toArray, List.set_cons_zero, List.set_cons_succ] at e1; have e2 := (bW.far (p := ⟨t, 0, none⟩) (by simp; omega) (.slice (some ⟨gW, 0, none⟩) (n + 1) (n + 1))).far (p := ⟨t, 1, none⟩) (by simp; omega) (.slice (some ⟨gF, 0, none⟩) (n + 1) (n + 1)); have e3 := (bF.far (p := ⟨t, 0, none⟩) (by simp; omega) (.slice (some ⟨gW, 0, none⟩) (n + 1) (n + 1))).far (p := ⟨t, 1, none⟩) (by simp; omega) (.slice (some ⟨gF, 0, none⟩) (n + 1) (n + 1)); have e4 := (b4.far (p := ⟨t, 0, none⟩) (by simp; omega) (.slice (some ⟨gW, 0, none⟩) (n + 1) (n + 1))).far (p := ⟨t, 1, none⟩) (by simp; omega) (.slice (some ⟨gF, 0, none⟩) (n + 1) (n + 1)); intro Y hY hSY; exact ⟨gW, gF, t, rfl, by omega, by omega, by omega, by omega, by omega, by omega, e1.below hY e1.lt, e2.below hY e2.lt, e3.below hY e3.lt, e4.below hY e4.lt⟩)
      · ((intro X hX hS; have sz := hX.size; (try rw [World.size_alloc] at sz); (try replace bW := bW.below hX bW.lt); (try replace bF := bF.below hX bF.lt); (try replace bT := bT.below hX bT.lt); (try replace b4 := b4.below hX b4.lt)); (go_simp; simp only [LUpon, Act.put]; try simp only [List.setIfInBounds_toArray, List.set_cons_zero, List.set_cons_succ]); obtain ⟨gF, hgF⟩ : ∃ g, g = X.heap.size := ⟨_, rfl⟩; rw [← hgF]; refine ⟨hS.alloc hS.size _, ?_⟩; have bF := Blk.new X 23 CS; rw [← hgF] at bF; have u1 : X.heap.size ≤ gF := (by omega); have u2 : gF ≤ X.heap.size := (by omega); clear hgF; (try replace bW := bW.alloc (.cells CS 23)); (try replace bT := bT.alloc (.cells CS 23)); replace b4 := b4.alloc (.cells CS 23))
        (refine Sx.wpM_one 2 _ (by simp only [List.getElem?_toArray, List.getElem?_cons_zero, List.getElem?_cons_succ]; rfl) (by kernel_rfl) (by rfl) ?_)
        ((intro X hX hS; have sz := hX.size; (try rw [World.size_alloc] at sz); (try replace bW := bW.below hX bW.lt); (try replace bF := bF.below hX bF.lt); (try replace bT := bT.below hX bT.lt); (try replace b4 := b4.below hX b4.lt)); (go_simp; simp only [LUpon, Act.put]; try simp only [List.setIfInBounds_toArray, List.set_cons_zero, List.set_cons_succ]); obtain ⟨gW, hgW⟩ : ∃ g, g = X.heap.size := ⟨_, rfl⟩; rw [← hgW]; refine ⟨hS.alloc hS.size _, ?_⟩; have bW := Blk.new X 23 CS; rw [← hgW] at bW; have u1 : X.heap.size ≤ gW := (by omega); have u2 : gW ≤ X.heap.size := (by omega); clear hgW; (try replace bF := bF.alloc (.cells CS 23)); (try replace bT := bT.alloc (.cells CS 23)); replace b4 := b4.alloc (.cells CS 23))
        (refine Sx.wpM_one 6 _ (by simp only [List.getElem?_toArray, List.getElem?_cons_zero, List.getElem?_cons_succ]; rfl) (by kernel_rfl) (by rfl) ?_)
        ((intro X hX hS; have sz := hX.size; (try rw [World.size_alloc] at sz); (try replace bW := bW.below hX bW.lt); (try replace bF := bF.below hX bF.lt); (try replace bT := bT.below hX bT.lt); (try replace b4 := b4.below hX b4.lt)); (go_simp; simp only [LUpon, Act.put]; try simp only [List.setIfInBounds_toArray, List.set_cons_zero, List.set_cons_succ]); refine ⟨hS, ?_⟩)
        (refine Sx.wpM_one 8 _ (by simp only [List.getElem?_toArray, List.getElem?_cons_zero, List.getElem?_cons_succ]; rfl) (by kernel_rfl) (by rfl) ?_)
        ((intro X hX hS; have sz := hX.size; (try rw [World.size_alloc] at sz); (try replace bW := bW.below hX bW.lt); (try replace bF := bF.below hX bF.lt); (try replace bT := bT.below hX bT.lt); (try replace b4 := b4.below hX b4.lt)); have c0 := bT.cell 0; have c1 := bT.cell 1; have d0 := bT.frozen 0; have d1 := bT.frozen 1; have lT := bT.lt; have lW := bW.lt; have lF := bF.lt; (go_simp; simp only [LUpon, Act.put]; try simp only [List.setIfInBounds_toArray, List.set_cons_zero, List.set_cons_succ]); clear c0 c1 d0 d1; refine ⟨(hS.setCell (by simp; omega) _).setCell (by simp; omega) _, ?_⟩; refine Sx.wpM_end (by kernel_rfl) ?_; have e1 := (bT.set_ 0 (.slice (some ⟨gW, 0, none⟩) (n + 1) (n + 1))).set_ 1 (.slice (some ⟨gF, 0, none⟩) (n + 1) (n + 1)); simp only [List.setIfInBounds_toArray, List.set_cons_zero, List.set_cons_succ] at e1; have e2 := (bW.far (p := ⟨t, 0, none⟩) (by simp; omega) (.slice (some ⟨gW, 0, none⟩) (n + 1) (n + 1))).far (p := ⟨t, 1, none⟩) (by simp; omega) (.slice (some ⟨gF, 0, none⟩) (n + 1) (n + 1)); have e3 := (bF.far (p := ⟨t, 0, none⟩) (by simp; omega) (.slice (some ⟨gW, 0, none⟩) (n + 1) (n + 1))).far (p := ⟨t, 1, none⟩) (by simp; omega) (.slice (some ⟨gF, 0, none⟩) (n + 1) (n + 1)); have e4 := (b4.far (p := ⟨t, 0, none⟩) (by simp; omega) (.slice (some ⟨gW, 0, none⟩) (n + 1) (n + 1))).far (p := ⟨t, 1, none⟩) (by simp; omega) (.slice (some ⟨gF, 0, none⟩) (n + 1) (n + 1)); intro Y hY hSY; exact ⟨gW, gF, t, rfl, by omega, by omega, by omega, by omega, by omega, by omega, e1.below hY e1.lt, e2.below hY e2.lt, e3.below hY e3.lt, e4.below hY e4.lt⟩)
  · rintro a W2 hS2 ⟨gW, gF, t, rfl, n1, n2, n3, n4, n5, n6, bT, bW, bF, b4'⟩
    go_wp2
    have lW2 := bW.lt
    have lF2 := bF.lt
    have lT2 := bT.lt
    have x0 : (0 : Int) ≤ n := by omega
    have x1 : (n : Int) < n + 1 := by omega
    have hcn := hid (CS_at HCS.out (j := n) (by omega))
    refine Sx.wp_region_elQ (fun W => Below w.heap.size w W ∧ Blk W t 95 #[.slice (some ⟨gW, 0, none⟩) (n + 1) (n + 1), .slice (some ⟨gF, 0, none⟩) (n + 1) (n + 1)]) (fun a W => ∃ rW rF : Nat, a = { tmps := #[.slice A n c, .int .i64 p, undef, undef, .pointer (some ⟨w.heap.size, 0, none⟩), .int .i64 n, .pointer (some ⟨t, 0, none⟩), undef, undef, undef, undef, undef, undef, .slice A n c, .int .i64 n, .int .i64 n, .int .i64 ((n : Int) + 1), .slice (some ⟨gW, 0, none⟩) (n + 1) (n + 1), .int .i64 n, .int .i64 ((n : Int) + 1), .slice (some ⟨gF, 0, none⟩) (n + 1) (n + 1), .agg #[.slice (some ⟨gW, 0, none⟩) (n + 1) (n + 1), .slice (some ⟨gF, 0, none⟩) (n + 1) (n + 1)], .pointer (some ⟨t, 0, none⟩), .slice (some ⟨gW, 0, none⟩) (n + 1) (n + 1), .int .i64 n, .pointer (some ⟨t, 1, none⟩), .slice (some ⟨gF, 0, none⟩) (n + 1) (n + 1), .int .i64 n, .slice (some ⟨rW, 0, none⟩) 601 601, .slice (some ⟨rF, 0, none⟩) 601 601, .pointer (some ⟨gW, n, none⟩), .pointer (some ⟨gF, n, none⟩), undef, undef, undef, undef, undef, undef, undef, undef, undef, undef, undef, undef, undef, undef, undef, undef, undef, undef, undef, undef, undef, undef, undef, undef, undef, undef, undef, undef, undef, undef, undef, undef, undef, undef, undef, undef, undef, undef, undef, undef, undef, undef, undef, undef, undef, undef, undef, undef, undef, undef, undef, undef, undef, undef, undef, undef, undef, undef, undef, undef, undef, undef, undef, undef, undef, undef, undef, undef, undef, undef, undef, undef, undef, undef, undef, undef, undef, undef, undef, undef, undef, undef, undef, undef, undef, undef, undef, undef, undef, undef, undef, undef, undef, undef, undef, undef, undef, undef, undef, undef, undef, undef, undef, undef, undef, undef, undef, undef, undef, undef, undef, undef, undef, undef, undef, undef, undef, undef, undef, undef, undef, undef, undef, undef, undef, undef, undef, undef, undef, undef, undef, undef, undef, undef, undef, undef, undef, undef, undef, undef, undef, undef, undef, undef, undef, undef, undef, undef, undef, undef, undef, undef, undef, undef, undef], defers := [] } ∧
        rW ≠ rF ∧ W2.heap.size ≤ rW ∧ W2.heap.size ≤ rF ∧ Blk W rW 2 (rowC fun _ => 0) ∧ Blk W rF 2 (rowC fun _ => 0) ∧ Blk W gW 23 (CS.setIfInBounds n (.slice (some ⟨rW, 0, none⟩) 601 601)) ∧ Blk W gF 23 (CS.setIfInBounds n (.slice (some ⟨rF, 0, none⟩) 601 601)) ∧ KpG W2.heap.size (fun q => q = gW ∨ q = gF) W2 W) (hSt w t _) [0, 1, 2, 3, 4, 5] 6 (by kernel_rfl) (by kernel_rfl) ?_ ?_ ?_
    · exact ⟨hS2.drew, bT⟩
    · simp only [pick, List.getElem?_toArray, List.getElem?_cons_zero, List.getElem?_cons_succ]
      iterate 6 (refine Sx.wpE_val (v := ?_) (by rfl) (fun W hW => ?_) ?_; rotate_left; (· have q0 := hW.2.cell 0; have q1 := hW.2.cell 1; have ltt := hW.2.lt; go_simp; with_reducible rfl); simp only [Act.put, List.setIfInBounds_toArray, List.set_cons_zero, List.set_cons_succ])
      simp only [Sx.wpE]
      have hK : KpG W2.heap.size (fun q => q = gW ∨ q = gF) W2 W2.drew := KpG.of_below (Below.refl _ _).drew
      have hcW := hcn
      have hcF := hcn
      replace bW : Blk W2.drew gW 23 CS := bW
      replace bF : Blk W2.drew gF 23 CS := bF
      (refine Sx.wpM_two 6 7 _ _ (by simp only [List.getElem?_toArray, List.getElem?_cons_zero, List.getElem?_cons_succ]; rfl) (by simp only [List.getElem?_toArray, List.getElem?_cons_zero, List.getElem?_cons_succ]; rfl) (by kernel_rfl) (by rfl) (by rfl) ?_ ?_)
      · ((intro X hX hS; have sz := hX.size; (try rw [World.size_alloc] at sz); (try rw [World.size_setCell] at sz); (try replace bRW := bRW.below hX bRW.lt); (try replace bRF := bRF.below hX bRF.lt); replace bW := bW.below hX bW.lt; replace bF := bF.below hX bF.lt; replace hK := hK.trans (KpG.of_below (hX.mono hK.1)); have kz := hK.1); (go_simp; simp only [LUpon, Act.put]; try simp only [List.setIfInBounds_toArray, List.set_cons_zero, List.set_cons_succ]); obtain ⟨rW, hrW⟩ : ∃ g, g = X.heap.size := ⟨_, rfl⟩; rw [← hrW]; refine ⟨⟨hS.1.alloc hS.1.size _, hS.2.alloc _⟩, ?_⟩; have bRW := Blk.new X 2 (rowC fun _ => 0); rw [← hrW] at bRW; have u1 : X.heap.size ≤ rW := (by omega); have u2 : rW ≤ X.heap.size := (by omega); clear hrW; (try replace bRF := bRF.alloc (.cells (rowC fun _ => 0) 2)); replace bW := bW.alloc (.cells (rowC fun _ => 0) 2); replace bF := bF.alloc (.cells (rowC fun _ => 0) 2); replace hK := hK.trans (KpG.alloc X hK.1 (.cells (rowC fun _ => 0) 2)))
        (refine Sx.wpM_two 7 8 _ _ (by simp only [List.getElem?_toArray, List.getElem?_cons_zero, List.getElem?_cons_succ]; rfl) (by simp only [List.getElem?_toArray, List.getElem?_cons_zero, List.getElem?_cons_succ]; rfl) (by kernel_rfl) (by rfl) (by rfl) ?_ ?_)
        · ((intro X hX hS; have sz := hX.size; (try rw [World.size_alloc] at sz); (try rw [World.size_setCell] at sz); (try replace bRW := bRW.below hX bRW.lt); (try replace bRF := bRF.below hX bRF.lt); replace bW := bW.below hX bW.lt; replace bF := bF.below hX bF.lt; replace hK := hK.trans (KpG.of_below (hX.mono hK.1)); have kz := hK.1); (go_simp; simp only [LUpon, Act.put]; try simp only [List.setIfInBounds_toArray, List.set_cons_zero, List.set_cons_succ]); obtain ⟨rF, hrF⟩ : ∃ g, g = X.heap.size := ⟨_, rfl⟩; rw [← hrF]; refine ⟨⟨hS.1.alloc hS.1.size _, hS.2.alloc _⟩, ?_⟩; have bRF := Blk.new X 2 (rowC fun _ => 0); rw [← hrF] at bRF; have u1 : X.heap.size ≤ rF := (by omega); have u2 : rF ≤ X.heap.size := (by omega); clear hrF; (try replace bRW := bRW.alloc (.cells (rowC fun _ => 0) 2)); replace bW := bW.alloc (.cells (rowC fun _ => 0) 2); replace bF := bF.alloc (.cells (rowC fun _ => 0) 2); replace hK := hK.trans (KpG.alloc X hK.1 (.cells (rowC fun _ => 0) 2)))
          (refine Sx.wpM_one 8 _ (by simp only [List.getElem?_toArray, List.getElem?_cons_zero, List.getElem?_cons_succ]; rfl) (by kernel_rfl) (by rfl) ?_)
          ((intro X hX hS; have sz := hX.size; (try rw [World.size_alloc] at sz); (try rw [World.size_setCell] at sz); (try replace bRW := bRW.below hX bRW.lt); (try replace bRF := bRF.below hX bRF.lt); replace bW := bW.below hX bW.lt; replace bF := bF.below hX bF.lt; replace hK := hK.trans (KpG.of_below (hX.mono hK.1)); have kz := hK.1); (go_simp; simp only [LUpon, Act.put]; try simp only [List.setIfInBounds_toArray, List.set_cons_zero, List.set_cons_succ]); refine ⟨hS, ?_⟩)
          (refine Sx.wpM_one 9 _ (by simp only [List.getElem?_toArray, List.getElem?_cons_zero, List.getElem?_cons_succ]; rfl) (by kernel_rfl) (by rfl) ?_)
          ((intro X hX hS; have sz := hX.size; (try rw [World.size_alloc] at sz); (try rw [World.size_setCell] at sz); (try replace bRW := bRW.below hX bRW.lt); (try replace bRF := bRF.below hX bRF.lt); replace bW := bW.below hX bW.lt; replace bF := bF.below hX bF.lt; replace hK := hK.trans (KpG.of_below (hX.mono hK.1)); have kz := hK.1); have c0 := (bW.cell n).trans hcW.out; have d0 := bW.frozen n; have lW := bW.lt; (go_simp; simp only [LUpon, Act.put]; try simp only [List.setIfInBounds_toArray, List.set_cons_zero, List.set_cons_succ]); clear c0 d0; refine ⟨⟨hS.1.setCell (by simp; omega) _, hS.2.far (by simp; omega) _⟩, ?_⟩; replace bW := bW.set_ n (.slice (some ⟨rW, 0, none⟩) 601 601); replace bF := bF.far (p := ⟨gW, n, none⟩) (by simp; omega) (.slice (some ⟨rW, 0, none⟩) 601 601); (try replace bRF := bRF.far (p := ⟨gW, n, none⟩) (by simp; omega) (.slice (some ⟨rW, 0, none⟩) 601 601)); replace bRW := bRW.far (p := ⟨gW, n, none⟩) (by simp; omega) (.slice (some ⟨rW, 0, none⟩) 601 601); replace hK := hK.trans (KpG.setCell X (p := ⟨gW, n, none⟩) (Or.inl rfl) (.slice (some ⟨rW, 0, none⟩) 601 601)))
          (refine Sx.wpM_one 10 _ (by simp only [List.getElem?_toArray, List.getElem?_cons_zero, List.getElem?_cons_succ]; rfl) (by kernel_rfl) (by rfl) ?_)
          ((intro X hX hS; have sz := hX.size; (try rw [World.size_alloc] at sz); (try rw [World.size_setCell] at sz); (try replace bRW := bRW.below hX bRW.lt); (try replace bRF := bRF.below hX bRF.lt); replace bW := bW.below hX bW.lt; replace bF := bF.below hX bF.lt; replace hK := hK.trans (KpG.of_below (hX.mono hK.1)); have kz := hK.1); (go_simp; simp only [LUpon, Act.put]; try simp only [List.setIfInBounds_toArray, List.set_cons_zero, List.set_cons_succ]); refine ⟨hS, ?_⟩)
          (refine Sx.wpM_one 11 _ (by simp only [List.getElem?_toArray, List.getElem?_cons_zero, List.getElem?_cons_succ]; rfl) (by kernel_rfl) (by rfl) ?_)
          ((intro X hX hS; have sz := hX.size; (try rw [World.size_alloc] at sz); (try rw [World.size_setCell] at sz); (try replace bRW := bRW.below hX bRW.lt); (try replace bRF := bRF.below hX bRF.lt); replace bW := bW.below hX bW.lt; replace bF := bF.below hX bF.lt; replace hK := hK.trans (KpG.of_below (hX.mono hK.1)); have kz := hK.1); have c0 := (bF.cell n).trans hcF.out; have d0 := bF.frozen n; have lF := bF.lt; (go_simp; simp only [LUpon, Act.put]; try simp only [List.setIfInBounds_toArray, List.set_cons_zero, List.set_cons_succ]); clear c0 d0; refine ⟨⟨hS.1.setCell (by simp; omega) _, hS.2.far (by simp; omega) _⟩, ?_⟩; replace bF := bF.set_ n (.slice (some ⟨rF, 0, none⟩) 601 601); replace bW := bW.far (p := ⟨gF, n, none⟩) (by simp; omega) (.slice (some ⟨rF, 0, none⟩) 601 601); replace bRF := bRF.far (p := ⟨gF, n, none⟩) (by simp; omega) (.slice (some ⟨rF, 0, none⟩) 601 601); replace bRW := bRW.far (p := ⟨gF, n, none⟩) (by simp; omega) (.slice (some ⟨rF, 0, none⟩) 601 601); replace hK := hK.trans (KpG.setCell X (p := ⟨gF, n, none⟩) (Or.inr rfl) (.slice (some ⟨rF, 0, none⟩) 601 601)); refine Sx.wpM_end (by kernel_rfl) ?_; intro Y hY hSY; exact ⟨rW, rF, rfl, by omega, by omega, by omega, bRW.below hY bRW.lt, bRF.below hY bRF.lt, bW.below hY bW.lt, bF.below hY bF.lt, hK.trans (KpG.of_below (hY.mono hK.1))⟩)
        · ((intro X hX hS; have sz := hX.size; (try rw [World.size_alloc] at sz); (try rw [World.size_setCell] at sz); (try replace bRW := bRW.below hX bRW.lt); (try replace bRF := bRF.below hX bRF.lt); replace bW := bW.below hX bW.lt; replace bF := bF.below hX bF.lt; replace hK := hK.trans (KpG.of_below (hX.mono hK.1)); have kz := hK.1); (go_simp; simp only [LUpon, Act.put]; try simp only [List.setIfInBounds_toArray, List.set_cons_zero, List.set_cons_succ]); refine ⟨hS, ?_⟩)
          (refine Sx.wpM_two 7 9 _ _ (by simp only [List.getElem?_toArray, List.getElem?_cons_zero, List.getElem?_cons_succ]; rfl) (by simp only [List.getElem?_toArray, List.getElem?_cons_zero, List.getElem?_cons_succ]; rfl) (by kernel_rfl) (by rfl) (by rfl) ?_ ?_)
          · ((intro X hX hS; have sz := hX.size; (try rw [World.size_alloc] at sz); (try rw [World.size_setCell] at sz); (try replace bRW := bRW.below hX bRW.lt); (try replace bRF := bRF.below hX bRF.lt); replace bW := bW.below hX bW.lt; replace bF := bF.below hX bF.lt; replace hK := hK.trans (KpG.of_below (hX.mono hK.1)); have kz := hK.1); (go_simp; simp only [LUpon, Act.put]; try simp only [List.setIfInBounds_toArray, List.set_cons_zero, List.set_cons_succ]); obtain ⟨rF, hrF⟩ : ∃ g, g = X.heap.size := ⟨_, rfl⟩; rw [← hrF]; refine ⟨⟨hS.1.alloc hS.1.size _, hS.2.alloc _⟩, ?_⟩; have bRF := Blk.new X 2 (rowC fun _ => 0); rw [← hrF] at bRF; have u1 : X.heap.size ≤ rF := (by omega); have u2 : rF ≤ X.heap.size := (by omega); clear hrF; (try replace bRW := bRW.alloc (.cells (rowC fun _ => 0) 2)); replace bW := bW.alloc (.cells (rowC fun _ => 0) 2); replace bF := bF.alloc (.cells (rowC fun _ => 0) 2); replace hK := hK.trans (KpG.alloc X hK.1 (.cells (rowC fun _ => 0) 2)))
            (refine Sx.wpM_one 9 _ (by simp only [List.getElem?_toArray, List.getElem?_cons_zero, List.getElem?_cons_succ]; rfl) (by kernel_rfl) (by rfl) ?_)
            ((intro X hX hS; have sz := hX.size; (try rw [World.size_alloc] at sz); (try rw [World.size_setCell] at sz); (try replace bRW := bRW.below hX bRW.lt); (try replace bRF := bRF.below hX bRF.lt); replace bW := bW.below hX bW.lt; replace bF := bF.below hX bF.lt; replace hK := hK.trans (KpG.of_below (hX.mono hK.1)); have kz := hK.1); have c0 := (bW.cell n).trans hcW.out; have d0 := bW.frozen n; have lW := bW.lt; (go_simp; simp only [LUpon, Act.put]; try simp only [List.setIfInBounds_toArray, List.set_cons_zero, List.set_cons_succ]); clear c0 d0; refine ⟨⟨hS.1.setCell (by simp; omega) _, hS.2.far (by simp; omega) _⟩, ?_⟩; replace bW := bW.set_ n (.slice (some ⟨rW, 0, none⟩) 601 601); replace bF := bF.far (p := ⟨gW, n, none⟩) (by simp; omega) (.slice (some ⟨rW, 0, none⟩) 601 601); (try replace bRF := bRF.far (p := ⟨gW, n, none⟩) (by simp; omega) (.slice (some ⟨rW, 0, none⟩) 601 601)); replace bRW := bRW.far (p := ⟨gW, n, none⟩) (by simp; omega) (.slice (some ⟨rW, 0, none⟩) 601 601); replace hK := hK.trans (KpG.setCell X (p := ⟨gW, n, none⟩) (Or.inl rfl) (.slice (some ⟨rW, 0, none⟩) 601 601)))
            (refine Sx.wpM_one 10 _ (by simp only [List.getElem?_toArray, List.getElem?_cons_zero, List.getElem?_cons_succ]; rfl) (by kernel_rfl) (by rfl) ?_)
            ((intro X hX hS; have sz := hX.size; (try rw [World.size_alloc] at sz); (try rw [World.size_setCell] at sz); (try replace bRW := bRW.below hX bRW.lt); (try replace bRF := bRF.below hX bRF.lt); replace bW := bW.below hX bW.lt; replace bF := bF.below hX bF.lt; replace hK := hK.trans (KpG.of_below (hX.mono hK.1)); have kz := hK.1); (go_simp; simp only [LUpon, Act.put]; try simp only [List.setIfInBounds_toArray, List.set_cons_zero, List.set_cons_succ]); refine ⟨hS, ?_⟩)
            (refine Sx.wpM_one 11 _ (by simp only [List.getElem?_toArray, List.getElem?_cons_zero, List.getElem?_cons_succ]; rfl) (by kernel_rfl) (by rfl) ?_)
            ((intro X hX hS; have sz := hX.size; (try rw [World.size_alloc] at sz); (try rw [World.size_setCell] at sz); (try replace bRW := bRW.below hX bRW.lt); (try replace bRF := bRF.below hX bRF.lt); replace bW := bW.below hX bW.lt; replace bF := bF.below hX bF.lt; replace hK := hK.trans (KpG.of_below (hX.mono hK.1)); have kz := hK.1); have c0 := (bF.cell n).trans hcF.out; have d0 := bF.frozen n; have lF := bF.lt; (go_simp; simp only [LUpon, Act.put]; try simp only [List.setIfInBounds_toArray, List.set_cons_zero, List.set_cons_succ]); clear c0 d0; refine ⟨⟨hS.1.setCell (by simp; omega) _, hS.2.far (by simp; omega) _⟩, ?_⟩; replace bF := bF.set_ n (.slice (some ⟨rF, 0, none⟩) 601 601); replace bW := bW.far (p := ⟨gF, n, none⟩) (by simp; omega) (.slice (some ⟨rF, 0, none⟩) 601 601); replace bRF := bRF.far (p := ⟨gF, n, none⟩) (by simp; omega) (.slice (some ⟨rF, 0, none⟩) 601 601); replace bRW := bRW.far (p := ⟨gF, n, none⟩) (by simp; omega) (.slice (some ⟨rF, 0, none⟩) 601 601); replace hK := hK.trans (KpG.setCell X (p := ⟨gF, n, none⟩) (Or.inr rfl) (.slice (some ⟨rF, 0, none⟩) 601 601)); refine Sx.wpM_end (by kernel_rfl) ?_; intro Y hY hSY; exact ⟨rW, rF, rfl, by omega, by omega, by omega, bRW.below hY bRW.lt, bRF.below hY bRF.lt, bW.below hY bW.lt, bF.below hY bF.lt, hK.trans (KpG.of_below (hY.mono hK.1))⟩)
          · ((intro X hX hS; have sz := hX.size; (try rw [World.size_alloc] at sz); (try rw [World.size_setCell] at sz); (try replace bRW := bRW.below hX bRW.lt); (try replace bRF := bRF.below hX bRF.lt); replace bW := bW.below hX bW.lt; replace bF := bF.below hX bF.lt; replace hK := hK.trans (KpG.of_below (hX.mono hK.1)); have kz := hK.1); have c0 := (bW.cell n).trans hcW.out; have d0 := bW.frozen n; have lW := bW.lt; (go_simp; simp only [LUpon, Act.put]; try simp only [List.setIfInBounds_toArray, List.set_cons_zero, List.set_cons_succ]); clear c0 d0; refine ⟨⟨hS.1.setCell (by simp; omega) _, hS.2.far (by simp; omega) _⟩, ?_⟩; replace bW := bW.set_ n (.slice (some ⟨rW, 0, none⟩) 601 601); replace bF := bF.far (p := ⟨gW, n, none⟩) (by simp; omega) (.slice (some ⟨rW, 0, none⟩) 601 601); (try replace bRF := bRF.far (p := ⟨gW, n, none⟩) (by simp; omega) (.slice (some ⟨rW, 0, none⟩) 601 601)); replace bRW := bRW.far (p := ⟨gW, n, none⟩) (by simp; omega) (.slice (some ⟨rW, 0, none⟩) 601 601); replace hK := hK.trans (KpG.setCell X (p := ⟨gW, n, none⟩) (Or.inl rfl) (.slice (some ⟨rW, 0, none⟩) 601 601)))
            (refine Sx.wpM_one 7 _ (by simp only [List.getElem?_toArray, List.getElem?_cons_zero, List.getElem?_cons_succ]; rfl) (by kernel_rfl) (by rfl) ?_)
            ((intro X hX hS; have sz := hX.size; (try rw [World.size_alloc] at sz); (try rw [World.size_setCell] at sz); (try replace bRW := bRW.below hX bRW.lt); (try replace bRF := bRF.below hX bRF.lt); replace bW := bW.below hX bW.lt; replace bF := bF.below hX bF.lt; replace hK := hK.trans (KpG.of_below (hX.mono hK.1)); have kz := hK.1); (go_simp; simp only [LUpon, Act.put]; try simp only [List.setIfInBounds_toArray, List.set_cons_zero, List.set_cons_succ]); obtain ⟨rF, hrF⟩ : ∃ g, g = X.heap.size := ⟨_, rfl⟩; rw [← hrF]; refine ⟨⟨hS.1.alloc hS.1.size _, hS.2.alloc _⟩, ?_⟩; have bRF := Blk.new X 2 (rowC fun _ => 0); rw [← hrF] at bRF; have u1 : X.heap.size ≤ rF := (by omega); have u2 : rF ≤ X.heap.size := (by omega); clear hrF; (try replace bRW := bRW.alloc (.cells (rowC fun _ => 0) 2)); replace bW := bW.alloc (.cells (rowC fun _ => 0) 2); replace bF := bF.alloc (.cells (rowC fun _ => 0) 2); replace hK := hK.trans (KpG.alloc X hK.1 (.cells (rowC fun _ => 0) 2)))
            (refine Sx.wpM_one 10 _ (by simp only [List.getElem?_toArray, List.getElem?_cons_zero, List.getElem?_cons_succ]; rfl) (by kernel_rfl) (by rfl) ?_)
            ((intro X hX hS; have sz := hX.size; (try rw [World.size_alloc] at sz); (try rw [World.size_setCell] at sz); (try replace bRW := bRW.below hX bRW.lt); (try replace bRF := bRF.below hX bRF.lt); replace bW := bW.below hX bW.lt; replace bF := bF.below hX bF.lt; replace hK := hK.trans (KpG.of_below (hX.mono hK.1)); have kz := hK.1); (go_simp; simp only [LUpon, Act.put]; try simp only [List.setIfInBounds_toArray, List.set_cons_zero, List.set_cons_succ]); refine ⟨hS, ?_⟩)
            (refine Sx.wpM_one 11 _ (by simp only [List.getElem?_toArray, List.getElem?_cons_zero, List.getElem?_cons_succ]; rfl) (by kernel_rfl) (by rfl) ?_)
            ((intro X hX hS; have sz := hX.size; (try rw [World.size_alloc] at sz); (try rw [World.size_setCell] at sz); (try replace bRW := bRW.below hX bRW.lt); (try replace bRF := bRF.below hX bRF.lt); replace bW := bW.below hX bW.lt; replace bF := bF.below hX bF.lt; replace hK := hK.trans (KpG.of_below (hX.mono hK.1)); have kz := hK.1); have c0 := (bF.cell n).trans hcF.out; have d0 := bF.frozen n; have lF := bF.lt; (go_simp; simp only [LUpon, Act.put]; try simp only [List.setIfInBounds_toArray, List.set_cons_zero, List.set_cons_succ]); clear c0 d0; refine ⟨⟨hS.1.setCell (by simp; omega) _, hS.2.far (by simp; omega) _⟩, ?_⟩; replace bF := bF.set_ n (.slice (some ⟨rF, 0, none⟩) 601 601); replace bW := bW.far (p := ⟨gF, n, none⟩) (by simp; omega) (.slice (some ⟨rF, 0, none⟩) 601 601); replace bRF := bRF.far (p := ⟨gF, n, none⟩) (by simp; omega) (.slice (some ⟨rF, 0, none⟩) 601 601); replace bRW := bRW.far (p := ⟨gF, n, none⟩) (by simp; omega) (.slice (some ⟨rF, 0, none⟩) 601 601); replace hK := hK.trans (KpG.setCell X (p := ⟨gF, n, none⟩) (Or.inr rfl) (.slice (some ⟨rF, 0, none⟩) 601 601)); refine Sx.wpM_end (by kernel_rfl) ?_; intro Y hY hSY; exact ⟨rW, rF, rfl, by omega, by omega, by omega, bRW.below hY bRW.lt, bRF.below hY bRF.lt, bW.below hY bW.lt, bF.below hY bF.lt, hK.trans (KpG.of_below (hY.mono hK.1))⟩)
      · ((intro X hX hS; have sz := hX.size; (try rw [World.size_alloc] at sz); (try rw [World.size_setCell] at sz); (try replace bRW := bRW.below hX bRW.lt); (try replace bRF := bRF.below hX bRF.lt); replace bW := bW.below hX bW.lt; replace bF := bF.below hX bF.lt; replace hK := hK.trans (KpG.of_below (hX.mono hK.1)); have kz := hK.1); (go_simp; simp only [LUpon, Act.put]; try simp only [List.setIfInBounds_toArray, List.set_cons_zero, List.set_cons_succ]); obtain ⟨rF, hrF⟩ : ∃ g, g = X.heap.size := ⟨_, rfl⟩; rw [← hrF]; refine ⟨⟨hS.1.alloc hS.1.size _, hS.2.alloc _⟩, ?_⟩; have bRF := Blk.new X 2 (rowC fun _ => 0); rw [← hrF] at bRF; have u1 : X.heap.size ≤ rF := (by omega); have u2 : rF ≤ X.heap.size := (by omega); clear hrF; (try replace bRW := bRW.alloc (.cells (rowC fun _ => 0) 2)); replace bW := bW.alloc (.cells (rowC fun _ => 0) 2); replace bF := bF.alloc (.cells (rowC fun _ => 0) 2); replace hK := hK.trans (KpG.alloc X hK.1 (.cells (rowC fun _ => 0) 2)))
        (refine Sx.wpM_one 6 _ (by simp only [List.getElem?_toArray, List.getElem?_cons_zero, List.getElem?_cons_succ]; rfl) (by kernel_rfl) (by rfl) ?_)
        ((intro X hX hS; have sz := hX.size; (try rw [World.size_alloc] at sz); (try rw [World.size_setCell] at sz); (try replace bRW := bRW.below hX bRW.lt); (try replace bRF := bRF.below hX bRF.lt); replace bW := bW.below hX bW.lt; replace bF := bF.below hX bF.lt; replace hK := hK.trans (KpG.of_below (hX.mono hK.1)); have kz := hK.1); (go_simp; simp only [LUpon, Act.put]; try simp only [List.setIfInBounds_toArray, List.set_cons_zero, List.set_cons_succ]); obtain ⟨rW, hrW⟩ : ∃ g, g = X.heap.size := ⟨_, rfl⟩; rw [← hrW]; refine ⟨⟨hS.1.alloc hS.1.size _, hS.2.alloc _⟩, ?_⟩; have bRW := Blk.new X 2 (rowC fun _ => 0); rw [← hrW] at bRW; have u1 : X.heap.size ≤ rW := (by omega); have u2 : rW ≤ X.heap.size := (by omega); clear hrW; (try replace bRF := bRF.alloc (.cells (rowC fun _ => 0) 2)); replace bW := bW.alloc (.cells (rowC fun _ => 0) 2); replace bF := bF.alloc (.cells (rowC fun _ => 0) 2); replace hK := hK.trans (KpG.alloc X hK.1 (.cells (rowC fun _ => 0) 2)))
        (refine Sx.wpM_one 8 _ (by simp only [List.getElem?_toArray, List.getElem?_cons_zero, List.getElem?_cons_succ]; rfl) (by kernel_rfl) (by rfl) ?_)
        ((intro X hX hS; have sz := hX.size; (try rw [World.size_alloc] at sz); (try rw [World.size_setCell] at sz); (try replace bRW := bRW.below hX bRW.lt); (try replace bRF := bRF.below hX bRF.lt); replace bW := bW.below hX bW.lt; replace bF := bF.below hX bF.lt; replace hK := hK.trans (KpG.of_below (hX.mono hK.1)); have kz := hK.1); (go_simp; simp only [LUpon, Act.put]; try simp only [List.setIfInBounds_toArray, List.set_cons_zero, List.set_cons_succ]); refine ⟨hS, ?_⟩)
        (refine Sx.wpM_one 9 _ (by simp only [List.getElem?_toArray, List.getElem?_cons_zero, List.getElem?_cons_succ]; rfl) (by kernel_rfl) (by rfl) ?_)
        ((intro X hX hS; have sz := hX.size; (try rw [World.size_alloc] at sz); (try rw [World.size_setCell] at sz); (try replace bRW := bRW.below hX bRW.lt); (try replace bRF := bRF.below hX bRF.lt); replace bW := bW.below hX bW.lt; replace bF := bF.below hX bF.lt; replace hK := hK.trans (KpG.of_below (hX.mono hK.1)); have kz := hK.1); have c0 := (bW.cell n).trans hcW.out; have d0 := bW.frozen n; have lW := bW.lt; (go_simp; simp only [LUpon, Act.put]; try simp only [List.setIfInBounds_toArray, List.set_cons_zero, List.set_cons_succ]); clear c0 d0; refine ⟨⟨hS.1.setCell (by simp; omega) _, hS.2.far (by simp; omega) _⟩, ?_⟩; replace bW := bW.set_ n (.slice (some ⟨rW, 0, none⟩) 601 601); replace bF := bF.far (p := ⟨gW, n, none⟩) (by simp; omega) (.slice (some ⟨rW, 0, none⟩) 601 601); (try replace bRF := bRF.far (p := ⟨gW, n, none⟩) (by simp; omega) (.slice (some ⟨rW, 0, none⟩) 601 601)); replace bRW := bRW.far (p := ⟨gW, n, none⟩) (by simp; omega) (.slice (some ⟨rW, 0, none⟩) 601 601); replace hK := hK.trans (KpG.setCell X (p := ⟨gW, n, none⟩) (Or.inl rfl) (.slice (some ⟨rW, 0, none⟩) 601 601)))
        (refine Sx.wpM_one 10 _ (by simp only [List.getElem?_toArray, List.getElem?_cons_zero, List.getElem?_cons_succ]; rfl) (by kernel_rfl) (by rfl) ?_)
        ((intro X hX hS; have sz := hX.size; (try rw [World.size_alloc] at sz); (try rw [World.size_setCell] at sz); (try replace bRW := bRW.below hX bRW.lt); (try replace bRF := bRF.below hX bRF.lt); replace bW := bW.below hX bW.lt; replace bF := bF.below hX bF.lt; replace hK := hK.trans (KpG.of_below (hX.mono hK.1)); have kz := hK.1); (go_simp; simp only [LUpon, Act.put]; try simp only [List.setIfInBounds_toArray, List.set_cons_zero, List.set_cons_succ]); refine ⟨hS, ?_⟩)
        (refine Sx.wpM_one 11 _ (by simp only [List.getElem?_toArray, List.getElem?_cons_zero, List.getElem?_cons_succ]; rfl) (by kernel_rfl) (by rfl) ?_)
        ((intro X hX hS; have sz := hX.size; (try rw [World.size_alloc] at sz); (try rw [World.size_setCell] at sz); (try replace bRW := bRW.below hX bRW.lt); (try replace bRF := bRF.below hX bRF.lt); replace bW := bW.below hX bW.lt; replace bF := bF.below hX bF.lt; replace hK := hK.trans (KpG.of_below (hX.mono hK.1)); have kz := hK.1); have c0 := (bF.cell n).trans hcF.out; have d0 := bF.frozen n; have lF := bF.lt; (go_simp; simp only [LUpon, Act.put]; try simp only [List.setIfInBounds_toArray, List.set_cons_zero, List.set_cons_succ]); clear c0 d0; refine ⟨⟨hS.1.setCell (by simp; omega) _, hS.2.far (by simp; omega) _⟩, ?_⟩; replace bF := bF.set_ n (.slice (some ⟨rF, 0, none⟩) 601 601); replace bW := bW.far (p := ⟨gF, n, none⟩) (by simp; omega) (.slice (some ⟨rF, 0, none⟩) 601 601); replace bRF := bRF.far (p := ⟨gF, n, none⟩) (by simp; omega) (.slice (some ⟨rF, 0, none⟩) 601 601); replace bRW := bRW.far (p := ⟨gF, n, none⟩) (by simp; omega) (.slice (some ⟨rF, 0, none⟩) 601 601); replace hK := hK.trans (KpG.setCell X (p := ⟨gF, n, none⟩) (Or.inr rfl) (.slice (some ⟨rF, 0, none⟩) 601 601)); refine Sx.wpM_end (by kernel_rfl) ?_; intro Y hY hSY; exact ⟨rW, rF, rfl, by omega, by omega, by omega, bRW.below hY bRW.lt, bRF.below hY bRF.lt, bW.below hY bW.lt, bF.below hY bF.lt, hK.trans (KpG.of_below (hY.mono hK.1))⟩)
    · rintro a W3 hS3 ⟨rW, rF, rfl, r1, r2, r3, bRW, bRF, bW3, bF3, hK3⟩
      obtain ⟨hS3, bT3⟩ := hS3
      have b43 := hK3.blk b4' (by omega) (by omega)
      have hz3 : W2.heap.size ≤ W3.heap.size := hK3.1
      have hz2 : w.heap.size ≤ W2.heap.size := hS2.size
      generalize hB0 : W2.heap.size = B0 at *
      have hcn2 := hcn.out
      have szC := CS_size HCS.out
      have cWn : (CS.setIfInBounds n (.slice (some ⟨rW, 0, none⟩) 601 601))[n]? = some (.slice (some ⟨rW, 0, none⟩) 601 601) := by rw [Array.getElem?_setIfInBounds_self_of_lt (by omega)]
      have cFn : (CS.setIfInBounds n (.slice (some ⟨rF, 0, none⟩) 601 601))[n]? = some (.slice (some ⟨rF, 0, none⟩) 601 601) := by rw [Array.getElem?_setIfInBounds_self_of_lt (by omega)]
      have szW : (CS.setIfInBounds n (.slice (some ⟨rW, 0, none⟩) 601 601)).size = n + 1 := by rw [Array.size_setIfInBounds, szC]
      have szF : (CS.setIfInBounds n (.slice (some ⟨rF, 0, none⟩) 601 601)).size = n + 1 := by rw [Array.size_setIfInBounds, szC]
      generalize CS.setIfInBounds n (.slice (some ⟨rW, 0, none⟩) 601 601) = csW at *
      generalize CS.setIfInBounds n (.slice (some ⟨rF, 0, none⟩) 601 601) = csF at *
      have CWn := hid cWn
      have CFn := hid cFn
      have SZW := hid szW
      have SZF := hid szF
      clear hcn2 hcn szC HCS hmkR bW bF bT b4 b4' hB0 cWn cFn szW szF hK3 hS2
      go_wp2
      go_loopw [7] (fun x wr => ∃ a : Nat, a ≤ 601 ∧ x = .int .i64 a ∧ Below B0 W3 wr ∧ Blk wr rW 2 (rowC fun _ => 0) ∧ Blk wr rF 2 (rowC (cellR (fun _ => -1) a 0 0))) (fun x _ => 601 - (intOf x).toNat)
      case atStart => exact ⟨0, by omega, rfl, Below.refl _ _, bRW, by rw [rowC_congr (g := fun _ => 0) (fun t _ => cellR_start _ 0 t (by omega))]; exact bRF⟩
      case round =>
        obtain ⟨a, ha, rfl, hbw, brw, brf⟩ := hrel
        by_cases hlt : a < 601
        · have hle : (a : Int) ≤ 600 := by omega
          have y0 : (0 : Int) ≤ a := by omega
          have y1 : (a : Int) < 601 := by omega
          have y2 : IntKind.i64.wrap ((a : Int) + 1) = (a : Int) + 1 := wrap_ok (by omega)
          have T1 := ((bcell hbw).1 t 1 lT2).trans (bT3.cell 1)
          have G1 := ((bcell hbw).1 gF n lF2).trans ((bF3.cell n).trans CFn.out)
          have c1 := rowC_at brf hlt
          have d1 := brf.frozen a
          have l1 := brf.lt
          have l2 : t < wr.heap.size := by have := hbw.size; omega
          have l3 : gF < wr.heap.size := by have := hbw.size; omega
          go_wp2
          refine ⟨⟨a + 1, by omega, by go_num, hbw.setCell (by simp; omega) _, brw.far (by simp; omega) _, rowC_set brf fun s _ => ?_⟩, by simp [intOf]; omega⟩
          rw [cellR_next]
          exact cellR_put _ _ _ _ _ _
        · obtain rfl : a = 601 := by omega
          rw [rowC_congr (g := fun _ => -1) (fun t ht => cellR_end _ 601 0 0 t (by omega))] at brf
          have T0 := ((bcell hbw).1 t 0 lT2).trans (bT3.cell 0)
          have T1 := ((bcell hbw).1 t 1 lT2).trans (bT3.cell 1)
          have G0 := ((bcell hbw).1 gW n lW2).trans ((bW3.cell n).trans CWn.out)
          have G1 := ((bcell hbw).1 gF n lF2).trans ((bF3.cell n).trans CFn.out)
          have l0 := brw.lt
          have l1 := brf.lt
          have l2 : t < wr.heap.size := by have := hbw.size; omega
          have l3 : gF < wr.heap.size := by have := hbw.size; omega
          have l4 : gW < wr.heap.size := by have := hbw.size; omega
          have e0 := rowC_at brw (a := 300) (by omega)
          have e1 := rowC_at brf (a := 300) (by omega)
          have f0 := brw.frozen 300
          have f1 := brf.frozen 300
          go_wp2
          refine wp_region_hd 11 (fun W' => Below wr.heap.size wr W') (by kernel_rfl) (by kernel_rfl) ((Below.refl _ _).drew) ?_
          simp only [List.take_succ_cons, List.take_zero, List.drop_succ_cons, List.drop_zero]
          iterate 11 (refine wpHd_val (v := ?_) (by rfl) (fun W hW => ?_) ?_; rotate_left; (· obtain ⟨hcW, hfW⟩ := bcell hW; go_simp; with_reducible rfl); simp only [Act.put, List.setIfInBounds_toArray, List.set_cons_zero, List.set_cons_succ])
          refine wpHd_nil ?_
          intro W4 hW4
          have brw4 := brw.below hW4 l0
          have brf4 := brf.below hW4 l1
          have hb04 : Below B0 W3 W4 := hbw.trans (hW4.mono (by have := hbw.size; omega))
          have e0' := rowC_at brw4 (a := 300) (by omega)
          have f0' := brw4.frozen 300
          have e1' := rowC_at (brf4.far (p := ⟨rW, 300, none⟩) (by simp; omega) (.int .i64 1)) (a := 300) (by omega)
          have f1' := (brf4.far (p := ⟨rW, 300, none⟩) (by simp; omega) (.int .i64 1)).frozen 300
          have l0' := brw4.lt
          have l1' := brf4.lt
          have z2 : IntKind.i64.wrap ((n : Int) - 1) = (n : Int) - 1 := wrap_ok (by omega)
          have brw5 : Blk ((W4.setCell ⟨rW, 300, none⟩ (.int .i64 1)).setCell ⟨rF, 300, none⟩ (.int .i64 0)) rW 2 (rowC (wvT p (ks.drop n))) := by
            refine Blk.far (rowC_set brw4 fun s _ => ?_) (by simp; omega) _
            rw [List.drop_of_length_le (by omega)]
            unfold wvT ways
            by_cases h : s = 300
            · rw [if_pos h, if_pos (by omega)]
            · rw [if_neg h, if_neg (by omega)]
          have brf5 : Blk ((W4.setCell ⟨rW, 300, none⟩ (.int .i64 1)).setCell ⟨rF, 300, none⟩ (.int .i64 0)) rF 2 (rowC (fvT p (ks.drop n))) := by
            refine rowC_set (brf4.far (p := ⟨rW, 300, none⟩) (by simp; omega) (.int .i64 1)) fun s _ => ?_
            rw [List.drop_of_length_le (by omega)]
            unfold fvT fewO
            by_cases h : s = 300
            · rw [if_pos h, if_pos (by omega)]; rfl
            · rw [if_neg h, if_neg (by omega)]; rfl
          have hb5 : Below B0 W3 ((W4.setCell ⟨rW, 300, none⟩ (.int .i64 1)).setCell ⟨rF, 300, none⟩ (.int .i64 0)) := (hb04.setCell (by simp; omega) _).setCell (by simp; omega) _
          have hsz5 : ((W4.setCell ⟨rW, 300, none⟩ (.int .i64 1)).setCell ⟨rF, 300, none⟩ (.int .i64 0)).heap.size = W4.heap.size := by simp
          have Hrow := hid (brw5.lt)
          have Hrow' := hid (brf5.lt)
          clear e0 e1 f0 f1 T0 T1 G0 G1 l0 l1 l2 l3 l4 bRW bRF brw brf brw4 brf4
          go_wp2
          generalize hW5 : (W4.setCell ⟨rW, 300, none⟩ (.int .i64 1)).setCell ⟨rF, 300, none⟩ (.int .i64 0) = W5 at *
          have hz5 : B0 ≤ W5.heap.size := by have := hb5.size; omega
          have hbw5 : Below w.heap.size w W5 := hS3.trans (hb5.mono hz2)
          clear hW5 e0' f0' e1' f1' l0' l1' hsz5
          go_loopw [8] (fun x wr => ∃ (i : Nat) (csW csF : Array Value), i ≤ n ∧ x = .int .i64 ((i : Int) - 1) ∧ Below w.heap.size w wr ∧ Blk wr w.heap.size 95 #[.slice none 0 0, .slice none 0 0] ∧ Blk wr t 95 #[.slice (some ⟨gW, 0, none⟩) (n + 1) (n + 1), .slice (some ⟨gF, 0, none⟩) (n + 1) (n + 1)] ∧ Blk wr gW 23 csW ∧ Blk wr gF 23 csF ∧ Hid (csW.size = n + 1) ∧ Hid (csF.size = n + 1) ∧ B0 ≤ wr.heap.size ∧ Hid (∀ j, i ≤ j → j ≤ n → TRow wr B0 wr.heap.size csW csF j (wvT p (ks.drop j)) (fvT p (ks.drop j)))) (fun x _ => (intOf x + 1).toNat)
          case atStart =>
            refine ⟨n, csW, csF, Nat.le_refl _, rfl, hbw5, b43.below hb5 (by omega), bT3.below hb5 lT2, bW3.below hb5 lW2, bF3.below hb5 lF2, SZW, SZF, hz5, hid fun j h1 h2 => ?_⟩
            obtain rfl : j = n := by omega
            exact ⟨rW, rF, r2, brw5.lt, r3, brf5.lt, CWn.out, CFn.out, brw5, brf5⟩
          case round =>
            clear SZW SZF CWn CFn bW3 bF3 bT3 b43 brw5 brf5 Hrow Hrow' hb5 hbw5 hz5 hbw hb04 hW4 hS3 hz3 r1 r2 r3
            obtain ⟨i, csW, csF, hi, rfl, hbw, b4, bT, bW, bF, SZW, SZF, hzB, HT⟩ := hrel
            by_cases hi0 : 0 < i
            · obtain ⟨j, rfl⟩ : ∃ j, i = j + 1 := ⟨i - 1, by omega⟩
              have hx : ((j + 1 : Nat) : Int) - 1 = j := by omega
              rw [hx]
              obtain ⟨b, off, m, rfl, hb, hm, c0, c1⟩ := (hk.below hbw (Nat.le_refl _)).at_ (k := j) (by omega)
              have hok : okK m = true := List.all_eq_true.1 (checkSet_good h0).2.2.1 m (List.mem_of_getElem? hm)
              have Hm := hid hm
              have y0 : (0 : Int) ≤ j := by omega
              have y1 : (j : Int) < n + 1 := by omega
              have y2 : (j : Int) < n := by omega
              have lT := bT.lt
              have lW := bW.lt
              have lF := bF.lt
              have hcW := hid (Array.getElem?_eq_getElem (xs := csW) (i := j) (by rw [SZW.out]; omega))
              have hcF := hid (Array.getElem?_eq_getElem (xs := csF) (i := j) (by rw [SZF.out]; omega))
              generalize csW[j]'(by rw [SZW.out]; omega) = vW at hcW
              generalize csF[j]'(by rw [SZF.out]; omega) = vF at hcF
              clear hm
              go_wp2
              refine with_frameW fun T hT => ?_
              refine Sx.wp_region_elQ (fun W => Below w.heap.size w W ∧ Blk W t 95 #[.slice (some ⟨gW, 0, none⟩) (n + 1) (n + 1), .slice (some ⟨gF, 0, none⟩) (n + 1) (n + 1)]) (fun a W => ∃ rW rF : Nat, a = { tmps := (((((((((T.setIfInBounds 61 (.pointer (some ⟨t, 0, none⟩))).setIfInBounds 62 (.slice (some ⟨gW, 0, none⟩) (n + 1) (n + 1))).setIfInBounds 63 (.int .i64 j)).setIfInBounds 64 (.pointer (some ⟨t, 1, none⟩))).setIfInBounds 65 (.slice (some ⟨gF, 0, none⟩) (n + 1) (n + 1))).setIfInBounds 66 (.int .i64 j)).setIfInBounds 67 (.slice (some ⟨rW, 0, none⟩) 601 601)).setIfInBounds 68 (.slice (some ⟨rF, 0, none⟩) 601 601)).setIfInBounds 69 (.pointer (some ⟨gW, j, none⟩))).setIfInBounds 70 (.pointer (some ⟨gF, j, none⟩)), defers := [] } ∧
                  rW ≠ rF ∧ wr.heap.size ≤ rW ∧ wr.heap.size ≤ rF ∧ Blk W rW 2 (rowC fun _ => 0) ∧ Blk W rF 2 (rowC fun _ => 0) ∧ Blk W gW 23 (csW.setIfInBounds j (.slice (some ⟨rW, 0, none⟩) 601 601)) ∧ Blk W gF 23 (csF.setIfInBounds j (.slice (some ⟨rF, 0, none⟩) 601 601)) ∧ KpG wr.heap.size (fun q => q = gW ∨ q = gF) wr W) (hSt w t _) [0, 1, 2, 3, 4, 5] 6 (by kernel_rfl) (by kernel_rfl) ?_ ?_ ?_
              · exact ⟨hbw.drew, bT⟩
              · subst hT
                simp only [List.setIfInBounds_toArray, List.set_cons_zero, List.set_cons_succ]
                simp only [pick, List.getElem?_toArray, List.getElem?_cons_zero, List.getElem?_cons_succ]
                iterate 6 (refine Sx.wpE_val (v := ?_) (by rfl) (fun W hW => ?_) ?_; rotate_left; (· have q0 := hW.2.cell 0; have q1 := hW.2.cell 1; have ltt := hW.2.lt; go_simp; with_reducible rfl); simp only [Act.put, List.setIfInBounds_toArray, List.set_cons_zero, List.set_cons_succ])
                simp only [Sx.wpE]
                have hK : KpG wr.heap.size (fun q => q = gW ∨ q = gF) wr wr.drew := KpG.of_below (Below.refl _ _).drew
                replace bW : Blk wr.drew gW 23 csW := bW
                replace bF : Blk wr.drew gF 23 csF := bF
                (refine Sx.wpM_two 6 7 _ _ (by simp only [List.getElem?_toArray, List.getElem?_cons_zero, List.getElem?_cons_succ]; rfl) (by simp only [List.getElem?_toArray, List.getElem?_cons_zero, List.getElem?_cons_succ]; rfl) (by kernel_rfl) (by rfl) (by rfl) ?_ ?_)
                · ((intro X hX hS; have sz := hX.size; (try rw [World.size_alloc] at sz); (try rw [World.size_setCell] at sz); (try replace bRW := bRW.below hX bRW.lt); (try replace bRF := bRF.below hX bRF.lt); replace bW := bW.below hX bW.lt; replace bF := bF.below hX bF.lt; replace hK := hK.trans (KpG.of_below (hX.mono hK.1)); have kz := hK.1); (go_simp; simp only [LUpon, Act.put]; try simp only [List.setIfInBounds_toArray, List.set_cons_zero, List.set_cons_succ]); obtain ⟨rW, hrW⟩ : ∃ g, g = X.heap.size := ⟨_, rfl⟩; rw [← hrW]; refine ⟨⟨hS.1.alloc hS.1.size _, hS.2.alloc _⟩, ?_⟩; have bRW := Blk.new X 2 (rowC fun _ => 0); rw [← hrW] at bRW; have u1 : X.heap.size ≤ rW := (by omega); have u2 : rW ≤ X.heap.size := (by omega); clear hrW; (try replace bRF := bRF.alloc (.cells (rowC fun _ => 0) 2)); replace bW := bW.alloc (.cells (rowC fun _ => 0) 2); replace bF := bF.alloc (.cells (rowC fun _ => 0) 2); replace hK := hK.trans (KpG.alloc X hK.1 (.cells (rowC fun _ => 0) 2)))
                  (refine Sx.wpM_two 7 8 _ _ (by simp only [List.getElem?_toArray, List.getElem?_cons_zero, List.getElem?_cons_succ]; rfl) (by simp only [List.getElem?_toArray, List.getElem?_cons_zero, List.getElem?_cons_succ]; rfl) (by kernel_rfl) (by rfl) (by rfl) ?_ ?_)
                  · ((intro X hX hS; have sz := hX.size; (try rw [World.size_alloc] at sz); (try rw [World.size_setCell] at sz); (try replace bRW := bRW.below hX bRW.lt); (try replace bRF := bRF.below hX bRF.lt); replace bW := bW.below hX bW.lt; replace bF := bF.below hX bF.lt; replace hK := hK.trans (KpG.of_below (hX.mono hK.1)); have kz := hK.1); (go_simp; simp only [LUpon, Act.put]; try simp only [List.setIfInBounds_toArray, List.set_cons_zero, List.set_cons_succ]); obtain ⟨rF, hrF⟩ : ∃ g, g = X.heap.size := ⟨_, rfl⟩; rw [← hrF]; refine ⟨⟨hS.1.alloc hS.1.size _, hS.2.alloc _⟩, ?_⟩; have bRF := Blk.new X 2 (rowC fun _ => 0); rw [← hrF] at bRF; have u1 : X.heap.size ≤ rF := (by omega); have u2 : rF ≤ X.heap.size := (by omega); clear hrF; (try replace bRW := bRW.alloc (.cells (rowC fun _ => 0) 2)); replace bW := bW.alloc (.cells (rowC fun _ => 0) 2); replace bF := bF.alloc (.cells (rowC fun _ => 0) 2); replace hK := hK.trans (KpG.alloc X hK.1 (.cells (rowC fun _ => 0) 2)))
                    (refine Sx.wpM_one 8 _ (by simp only [List.getElem?_toArray, List.getElem?_cons_zero, List.getElem?_cons_succ]; rfl) (by kernel_rfl) (by rfl) ?_)
                    ((intro X hX hS; have sz := hX.size; (try rw [World.size_alloc] at sz); (try rw [World.size_setCell] at sz); (try replace bRW := bRW.below hX bRW.lt); (try replace bRF := bRF.below hX bRF.lt); replace bW := bW.below hX bW.lt; replace bF := bF.below hX bF.lt; replace hK := hK.trans (KpG.of_below (hX.mono hK.1)); have kz := hK.1); (go_simp; simp only [LUpon, Act.put]; try simp only [List.setIfInBounds_toArray, List.set_cons_zero, List.set_cons_succ]); refine ⟨hS, ?_⟩)
                    (refine Sx.wpM_one 9 _ (by simp only [List.getElem?_toArray, List.getElem?_cons_zero, List.getElem?_cons_succ]; rfl) (by kernel_rfl) (by rfl) ?_)
                    ((intro X hX hS; have sz := hX.size; (try rw [World.size_alloc] at sz); (try rw [World.size_setCell] at sz); (try replace bRW := bRW.below hX bRW.lt); (try replace bRF := bRF.below hX bRF.lt); replace bW := bW.below hX bW.lt; replace bF := bF.below hX bF.lt; replace hK := hK.trans (KpG.of_below (hX.mono hK.1)); have kz := hK.1); have c0 := (bW.cell j).trans hcW.out; have d0 := bW.frozen j; have lW := bW.lt; (go_simp; simp only [LUpon, Act.put]; try simp only [List.setIfInBounds_toArray, List.set_cons_zero, List.set_cons_succ]); clear c0 d0; refine ⟨⟨hS.1.setCell (by simp; omega) _, hS.2.far (by simp; omega) _⟩, ?_⟩; replace bW := bW.set_ j (.slice (some ⟨rW, 0, none⟩) 601 601); replace bF := bF.far (p := ⟨gW, j, none⟩) (by simp; omega) (.slice (some ⟨rW, 0, none⟩) 601 601); (try replace bRF := bRF.far (p := ⟨gW, j, none⟩) (by simp; omega) (.slice (some ⟨rW, 0, none⟩) 601 601)); replace bRW := bRW.far (p := ⟨gW, j, none⟩) (by simp; omega) (.slice (some ⟨rW, 0, none⟩) 601 601); replace hK := hK.trans (KpG.setCell X (p := ⟨gW, j, none⟩) (Or.inl rfl) (.slice (some ⟨rW, 0, none⟩) 601 601)))
                    (refine Sx.wpM_one 10 _ (by simp only [List.getElem?_toArray, List.getElem?_cons_zero, List.getElem?_cons_succ]; rfl) (by kernel_rfl) (by rfl) ?_)
                    ((intro X hX hS; have sz := hX.size; (try rw [World.size_alloc] at sz); (try rw [World.size_setCell] at sz); (try replace bRW := bRW.below hX bRW.lt); (try replace bRF := bRF.below hX bRF.lt); replace bW := bW.below hX bW.lt; replace bF := bF.below hX bF.lt; replace hK := hK.trans (KpG.of_below (hX.mono hK.1)); have kz := hK.1); (go_simp; simp only [LUpon, Act.put]; try simp only [List.setIfInBounds_toArray, List.set_cons_zero, List.set_cons_succ]); refine ⟨hS, ?_⟩)
                    (refine Sx.wpM_one 11 _ (by simp only [List.getElem?_toArray, List.getElem?_cons_zero, List.getElem?_cons_succ]; rfl) (by kernel_rfl) (by rfl) ?_)
                    ((intro X hX hS; have sz := hX.size; (try rw [World.size_alloc] at sz); (try rw [World.size_setCell] at sz); (try replace bRW := bRW.below hX bRW.lt); (try replace bRF := bRF.below hX bRF.lt); replace bW := bW.below hX bW.lt; replace bF := bF.below hX bF.lt; replace hK := hK.trans (KpG.of_below (hX.mono hK.1)); have kz := hK.1); have c0 := (bF.cell j).trans hcF.out; have d0 := bF.frozen j; have lF := bF.lt; (go_simp; simp only [LUpon, Act.put]; try simp only [List.setIfInBounds_toArray, List.set_cons_zero, List.set_cons_succ]); clear c0 d0; refine ⟨⟨hS.1.setCell (by simp; omega) _, hS.2.far (by simp; omega) _⟩, ?_⟩; replace bF := bF.set_ j (.slice (some ⟨rF, 0, none⟩) 601 601); replace bW := bW.far (p := ⟨gF, j, none⟩) (by simp; omega) (.slice (some ⟨rF, 0, none⟩) 601 601); replace bRF := bRF.far (p := ⟨gF, j, none⟩) (by simp; omega) (.slice (some ⟨rF, 0, none⟩) 601 601); replace bRW := bRW.far (p := ⟨gF, j, none⟩) (by simp; omega) (.slice (some ⟨rF, 0, none⟩) 601 601); replace hK := hK.trans (KpG.setCell X (p := ⟨gF, j, none⟩) (Or.inr rfl) (.slice (some ⟨rF, 0, none⟩) 601 601)); refine Sx.wpM_end (by kernel_rfl) ?_; intro Y hY hSY; exact ⟨rW, rF, rfl, by omega, by omega, by omega, bRW.below hY bRW.lt, bRF.below hY bRF.lt, bW.below hY bW.lt, bF.below hY bF.lt, hK.trans (KpG.of_below (hY.mono hK.1))⟩)
                  · ((intro X hX hS; have sz := hX.size; (try rw [World.size_alloc] at sz); (try rw [World.size_setCell] at sz); (try replace bRW := bRW.below hX bRW.lt); (try replace bRF := bRF.below hX bRF.lt); replace bW := bW.below hX bW.lt; replace bF := bF.below hX bF.lt; replace hK := hK.trans (KpG.of_below (hX.mono hK.1)); have kz := hK.1); (go_simp; simp only [LUpon, Act.put]; try simp only [List.setIfInBounds_toArray, List.set_cons_zero, List.set_cons_succ]); refine ⟨hS, ?_⟩)
                    (refine Sx.wpM_two 7 9 _ _ (by simp only [List.getElem?_toArray, List.getElem?_cons_zero, List.getElem?_cons_succ]; rfl) (by simp only [List.getElem?_toArray, List.getElem?_cons_zero, List.getElem?_cons_succ]; rfl) (by kernel_rfl) (by rfl) (by rfl) ?_ ?_)
                    · ((intro X hX hS; have sz := hX.size; (try rw [World.size_alloc] at sz); (try rw [World.size_setCell] at sz); (try replace bRW := bRW.below hX bRW.lt); (try replace bRF := bRF.below hX bRF.lt); replace bW := bW.below hX bW.lt; replace bF := bF.below hX bF.lt; replace hK := hK.trans (KpG.of_below (hX.mono hK.1)); have kz := hK.1); (go_simp; simp only [LUpon, Act.put]; try simp only [List.setIfInBounds_toArray, List.set_cons_zero, List.set_cons_succ]); obtain ⟨rF, hrF⟩ : ∃ g, g = X.heap.size := ⟨_, rfl⟩; rw [← hrF]; refine ⟨⟨hS.1.alloc hS.1.size _, hS.2.alloc _⟩, ?_⟩; have bRF := Blk.new X 2 (rowC fun _ => 0); rw [← hrF] at bRF; have u1 : X.heap.size ≤ rF := (by omega); have u2 : rF ≤ X.heap.size := (by omega); clear hrF; (try replace bRW := bRW.alloc (.cells (rowC fun _ => 0) 2)); replace bW := bW.alloc (.cells (rowC fun _ => 0) 2); replace bF := bF.alloc (.cells (rowC fun _ => 0) 2); replace hK := hK.trans (KpG.alloc X hK.1 (.cells (rowC fun _ => 0) 2)))
                      (refine Sx.wpM_one 9 _ (by simp only [List.getElem?_toArray, List.getElem?_cons_zero, List.getElem?_cons_succ]; rfl) (by kernel_rfl) (by rfl) ?_)
                      ((intro X hX hS; have sz := hX.size; (try rw [World.size_alloc] at sz); (try rw [World.size_setCell] at sz); (try replace bRW := bRW.below hX bRW.lt); (try replace bRF := bRF.below hX bRF.lt); replace bW := bW.below hX bW.lt; replace bF := bF.below hX bF.lt; replace hK := hK.trans (KpG.of_below (hX.mono hK.1)); have kz := hK.1); have c0 := (bW.cell j).trans hcW.out; have d0 := bW.frozen j; have lW := bW.lt; (go_simp; simp only [LUpon, Act.put]; try simp only [List.setIfInBounds_toArray, List.set_cons_zero, List.set_cons_succ]); clear c0 d0; refine ⟨⟨hS.1.setCell (by simp; omega) _, hS.2.far (by simp; omega) _⟩, ?_⟩; replace bW := bW.set_ j (.slice (some ⟨rW, 0, none⟩) 601 601); replace bF := bF.far (p := ⟨gW, j, none⟩) (by simp; omega) (.slice (some ⟨rW, 0, none⟩) 601 601); (try replace bRF := bRF.far (p := ⟨gW, j, none⟩) (by simp; omega) (.slice (some ⟨rW, 0, none⟩) 601 601)); replace bRW := bRW.far (p := ⟨gW, j, none⟩) (by simp; omega) (.slice (some ⟨rW, 0, none⟩) 601 601); replace hK := hK.trans (KpG.setCell X (p := ⟨gW, j, none⟩) (Or.inl rfl) (.slice (some ⟨rW, 0, none⟩) 601 601)))
                      (refine Sx.wpM_one 10 _ (by simp only [List.getElem?_toArray, List.getElem?_cons_zero, List.getElem?_cons_succ]; rfl) (by kernel_rfl) (by rfl) ?_)
                      ((intro X hX hS; have sz := hX.size; (try rw [World.size_alloc] at sz); (try rw [World.size_setCell] at sz); (try replace bRW := bRW.below hX bRW.lt); (try replace bRF := bRF.below hX bRF.lt); replace bW := bW.below hX bW.lt; replace bF := bF.below hX bF.lt; replace hK := hK.trans (KpG.of_below (hX.mono hK.1)); have kz := hK.1); (go_simp; simp only [LUpon, Act.put]; try simp only [List.setIfInBounds_toArray, List.set_cons_zero, List.set_cons_succ]); refine ⟨hS, ?_⟩)
                      (refine Sx.wpM_one 11 _ (by simp only [List.getElem?_toArray, List.getElem?_cons_zero, List.getElem?_cons_succ]; rfl) (by kernel_rfl) (by rfl) ?_)
                      ((intro X hX hS; have sz := hX.size; (try rw [World.size_alloc] at sz); (try rw [World.size_setCell] at sz); (try replace bRW := bRW.below hX bRW.lt); (try replace bRF := bRF.below hX bRF.lt); replace bW := bW.below hX bW.lt; replace bF := bF.below hX bF.lt; replace hK := hK.trans (KpG.of_below (hX.mono hK.1)); have kz := hK.1); have c0 := (bF.cell j).trans hcF.out; have d0 := bF.frozen j; have lF := bF.lt; (go_simp; simp only [LUpon, Act.put]; try simp only [List.setIfInBounds_toArray, List.set_cons_zero, List.set_cons_succ]); clear c0 d0; refine ⟨⟨hS.1.setCell (by simp; omega) _, hS.2.far (by simp; omega) _⟩, ?_⟩; replace bF := bF.set_ j (.slice (some ⟨rF, 0, none⟩) 601 601); replace bW := bW.far (p := ⟨gF, j, none⟩) (by simp; omega) (.slice (some ⟨rF, 0, none⟩) 601 601); replace bRF := bRF.far (p := ⟨gF, j, none⟩) (by simp; omega) (.slice (some ⟨rF, 0, none⟩) 601 601); replace bRW := bRW.far (p := ⟨gF, j, none⟩) (by simp; omega) (.slice (some ⟨rF, 0, none⟩) 601 601); replace hK := hK.trans (KpG.setCell X (p := ⟨gF, j, none⟩) (Or.inr rfl) (.slice (some ⟨rF, 0, none⟩) 601 601)); refine Sx.wpM_end (by kernel_rfl) ?_; intro Y hY hSY; exact ⟨rW, rF, rfl, by omega, by omega, by omega, bRW.below hY bRW.lt, bRF.below hY bRF.lt, bW.below hY bW.lt, bF.below hY bF.lt, hK.trans (KpG.of_below (hY.mono hK.1))⟩)
                    · ((intro X hX hS; have sz := hX.size; (try rw [World.size_alloc] at sz); (try rw [World.size_setCell] at sz); (try replace bRW := bRW.below hX bRW.lt); (try replace bRF := bRF.below hX bRF.lt); replace bW := bW.below hX bW.lt; replace bF := bF.below hX bF.lt; replace hK := hK.trans (KpG.of_below (hX.mono hK.1)); have kz := hK.1); have c0 := (bW.cell j).trans hcW.out; have d0 := bW.frozen j; have lW := bW.lt; (go_simp; simp only [LUpon, Act.put]; try simp only [List.setIfInBounds_toArray, List.set_cons_zero, List.set_cons_succ]); clear c0 d0; refine ⟨⟨hS.1.setCell (by simp; omega) _, hS.2.far (by simp; omega) _⟩, ?_⟩; replace bW := bW.set_ j (.slice (some ⟨rW, 0, none⟩) 601 601); replace bF := bF.far (p := ⟨gW, j, none⟩) (by simp; omega) (.slice (some ⟨rW, 0, none⟩) 601 601); (try replace bRF := bRF.far (p := ⟨gW, j, none⟩) (by simp; omega) (.slice (some ⟨rW, 0, none⟩) 601 601)); replace bRW := bRW.far (p := ⟨gW, j, none⟩) (by simp; omega) (.slice (some ⟨rW, 0, none⟩) 601 601); replace hK := hK.trans (KpG.setCell X (p := ⟨gW, j, none⟩) (Or.inl rfl) (.slice (some ⟨rW, 0, none⟩) 601 601)))
                      (refine Sx.wpM_one 7 _ (by simp only [List.getElem?_toArray, List.getElem?_cons_zero, List.getElem?_cons_succ]; rfl) (by kernel_rfl) (by rfl) ?_)
                      ((intro X hX hS; have sz := hX.size; (try rw [World.size_alloc] at sz); (try rw [World.size_setCell] at sz); (try replace bRW := bRW.below hX bRW.lt); (try replace bRF := bRF.below hX bRF.lt); replace bW := bW.below hX bW.lt; replace bF := bF.below hX bF.lt; replace hK := hK.trans (KpG.of_below (hX.mono hK.1)); have kz := hK.1); (go_simp; simp only [LUpon, Act.put]; try simp only [List.setIfInBounds_toArray, List.set_cons_zero, List.set_cons_succ]); obtain ⟨rF, hrF⟩ : ∃ g, g = X.heap.size := ⟨_, rfl⟩; rw [← hrF]; refine ⟨⟨hS.1.alloc hS.1.size _, hS.2.alloc _⟩, ?_⟩; have bRF := Blk.new X 2 (rowC fun _ => 0); rw [← hrF] at bRF; have u1 : X.heap.size ≤ rF := (by omega); have u2 : rF ≤ X.heap.size := (by omega); clear hrF; (try replace bRW := bRW.alloc (.cells (rowC fun _ => 0) 2)); replace bW := bW.alloc (.cells (rowC fun _ => 0) 2); replace bF := bF.alloc (.cells (rowC fun _ => 0) 2); replace hK := hK.trans (KpG.alloc X hK.1 (.cells (rowC fun _ => 0) 2)))
                      (refine Sx.wpM_one 10 _ (by simp only [List.getElem?_toArray, List.getElem?_cons_zero, List.getElem?_cons_succ]; rfl) (by kernel_rfl) (by rfl) ?_)
                      ((intro X hX hS; have sz := hX.size; (try rw [World.size_alloc] at sz); (try rw [World.size_setCell] at sz); (try replace bRW := bRW.below hX bRW.lt); (try replace bRF := bRF.below hX bRF.lt); replace bW := bW.below hX bW.lt; replace bF := bF.below hX bF.lt; replace hK := hK.trans (KpG.of_below (hX.mono hK.1)); have kz := hK.1); (go_simp; simp only [LUpon, Act.put]; try simp only [List.setIfInBounds_toArray, List.set_cons_zero, List.set_cons_succ]); refine ⟨hS, ?_⟩)
                      (refine Sx.wpM_one 11 _ (by simp only [List.getElem?_toArray, List.getElem?_cons_zero, List.getElem?_cons_succ]; rfl) (by kernel_rfl) (by rfl) ?_)
                      ((intro X hX hS; have sz := hX.size; (try rw [World.size_alloc] at sz); (try rw [World.size_setCell] at sz); (try replace bRW := bRW.below hX bRW.lt); (try replace bRF := bRF.below hX bRF.lt); replace bW := bW.below hX bW.lt; replace bF := bF.below hX bF.lt; replace hK := hK.trans (KpG.of_below (hX.mono hK.1)); have kz := hK.1); have c0 := (bF.cell j).trans hcF.out; have d0 := bF.frozen j; have lF := bF.lt; (go_simp; simp only [LUpon, Act.put]; try simp only [List.setIfInBounds_toArray, List.set_cons_zero, List.set_cons_succ]); clear c0 d0; refine ⟨⟨hS.1.setCell (by simp; omega) _, hS.2.far (by simp; omega) _⟩, ?_⟩; replace bF := bF.set_ j (.slice (some ⟨rF, 0, none⟩) 601 601); replace bW := bW.far (p := ⟨gF, j, none⟩) (by simp; omega) (.slice (some ⟨rF, 0, none⟩) 601 601); replace bRF := bRF.far (p := ⟨gF, j, none⟩) (by simp; omega) (.slice (some ⟨rF, 0, none⟩) 601 601); replace bRW := bRW.far (p := ⟨gF, j, none⟩) (by simp; omega) (.slice (some ⟨rF, 0, none⟩) 601 601); replace hK := hK.trans (KpG.setCell X (p := ⟨gF, j, none⟩) (Or.inr rfl) (.slice (some ⟨rF, 0, none⟩) 601 601)); refine Sx.wpM_end (by kernel_rfl) ?_; intro Y hY hSY; exact ⟨rW, rF, rfl, by omega, by omega, by omega, bRW.below hY bRW.lt, bRF.below hY bRF.lt, bW.below hY bW.lt, bF.below hY bF.lt, hK.trans (KpG.of_below (hY.mono hK.1))⟩)
                · ((intro X hX hS; have sz := hX.size; (try rw [World.size_alloc] at sz); (try rw [World.size_setCell] at sz); (try replace bRW := bRW.below hX bRW.lt); (try replace bRF := bRF.below hX bRF.lt); replace bW := bW.below hX bW.lt; replace bF := bF.below hX bF.lt; replace hK := hK.trans (KpG.of_below (hX.mono hK.1)); have kz := hK.1); (go_simp; simp only [LUpon, Act.put]; try simp only [List.setIfInBounds_toArray, List.set_cons_zero, List.set_cons_succ]); obtain ⟨rF, hrF⟩ : ∃ g, g = X.heap.size := ⟨_, rfl⟩; rw [← hrF]; refine ⟨⟨hS.1.alloc hS.1.size _, hS.2.alloc _⟩, ?_⟩; have bRF := Blk.new X 2 (rowC fun _ => 0); rw [← hrF] at bRF; have u1 : X.heap.size ≤ rF := (by omega); have u2 : rF ≤ X.heap.size := (by omega); clear hrF; (try replace bRW := bRW.alloc (.cells (rowC fun _ => 0) 2)); replace bW := bW.alloc (.cells (rowC fun _ => 0) 2); replace bF := bF.alloc (.cells (rowC fun _ => 0) 2); replace hK := hK.trans (KpG.alloc X hK.1 (.cells (rowC fun _ => 0) 2)))
                  (refine Sx.wpM_one 6 _ (by simp only [List.getElem?_toArray, List.getElem?_cons_zero, List.getElem?_cons_succ]; rfl) (by kernel_rfl) (by rfl) ?_)
                  ((intro X hX hS; have sz := hX.size; (try rw [World.size_alloc] at sz); (try rw [World.size_setCell] at sz); (try replace bRW := bRW.below hX bRW.lt); (try replace bRF := bRF.below hX bRF.lt); replace bW := bW.below hX bW.lt; replace bF := bF.below hX bF.lt; replace hK := hK.trans (KpG.of_below (hX.mono hK.1)); have kz := hK.1); (go_simp; simp only [LUpon, Act.put]; try simp only [List.setIfInBounds_toArray, List.set_cons_zero, List.set_cons_succ]); obtain ⟨rW, hrW⟩ : ∃ g, g = X.heap.size := ⟨_, rfl⟩; rw [← hrW]; refine ⟨⟨hS.1.alloc hS.1.size _, hS.2.alloc _⟩, ?_⟩; have bRW := Blk.new X 2 (rowC fun _ => 0); rw [← hrW] at bRW; have u1 : X.heap.size ≤ rW := (by omega); have u2 : rW ≤ X.heap.size := (by omega); clear hrW; (try replace bRF := bRF.alloc (.cells (rowC fun _ => 0) 2)); replace bW := bW.alloc (.cells (rowC fun _ => 0) 2); replace bF := bF.alloc (.cells (rowC fun _ => 0) 2); replace hK := hK.trans (KpG.alloc X hK.1 (.cells (rowC fun _ => 0) 2)))
                  (refine Sx.wpM_one 8 _ (by simp only [List.getElem?_toArray, List.getElem?_cons_zero, List.getElem?_cons_succ]; rfl) (by kernel_rfl) (by rfl) ?_)
                  ((intro X hX hS; have sz := hX.size; (try rw [World.size_alloc] at sz); (try rw [World.size_setCell] at sz); (try replace bRW := bRW.below hX bRW.lt); (try replace bRF := bRF.below hX bRF.lt); replace bW := bW.below hX bW.lt; replace bF := bF.below hX bF.lt; replace hK := hK.trans (KpG.of_below (hX.mono hK.1)); have kz := hK.1); (go_simp; simp only [LUpon, Act.put]; try simp only [List.setIfInBounds_toArray, List.set_cons_zero, List.set_cons_succ]); refine ⟨hS, ?_⟩)
                  (refine Sx.wpM_one 9 _ (by simp only [List.getElem?_toArray, List.getElem?_cons_zero, List.getElem?_cons_succ]; rfl) (by kernel_rfl) (by rfl) ?_)
                  ((intro X hX hS; have sz := hX.size; (try rw [World.size_alloc] at sz); (try rw [World.size_setCell] at sz); (try replace bRW := bRW.below hX bRW.lt); (try replace bRF := bRF.below hX bRF.lt); replace bW := bW.below hX bW.lt; replace bF := bF.below hX bF.lt; replace hK := hK.trans (KpG.of_below (hX.mono hK.1)); have kz := hK.1); have c0 := (bW.cell j).trans hcW.out; have d0 := bW.frozen j; have lW := bW.lt; (go_simp; simp only [LUpon, Act.put]; try simp only [List.setIfInBounds_toArray, List.set_cons_zero, List.set_cons_succ]); clear c0 d0; refine ⟨⟨hS.1.setCell (by simp; omega) _, hS.2.far (by simp; omega) _⟩, ?_⟩; replace bW := bW.set_ j (.slice (some ⟨rW, 0, none⟩) 601 601); replace bF := bF.far (p := ⟨gW, j, none⟩) (by simp; omega) (.slice (some ⟨rW, 0, none⟩) 601 601); (try replace bRF := bRF.far (p := ⟨gW, j, none⟩) (by simp; omega) (.slice (some ⟨rW, 0, none⟩) 601 601)); replace bRW := bRW.far (p := ⟨gW, j, none⟩) (by simp; omega) (.slice (some ⟨rW, 0, none⟩) 601 601); replace hK := hK.trans (KpG.setCell X (p := ⟨gW, j, none⟩) (Or.inl rfl) (.slice (some ⟨rW, 0, none⟩) 601 601)))
                  (refine Sx.wpM_one 10 _ (by simp only [List.getElem?_toArray, List.getElem?_cons_zero, List.getElem?_cons_succ]; rfl) (by kernel_rfl) (by rfl) ?_)
                  ((intro X hX hS; have sz := hX.size; (try rw [World.size_alloc] at sz); (try rw [World.size_setCell] at sz); (try replace bRW := bRW.below hX bRW.lt); (try replace bRF := bRF.below hX bRF.lt); replace bW := bW.below hX bW.lt; replace bF := bF.below hX bF.lt; replace hK := hK.trans (KpG.of_below (hX.mono hK.1)); have kz := hK.1); (go_simp; simp only [LUpon, Act.put]; try simp only [List.setIfInBounds_toArray, List.set_cons_zero, List.set_cons_succ]); refine ⟨hS, ?_⟩)
                  (refine Sx.wpM_one 11 _ (by simp only [List.getElem?_toArray, List.getElem?_cons_zero, List.getElem?_cons_succ]; rfl) (by kernel_rfl) (by rfl) ?_)
                  ((intro X hX hS; have sz := hX.size; (try rw [World.size_alloc] at sz); (try rw [World.size_setCell] at sz); (try replace bRW := bRW.below hX bRW.lt); (try replace bRF := bRF.below hX bRF.lt); replace bW := bW.below hX bW.lt; replace bF := bF.below hX bF.lt; replace hK := hK.trans (KpG.of_below (hX.mono hK.1)); have kz := hK.1); have c0 := (bF.cell j).trans hcF.out; have d0 := bF.frozen j; have lF := bF.lt; (go_simp; simp only [LUpon, Act.put]; try simp only [List.setIfInBounds_toArray, List.set_cons_zero, List.set_cons_succ]); clear c0 d0; refine ⟨⟨hS.1.setCell (by simp; omega) _, hS.2.far (by simp; omega) _⟩, ?_⟩; replace bF := bF.set_ j (.slice (some ⟨rF, 0, none⟩) 601 601); replace bW := bW.far (p := ⟨gF, j, none⟩) (by simp; omega) (.slice (some ⟨rF, 0, none⟩) 601 601); replace bRF := bRF.far (p := ⟨gF, j, none⟩) (by simp; omega) (.slice (some ⟨rF, 0, none⟩) 601 601); replace bRW := bRW.far (p := ⟨gF, j, none⟩) (by simp; omega) (.slice (some ⟨rF, 0, none⟩) 601 601); replace hK := hK.trans (KpG.setCell X (p := ⟨gF, j, none⟩) (Or.inr rfl) (.slice (some ⟨rF, 0, none⟩) 601 601)); refine Sx.wpM_end (by kernel_rfl) ?_; intro Y hY hSY; exact ⟨rW, rF, rfl, by omega, by omega, by omega, bRW.below hY bRW.lt, bRF.below hY bRF.lt, bW.below hY bW.lt, bF.below hY bF.lt, hK.trans (KpG.of_below (hY.mono hK.1))⟩)
              · rintro a W6 ⟨hS6, bT6⟩ ⟨rW, rF, rfl, r1, r2, r3, bRW, bRF, bW6, bF6, hK6⟩
                rw [hT]
                simp only [List.setIfInBounds_toArray, List.set_cons_zero, List.set_cons_succ]
                have b46 := hK6.blk b4 (by omega) (by omega)
                have hz6 : wr.heap.size ≤ W6.heap.size := hK6.1
                have HT6 : Hid (∀ q, j + 1 ≤ q → q ≤ n → TRow W6 B0 wr.heap.size (csW.setIfInBounds j (.slice (some ⟨rW, 0, none⟩) 601 601)) (csF.setIfInBounds j (.slice (some ⟨rF, 0, none⟩) 601 601)) q (wvT p (ks.drop q)) (fvT p (ks.drop q))) := hid fun q h1 h2 => ((HT.out q h1 h2).kp hK6 (fun q hq => by omega)).set (by omega) _ _
                have hzw := hbw.size
                have cWj : (csW.setIfInBounds j (.slice (some ⟨rW, 0, none⟩) 601 601))[j]? = some (.slice (some ⟨rW, 0, none⟩) 601 601) := by rw [Array.getElem?_setIfInBounds_self_of_lt (by rw [SZW.out]; omega)]
                have cFj : (csF.setIfInBounds j (.slice (some ⟨rF, 0, none⟩) 601 601))[j]? = some (.slice (some ⟨rF, 0, none⟩) 601 601) := by rw [Array.getElem?_setIfInBounds_self_of_lt (by rw [SZF.out]; omega)]
                have szW : (csW.setIfInBounds j (.slice (some ⟨rW, 0, none⟩) 601 601)).size = n + 1 := by rw [Array.size_setIfInBounds, SZW.out]
                have szF : (csF.setIfInBounds j (.slice (some ⟨rF, 0, none⟩) 601 601)).size = n + 1 := by rw [Array.size_setIfInBounds, SZF.out]
                generalize csW.setIfInBounds j (.slice (some ⟨rW, 0, none⟩) 601 601) = csW' at *
                generalize csF.setIfInBounds j (.slice (some ⟨rF, 0, none⟩) 601 601) = csF' at *
                generalize hM : wr.heap.size = M at *
                have CWj := hid cWj
                have CFj := hid cFj
                have SZW' := hid szW
                have SZF' := hid szF
                have Hd : Hid (ks.drop j = m :: ks.drop (j + 1)) := hid (by
                  have h1 : j < ks.length := by omega
                  have h2 : ks[j]? = some ks[j] := List.getElem?_eq_getElem h1
                  rw [Hm.out] at h2
                  cases h2
                  exact List.drop_eq_getElem_cons h1)
                obtain ⟨RW, RF, q1, q2, q3, q4, q5, q6, bR1, bF1⟩ := HT6.out (j + 1) (Nat.le_refl _) hi
                have Q5 := hid q5
                have Q6 := hid q6
                have hbM : b < M := by omega
                have c06 : W6.cell? ⟨b, off + j * 2, none⟩ = some (.int .i64 m.wt) := by rw [hK6.cell (p := ⟨b, off + j * 2, none⟩) (by simp; omega) (by simp; omega)]; exact c0
                have c16 : W6.cell? ⟨b, off + j * 2 + 1, none⟩ = some (.int .i64 m.many) := by rw [hK6.cell (p := ⟨b, off + j * 2 + 1, none⟩) (by simp; omega) (by simp; omega)]; exact c1
                clear cWj cFj szW szF q5 q6 HT SZW SZF hcW hcF bW bF bT b4 hK6 hbw hM c0 c1 hT hmk6
                go_wp2
                go_loopw [9] (fun x wr => ∃ a : Nat, a ≤ 601 ∧ x = .int .i64 a ∧ Below M W6 wr ∧ Blk wr rW 2 (rowC (cellR (wvT p (ks.drop j)) a 0 0)) ∧ Blk wr rF 2 (rowC (cellR (fvT p (ks.drop j)) a 0 0))) (fun x _ => 601 - (intOf x).toNat)
                case atStart => exact ⟨0, by omega, rfl, Below.refl _ _, by rw [rowC_congr (g := fun _ => 0) (fun t _ => cellR_start _ 0 t (by omega))]; exact bRW, by rw [rowC_congr (g := fun _ => 0) (fun t _ => cellR_start _ 0 t (by omega))]; exact bRF⟩
                case round =>
                  clear bRW bRF
                  obtain ⟨a, ha, rfl, hbw, brw, brf⟩ := hrel
                  have hzr := hbw.size
                  by_cases hlt : a < 601
                  · have hle : (a : Int) ≤ 600 := by omega
                    have w0 : (0 : Int) ≤ a := by omega
                    have w1 : (a : Int) < 601 := by omega
                    have w2 : IntKind.i64.wrap ((a : Int) + 1) = (a : Int) + 1 := wrap_ok (by omega)
                    have T1 := ((bcell hbw).1 t 1 (by omega)).trans (bT6.cell 1)
                    have G1 := ((bcell hbw).1 gF j (by omega)).trans ((bF6.cell j).trans CFj.out)
                    have e1 := rowC_at brf hlt
                    have d1 := brf.frozen a
                    have l1 := brf.lt
                    have l2 : t < wr.heap.size := by omega
                    have l3 : gF < wr.heap.size := by omega
                    have p0 := ((bcell hbw).1 b (off + j * 2) hbM).trans c06
                    have p1 := ((bcell hbw).1 b (off + j * 2 + 1) hbM).trans c16
                    have hne : b ≠ rF := by omega
                    have hne2 : ¬ rF = b := by omega
                    have hlb : b < wr.heap.size := by omega
                    go_wp2_with (first | (go_at_call 70; refine (refLeast_any _ m p hok hp).mono ?_; rintro e w7 ⟨rfl, hb7⟩))
                    have hb7' : Below M W6 w7 := (hbw.setCell (by simp; omega) _).trans (hb7.mono (by simp; omega))
                    have brw7 : Blk w7 rW 2 (rowC (cellR (wvT p (ks.drop j)) a 0 0)) := (brw.far (by simp; omega) _).below hb7 (by simp; exact brw.lt)
                    have brf7 : Blk w7 rF 2 (rowC (cellR (fvT p (ks.drop j)) a (-1) 0)) := (rowC_set brf fun s _ => cellR_put _ _ _ _ _ _).below hb7 (by simp; omega)
                    have hmm := okK_le hok
                    obtain ⟨lo, hlo⟩ : ∃ lo, leastK p m = lo := ⟨_, rfl⟩
                    have hlo1 : lo = 0 ∨ lo = -m.many := by rw [← hlo]; rcases hp with h | h; exact .inl (leastK_one h); exact .inr (leastK_two h)
                    obtain ⟨cnt, hcnt⟩ : ∃ cnt, (m.many - lo + 1).toNat = cnt := ⟨_, rfl⟩
                    have hcnt2 : (cnt : Int) = m.many - lo + 1 := by omega
                    obtain ⟨f, hf⟩ : ∃ f, ways p (ks.drop (j + 1)) = f := ⟨_, rfl⟩
                    obtain ⟨g, hg⟩ : ∃ g, fewO p (ks.drop (j + 1)) = g := ⟨_, rfl⟩
                    have Ff0 : Hid (∀ x, 0 ≤ f x ∧ f x ≤ 1000000000000) := hid fun x => by rw [← hf]; exact ⟨ways_nonneg p _ x, ways_validD h0 hp _ x⟩
                    have Ffar : Hid (∀ t : Int, (t < 0 ∨ 600 < t) → f (t - 300) = 0) := hid fun t ht => by rw [← hf]; exact ways_beyond h0 hp _ t ht
                    have Fg : Hid (∀ x, g x = none ↔ f x = 0) := hid fun x => by rw [← hf, ← hg]; exact few_ways
                    have Fg2 : Hid (∀ x y, g x = some y → 0 ≤ y ∧ y ≤ 2400) := hid fun x y h => few_validD h0 hp (j + 1) x y (by rw [hg]; exact h)
                    have Fend : Hid (wvT p (ks.drop j) a = accW f lo m.wt cnt ((a : Int) - 300) ∧ fvT p (ks.drop j) a = fv (accF g lo m.wt cnt ((a : Int) - 300))) := hid (by
                      unfold wvT fvT
                      rw [Hd.out, ← hf, ← hg, ← hcnt, ← hlo]
                      exact ⟨rfl, rfl⟩)
                    have hbR1 : Blk W6 RW 2 (rowC fun t => f (t - 300)) := by rw [← hf]; exact bR1
                    have hbF1 : Blk W6 RF 2 (rowC fun t => fv (g (t - 300))) := by rw [← hg]; exact bF1
                    clear hb7 e1 d1 T1 G1 p0 p1 l1 l2 l3 hf hg hcnt brw brf hbw hzr hlb
                    rw [hlo]
                    go_loopw [10] (fun x wr => ∃ q : Nat, q ≤ cnt ∧ x = .int .i64 (lo + q) ∧ Below M W6 wr ∧ Blk wr rW 2 (rowC (cellR (wvT p (ks.drop j)) a (accW f lo m.wt q ((a : Int) - 300)) 0)) ∧ Blk wr rF 2 (rowC (cellR (fvT p (ks.drop j)) a (fv (accF g lo m.wt q ((a : Int) - 300))) 0))) (fun x _ => cnt - (intOf x - lo).toNat)
                    case atStart => exact ⟨0, by omega, by simp, hb7', brw7, brf7⟩
                    case round =>
                      clear hb7' brw7 brf7
                      obtain ⟨q, hq, rfl, hbw, brw, brf⟩ := hrel
                      have hzr := hbw.size
                      have p0 := ((bcell hbw).1 b (off + j * 2) hbM).trans c06
                      have p1 := ((bcell hbw).1 b (off + j * 2 + 1) hbM).trans c16
                      by_cases hltq : q < cnt
                      · have hleq : lo + (q : Int) ≤ m.many := by omega
                        have T0 := ((bcell hbw).1 t 0 (by omega)).trans (bT6.cell 0)
                        have T1 := ((bcell hbw).1 t 1 (by omega)).trans (bT6.cell 1)
                        have G0 := ((bcell hbw).1 gW j (by omega)).trans ((bW6.cell j).trans CWj.out)
                        have G1 := ((bcell hbw).1 gF j (by omega)).trans ((bF6.cell j).trans CFj.out)
                        have G2 := ((bcell hbw).1 gW (j + 1) (by omega)).trans ((bW6.cell (j + 1)).trans Q5.out)
                        have G3 := ((bcell hbw).1 gF (j + 1) (by omega)).trans ((bF6.cell (j + 1)).trans Q6.out)
                        obtain ⟨k, hk0⟩ : ∃ k, lo + (q : Int) = k := ⟨_, rfl⟩
                        rw [hk0] at hleq ⊢
                        have Hkq := hid hk0
                        obtain ⟨y, hy⟩ : ∃ y, k * m.wt = y := ⟨_, rfl⟩
                        have hk1 : -300 ≤ k ∧ k ≤ 300 := by omega
                        have hyb : -90000 ≤ y ∧ y ≤ 90000 := by
                          have a1 : k * m.wt ≤ 300 * m.wt := Int.mul_le_mul_of_nonneg_right hk1.2 (by omega)
                          have a2 : -300 * m.wt ≤ k * m.wt := Int.mul_le_mul_of_nonneg_right hk1.1 (by omega)
                          omega
                        have x2 : IntKind.i64.wrap (k * m.wt) = y := by rw [hy]; exact wrap_ok (by omega)
                        have x3 : IntKind.i64.wrap ((a : Int) - y) = (a : Int) - y := wrap_ok (by omega)
                        have x4 : IntKind.i64.wrap (k + 1) = k + 1 := wrap_ok (by omega)
                        have x5 : IntKind.i64.wrap ((j : Int) + 1) = (j : Int) + 1 := wrap_ok (by omega)
                        have x6 : IntKind.i64.wrap (-k) = -k := wrap_ok (by omega)
                        have x7 : (j : Int) + 1 < n + 1 := by omega
                        have x8 : (0 : Int) ≤ (j : Int) + 1 := by omega
                        have hE1 : lo + ((q + 1 : Nat) : Int) = k + 1 := by omega
                        have hstep : ∀ x, (a : Int) - 300 - (lo + (q : Int)) * m.wt = x → (a : Int) - y - 300 = x := fun x h => by rw [hk0, hy] at h; omega
                        have Hskip : Hid (f ((a : Int) - y - 300) = 0 → accW f lo m.wt (q + 1) ((a : Int) - 300) = accW f lo m.wt q ((a : Int) - 300) ∧ accF g lo m.wt (q + 1) ((a : Int) - 300) = accF g lo m.wt q ((a : Int) - 300)) := hid fun h => by
                          have e := hstep _ rfl
                          rw [e] at h
                          exact ⟨by rw [accW_succ, h]; omega, accF_none ((Fg.out _).2 h)⟩
                        have Hadd : Hid (accW f lo m.wt (q + 1) ((a : Int) - 300) = accW f lo m.wt q ((a : Int) - 300) + f ((a : Int) - y - 300) ∧ ∀ v, g ((a : Int) - y - 300) = some v → accF g lo m.wt (q + 1) ((a : Int) - 300) = minO (accF g lo m.wt q ((a : Int) - 300)) (v + absI k)) := hid (by
                          have e := hstep _ rfl
                          refine ⟨by rw [accW_succ, e], fun v hv => ?_⟩
                          rw [← hk0]
                          rw [e] at hv
                          exact accF_some hv)
                        have HE1 := hid hE1
                        clear hstep hE1 hk0
                        by_cases hA : (a : Int) - y < 0
                        · have hz := hid (Hskip.out (Ffar.out _ (.inl hA)))
                          go_wp2
                          exact ⟨⟨q + 1, by omega, by rw [HE1.out], hbw, by rw [hz.out.1]; exact brw, by rw [hz.out.2]; exact brf⟩, by simp [intOf]; have := Hkq.out; omega⟩
                        · by_cases hB : 600 < (a : Int) - y
                          · have hz := hid (Hskip.out (Ffar.out _ (.inr hB)))
                            go_wp2
                            exact ⟨⟨q + 1, by omega, by rw [HE1.out], hbw, by rw [hz.out.1]; exact brw, by rw [hz.out.2]; exact brf⟩, by simp [intOf]; have := Hkq.out; omega⟩
                          · obtain ⟨rn, hrn⟩ : ∃ rn : Nat, (a : Int) - y = rn := ⟨((a : Int) - y).toNat, by omega⟩
                            have x3' : IntKind.i64.wrap ((a : Int) - y) = (rn : Int) := by rw [hrn]; exact wrap_ok (by omega)
                            rw [hrn] at Hskip Hadd hA hB
                            clear x3
                            have hr1 : rn < 601 := by omega
                            have v0 : (0 : Int) ≤ rn := by omega
                            have v1 : (rn : Int) < 601 := by omega
                            have R0 := rowC_at (hbR1.below hbw q2) hr1
                            have R1 := rowC_at (hbF1.below hbw q4) hr1
                            have lRW : RW < wr.heap.size := by omega
                            have lRF : RF < wr.heap.size := by omega
                            have lt' : t < wr.heap.size := by omega
                            have lgW : gW < wr.heap.size := by omega
                            have lgF : gF < wr.heap.size := by omega
                            obtain ⟨v, hv⟩ : ∃ v, f ((rn : Int) - 300) = v := ⟨_, rfl⟩
                            rw [hv] at R0 Hskip Hadd
                            clear hrn
                            by_cases hv0 : v = 0
                            · subst hv0
                              have hz := hid (Hskip.out rfl)
                              clear R1 hv
                              go_wp2
                              exact ⟨⟨q + 1, by omega, by rw [HE1.out], hbw, by rw [hz.out.1]; exact brw, by rw [hz.out.2]; exact brf⟩, by simp [intOf]; have := Hkq.out; omega⟩
                            · obtain ⟨gy, hgy⟩ : ∃ gy, g ((rn : Int) - 300) = some gy := by
                                cases h : g ((rn : Int) - 300) with
                                | none => exact absurd ((Fg.out _).1 h) (by rw [hv]; exact hv0)
                                | some gy => exact ⟨gy, rfl⟩
                              rw [hgy, fv_some] at R1
                              have hgb := Fg2.out _ _ hgy
                              have hvb := Ff0.out ((rn : Int) - 300)
                              rw [hv] at hvb
                              have hA1 := Hadd.out.1
                              have hA2 := Hadd.out.2 gy hgy
                              have hcwb := accW_le (f := f) (B := 1000000000000) (lo := lo) (wt := m.wt) (j := q) (fun x => (Ff0.out x).2) ((a : Int) - 300)
                              have hcwn := accW_nonneg (f := f) (lo := lo) (wt := m.wt) (fun x => (Ff0.out x).1) ((a : Int) - 300) q
                              have hpos : ∀ y, accF g lo m.wt q ((a : Int) - 300) = some y → 0 ≤ y := fun y h => accF_pos (fun x m h => (Fg2.out x m h).1) h
                              have hle3 : ∀ y, accF g lo m.wt q ((a : Int) - 300) = some y → y ≤ 2400 + 300 := fun y h => accF_le (fun x m h => (Fg2.out x m h).2) (C := 300) (fun i hi => by unfold absI; omega) h
                              have hmn := fv_min (x := gy + absI k) hpos
                              rw [← hA2] at hmn
                              have hcfb : -1 ≤ fv (accF g lo m.wt q ((a : Int) - 300)) ∧ fv (accF g lo m.wt q ((a : Int) - 300)) ≤ 2700 := by
                                cases h : accF g lo m.wt q ((a : Int) - 300) with
                                | none => rw [fv_none]; omega
                                | some y => rw [fv_some]; have := hpos y h; have := hle3 y h; omega
                              obtain ⟨cW, hcW⟩ : ∃ cW, accW f lo m.wt q ((a : Int) - 300) = cW := ⟨_, rfl⟩
                              obtain ⟨cF, hcF⟩ : ∃ cF, fv (accF g lo m.wt q ((a : Int) - 300)) = cF := ⟨_, rfl⟩
                              rw [hcW] at hA1 hcwb hcwn brw
                              rw [hcF] at hmn hcfb brf
                              have hq601 : q ≤ 601 := by omega
                              have z3 : IntKind.i64.wrap (cW + v) = cW + v := wrap_ok (by omega)
                              obtain ⟨ak, hak⟩ : ∃ ak, max k (-k) = ak := ⟨_, rfl⟩
                              have hak1 : 0 ≤ ak ∧ ak ≤ 300 := by omega
                              have z4 : IntKind.i64.wrap (gy + ak) = gy + ak := wrap_ok (by omega)
                              have hMN : Hid (fv (accF g lo m.wt (q + 1) ((a : Int) - 300)) = if cF < 0 ∨ gy + ak < cF then gy + ak else cF) := hid (by rw [hmn]; unfold absI; rw [hak])
                              have HA1 := hid hA1
                              have Hvnz : (v == 0) = false := by simpa using hv0
                              clear hA1 hA2 hmn hpos hle3 hcwb hcwn hcW hcF hgy hv Hskip Hadd Ffar Fg Fg2 Ff0
                              have E0 := rowC_at brw hlt
                              have E1 := rowC_at brf hlt
                              rw [cellR_here] at E0 E1
                              have D0 := brw.frozen a
                              have lrw := brw.lt
                              have lrf := brf.lt
                              go_wp2
                              refine wp_region_hd 19 (fun W' => Below wr.heap.size wr W') (by kernel_rfl) (by kernel_rfl) ((Below.refl _ _).drew) ?_
                              simp only [List.take_succ_cons, List.take_zero, List.drop_succ_cons, List.drop_zero]
                              iterate 19 (refine wpHd_val (v := ?_) (by rfl) (fun W hW => ?_) ?_; rotate_left; (· obtain ⟨hcW, hfW⟩ := bcell hW; go_simp; with_reducible rfl); simp only [Act.put, List.setIfInBounds_toArray, List.set_cons_zero, List.set_cons_succ])
                              refine wpHd_nil ?_
                              intro W8 hW8
                              have hb8 : Below M W6 W8 := hbw.trans (hW8.mono (by omega))
                              have brw8 := brw.below hW8 lrw
                              have brf8 := brf.below hW8 lrf
                              have hz8 := hW8.size
                              have E0' := rowC_at brw8 hlt
                              have D0' := brw8.frozen a
                              rw [cellR_here] at E0'
                              have hb9 : Below M W6 (W8.setCell ⟨rW, a, none⟩ (.int .i64 (cW + v))) := hb8.setCell (by simp; omega) _
                              have brw9 : Blk (W8.setCell ⟨rW, a, none⟩ (.int .i64 (cW + v))) rW 2 (rowC (cellR (wvT p (ks.drop j)) a (accW f lo m.wt (q + 1) ((a : Int) - 300)) 0)) := rowC_set brw8 fun s _ => by rw [HA1.out]; exact cellR_put _ _ _ _ _ _
                              have brf9 := brf8.far (p := ⟨rW, a, none⟩) (by simp; omega) (.int .i64 (cW + v))
                              have hz9 : (W8.setCell ⟨rW, a, none⟩ (.int .i64 (cW + v))).heap.size = W8.heap.size := by simp
                              have T1' := ((bcell hb9).1 t 1 (by omega)).trans (bT6.cell 1)
                              have G1' := ((bcell hb9).1 gF j (by omega)).trans ((bF6.cell j).trans CFj.out)
                              have G3' := ((bcell hb9).1 gF (j + 1) (by omega)).trans ((bF6.cell (j + 1)).trans Q6.out)
                              have R1' := ((bcell hb9).1 RF rn q4).trans (((bcell hbw).1 RF rn q4).symm.trans R1)
                              have E1' := rowC_at brf9 hlt
                              have F1' := brf9.frozen a
                              rw [cellR_here] at E1'
                              have l8 : rW < W8.heap.size := by omega
                              have l9 : rF < W8.heap.size := by omega
                              have l10 : t < W8.heap.size := by omega
                              have l11 : gF < W8.heap.size := by omega
                              have l12 : RF < W8.heap.size := by omega
                              have HZ9 := hid hz9
                              clear hz9 T0 T1 G0 G1 G2 G3 R0 R1 E0 E1 D0 p0 p1 brw8 brf8 brw brf hbw
                              by_cases hD1 : cF < 0
                              · have hD := hid (hMN.out.trans (if_pos (.inl hD1)))
                                go_wp2
                                refine ⟨⟨q + 1, by omega, by rw [HE1.out], hb9.setCell (by simp; omega) _, brw9.far (by simp; omega) _, rowC_set brf9 fun s _ => ?_⟩, by simp [intOf]; have := Hkq.out; omega⟩
                                rw [hD.out]; exact cellR_put _ _ _ _ _ _
                              · by_cases hD2 : gy + ak < cF
                                · have hD := hid (hMN.out.trans (if_pos (.inr hD2)))
                                  go_wp2
                                  refine ⟨⟨q + 1, by omega, by rw [HE1.out], hb9.setCell (by simp; omega) _, brw9.far (by simp; omega) _, rowC_set brf9 fun s _ => ?_⟩, by simp [intOf]; have := Hkq.out; omega⟩
                                  rw [hD.out]; exact cellR_put _ _ _ _ _ _
                                · have hD := hid (hMN.out.trans (if_neg (by omega)))
                                  go_wp2
                                  exact ⟨⟨q + 1, by omega, by rw [HE1.out], hb9, brw9, by rw [hD.out]; exact brf9⟩, by simp [intOf]; have := Hkq.out; omega⟩
                      · obtain rfl : q = cnt := by omega
                        have hgt : ¬ lo + (q : Int) ≤ m.many := by omega
                        rw [← Fend.out.1] at brw
                        rw [← Fend.out.2] at brf
                        rw [← rowC_congr (fun t _ => cellR_next _ a 0 t)] at brw brf
                        go_wp2
                        (first | exact ⟨⟨a + 1, by omega, by go_num, hbw, brw, brf⟩, (by first | (simp [intOf]; omega) | (simp [intOf]; done))⟩ | (refine ⟨?_, ?_⟩; (focus ((repeat apply Exists.intro); refine ⟨?_, rfl⟩; exact ⟨a + 1, by omega, by go_num, hbw, brw, brf⟩)); (first | (simp [intOf]; omega) | (simp [intOf]; done))))
                  · obtain rfl : a = 601 := by omega
                    rw [rowC_congr (fun t ht => cellR_end _ 601 0 0 t (by omega))] at brw brf
                    have HTN : Hid (∀ q, j ≤ q → q ≤ n → TRow wr B0 wr.heap.size csW' csF' q (wvT p (ks.drop q)) (fvT p (ks.drop q))) := hid (by
                      intro q h1 h2
                      rcases Nat.lt_or_ge j q with h | h
                      · exact ((HT6.out q h h2).below hbw).more (by omega)
                      · obtain rfl : q = j := by omega
                        exact ⟨rW, rF, by omega, brw.lt, by omega, brf.lt, CWj.out, CFj.out, brw, brf⟩)
                    have z5 : IntKind.i64.wrap ((j : Int) - 1) = (j : Int) - 1 := wrap_ok (by omega)
                    go_wp2
                    refine ⟨⟨j, csW', csF', by omega, rfl, hS6.trans (hbw.mono (by omega)), b46.below hbw (by omega), bT6.below hbw lT, bW6.below hbw lW, bF6.below hbw lF, SZW', SZF', by omega, HTN⟩, (by first | (simp [intOf]; omega) | (simp [intOf]; done))⟩
            · obtain rfl : i = 0 := by omega
              have g0 := bT.cell 0
              have g1 := bT.cell 1
              have g2 := b4.cell 0
              have g3 := b4.cell 1
              have g4 := b4.frozen 0
              have g5 := b4.frozen 1
              have lT := bT.lt
              have lB := b4.lt
              go_wp2
              have s0 := ((b4.set_ 0 (.slice (some ⟨gW, 0, none⟩) (n + 1) (n + 1))).set_ 1 (.slice (some ⟨gF, 0, none⟩) (n + 1) (n + 1)))
              simp only [List.setIfInBounds_toArray, List.set_cons_zero, List.set_cons_succ] at s0
              have r0 := s0.cell 0
              have r1 := s0.cell 1
              have hkp : KpG wr.heap.size (fun q => q = w.heap.size) wr ((wr.setCell ⟨w.heap.size, 0, none⟩ (.slice (some ⟨gW, 0, none⟩) (n + 1) (n + 1))).setCell ⟨w.heap.size, 1, none⟩ (.slice (some ⟨gF, 0, none⟩) (n + 1) (n + 1))) :=
                (KpG.setCell (G := fun q => q = w.heap.size) wr (p := ⟨w.heap.size, 0, none⟩) rfl _).trans (KpG.setCell (G := fun q => q = w.heap.size) _ (p := ⟨w.heap.size, 1, none⟩) rfl _)
              have hTA : Hid (TabAt ((wr.setCell ⟨w.heap.size, 0, none⟩ (.slice (some ⟨gW, 0, none⟩) (n + 1) (n + 1))).setCell ⟨w.heap.size, 1, none⟩ (.slice (some ⟨gF, 0, none⟩) (n + 1) (n + 1))) gW gF n p ks) := hid
                ⟨csW, csF, hkp.blk bW bW.lt (by omega), hkp.blk bF bF.lt (by omega), fun j hj => (((HT.out j (Nat.zero_le _) hj).kp hkp (fun q hq => by omega)).zero).more (by simp)⟩
              have hbl : Hid (Below w.heap.size w ((wr.setCell ⟨w.heap.size, 0, none⟩ (.slice (some ⟨gW, 0, none⟩) (n + 1) (n + 1))).setCell ⟨w.heap.size, 1, none⟩ (.slice (some ⟨gF, 0, none⟩) (n + 1) (n + 1)))) := hid ((hbw.setCell (by simp) _).setCell (by simp) _)
              clear s0 hkp
              refine bodyPost_ret (v := .agg #[.slice (some ⟨gW, 0, none⟩) (n + 1) (n + 1), .slice (some ⟨gF, 0, none⟩) (n + 1) (n + 1)]) (by first | (simp [results, Try.results82, go_sem]; done) | (simp [results, Try.results82, go_sem, *]; done) | (simp [results, Try.results82, go_sem, World.cell?_setCell_same', *]; done) | (simp [results, Try.results82, go_sem]; first | exact ⟨rfl, rfl⟩ | rfl)) rfl ⟨gW, gF, rfl, hTA.out, hbl.out⟩
end Go.Proofs.Ytolghmhodaphfaa
