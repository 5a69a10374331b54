/- Texts of the proof, laid together by program. -/
import Derived.Test.YtolghmhodaphfaaMf
import Derived.Test.YtolghmhodaphfaaMe
import Derived.Scope
import Derived.ChangeKeysEq
/- Plain law: the best lay, number by number. No program in sight. -/
namespace Go.Proofs.Ytolghmhodaphfaa
def goodB (p : Int) (ks : List Kd) (k : Kd) (a left n : Int) : Bool := match fewO p ks (a - n * k.wt) with | some m => m + absI n == left | none => false
/-- The best lay: of each kind the least number with which the others use no more. -/
def layL (p : Int) : List Kd → Int → List Int
  | [], _ => []
  | k :: ks, a => match (List.range (k.many - leastK p k + 1).toNat).find? fun j : Nat => goodB p ks k a (nv (fewO p (k :: ks) a)) (leastK p k + j) with
    | some j => (leastK p k + j) :: layL p ks (a - (leastK p k + j) * k.wt)
    | none => []
theorem good_of {p : Int} {ks : List Kd} {k : Kd} {a left n m : Int} (h : fewO p ks (a - n * k.wt) = some m) : goodB p ks k a left n = (m + absI n == left) := by unfold goodB; rw [h]
theorem good_none {p : Int} {ks : List Kd} {k : Kd} {a left n : Int} (h : fewO p ks (a - n * k.wt) = none) : goodB p ks k a left n = false := by unfold goodB; rw [h]
theorem good_some {p : Int} {ks : List Kd} {k : Kd} {a left n : Int} (h : goodB p ks k a left n = true) : ∃ m, fewO p ks (a - n * k.wt) = some m ∧ m + absI n = left := by
  unfold goodB at h
  split at h
  · rename_i m hm; exact ⟨m, hm, by simpa using h⟩
  · cases h
theorem good_ex {p : Int} {ks : List Kd} {k : Kd} {a left : Int} (h : fewO p (k :: ks) a = some left) : ∃ j : Nat, j < (k.many - leastK p k + 1).toNat ∧ goodB p ks k a left (leastK p k + j) = true := by
  obtain ⟨⟨j, h1, m, h2, h3⟩, -⟩ := foldF_some h
  exact ⟨j, h1, by rw [good_of h2]; simp [h3]⟩
theorem layL_at {p : Int} {ks : List Kd} {k : Kd} {a left : Int} (h : fewO p (k :: ks) a = some left) {j : Nat} (hj : j < (k.many - leastK p k + 1).toNat) (hg : goodB p ks k a left (leastK p k + j) = true) (hb : ∀ i, i < j → goodB p ks k a left (leastK p k + i) = false) :
    layL p (k :: ks) a = (leastK p k + j) :: layL p ks (a - (leastK p k + j) * k.wt) := by
  have e : (List.range (k.many - leastK p k + 1).toNat).find? (fun j : Nat => goodB p ks k a (nv (fewO p (k :: ks) a)) (leastK p k + j)) = some j := by
    rw [List.find?_range_eq_some]
    rw [h]
    exact ⟨hg, List.mem_range.2 hj, fun i hi => by show (!goodB p ks k a left (leastK p k + i)) = true; rw [hb i hi]; rfl⟩
  show (match (List.range (k.many - leastK p k + 1).toNat).find? (fun j : Nat => goodB p ks k a (nv (fewO p (k :: ks) a)) (leastK p k + j)) with | some j => _ | none => _) = _
  rw [e]
theorem layL_ok {p : Int} : ∀ {ks : List Kd} {a y : Int}, fewO p ks a = some y → LayOk p ks (layL p ks a) ∧ weighs ks (layL p ks a) = a ∧ uses (layL p ks a) = y ∧ (layL p ks a).length = ks.length
  | [], a, y, h => by
    unfold fewO at h
    split at h
    · cases h; subst_vars; exact ⟨trivial, rfl, rfl, rfl⟩
    · cases h
  | k :: ks, a, y, h => by
    obtain ⟨j0, hj0, hg0⟩ := good_ex h
    obtain ⟨j, hj, hg, hb⟩ : ∃ j : Nat, j < (k.many - leastK p k + 1).toNat ∧ goodB p ks k a y (leastK p k + j) = true ∧ ∀ i, i < j → goodB p ks k a y (leastK p k + i) = false := by
      have : ∀ n : Nat, goodB p ks k a y (leastK p k + n) = true → n < (k.many - leastK p k + 1).toNat → ∃ j : Nat, j < (k.many - leastK p k + 1).toNat ∧ goodB p ks k a y (leastK p k + j) = true ∧ ∀ i, i < j → goodB p ks k a y (leastK p k + i) = false := by
        intro n
        induction n using Nat.strongRecOn with
        | _ n ih =>
          intro h1 h2
          rcases Classical.em (∀ i : Nat, i < n → goodB p ks k a y (leastK p k + i) = false) with h3 | h3
          · exact ⟨n, h2, h1, h3⟩
          · obtain ⟨i, h4⟩ := Classical.not_forall.1 h3
            obtain ⟨hi, h5⟩ := Classical.not_imp.1 h4
            exact ih i hi (by simpa using h5) (by omega)
      exact this j0 hg0 hj0
    obtain ⟨m, hm, hml⟩ := good_some hg
    obtain ⟨h1, h2, h3, h4⟩ := layL_ok hm
    rw [layL_at h hj hg hb]
    refine ⟨⟨by omega, by omega, h1⟩, ?_, ?_, ?_⟩
    · show k.wt * (leastK p k + j) + weighs ks _ = a
      rw [h2, Int.mul_comm]; omega
    · show (absI (leastK p k + j) :: (layL p ks (a - (leastK p k + j) * k.wt)).map absI).sum = y
      rw [List.sum_cons]
      show absI (leastK p k + j) + uses (layL p ks (a - (leastK p k + j) * k.wt)) = y
      rw [h3]; omega
    · rw [List.length_cons, List.length_cons, h4]
end Go.Proofs.Ytolghmhodaphfaa
/- Walks: the best lay. -/
namespace Go.Proofs.Ytolghmhodaphfaa
open Go.RowKit Go.WideMaps Go.Shelf
open Go.Maps (Keyed)
attribute [local go_sem] Oper.semAt_some
theorem wr_valid {p : Int} (hp : p = 1 ∨ p = 2) {ks : List Kd} (h0 : checkSet ks = 0) : wrN p ks ≤ 1000000000000 := by
  have h1 := wrN_le hp (checkSet_good h0).2.2.1
  have h2 := pw_valid h0
  have : (10 : Nat) ^ 12 = 1000000000000 := by decide
  omega
theorem wrN_drop (p : Int) : ∀ (ks : List Kd) (i : Nat), (∀ k ∈ ks, 1 ≤ (k.many - leastK p k + 1).toNat) → wrN p (ks.drop i) ≤ wrN p ks
  | [], i, _ => by simp
  | k :: ks, 0, _ => by simp
  | k :: ks, i + 1, h => by
    have h1 := wrN_drop p ks i (fun k hk => h k (by simp [hk]))
    have h2 := h k (by simp)
    show wrN p (ks.drop i) ≤ 1 + (k.many - leastK p k + 1).toNat * wrN p ks
    have h3 : 1 * wrN p ks ≤ (k.many - leastK p k + 1).toNat * wrN p ks := Nat.mul_le_mul_right _ h2
    omega
set_option maxRecDepth 100000 in
set_option maxHeartbeats 4000000 in
theorem lay_none (w : World) (A : Option Addr) (g n c : Nat) (ks : List Kd) (p a : Int) (hg : g < w.heap.size) (hsc : Sc w g (.slice A n c) p) (hk : KdS w w.heap.size A n ks) (h0 : checkSet ks = 0) (hp : p = 1 ∨ p = 2) (ha0 : 0 ≤ a) (ha1 : a ≤ 300) (hy : fewO p ks a = none) :
    Calls Try.prog 83 #[.pointer (some ⟨g, 0, none⟩), .int .i64 a] w fun e w' => e = .returned (.tuple #[.slice none 0 0, .bool false]) ∧ Below w.heap.size w w' := by
  have hlen := hk.len
  obtain ⟨W1, hW1⟩ : ∃ W1, ((w.alloc (.cells #[.pointer (some ⟨g, 0, none⟩)] 71)).alloc (.map #[] 0)).alloc (.cells #[.map (some (w.heap.size + 1))] 112) = W1 := ⟨_, rfl⟩
  have hb1 : Below w.heap.size w W1 := by rw [← hW1]; exact (by repeat' (first | with_reducible assumption | with_reducible exact Below.refl _ _ | refine Below.alloc ?_ ?_ _ | refine Below.setCell ?_ ?_ _ | refine Below.drew ?_ | refine below_drewN ?_ _ | (simp; done) | (simp; omega) | omega))
  have hz1 : W1.heap.size = w.heap.size + 3 := by rw [← hW1]; simp
  have hM1 : W1.ownsMap Try.prog 115 (plainElem (H := Unit) Try.prog 2) (w.heap.size + 1) 0 (.map []) := by
    rw [← hW1]
    have := World.ownsMap_made (H := Unit) (w.alloc (.cells #[.pointer (some ⟨g, 0, none⟩)] 71)) Try.prog 115 (plainElem (H := Unit) Try.prog 2)
    rw [World.size_alloc] at this
    exact this.alloc _
  have FW : Calls Try.prog 95 #[.pointer (some ⟨g, 0, none⟩), .agg #[.int .i64 0, .int .i64 a], .map (some (w.heap.size + 1))] W1 (FewPost p ks n (w.heap.size + 1) 0 a 0 W1) :=
    few_walk g (w.heap.size + 1) A n c ks p h0 hp hlen (by omega) (fun b off e => by have : 0 < n := by { have := (checkSet_good h0).1; omega }; obtain ⟨b', off', e', hb', -⟩ := hk.2 this; rw [e] at e'; cases e'; omega) n 0 a (by omega) (by omega) (by omega) W1 0 _ (by omega) (hsc.below hb1 hg) (hk.below' hb1 (by omega)) hM1 (Memo.nil p ks) (by rw [List.drop_zero, Nat.zero_add]; have := wr_valid hp h0; omega)
  have B2 : Blk W1 w.heap.size 71 #[.pointer (some ⟨g, 0, none⟩)] := by rw [← hW1]; exact ((Blk.new' rfl).alloc _).alloc _
  have B6 : Blk W1 (w.heap.size + 1 + 1) 112 #[.map (some (w.heap.size + 1))] := by rw [← hW1]; exact Blk.new' (by first | (simp; done) | (simp; omega) | omega)
  have c2 := B2.cell 0
  have c6 := B6.cell 0
  have l2 := B2.lt
  have l6 := B6.lt
  have HFW := hid FW
  have Hy := hid hy
  clear FW hM1 hlen hp hz1
  have hmm := @run_makeMap Try.prog
  (refine (callsIn_wide (n := 9)).1 ?_; refine callsIn_of_wp_marks (F := Wd none) Try.func83 rfl trivial ?_ rfl; simp only [Try.ntmps83, List.size_toArray, List.length_cons, List.length_nil, Nat.reduceAdd, Nat.reduceSub, Array.replicate_succ, Array.replicate_zero, List.push_toArray, List.append_toArray, List.nil_append, List.cons_append])
  gi_wp2_with (first | (gi_at_call 95; refine (calls_wd HFW.out).mono ?_; rintro e w2 ⟨v, ok, m', D', rfl, hok, -, -, -, -, -, hgr⟩; rw [List.drop_zero, Hy.out] at hok; have hok2 : ok = false := hok; clear hok; subst hok2))
  refine leavesM_marks [] _ (by simp) (by simp) (fun w' ho => ⟨.tuple #[.slice none 0 0, .bool false], by simp [results, Try.results83, go_sem], rfl, ho.below ?_ (by simp)⟩)
  exact hb1.grown hgr (by omega) (fun r e => by cases e; omega)
end Go.Proofs.Ytolghmhodaphfaa
/- A scope in which no goto is met, within a fence. Over any program. -/
namespace Go.Proofs.Ytolghmhodaphfaa
open Go.RowKit
section
variable {P : Program} {b : Frame} {a : Act} {k : List Item} {cs : List Frame} {w : World}
theorem stepR_scope {c : Code} : step P (lone (b.atR a (.code (.scope c) :: k)) cs w) = .next (lone (b.atR a (.code c :: .inScope c :: k)) cs w) :=
  step_lone_go (by simp [stepG, stepG.exec, Frame.atR])
theorem stepR_inScope {c : Code} : step P (lone (b.atR a (.inScope c :: k)) cs w) = .next (lone (b.atR a k) cs w) :=
  step_lone_go (by simp [stepG, stepG.exec, Frame.atR])
end
theorem wpIn_scope {F : Fence} {n : Nat} {P : Program} {Q : Exit → Act → World → Prop} {a : Act} {w : World} {c : Code} (h : c.wpIn F n P (Exit.noGoto Q) a w) : (Code.scope c).wpIn F n P Q a w := by
  intro b k cs hro hb hr
  have h0 : (lone (b.atR a (.code (.scope c) :: k)) cs w).fenced P F := fenced_calm hb hr rfl
  obtain ⟨e, a₁, w₁, hq, harr⟩ := h b (.inScope c :: k) cs hro hb hr
  cases e with
  | normal => exact ⟨.normal, a₁, w₁, hq, .head h0 stepR_scope (StepsIn.trans harr (.one (fenced_calm hb hr rfl) stepR_inScope))⟩
  | exit id =>
    have hx : exitTo id (.inScope c :: k) = exitTo id k := by simp [exitTo]
    exact ⟨.exit id, a₁, w₁, hq, fun k' hk => .head h0 stepR_scope (harr.1 k' (by rw [hx]; exact hk)),
      fun hr' hk => let ⟨k₁, h1, h2⟩ := harr.2 hr' (by rw [hx]; exact hk); ⟨k₁, h1, .head h0 stepR_scope h2⟩⟩
  | goto l => exact hq.elim
  | ret => exact ⟨_, a₁, w₁, hq, .of_steps (.one h0 stepR_scope) harr⟩
  | panic ch => exact ⟨_, a₁, w₁, hq, .of_steps (.one h0 stepR_scope) harr⟩
  | outgrown => exact ⟨_, a₁, w₁, hq, .of_steps (.one h0 stepR_scope) harr⟩
end Go.Proofs.Ytolghmhodaphfaa
/- Eight numbers are compared. -/
namespace Go.Proofs.Ytolghmhodaphfaa
open Go.RowKit
theorem cells2 : Try.prog.cellsOf 2 = 1 := by kernel_rfl
theorem eqItem1 (W : World) (d i : Nat) (xs ys : Array Value) (is : List Nat) (a : Int) (hx : xs[i]? = some (.int .i64 a)) (hy : ys[i]? = some (.int .i64 0)) (r : Bool) (hr : (Op.eqItems (d + 1) 2 1 xs ys is).run Try.prog W = .ok r W) : (Op.eqItems (d + 1) 2 1 xs ys (i :: is)).run Try.prog W = .ok (a == 0 && r) W := by
  simp only [Op.eqItems, Nat.mul_one]
  have e1 : (part 2 xs i).run Try.prog W = .ok (.int .i64 a) W := by go_simp
  have e2 : (part 2 ys i).run Try.prog W = .ok (.int .i64 0) W := by go_simp
  have e3 : (Op.equalIn (d + 1) 2 (.int .i64 a) (.int .i64 0)).run Try.prog W = .ok (a == 0) W := by go_simp
  simp only [Sem.run_bind, e1, e2, e3, Result.andThen_ok]
  cases h : (a == 0)
  · simp
  · simpa using hr
set_option maxRecDepth 10000 in
theorem eq117 (W : World) (d : Nat) (f : Nat → Int) : (Op.equalIn (d + 2) 117 (.agg #[.int .i64 (f 0), .int .i64 (f 1), .int .i64 (f 2), .int .i64 (f 3), .int .i64 (f 4), .int .i64 (f 5), .int .i64 (f 6), .int .i64 (f 7)]) (.agg #[.int .i64 0, .int .i64 0, .int .i64 0, .int .i64 0, .int .i64 0, .int .i64 0, .int .i64 0, .int .i64 0])).run Try.prog W =
    .ok ((List.range 8).all fun j => f j == 0) W := by
  obtain ⟨i0, hi0, hi1, hi2, hi3⟩ := info_parts' info2
  rw [run_equalIn_array W (d + 1) (t := 117) (e := 2) (n := 8) (i := i0) _ _ (by kernel_rfl) hi0, cells2]
  rw [show List.range 8 = [0, 1, 2, 3, 4, 5, 6, 7] from rfl]
  refine (eqItem1 W d 0 _ _ _ (f 0) rfl rfl _ (eqItem1 W d 1 _ _ _ (f 1) rfl rfl _ (eqItem1 W d 2 _ _ _ (f 2) rfl rfl _ (eqItem1 W d 3 _ _ _ (f 3) rfl rfl _ (eqItem1 W d 4 _ _ _ (f 4) rfl rfl _ (eqItem1 W d 5 _ _ _ (f 5) rfl rfl _ (eqItem1 W d 6 _ _ _ (f 6) rfl rfl _ (eqItem1 W d 7 _ _ _ (f 7) rfl rfl true ?_)))))))).trans ?_
  · simp [Op.eqItems]
  · simp
end Go.Proofs.Ytolghmhodaphfaa
/- Walks: the best lay, where there is one. -/
namespace Go.Proofs.Ytolghmhodaphfaa
open Go.RowKit Go.WideMaps Go.Shelf
open Go.Maps (Keyed)
attribute [local go_sem] Oper.semAt_some
/-- What holds between the kinds. -/
def LayInv (p : Int) (ks : List Kd) (n : Nat) (a : Int) (M B9 B10 : Nat) (k : Nat) (W : World) : Prop :=
  ∃ (ak : Int) (o : List Int) (m : Nat) (D : DataW Unit) (v : Value), o.length = k ∧ o ++ layL p (ks.drop k) ak = layL p ks a ∧ (-300 ≤ ak ∧ ak ≤ 300) ∧ (∃ y, fewO p (ks.drop k) ak = some y) ∧ (k < n → Maps.has D (klF k ak) = true) ∧
    m ≤ (1 + 601 * k) * wrN p ks ∧ W.ownsMap Try.prog 115 (plainElem (H := Unit) Try.prog 2) M m D ∧ Memo p ks D ∧ Blk W B10 115 #[.int .i64 (k : Int), .int .i64 ak] ∧ Blk W B9 23 #[v] ∧ W.ownsRow (B10 + 1) 2 1 v k (o.flatMap cI)
theorem KpG.owns {n₀ : Nat} {G : Nat → Prop} {A W : World} {base e s n : Nat} {v : Value} {xs : List Value} (hkp : KpG n₀ G A W) (h : A.ownsRow base e s v n xs) (hn : A.heap.size ≤ n₀) (hG : ∀ q, base ≤ q → ¬ G q) : W.ownsRow base e s v n xs := by
  refine ⟨h.1, h.2.imp id ?_⟩
  rintro ⟨g', cap, cur, e1, h1, h2, h3⟩
  exact ⟨g', cap, cur, e1, h1, (hkp.2 g' (Nat.lt_of_lt_of_le (Array.getElem?_eq_some_iff.1 h2).1 hn) (hG g' h1)).trans h2, h3⟩
/-- What holds between the numbers of a kind: none of them was good. -/
def NumInv (p : Int) (ks : List Kd) (M mk T n₀ : Nat) (kd : Kd) (ksn : List Kd) (ak left : Int) (w w5 : World) (pre : List Nb) (W : World) : Prop :=
  ∃ (m' : Nat) (D' : DataW Unit), m' ≤ mk + pre.length * T ∧ W.ownsMap Try.prog 115 (plainElem (H := Unit) Try.prog 2) M m' D' ∧ Memo p ks D' ∧ KpG n₀ (fun q => q = M) w5 W ∧ Below w.heap.size w W ∧ ∀ y ∈ pre, goodB p ksn kd ak left y.1 = false
/-- What holds when a good number has come. -/
def NumExit (p : Int) (ks : List Kd) (M mk T n₀ n k B9 B10 : Nat) (kd : Kd) (ksn : List Kd) (ak left : Int) (o : List Int) (w w5 : World) (c : Code) (pre : List Nb) (W : World) : Prop :=
  c = .exit 2 ∧ ∃ (x : Nb) (pre0 : List Nb), pre = pre0 ++ [x] ∧ (∀ y ∈ pre0, goodB p ksn kd ak left y.1 = false) ∧ goodB p ksn kd ak left x.1 = true ∧ ∃ (m' : Nat) (D' : DataW Unit) (q cap : Nat), m' ≤ mk + pre.length * T ∧
    W.ownsMap Try.prog 115 (plainElem (H := Unit) Try.prog 2) M m' D' ∧ Memo p ks D' ∧ (k + 1 < n → Maps.has D' (klF (k + 1) (ak - x.1 * kd.wt)) = true) ∧ Blk W B9 23 #[.slice (some ⟨q, 0, none⟩) (k + 1) cap] ∧
    W.ownsRow (B10 + 1) 2 1 (.slice (some ⟨q, 0, none⟩) (k + 1) cap) (k + 1) ((o ++ [x.1]).flatMap cI) ∧ Blk W B10 115 #[.int .i64 ((k + 1 : Nat) : Int), .int .i64 (ak - x.1 * kd.wt)] ∧ KpG n₀ (fun q => q = M ∨ q = B9 ∨ q = B10) w5 W ∧ Below w.heap.size w W
theorem NumInv.ownk {p : Int} {ks : List Kd} {M mk T n₀ : Nat} {kd : Kd} {ksn : List Kd} {ak left : Int} {w w5 X Y : World} {pre : List Nb} {row : Option Nat} (h : NumInv p ks M mk T n₀ kd ksn ak left w w5 pre X) (hg : X.grownBy Y row)
    (hr : ∀ r, row = some r → n₀ ≤ r ∧ ∃ o : Obj, X.heap[r]? = some o ∧ o.isCells = false) (hn : n₀ ≤ w5.heap.size) (hM : M < n₀) (hw : w.heap.size ≤ n₀) : NumInv p ks M mk T n₀ kd ksn ak left w w5 pre Y := by
  obtain ⟨m', D', h1, h2, h3, h4, h5, h6⟩ := h
  exact ⟨m', D', h1, h2.kept hg (fun e => by have := (hr M e.symm).1; omega), h3, h4.ownk hg (fun r e => (hr r e).1) hn, Below.ownk h5 hg h5.size (fun r e => by have := (hr r e).1; omega), h6⟩
theorem NumExit.ownk {p : Int} {ks : List Kd} {M mk T n₀ n k B9 B10 : Nat} {kd : Kd} {ksn : List Kd} {ak left : Int} {o : List Int} {w w5 X Y : World} {c : Code} {pre : List Nb} {row : Option Nat} (h : NumExit p ks M mk T n₀ n k B9 B10 kd ksn ak left o w w5 c pre X) (hg : X.grownBy Y row)
    (hr : ∀ r, row = some r → n₀ ≤ r ∧ ∃ o : Obj, X.heap[r]? = some o ∧ o.isCells = false) (hn : n₀ ≤ w5.heap.size) (hM : M < n₀) (hw : w.heap.size ≤ n₀) : NumExit p ks M mk T n₀ n k B9 B10 kd ksn ak left o w w5 c pre Y := by
  obtain ⟨h0, x, pre0, h1, h2, h3, m', D', q, cap, g1, g2, g3, g4, g5, g6, g7, g8, g9⟩ := h
  exact ⟨h0, x, pre0, h1, h2, h3, m', D', q, cap, g1, g2.kept hg (fun e => by have := (hr M e.symm).1; omega), g3, g4, g5.ownk hg (fun r e => (hr r e).2), own_ownk g6 hg (fun r e => (hr r e).2), g7.ownk hg (fun r e => (hr r e).2), g8.ownk hg (fun r e => (hr r e).1) hn, Below.ownk g9 hg g9.size (fun r e => by have := (hr r e).1; omega)⟩
set_option maxRecDepth 100000 in
set_option maxHeartbeats 4000000 in
theorem lay_some (w : World) (A : Option Addr) (g n c : Nat) (ks : List Kd) (p a : Int) (hg : g < w.heap.size) (hsc : Sc w g (.slice A n c) p) (hk : KdS w w.heap.size A n ks) (h0 : checkSet ks = 0) (hp : p = 1 ∨ p = 2) (ha0 : 0 ≤ a) (ha1 : a ≤ 300) (y0 : Int) (hy : fewO p ks a = some y0) :
    Calls Try.prog 83 #[.pointer (some ⟨g, 0, none⟩), .int .i64 a] w fun e w' => (∃ q c', e = .returned (.tuple #[.slice (some ⟨q, 0, none⟩) n c', .bool true]) ∧ InS w' w'.heap.size (some ⟨q, 0, none⟩) n (layL p ks a)) ∧ Below w.heap.size w w' := by
  have hlen := hk.len
  have hn1 : 1 ≤ n ∧ n ≤ 8 := by have := checkSet_good h0; omega
  obtain ⟨b, off, -, rfl, hbw, -, -, -⟩ := hk.at_ (k := 0) (by omega)
  have hwrT := wr_valid hp h0
  have hrange : ∀ k ∈ ks, 1 ≤ (k.many - leastK p k + 1).toNat := fun k hk => by
    have := okK_le (List.all_eq_true.1 (checkSet_good h0).2.2.1 k hk)
    unfold leastK; rcases hp with rfl | rfl <;> omega
  have hdrT := hid (fun i => wrN_drop p ks i hrange)
  clear hrange
  obtain ⟨W1, hW1⟩ : ∃ W1, ((w.alloc (.cells #[.pointer (some ⟨g, 0, none⟩)] 71)).alloc (.map #[] 0)).alloc (.cells #[.map (some (w.heap.size + 1))] 112) = W1 := ⟨_, rfl⟩
  have hb1 : Below w.heap.size w W1 := by rw [← hW1]; exact (by repeat' (first | with_reducible assumption | with_reducible exact Below.refl _ _ | refine Below.alloc ?_ ?_ _ | refine Below.setCell ?_ ?_ _ | refine Below.drew ?_ | refine below_drewN ?_ _ | (simp; done) | (simp; omega) | omega))
  have hz1 : W1.heap.size = w.heap.size + 3 := by rw [← hW1]; simp
  have hM1 : W1.ownsMap Try.prog 115 (plainElem (H := Unit) Try.prog 2) (w.heap.size + 1) 0 (.map []) := by
    rw [← hW1]
    have := World.ownsMap_made (H := Unit) (w.alloc (.cells #[.pointer (some ⟨g, 0, none⟩)] 71)) Try.prog 115 (plainElem (H := Unit) Try.prog 2)
    rw [World.size_alloc] at this
    exact this.alloc _
  have HFWg := hid (few_walk g (w.heap.size + 1) (some ⟨b, off, none⟩) n c ks p h0 hp hlen (by omega) (fun b' off' e => by cases e; omega))
  have FW : Calls Try.prog 95 #[.pointer (some ⟨g, 0, none⟩), .agg #[.int .i64 0, .int .i64 a], .map (some (w.heap.size + 1))] W1 (FewPost p ks n (w.heap.size + 1) 0 a 0 W1) :=
    HFWg.out n 0 a (by omega) (by omega) (by omega) W1 0 _ (by omega) (hsc.below hb1 hg) (hk.below' hb1 (by omega)) hM1 (Memo.nil p ks) (by rw [List.drop_zero, Nat.zero_add]; omega)
  have B2 : Blk W1 w.heap.size 71 #[.pointer (some ⟨g, 0, none⟩)] := by rw [← hW1]; exact ((Blk.new' rfl).alloc _).alloc _
  have B6 : Blk W1 (w.heap.size + 1 + 1) 112 #[.map (some (w.heap.size + 1))] := by rw [← hW1]; exact Blk.new' (by first | (simp; done) | (simp; omega) | omega)
  have c2 := B2.cell 0
  have c6 := B6.cell 0
  have l2 := B2.lt
  have l6 := B6.lt
  have HFW := hid FW
  have Hy := hid hy
  have hmm := @run_makeMap Try.prog
  have Hz1 := hid hz1
  clear FW hM1 hz1
  obtain ⟨s0, s1⟩ := hsc
  (refine (callsIn_wide (n := 9)).1 ?_; refine callsIn_of_wp_marks (F := Wd none) Try.func83 rfl trivial ?_ rfl; simp only [Try.ntmps83, List.size_toArray, List.length_cons, List.length_nil, Nat.reduceAdd, Nat.reduceSub, Array.replicate_succ, Array.replicate_zero, List.push_toArray, List.append_toArray, List.nil_append, List.cons_append])
  gi_wp2_with (first | (gi_at_call 95; refine (calls_wd HFW.out).mono ?_; rintro e w2 ⟨v, ok, m', D', rfl, hok, -, hm2, hmap2, hme2, hhas2, hgr⟩; rw [List.drop_zero, Hy.out] at hok; have hok2 : ok = true := hok; clear hok; subst hok2; have hz2 := hgr.size; have hb2 : Below w.heap.size w w2 := hb1.grown hgr hb1.size (fun r e => by cases e; omega); replace B2 := B2.grown hgr (fun e => by have := Option.some.inj e; omega); replace B6 := B6.grown hgr (fun e => by have := Option.some.inj e; omega); have c2 := B2.cell 0; have c6 := B6.cell 0; have l2 := B2.lt; have l6 := B6.lt; have hgw := Nat.lt_of_lt_of_le hg hb2.size; have g0 := ((bcell hb2).1 _ 0 hg).trans s0))
  have HB9 : Blk ((w2.alloc (.cells #[.slice none 0 0] 23)).alloc (.cells #[.int .i64 0, .int .i64 a] 115)) w2.heap.size 23 #[.slice none 0 0] := (Blk.new' rfl).alloc _
  have HB10 : Blk ((w2.alloc (.cells #[.slice none 0 0] 23)).alloc (.cells #[.int .i64 0, .int .i64 a] 115)) (w2.heap.size + 1) 115 #[.int .i64 0, .int .i64 a] := Blk.new' (by first | (simp; done) | (simp; omega) | omega)
  have hb3 : Below w2.heap.size w2 ((w2.alloc (.cells #[.slice none 0 0] 23)).alloc (.cells #[.int .i64 0, .int .i64 a] 115)) := (by repeat' (first | with_reducible assumption | with_reducible exact Below.refl _ _ | refine Below.alloc ?_ ?_ _ | refine Below.setCell ?_ ?_ _ | refine Below.drew ?_ | refine below_drewN ?_ _ | (simp; done) | (simp; omega) | omega))
  have hown3 := (hmap2.alloc (.cells #[.slice none 0 0] 23)).alloc (.cells #[.int .i64 0, .int .i64 a] 115)
  have hz3 : ((w2.alloc (.cells #[.slice none 0 0] 23)).alloc (.cells #[.int .i64 0, .int .i64 a] 115)).heap.size = w2.heap.size + 2 := by simp
  replace B2 := B2.below hb3 l2
  replace B6 := B6.below hb3 l6
  generalize ((w2.alloc (.cells #[.slice none 0 0] 23)).alloc (.cells #[.int .i64 0, .int .i64 a] 115)) = W3 at *
  have hbW3 : Below w.heap.size w W3 := hb2.trans (hb3.mono hb2.size)
  have hz13 := Hz1.out
  generalize hZ2 : w2.heap.size = Z2 at *
  have hZw : w.heap.size + 3 ≤ Z2 := by omega
  have Hhas := hid (hhas2 (by omega))
  have Hm2 := hid hm2
  clear hZ2 hz13 hz2 hgr hb2 hb3 g0 hhas2 hm2 hmap2 hb1 c2 c6 l2 l6 hW1 hgw
  refine wpIn_loop (fun a' wr => ∃ (ds : List Deferred) (u3 u4 u5 u7 u8 u11 u12 u13 u14 u15 u16 u17 u18 u19 u20 u21 u22 u23 u24 u25 u26 u27 u28 u29 u30 u31 u32 u33 u34 u35 u38 u39 u40 u41 u42 u43 u44 u45 u46 u47 u48 u49 u50 u51 u52 u53 u54 u55 u56 u57 u58 u59 u60 u61 u62 u63 u64 u65 u66 u67 u68 u69 u70 u71 u72 u73 u74 u75 u76 u77 u78 u79 u80 u81 u82 u83 u84 u85 u86 u87 u88 u89 u90 u91 u92 u93 u94 u95 u96 u97 u98 u99 u100 u101 u102 u103 u104 u105 u106 u107 u108 u109 u110 u111 u112 : Value), (∃ k : Nat, k ≤ n ∧ u38 = .int .i64 k ∧ LayInv p ks n a (w.heap.size + 1) Z2 (Z2 + 1) k wr ∧ Blk wr w.heap.size 71 #[.pointer (some ⟨g, 0, none⟩)] ∧ Blk wr (w.heap.size + 1 + 1) 112 #[.map (some (w.heap.size + 1))] ∧ Below w.heap.size w wr ∧ Z2 + 2 ≤ wr.heap.size ∧ Marks w.heap.size wr.heap.size wr ds) ∧ a' = { tmps := #[.pointer (some ⟨g, 0, none⟩), .int .i64 a, .pointer (some ⟨w.heap.size, 0, none⟩), u3, u4, u5, .pointer (some ⟨w.heap.size + 1 + 1, 0, none⟩), u7, u8, .pointer (some ⟨Z2, 0, none⟩), .pointer (some ⟨Z2 + 1, 0, none⟩), u11, u12, u13, u14, u15, u16, u17, u18, u19, u20, u21, u22, u23, u24, u25, u26, u27, u28, u29, u30, u31, u32, u33, u34, u35, .slice (some ⟨b, off, none⟩) n c, .int .i64 n, u38, u39, u40, u41, u42, u43, u44, u45, u46, u47, u48, u49, u50, u51, u52, u53, u54, u55, u56, u57, u58, u59, u60, u61, u62, u63, u64, u65, u66, u67, u68, u69, u70, u71, u72, u73, u74, u75, u76, u77, u78, u79, u80, u81, u82, u83, u84, u85, u86, u87, u88, u89, u90, u91, u92, u93, u94, u95, u96, u97, u98, u99, u100, u101, u102, u103, u104, u105, u106, u107, u108, u109, u110, u111, u112], defers := ds }) (fun a' wr => n - (intOf (a'.tmps.getD 38 undef)).toNat) ?_ ?_
  · (repeat apply Exists.intro); refine ⟨?_, rfl⟩
    refine ⟨0, by omega, rfl, ⟨a, [], m', D', .slice none 0 0, rfl, by simp, by omega, ⟨y0, by rw [List.drop_zero]; exact Hy.out⟩, fun _ => Hhas.out, ?_, hown3, hme2, HB10, HB9, World.ownsRow_nil _ _ _ _⟩, B2, B6, hbW3, by omega, Marks.nil _ _ _⟩
    have := Hm2.out
    rw [List.drop_zero] at this
    omega
  · intro _ wr hinv; obtain ⟨ds, hinv⟩ := hinv; obtain ⟨u3, hinv⟩ := hinv; obtain ⟨u4, hinv⟩ := hinv; obtain ⟨u5, hinv⟩ := hinv; obtain ⟨u7, hinv⟩ := hinv; obtain ⟨u8, hinv⟩ := hinv; obtain ⟨u11, hinv⟩ := hinv; obtain ⟨u12, hinv⟩ := hinv; obtain ⟨u13, hinv⟩ := hinv; obtain ⟨u14, hinv⟩ := hinv; obtain ⟨u15, hinv⟩ := hinv; obtain ⟨u16, hinv⟩ := hinv; obtain ⟨u17, hinv⟩ := hinv; obtain ⟨u18, hinv⟩ := hinv; obtain ⟨u19, hinv⟩ := hinv; obtain ⟨u20, hinv⟩ := hinv; obtain ⟨u21, hinv⟩ := hinv; obtain ⟨u22, hinv⟩ := hinv; obtain ⟨u23, hinv⟩ := hinv; obtain ⟨u24, hinv⟩ := hinv; obtain ⟨u25, hinv⟩ := hinv; obtain ⟨u26, hinv⟩ := hinv; obtain ⟨u27, hinv⟩ := hinv; obtain ⟨u28, hinv⟩ := hinv; obtain ⟨u29, hinv⟩ := hinv; obtain ⟨u30, hinv⟩ := hinv; obtain ⟨u31, hinv⟩ := hinv; obtain ⟨u32, hinv⟩ := hinv; obtain ⟨u33, hinv⟩ := hinv; obtain ⟨u34, hinv⟩ := hinv; obtain ⟨u35, hinv⟩ := hinv; obtain ⟨u38, hinv⟩ := hinv; obtain ⟨u39, hinv⟩ := hinv; obtain ⟨u40, hinv⟩ := hinv; obtain ⟨u41, hinv⟩ := hinv; obtain ⟨u42, hinv⟩ := hinv; obtain ⟨u43, hinv⟩ := hinv; obtain ⟨u44, hinv⟩ := hinv; obtain ⟨u45, hinv⟩ := hinv; obtain ⟨u46, hinv⟩ := hinv; obtain ⟨u47, hinv⟩ := hinv; obtain ⟨u48, hinv⟩ := hinv; obtain ⟨u49, hinv⟩ := hinv; obtain ⟨u50, hinv⟩ := hinv; obtain ⟨u51, hinv⟩ := hinv; obtain ⟨u52, hinv⟩ := hinv; obtain ⟨u53, hinv⟩ := hinv; obtain ⟨u54, hinv⟩ := hinv; obtain ⟨u55, hinv⟩ := hinv; obtain ⟨u56, hinv⟩ := hinv; obtain ⟨u57, hinv⟩ := hinv; obtain ⟨u58, hinv⟩ := hinv; obtain ⟨u59, hinv⟩ := hinv; obtain ⟨u60, hinv⟩ := hinv; obtain ⟨u61, hinv⟩ := hinv; obtain ⟨u62, hinv⟩ := hinv; obtain ⟨u63, hinv⟩ := hinv; obtain ⟨u64, hinv⟩ := hinv; obtain ⟨u65, hinv⟩ := hinv; obtain ⟨u66, hinv⟩ := hinv; obtain ⟨u67, hinv⟩ := hinv; obtain ⟨u68, hinv⟩ := hinv; obtain ⟨u69, hinv⟩ := hinv; obtain ⟨u70, hinv⟩ := hinv; obtain ⟨u71, hinv⟩ := hinv; obtain ⟨u72, hinv⟩ := hinv; obtain ⟨u73, hinv⟩ := hinv; obtain ⟨u74, hinv⟩ := hinv; obtain ⟨u75, hinv⟩ := hinv; obtain ⟨u76, hinv⟩ := hinv; obtain ⟨u77, hinv⟩ := hinv; obtain ⟨u78, hinv⟩ := hinv; obtain ⟨u79, hinv⟩ := hinv; obtain ⟨u80, hinv⟩ := hinv; obtain ⟨u81, hinv⟩ := hinv; obtain ⟨u82, hinv⟩ := hinv; obtain ⟨u83, hinv⟩ := hinv; obtain ⟨u84, hinv⟩ := hinv; obtain ⟨u85, hinv⟩ := hinv; obtain ⟨u86, hinv⟩ := hinv; obtain ⟨u87, hinv⟩ := hinv; obtain ⟨u88, hinv⟩ := hinv; obtain ⟨u89, hinv⟩ := hinv; obtain ⟨u90, hinv⟩ := hinv; obtain ⟨u91, hinv⟩ := hinv; obtain ⟨u92, hinv⟩ := hinv; obtain ⟨u93, hinv⟩ := hinv; obtain ⟨u94, hinv⟩ := hinv; obtain ⟨u95, hinv⟩ := hinv; obtain ⟨u96, hinv⟩ := hinv; obtain ⟨u97, hinv⟩ := hinv; obtain ⟨u98, hinv⟩ := hinv; obtain ⟨u99, hinv⟩ := hinv; obtain ⟨u100, hinv⟩ := hinv; obtain ⟨u101, hinv⟩ := hinv; obtain ⟨u102, hinv⟩ := hinv; obtain ⟨u103, hinv⟩ := hinv; obtain ⟨u104, hinv⟩ := hinv; obtain ⟨u105, hinv⟩ := hinv; obtain ⟨u106, hinv⟩ := hinv; obtain ⟨u107, hinv⟩ := hinv; obtain ⟨u108, hinv⟩ := hinv; obtain ⟨u109, hinv⟩ := hinv; obtain ⟨u110, hinv⟩ := hinv; obtain ⟨u111, hinv⟩ := hinv; obtain ⟨u112, hinv⟩ := hinv; obtain ⟨hrel, ha⟩ := hinv; subst ha; dsimp only
    obtain ⟨k, hk2, rfl, ⟨ak, o, mk, D, v9, ho1, ho2, ⟨hak1, hak2⟩, ⟨left, hleft⟩, hhas, hmk, hmap, hme, b10, b9, hrow⟩, b2, b6, hbw', hzr, hmarks⟩ := hrel
    obtain ⟨A9, c9, rfl, -⟩ := sl_of_owns hrow
    have hcap9 := own_cap hrow
    by_cases hlt : k < n
    · obtain ⟨b', off', kd, hbe, hb, hm0, c0, c1⟩ := hk.at_ hlt
      cases hbe
      have hdrop : ks.drop k = kd :: ks.drop (k + 1) := by
        have hl2 : k < ks.length := by omega
        rw [List.drop_eq_getElem_cons hl2]
        rw [List.getElem?_eq_getElem hl2] at hm0
        cases hm0; rfl
      have hok : okK kd = true := List.all_eq_true.1 (checkSet_good h0).2.2.1 kd (List.mem_of_getElem? hm0)
      have hkb := okK_le hok
      have Hm := hid hm0
      have Hdrop := hid hdrop
      have Hleft := hid hleft
      rw [hdrop] at hleft
      have hlb := few_bd' hp h0 k ak left Hleft.out
      have hkey := hid (key_klF (i := k) (a := ak) (by omega) (by omega) (by omega))
      have hlti : (k : Int) < n := by omega
      have w0 := ((bcell hbw').1 _ (off + k * 2) hb).trans c0
      have w1' := ((bcell hbw').1 _ (off + k * 2 + 1) hb).trans c1
      have c2 := b2.cell 0
      have c6 := b6.cell 0
      have c10 := b10.cell 0
      have c11 := b10.cell 1
      have l2 := b2.lt
      have l6 := b6.lt
      have l10 := b10.lt
      have Hme := hid hme
      have Hmk := hid hmk
      have Ho2 := hid ho2
      have Hhas2 := hid hhas
      have HF := HFWg
      clear hm0 hdrop hleft ho2 hmk HFW HFWg hmm c0 c1 B2 B6 HB9 HB10 hbW3 hown3 hme2 Hhas Hm2 Hz1 hz3
      gi_wp2
      have X11 : Blk ((wr.alloc (.cells #[.int .i64 (k : Int)] 3)).alloc (.cells #[.int .i64 kd.wt, .int .i64 kd.many] 61)) wr.heap.size 3 #[.int .i64 (k : Int)] := (Blk.new' rfl).alloc _
      have X12 : Blk ((wr.alloc (.cells #[.int .i64 (k : Int)] 3)).alloc (.cells #[.int .i64 kd.wt, .int .i64 kd.many] 61)) (wr.heap.size + 1) 61 #[.int .i64 kd.wt, .int .i64 kd.many] := Blk.new' (by first | (simp; done) | (simp; omega) | omega)
      have hba : Below wr.heap.size wr ((wr.alloc (.cells #[.int .i64 (k : Int)] 3)).alloc (.cells #[.int .i64 kd.wt, .int .i64 kd.many] 61)) := (by repeat' (first | with_reducible assumption | with_reducible exact Below.refl _ _ | refine Below.alloc ?_ ?_ _ | refine Below.setCell ?_ ?_ _ | refine Below.drew ?_ | refine below_drewN ?_ _ | (simp; done) | (simp; omega) | omega))
      have hza : ((wr.alloc (.cells #[.int .i64 (k : Int)] 3)).alloc (.cells #[.int .i64 kd.wt, .int .i64 kd.many] 61)).heap.size = wr.heap.size + 2 := by simp
      generalize ((wr.alloc (.cells #[.int .i64 (k : Int)] 3)).alloc (.cells #[.int .i64 kd.wt, .int .i64 kd.many] 61)) = Wa at *
      generalize hZr : wr.heap.size = Zr at *
      replace b2 := b2.below hba (by omega)
      replace b6 := b6.below hba (by omega)
      replace b9 := b9.below hba (by have := b9.lt; omega)
      replace b10 := b10.below hba (by omega)
      have hrow' := owns_below (w' := Wa) hrow (by rw [hZr]; exact hba)
      have hmap' := map_below (w' := Wa) hmap (by rw [hZr]; exact hba)
      have hbA : Below w.heap.size w Wa := hbw'.trans (hba.mono (by have := hbw'.size; omega))
      have hmA : Marks w.heap.size Zr Wa ds := hmarks.below hba (Nat.le_refl _)
      have hLk := look_run (i := k) (a := ak) (v := left) hmap' (by omega) (by omega) (by omega) (fun z => by rw [hme.ok k ak (by omega) (by omega) (by omega) (hhas hlt) z, nv_some Hleft.out])
      have Hza := hid hza
      have Hme := hid hme
      have l2 := b2.lt
      have l6 := b6.lt
      have l10 := b10.lt
      have l11 := X11.lt
      have l12 := X12.lt
      have l6' : w.heap.size + 1 + 1 < Wa.heap.size + 1 := by omega
      have c2 := b2.cell 0
      have c6 := b6.cell 0
      have c10 := b10.cell 0
      have c11 := b10.cell 1
      have d11 := X11.cell 0
      clear hmap hrow hmarks hza hme hhas
      refine wpIn_scope ?_
      gi_wp2
      refine wpIn_label ?_
      gi_wp2
      have X13 : Blk (Wa.alloc (.cells #[.int .i64 left] 2)) Wa.heap.size 2 #[.int .i64 left] := Blk.new' rfl
      have hbb : Below Wa.heap.size Wa (Wa.alloc (.cells #[.int .i64 left] 2)) := (by repeat' (first | with_reducible assumption | with_reducible exact Below.refl _ _ | refine Below.alloc ?_ ?_ _ | refine Below.setCell ?_ ?_ _ | refine Below.drew ?_ | refine below_drewN ?_ _ | (simp; done) | (simp; omega) | omega))
      have hzb : (Wa.alloc (.cells #[.int .i64 left] 2)).heap.size = Wa.heap.size + 1 := by simp
      generalize (Wa.alloc (.cells #[.int .i64 left] 2)) = Wb at *
      generalize hZa : Wa.heap.size = Za at *
      have hza2 := Hza.out
      replace b2 := b2.below hbb l2
      replace b6 := b6.below hbb l6
      replace b9 := b9.below hbb (by have := b9.lt; omega)
      replace b10 := b10.below hbb l10
      replace X11 := X11.below hbb l11
      replace X12 := X12.below hbb l12
      have hrowB := owns_below (w' := Wb) hrow' (by rw [hZa]; exact hbb)
      have hmapB := map_below (w' := Wb) hmap' (by rw [hZa]; exact hbb)
      have hbB : Below w.heap.size w Wb := hbA.trans (hbb.mono (by have := hbA.size; omega))
      have hmB : Marks w.heap.size Zr Wb ds := hmA.step (Nat.le_refl _) (fun D hD h => (hbb.block D (by omega)).trans h)
      have l2 := b2.lt
      have l11 := X11.lt
      have lgb : g < Wb.heap.size := Nat.lt_of_lt_of_le hg hbB.size
      have c2 := b2.cell 0
      have d11 := X11.cell 0
      have gs0 := ((bcell hbB).1 _ 0 hg).trans s0
      have gs1 := ((bcell hbB).1 _ 1 hg).trans s1
      have Hzb := hid hzb
      clear hrow' hmap' hmA hzb hLk c6 c10 c11 l6 l10 l6' hza2 hbA l12
      refine wpIn_region_hd 5 (fun W' => Below Wb.heap.size Wb W') (by kernel_rfl) (by kernel_rfl) ((Below.refl _ _).drew) ?_
      simp only [List.take_succ_cons, List.take_zero, List.drop_succ_cons, List.drop_zero]
      iterate 5 (refine wpHd_val (v := ?_) (by rfl) (fun W hW => ?_) ?_; rotate_left; (· obtain ⟨hcW, hfW⟩ := bcell hW; go_simp; with_reducible rfl); simp only [Act.put, List.setIfInBounds_toArray, List.set_cons_zero, List.set_cons_succ])
      refine wpHd_nil ?_
      intro W4 hW4
      have hz4 := hW4.size
      replace b2 := b2.below hW4 l2
      replace b6 := b6.below hW4 b6.lt
      replace b9 := b9.below hW4 b9.lt
      replace b10 := b10.below hW4 b10.lt
      replace X11 := X11.below hW4 l11
      replace X12 := X12.below hW4 X12.lt
      replace X13 := X13.below hW4 X13.lt
      have hrow4 := owns_below hrowB hW4
      have hmap4 := map_below hmapB hW4
      have hb4 : Below w.heap.size w W4 := hbB.trans (hW4.mono hbB.size)
      have hm4 : Marks w.heap.size Zr W4 ds := hmB.step (Nat.le_refl _) (fun D hD h => (hW4.block D (by have := Hza.out; have := Hzb.out; omega)).trans h)
      clear c2 d11 gs0 gs1 l2 l11 lgb hrowB hmapB hmB hW4
      gi_wp2_with (first | (gi_at_call 94; refine (calls_wd (numbers_any _ _ _ _ _ _)).mono ?_; rintro e w5 ⟨rfl, hw5⟩))
      obtain ⟨n₀, hn₀⟩ : ∃ n₀, w5.heap.size = n₀ := ⟨_, rfl⟩
      have hz5 : n₀ = W4.heap.size + 2 := by rw [← hn₀, ← hw5]; simp
      have hb45 : Below W4.heap.size W4 w5 := by rw [← hw5]; exact (by repeat' (first | with_reducible assumption | with_reducible exact Below.refl _ _ | refine Below.alloc ?_ ?_ _ | refine Below.setCell ?_ ?_ _ | refine Below.drew ?_ | refine below_drewN ?_ _ | (simp; done) | (simp; omega) | omega))
      have I0 : Blk w5 W4.heap.size 76 #[.slice (some ⟨b, off, none⟩) n c, .int .i64 p] := by rw [← hw5]; exact (Blk.new' rfl).alloc _
      have I1 : Blk w5 (W4.heap.size + 1) 3 #[.int .i64 (k : Int)] := by rw [← hw5]; exact Blk.new' (by first | (simp; done) | (simp; omega) | omega)
      have hZz : Zr + 3 ≤ W4.heap.size := by have := Hza.out; have := Hzb.out; omega
      replace b2 := b2.below hb45 b2.lt
      replace b6 := b6.below hb45 b6.lt
      replace b9 := b9.below hb45 b9.lt
      replace b10 := b10.below hb45 b10.lt
      replace X11 := X11.below hb45 X11.lt
      replace X12 := X12.below hb45 X12.lt
      replace X13 := X13.below hb45 X13.lt
      have hrow5 := owns_below hrow4 hb45
      have hmap5 := map_below hmap4 hb45
      have hb5 : Below w.heap.size w w5 := hb4.trans (hb45.mono hb4.size)
      have hm5 : Marks w.heap.size Zr w5 ds := hm4.step (Nat.le_refl _) (fun D hD h => (hb45.block D (by omega)).trans h)
      have hkk : KdS w5 n₀ (some ⟨b, off, none⟩) n ks := (hk.below hb5 (Nat.le_refl _)).more (by omega)
      obtain ⟨T, hT0⟩ : ∃ T, wrN p ks = T := ⟨_, rfl⟩
      rw [hT0] at hwrT
      have HT := hid hT0
      have HwT := hid hwrT
      clear hw5 hrow4 hmap4 hb45 hm4 hb4 hT0 hwrT
      refine with_frame fun TT hT => ?_
      refine wpIn_rangeFunc_ownH (F := Wd none) (n := 9) rfl (by omega) (gf := 98) (lb := #[.pointer (some ⟨W4.heap.size, 0, none⟩), .pointer (some ⟨W4.heap.size + 1, 0, none⟩)]) (by rw [hT]; rfl) trivial (enters_of Try.func98 (by kernel_rfl) rfl)
        (nums_stops 8 W4.heap.size (W4.heap.size + 1) n₀ (fun q => q = w.heap.size + 1) (some ⟨b, off, none⟩) n c k ks p kd Hm.out hok hp (by omega) (by omega) (by omega) (by omega) (fun b' off' e => by cases e; omega) w5 (by omega) (I0.cell 0) (I0.cell 1) (I1.cell 0) hkk)
        (fun h k => h.trans k) (KpG.putObj (by omega)) (Below.refl _ _) (fun _ => rfl)
        (NumInv p ks (w.heap.size + 1) mk T n₀ kd (ks.drop (k + 1)) ak left w w5)
        (NumExit p ks (w.heap.size + 1) mk T n₀ n k Z2 (Z2 + 1) kd (ks.drop (k + 1)) ak left o w w5)
        (fun s X Y rw_ hs hg hrow => NumInv.ownk hs hg (fun r e => by have := hrow r e; rw [hn₀] at this; exact this) (by omega) (by omega) (by omega)) (fun c s X Y rw_ hs hg hrow => NumExit.ownk hs hg (fun r e => by have := hrow r e; rw [hn₀] at this; exact this) (by omega) (by omega) (by omega))
        ⟨mk, D, by omega, hmap5, Hme.out, KpG.refl _ _ _, hb5, fun y hy => by cases hy⟩
        (fun x a' W => a' = { tmps := (TT.setIfInBounds 52 (.int .i64 x.1)).setIfInBounds 14 (.int .i64 x.1), defers := [] })
        (fun x a' s X Y rw_ hs hg hrow => hs) ?assign ?body ?done ?stop
      case assign =>
        rintro l pre x W K hI hK
        simp only [encN, hT]
        gi_wp2
        exact hK _ _ ((KeepsOthers.refl _).from _) (KpG.refl _ _ _) hI (by rw [hT]; rfl)
      case body =>
        rintro l pre x a' W hl _ ⟨m', D', hm', hmap, hme, hkp, hbW, hall⟩ rfl hltN
        obtain ⟨x, hx1, hx2⟩ := x
        have hlen5 : pre.length < 601 := Nat.lt_of_lt_of_le hltN (numsN_le hp hok).2.2.2
        have hzW : n₀ ≤ W.heap.size := by have := hkp.1; omega
        obtain ⟨sx, hsx⟩ : ∃ sx, x * kd.wt = sx := ⟨_, rfl⟩
        have hsx1 : -90000 ≤ sx ∧ sx ≤ 90000 := by
          have a1 : x * kd.wt ≤ 300 * kd.wt := Int.mul_le_mul_of_nonneg_right hx2 (by omega)
          have a2 : -300 * kd.wt ≤ x * kd.wt := Int.mul_le_mul_of_nonneg_right hx1 (by omega)
          omega
        have hpp2 : (pre ++ ([⟨x, hx1, hx2⟩] : List Nb)).length = pre.length + 1 := by rw [List.length_append]; rfl
        have hmT : m' + T ≤ mk + (pre.length + 1) * T := by rw [Nat.succ_mul]; omega
        have hmT2 : (pre.length + 1) * T ≤ 601 * T := Nat.mul_le_mul_right _ (by omega)
        have hmT3 : (1 + 601 * k) * T ≤ 4809 * T := Nat.mul_le_mul_right _ (by omega)
        have hmk1 : mk ≤ (1 + 601 * k) * T := by have := Hmk.out; rwa [HT.out] at this
        have hTd : wrN p (ks.drop (k + 1)) ≤ T := by have := hdrT.out (k + 1); rwa [HT.out] at this
        have hwT := HwT.out
        have zm : IntKind.i64.wrap (x * kd.wt) = sx := by rw [hsx]; exact wrap_ok (by omega)
        have zl : IntKind.i64.wrap (ak - sx) = ak - sx := wrap_ok (by omega)
        have e2 := hkp.blk b2 (by omega) (by omega)
        have e6 := hkp.blk b6 (by omega) (by omega)
        have e9 := hkp.blk b9 (by omega) (by omega)
        have e10 := hkp.blk b10 (by omega) (by omega)
        have e11 := hkp.blk X11 (by omega) (by omega)
        have e12 := hkp.blk X12 (by omega) (by omega)
        have e13 := hkp.blk X13 (by have := Hza.out; omega) (by have := Hza.out; omega)
        have l11 := e11.lt
        have l10 := e10.lt
        have l12 := e12.lt
        have r11 := e11.cell 0
        have r101 := e10.cell 1
        have r12 := e12.cell 0
        have Hsx := hid hsx
        obtain ⟨W6, hW6⟩ : ∃ W6, W.alloc (.cells #[.int .i64 ((k : Int) + 1), .int .i64 (ak - sx)] 115) = W6 := ⟨_, rfl⟩
        have Y15 : Blk W6 W.heap.size 115 #[.int .i64 ((k : Int) + 1), .int .i64 (ak - sx)] := by rw [← hW6]; exact Blk.new' rfl
        have hb6 : Below W.heap.size W W6 := by rw [← hW6]; exact (by repeat' (first | with_reducible assumption | with_reducible exact Below.refl _ _ | refine Below.alloc ?_ ?_ _ | refine Below.setCell ?_ ?_ _ | refine Below.drew ?_ | refine below_drewN ?_ _ | (simp; done) | (simp; omega) | omega))
        have hbw6 : Below w.heap.size w W6 := hbW.trans (hb6.mono hbW.size)
        have hmap6 := map_below hmap hb6
        have FW : Calls Try.prog 95 #[.pointer (some ⟨g, 0, none⟩), .agg #[.int .i64 ((k : Int) + 1), .int .i64 (ak - sx)], .map (some (w.heap.size + 1))] W6 (FewPost p ks n (w.heap.size + 1) (k + 1) (ak - sx) m' W6) := by
          have := HF.out (n - (k + 1)) (k + 1) (ak - sx) (by omega) (by omega) (by omega) W6 m' D' (Nat.lt_of_lt_of_le hg hbw6.size) ⟨((bcell hbw6).1 _ 0 hg).trans s0, ((bcell hbw6).1 _ 1 hg).trans s1⟩ ((hk.below hbw6 (Nat.le_refl _)).more hbw6.size) hmap6 hme (by omega)
          rwa [Int.natCast_add, Int.natCast_one] at this
        have HFW := hid FW
        have f2 := e2.below hb6 e2.lt
        have f6 := e6.below hb6 e6.lt
        have d2 := f2.cell 0
        have d6 := f6.cell 0
        have d15 := Y15.cell 0
        have d15b := Y15.cell 1
        have k2 := f2.lt
        have k6 := f6.lt
        have k15 := Y15.lt
        simp only [hT, List.setIfInBounds_toArray, List.set_cons_zero, List.set_cons_succ]
        have Hn0 := hid hn₀
        have HTd := hid hTd
        clear FW hmT3 hmk1 hTd hwT hkk I0 I1 hn₀ hsx
        cases hfv : fewO p (ks.drop (k + 1)) (ak - sx) with
        | none =>
          have HV := hid hfv
          clear hfv
          gi_wp2_with (first | (gi_at_call 95; refine (calls_wd HFW.out).mono ?_; rintro e w7 ⟨v, ok, m2, D2, rfl, hok2, -, hm2, hmap7, hme7, -, hgr⟩; rw [HV.out] at hok2; have hok3 : ok = false := hok2; clear hok2; subst hok3))
          have hg67 : W.grownBy w7 (some (w.heap.size + 1)) := grownM_trans (grownM_below hb6) hgr (fun r e => .inr (Option.some.inj e).symm)
          have hk7 : KpG n₀ (fun q => q = w.heap.size + 1) W w7 := kpg_grownM hg67 hzW rfl
          refine ⟨KeepsFrom.of_grownBy hg67 (fun j e => by cases e; have := Hn0.out; omega), hk7, m2, D2, by rw [hpp2]; have := HTd.out; omega, hmap7, hme7, hkp.trans hk7, hbW.grown hg67 hbW.size (fun r e => by cases e; omega), fun y hy => ?_⟩
          rcases List.mem_append.1 hy with h | h
          · exact hall y h
          · rw [List.mem_singleton.1 h]; exact good_none (by rw [show x * kd.wt = sx from Hsx.out]; exact HV.out)
        | some y =>
          have HV := hid hfv
          have hyb := few_bd' hp h0 (k + 1) (ak - sx) y hfv
          have zn : IntKind.i64.wrap (-x) = -x := wrap_ok (by omega)
          have zy : IntKind.i64.wrap (y + max x (-x)) = y + max x (-x) := wrap_ok (by omega)
          have hgv : goodB p (ks.drop (k + 1)) kd ak left x = (y + max x (-x) == left) := good_of (by rw [show x * kd.wt = sx from Hsx.out]; exact hfv)
          have Hgv := hid hgv
          clear hfv hgv
          cases hgd : (y + max x (-x) != left)
          · have Hgd := hid hgd
            obtain ⟨i0, hi0, hi1, hi2, hi3⟩ := info_parts' info2
            have J0 := hid hi0; have J1 := hid hi1; have J2 := hid hi2; have J3 := hid hi3
            clear hi0 hi1 hi2 hi3
            have hroW := KpG.owns hkp hrow5 (by rw [Hn0.out]; exact Nat.le_refl _) (fun q hq => by omega)
            have hxs := hid (show (o.flatMap cI).length = k * 1 by rw [flatI_len', ho1, Nat.mul_one])
            gi_wp2_with (first | (gi_at_call 95; refine (calls_wd HFW.out).mono ?_; rintro e w7 ⟨v, ok, m2, D2, rfl, hok2, hv2, hm2, hmap7, hme7, hhas7, hgr⟩; rw [HV.out] at hok2; have hok3 : ok = true := hok2; clear hok2; subst hok3; have hv3 : v = y := hv2 y HV.out; clear hv2; subst hv3; have hg67 : W.grownBy w7 (some (w.heap.size + 1)) := grownM_trans (grownM_below hb6) hgr (fun r e => .inr (Option.some.inj e).symm); have hz7 := hg67.size; have E13 := e13.grown hg67 (fun e => by have := Option.some.inj e; have := Hza.out; omega); have E9 := e9.grown hg67 (fun e => by have := Option.some.inj e; omega); have E10 := e10.grown hg67 (fun e => by have := Option.some.inj e; omega); have E6 := e6.grown hg67 (fun e => by have := Option.some.inj e; omega); have E15 := Y15.grown hgr (fun e => by have := Option.some.inj e; omega); have q13 := E13.cell 0; have q9 := E9.cell 0; have k13 := E13.lt; have k9 := E9.lt; have hrow7 := hid (hroW.kept hg67 (by rcases hroW.2 with ⟨h, -⟩ | ⟨g', cap, cur, e1, h1, -⟩; exact .inl (by rw [h]; rfl); exact .inr (by rw [e1]; intro e; have e2 : some g' = some (w.heap.size + 1) := e; have := Option.some.inj e2; omega))); have hmap7' := hid hmap7; clear hmap7) | (gi_at_builtin; refine wpListIn_append_cap rfl _ _ 23 rfl (Z2 + 1 + 1) 2 i0 _ 1 8 under23 J0.out J1.out J2.out J3.out rfl _ k (o.flatMap cI) rfl hxs.out (full_of_own (hrow7.out.alloc (.cells #[.int .i64 x] 2))) ⟨w7.heap.size, 0, none⟩ 1 1 [.int .i64 x] rfl rfl (fun j u hj => World.news_of_block (Blk.new' rfl) j u hj) (by decide) (by unfold maxLen; omega) (by omega) (by simp; omega) ?_; intro cap8 w8 ho8 hg8 hz8; have hb78 : Below w7.heap.size w7 w8 := below_grown0 ((Below.refl _ _).alloc (Nat.le_refl _) _) hg8 (Nat.le_refl _); replace E9 := E9.below hb78 E9.lt; replace E10 := E10.below hb78 E10.lt; replace E6 := E6.below hb78 E6.lt; replace E15 := E15.below hb78 E15.lt; have k9b := E9.lt; have q9b := E9.cell 0; have f9b := E9.frozen 0; rw [World.size_alloc] at ho8 ⊢; obtain ⟨w9, hw9⟩ : ∃ w9, w8.setCell ⟨Z2, 0, none⟩ (.slice (some ⟨w7.heap.size + 1, 0, none⟩) (k + 1) cap8) = w9 := ⟨_, rfl⟩; have E9' : Blk w9 Z2 23 #[.slice (some ⟨w7.heap.size + 1, 0, none⟩) (k + 1) cap8] := by { rw [← hw9]; exact E9.set_ 0 _ }; have E10' : Blk w9 (Z2 + 1) 115 _ := by { rw [← hw9]; exact E10.far (by simp) _ }; have E6' : Blk w9 (w.heap.size + 1 + 1) 112 _ := by { rw [← hw9]; exact E6.far (by simp; omega) _ }; have E15' : Blk w9 W.heap.size 115 _ := by { rw [← hw9]; exact E15.far (by simp; omega) _ }; have ho9 : w9.ownsRow (Z2 + 1 + 1) 2 1 (.slice (some ⟨w7.heap.size + 1, 0, none⟩) (k + 1) cap8) (k + 1) (o.flatMap cI ++ [.int .i64 x]) := by { rw [← hw9]; exact own_set2 ho8 E9 _ }; have hmap9 := hid (show w9.ownsMap Try.prog 115 (plainElem (H := Unit) Try.prog 2) (w.heap.size + 1) m2 D2 by { rw [← hw9]; exact (map_below hmap7'.out hb78).setCell (by simp; omega) _ }); have q10 := E10'.cell 0; have q11 := E10'.cell 1; have q6 := E6'.cell 0; have k6 := E6'.lt; have k10 := E10'.lt; have k15' := E15'.lt) | (gi_at_delete; refine wpListIn_delete_own _ rfl _ _ 112 115 rfl 2 K115 under112 _ (w.heap.size + 1) m2 D2 rfl hmap9.out _ (klF k ak) rfl hkey.out ?_; intro w10 hmap10 hturn; have hg10 := turned_grown hturn; have hz10 := hg10.size; have F10 := E10'.grown hg10 (fun e => by have := Option.some.inj e; omega); have F15 := E15'.grown hg10 (fun e => by have := Option.some.inj e; omega); have F9 := E9'.grown hg10 (fun e => by have := Option.some.inj e; omega); have p15 := F15.cell 0; have p15b := F15.cell 1; have j15 := F15.lt; have p10 := F10.cell 0; have p11 := F10.cell 1; have fz10 := F10.frozen 0; have fz11 := F10.frozen 1; have j10 := F10.lt))
            have hB7 : Below w.heap.size w w7 := hbW.grown hg67 hbW.size (fun r e => by cases e; omega)
            have hB9 : Below w.heap.size w w9 := by rw [← hw9]; exact (hB7.trans (hb78.mono hB7.size)).setCell (by simp; omega) _
            have hB10 : Below w.heap.size w w10 := hB9.grown hg10 hB9.size (fun r e => by cases e; omega)
            have hK7 : KpG n₀ (fun q => q = w.heap.size + 1 ∨ q = Z2 ∨ q = Z2 + 1) w5 w7 := (KpG.trans (⟨hkp.1, fun q hq hG => hkp.2 q hq (fun e => hG (Or.inl e))⟩ : KpG n₀ (fun q => q = w.heap.size + 1 ∨ q = Z2 ∨ q = Z2 + 1) w5 W) (kpg_grownM hg67 hzW (Or.inl rfl)))
            have hK8 := hK7.trans (KpG.of_below (hb78.mono (by omega)))
            have hK9 : KpG n₀ (fun q => q = w.heap.size + 1 ∨ q = Z2 ∨ q = Z2 + 1) w5 w9 := by rw [← hw9]; exact hK8.trans (KpG.setCell _ (Or.inr (Or.inl rfl)) _)
            have hK10 := hK9.trans (kpg_grownM hg10 (by have := hK9.1; have := Hn0.out; omega) (Or.inl rfl))
            have hF9 : KeepsFrom w5.heap.size W w9 := by rw [← hw9]; exact ((KeepsFrom.of_grownBy hg67 (fun j e => by cases e; have := Hn0.out; omega)).trans (keepsFrom_below hb78)).trans ((KeepsOthers.setCell _ _ _).from _)
            have hF10 := hF9.trans (KeepsFrom.of_grownBy (B := w5.heap.size) hg10 (fun j e => by cases e; have := Hn0.out; omega))
            refine ⟨(hF10.trans ((KeepsOthers.setCell _ _ _).from _)).trans ((KeepsOthers.setCell _ _ _).from _), rfl, ⟨x, hx1, hx2⟩, pre, rfl, hall, ?_, m2, _, w7.heap.size + 1, cap8, by rw [hpp2]; have := HTd.out; omega, (hmap10.setCell (by simp; omega) _).setCell (by simp; omega) _, hme7.del (by omega) (by omega) (by omega) (by omega), fun hk1 => ?_, (F9.far (by simp) _).far (by simp) _, ?_, ?_, (hK10.trans (KpG.setCell _ (Or.inr (Or.inr rfl)) _)).trans (KpG.setCell _ (Or.inr (Or.inr rfl)) _), (hB10.setCell (by simp; omega) _).setCell (by simp; omega) _⟩
            · rw [Hgv.out]
              have := Hgd.out
              simpa using this
            · show Maps.has (D2.del (klF k ak)) (klF (k + 1) (ak - x * kd.wt)) = true
              rw [Hsx.out, Maps.has_del_other (klF_ne (by omega) (by omega) (by omega) (by omega) (by omega) (by omega) (by omega))]
              exact hhas7 hk1
            · have h1 := ho9.kept hg10 (.inr (by intro e; have e2 : some (w7.heap.size + 1) = some (w.heap.size + 1) := e; have := Option.some.inj e2; omega))
              have h2 := own_set2 (own_set2 h1 F10 (o := 0) (.int .i64 ((k : Int) + 1))) (F10.set_ 0 (.int .i64 ((k : Int) + 1))) (o := 1) (.int .i64 (ak - sx))
              rw [List.flatMap_append]
              exact h2
            · have := (F10.set_ 0 (.int .i64 ((k : Int) + 1))).set_ 1 (.int .i64 (ak - sx))
              show Blk _ (Z2 + 1) 115 #[.int .i64 ((k + 1 : Nat) : Int), .int .i64 (ak - x * kd.wt)]
              rw [Hsx.out, Int.natCast_add, Int.natCast_one]
              exact this
          · have Hgd := hid hgd
            gi_wp2_with (first | (gi_at_call 95; refine (calls_wd HFW.out).mono ?_; rintro e w7 ⟨v, ok, m2, D2, rfl, hok2, hv2, hm2, hmap7, hme7, -, hgr⟩; rw [HV.out] at hok2; have hok3 : ok = true := hok2; clear hok2; subst hok3; have hv3 : v = y := hv2 y HV.out; clear hv2; subst hv3; have hg67 : W.grownBy w7 (some (w.heap.size + 1)) := grownM_trans (grownM_below hb6) hgr (fun r e => .inr (Option.some.inj e).symm); have q13 := (e13.grown hg67 (fun e => by have := Option.some.inj e; have := Hza.out; omega)).cell 0; have k13 := (e13.grown hg67 (fun e => by have := Option.some.inj e; have := Hza.out; omega)).lt))
            have hk7 : KpG n₀ (fun q => q = w.heap.size + 1) W w7 := kpg_grownM hg67 hzW rfl
            refine ⟨KeepsFrom.of_grownBy hg67 (fun j e => by cases e; have := Hn0.out; omega), hk7, m2, D2, by rw [hpp2]; have := HTd.out; omega, hmap7, hme7, hkp.trans hk7, hbW.grown hg67 hbW.size (fun r e => by cases e; omega), fun y hy => ?_⟩
            rcases List.mem_append.1 hy with h | h
            · exact hall y h
            · rw [List.mem_singleton.1 h]
              rw [Hgv.out]
              have := Hgd.out
              simpa using this
      case done =>
        rintro D1 ys W hD hys ⟨m', D', -, -, -, -, -, hall⟩ hK
        exfalso
        have hl := Hleft.out
        rw [Hdrop.out] at hl
        obtain ⟨j, hj, hgj⟩ := good_ex hl
        have := hall (numAt p kd j) (by rw [hys]; exact List.mem_map.2 ⟨j, List.mem_range.2 hj, rfl⟩)
        rw [numAt_v hp hok hj, hgj] at this
        cases this
      case stop =>
        rintro D1 c' pre W hD ⟨kk, hkk2, hpre⟩ ⟨rfl, x, pre0, hpx, hall, hgx, m', D', q, cap, hm', hmap9, hme9, hhas9, F9, ho9, F10, hK9, hB9⟩ hK
        have hkk1 : kk = pre0.length + 1 := by
          have := congrArg List.length hpx
          rw [hpre, upto_length, List.length_append] at this
          exact this
        subst hkk1
        rw [upto_succ] at hpre
        rw [hpre] at hpx
        obtain ⟨hp0, hpx1⟩ := List.append_inj' hpx rfl
        have hxv : x.1 = leastK p kd + (pre0.length : Int) := by
          have : numAt p kd pre0.length = x := by simpa using hpx1
          rw [← this]
          exact numAt_v hp hok (by omega)
        have hlay : layL p (ks.drop k) ak = x.1 :: layL p (ks.drop (k + 1)) (ak - x.1 * kd.wt) := by
          have hl := Hleft.out
          rw [Hdrop.out] at hl ⊢
          have := layL_at hl (j := pre0.length) (by have : pre0.length < numsN p kd := by { omega }; exact this) (by rw [← hxv]; exact hgx) (fun i hi => by
            rw [← numAt_v hp hok (show i < numsN p kd by omega)]
            exact hall _ (by rw [← hp0]; exact List.mem_map.2 ⟨i, List.mem_range.2 hi, rfl⟩))
          rw [this, ← hxv]
        obtain ⟨mv, hmv, -⟩ := good_some hgx
        have hnb : -300 ≤ ak - x.1 * kd.wt ∧ ak - x.1 * kd.wt ≤ 300 := by
          rcases Classical.em (-300 ≤ ak - x.1 * kd.wt ∧ ak - x.1 * kd.wt ≤ 300) with h5 | h5
          · exact h5
          · rw [few_far hp h0 (by omega)] at hmv; cases hmv
        have hpl : pre.length ≤ 601 := by rw [hpre, List.length_append]; have := (numsN_le hp hok).2.2.2; simp [upto]; omega
        have hmT : m' ≤ (1 + 601 * (k + 1)) * wrN p ks := by
          have h1 := Hmk.out
          rw [HT.out] at h1 ⊢
          have h2 : pre.length * T ≤ 601 * T := Nat.mul_le_mul_right _ hpl
          rw [show 1 + 601 * (k + 1) = (1 + 601 * k) + 601 by omega, Nat.add_mul]
          omega
        have e2 := hK9.blk b2 (by omega) (by omega)
        have e6 := hK9.blk b6 (by omega) (by omega)
        have e11 := hK9.blk X11 (by omega) (by omega)
        have hDW : D1 < W.heap.size := (Array.getElem?_eq_some_iff.1 hK).1
        have hm6 : Marks w.heap.size Zr W ds := hm5.step (Nat.le_refl _) (fun D hD h => (hK9.2 D (by omega) (fun e => by
          rcases e with e | e | e
          · subst e; obtain ⟨es, clock, h2, -⟩ := hmap5; rw [h2] at h; cases h
          · subst e; have h2 : w5.heap[D]? = _ := b9; rw [h2] at h; cases h
          · subst e; have h2 : w5.heap[Z2 + 1]? = _ := b10; rw [h2] at h; cases h)).trans h)
        have hm7 := (hm6.push (by omega : w.heap.size ≤ D1) (by omega) hK).step (M' := W.heap.size) (by omega) (fun _ _ h => h)
        have q9 := F9.cell 0
        have q11 := e11.cell 0
        have k9 := F9.lt
        have k11 := e11.lt
        have hne : ¬ ((k : Int) + 1 = k) := by omega
        have HH := hid (show LayInv p ks n a (w.heap.size + 1) Z2 (Z2 + 1) (k + 1) W from ⟨ak - x.1 * kd.wt, o ++ [x.1], m', D', _, by rw [List.length_append, ho1]; rfl, by rw [← Ho2.out, hlay, List.append_assoc]; rfl, hnb, ⟨mv, hmv⟩, hhas9, hmT, hmap9, hme9, F10, F9, ho9⟩)
        simp only [hT]
        clear hpre hpx hp0 hpx1 hlay
        gi_wp2
        simp only [Exit.noGoto]
        gi_wp2
        (first | exact ⟨⟨k + 1, by omega, by go_num, HH.out, e2, e6, hB9, by have := hK9.1; omega, hm7⟩, (by first | (simp [intOf]; omega) | (simp [intOf]; done))⟩ | (refine ⟨?_, ?_⟩; (focus ((repeat apply Exists.intro); refine ⟨?_, rfl⟩; exact ⟨k + 1, by omega, by go_num, HH.out, e2, e6, hB9, by have := hK9.1; omega, hm7⟩)); (first | (simp [intOf]; omega) | (simp [intOf]; done))))
    · obtain rfl : k = n := by omega
      have hdn : ks.drop k = [] := List.drop_of_length_le (by omega)
      have hoL : o = layL p ks a := by rw [← ho2, hdn]; simp [layL]
      obtain ⟨g9, cap9, hv9, hg9, hlt9⟩ := World.ownsRow.form hrow (by omega)
      cases hv9
      have r9 := b9.cell 0
      have r2 := b2.cell 0
      have l9 := b9.lt
      have l2 := b2.lt
      have hlti : ¬ (k : Int) < k := by omega
      have Hrow := hid hrow
      have HoL := hid hoL
      have Hmk := hid hmarks
      clear hrow hmap hme hmk ho2 hoL HFWg HFW hhas hleft hmarks hmm
      gi_wp2
      have hzz := hbw'.size
      have BZ : Blk (wr.alloc (.cells #[.int .i64 0, .int .i64 0, .int .i64 0, .int .i64 0, .int .i64 0, .int .i64 0, .int .i64 0, .int .i64 0] 117)) wr.heap.size 117 #[.int .i64 0, .int .i64 0, .int .i64 0, .int .i64 0, .int .i64 0, .int .i64 0, .int .i64 0, .int .i64 0] := Blk.new' rfl
      have hbz : Below wr.heap.size wr (wr.alloc (.cells #[.int .i64 0, .int .i64 0, .int .i64 0, .int .i64 0, .int .i64 0, .int .i64 0, .int .i64 0, .int .i64 0] 117)) := (by repeat' (first | with_reducible assumption | with_reducible exact Below.refl _ _ | refine Below.alloc ?_ ?_ _ | refine Below.setCell ?_ ?_ _ | refine Below.drew ?_ | refine below_drewN ?_ _ | (simp; done) | (simp; omega) | omega))
      generalize (wr.alloc (.cells #[.int .i64 0, .int .i64 0, .int .i64 0, .int .i64 0, .int .i64 0, .int .i64 0, .int .i64 0, .int .i64 0] 117)) = Wz at *
      have rz9 := (b9.below hbz l9).cell 0
      have rz2 := (b2.below hbz l2).cell 0
      have lz9 := (b9.below hbz l9).lt
      have lz := BZ.lt
      refine wpIn_region_hd 2 (fun W' => Below Wz.heap.size Wz W') (by kernel_rfl) (by kernel_rfl) ((Below.refl _ _).drew) ?_
      simp only [List.take_succ_cons, List.take_zero, List.drop_succ_cons, List.drop_zero]
      iterate 2 (refine wpHd_val (v := ?_) (by rfl) (fun W hW => ?_) ?_; rotate_left; (· obtain ⟨hcW, hfW⟩ := bcell hW; go_simp; with_reducible rfl); simp only [Act.put, List.setIfInBounds_toArray, List.set_cons_zero, List.set_cons_succ])
      refine wpHd_nil ?_
      intro Wy hWy
      have hby : Below wr.heap.size wr Wy := hbz.trans (hWy.mono hbz.size)
      have BY := BZ.below hWy lz
      have hLl : (o.flatMap cI).length = k := by rw [flatI_len', ho1]
      have HrowY := owns_below Hrow.out hby
      have hcp := run_copy_sz (P := Try.prog) Wy 23 23 3 2 1 wr.heap.size 0 8 8 ⟨g9, 0, none⟩ k c9 _ 117 (o.flatMap cI) under23 (by kernel_rfl) BY (by rw [hLl]; show k = min k 8 * 1; omega) (HrowY.cells (g := g9) rfl) (by rw [hLl]; simp; omega) (one_flatI _)
      have hBr := BY.row ((#[.int .i64 0, .int .i64 0, .int .i64 0, .int .i64 0, .int .i64 0, .int .i64 0, .int .i64 0, .int .i64 0] : Array Value).toList.take 0 ++ o.flatMap cI ++ (#[.int .i64 0, .int .i64 0, .int .i64 0, .int .i64 0, .int .i64 0, .int .i64 0, .int .i64 0, .int .i64 0] : Array Value).toList.drop (0 + (o.flatMap cI).length)).toArray
      have hbr := below_setRow hby (Nat.le_refl _) ((#[.int .i64 0, .int .i64 0, .int .i64 0, .int .i64 0, .int .i64 0, .int .i64 0, .int .i64 0, .int .i64 0] : Array Value).toList.take 0 ++ o.flatMap cI ++ (#[.int .i64 0, .int .i64 0, .int .i64 0, .int .i64 0, .int .i64 0, .int .i64 0, .int .i64 0, .int .i64 0] : Array Value).toList.drop (0 + (o.flatMap cI).length)).toArray
      generalize hWx : Wy.setRow wr.heap.size _ = Wx at *
      have hWx2 := hWx
      obtain ⟨f8, hf8⟩ : ∃ f8 : Nat → Int, f8 = fun j => ((o ++ List.replicate (8 - k) (0 : Int))[j]?).getD 0 := ⟨_, rfl⟩
      have hcells : ∀ j, j < 8 → Wx.cell? ⟨wr.heap.size, j, none⟩ = some (.int .i64 (f8 j)) := by
        intro j hj
        rw [hBr.cell, hf8]
        have e : ((#[.int .i64 0, .int .i64 0, .int .i64 0, .int .i64 0, .int .i64 0, .int .i64 0, .int .i64 0, .int .i64 0] : Array Value).toList.take 0 ++ o.flatMap cI ++ (#[.int .i64 0, .int .i64 0, .int .i64 0, .int .i64 0, .int .i64 0, .int .i64 0, .int .i64 0, .int .i64 0] : Array Value).toList.drop (0 + (o.flatMap cI).length)) = (o ++ List.replicate (8 - k) (0 : Int)).flatMap cI := by
          rw [hLl, Nat.zero_add, List.take_zero, List.nil_append, List.flatMap_append]
          congr 1
          have e2 : (#[.int .i64 0, .int .i64 0, .int .i64 0, .int .i64 0, .int .i64 0, .int .i64 0, .int .i64 0, .int .i64 0] : Array Value).toList = List.replicate 8 (.int .i64 0) := rfl
          rw [e2, List.drop_replicate]
          clear hk2 hlti
          generalize 8 - k = m8
          induction m8 with
          | zero => rfl
          | succ m8 ih => rw [List.replicate_succ, List.replicate_succ, List.flatMap_cons, ih]; rfl
        rw [e, List.getElem?_toArray, flatI_get]
        have hj2 : j < (o ++ List.replicate (8 - k) (0 : Int)).length := by rw [List.length_append, List.length_replicate, ho1]; omega
        simp only [List.getElem?_eq_getElem hj2, Option.map_some, Option.getD_some]
      have x0 := hcells 0 (by omega)
      have x1 := hcells 1 (by omega)
      have x2 := hcells 2 (by omega)
      have x3 := hcells 3 (by omega)
      have x4 := hcells 4 (by omega)
      have x5 := hcells 5 (by omega)
      have x6 := hcells 6 (by omega)
      have x7 := hcells 7 (by omega)
      have Hf8 := hid hf8
      have Hbr := hid hbr
      have hwr : Below wr.heap.size wr Wx := hbr
      clear hcells hf8 hbr hWx
      have heq := eq117 Wx 9998 f8
      have hall : ((List.range 8).all fun j => f8 j == 0) = true → o = List.replicate k 0 := by
        intro h
        apply List.ext_getElem?
        intro j
        rw [List.getElem?_replicate]
        rcases Nat.lt_or_ge j k with hj | hj
        · rw [if_pos hj]
          have h2 := List.all_eq_true.1 h j (List.mem_range.2 (by omega))
          have h3 : f8 j = 0 := by simpa using h2
          rw [Hf8.out] at h3
          have hj2 : j < o.length := by omega
          simp only [List.getElem?_append_left hj2, List.getElem?_eq_getElem hj2, Option.getD_some] at h3
          rw [List.getElem?_eq_getElem hj2, h3]
        · rw [if_neg (by omega), List.getElem?_eq_none (by omega)]
      have Hall := hid hall
      have gy2 := ((bcell hWy).1 _ 0 (Nat.lt_of_lt_of_le l2 hbz.size)).trans rz2
      have gy9 := ((bcell hWy).1 _ 0 lz9).trans rz9
      have hne2 : w.heap.size ≠ wr.heap.size := by omega
      have hxx : Below wr.heap.size Wy Wx := by rw [← hWx2]; exact below_setRow (Below.refl _ _) (Nat.le_refl _) _
      have gx2 := ((bcell hxx).1 w.heap.size 0 l2).trans gy2
      have gx9 := ((bcell hxx).1 Z2 0 l9).trans gy9
      have hgwr : g < wr.heap.size := Nat.lt_of_lt_of_le hg hbw'.size
      have gg0 := ((bcell Hbr.out).1 g 0 hgwr)
      have gs0 := ((bcell hbw').1 g 0 hg).trans s0
      have gx0 := gg0.trans gs0
      have hlx : wr.heap.size ≤ Wx.heap.size := Hbr.out.size
      have lx2 := Nat.lt_of_lt_of_le l2 hlx
      have lx9 := Nat.lt_of_lt_of_le l9 hlx
      have lxg := Nat.lt_of_lt_of_le hgwr hlx
      clear hall gg0 gs0
      cases hb8 : ((List.range 8).all fun j => f8 j == 0)
      · rw [hb8] at heq
        gi_wp2
        have hmx := Hmk.out.below Hbr.out hlx
        have hrx := owns_below Hrow.out Hbr.out
        refine hmx.leaves (fun Ds w' hDs ho => ⟨.tuple #[.slice (some ⟨g9, 0, none⟩) k c9, .bool true], by simp [results, Try.results83, go_sem], ⟨g9, ⟨c9, rfl⟩, ?_⟩, ho.below (hbw'.trans (Hbr.out.mono hbw'.size)) hDs⟩)
        rw [← HoL.out]
        exact Sl.of_own (own_off hrx ho)
      · rw [hb8] at heq
        have hmk := make_i64 (L := k) (by omega)
        gi_wp2
        have hmx := (Hmk.out.below Hbr.out hlx).below (Below.alloc (Below.refl _ _) (Nat.le_refl _) (.cells (madeCells #[.int .i64 0] k) 2)) (Nat.le_succ _)
        have hbl : Below w.heap.size w (Wx.alloc (.cells (madeCells #[.int .i64 0] k) 2)) := (hbw'.trans (Hbr.out.mono hbw'.size)).alloc (by omega) _
        have hnew : Blk (Wx.alloc (.cells (madeCells #[.int .i64 0] k) 2)) Wx.heap.size 2 (madeCells #[.int .i64 0] k) := Blk.new _ _ _
        refine hmx.leaves (fun Ds w' hDs ho => ⟨.tuple #[.slice (some ⟨Wx.heap.size, 0, none⟩) k k, .bool true], by simp [results, Try.results83, go_sem], ⟨Wx.heap.size, ⟨k, rfl⟩, ?_⟩, ho.below hbl hDs⟩)
        rw [← HoL.out, Hall.out hb8]
        have h2 : Blk w' Wx.heap.size 2 (madeCells #[.int .i64 0] k) := ho.blk hnew
        rw [made_row] at h2
        have h3 := ins_blk h2 h2.lt
        rw [rowOf_len] at h3
        have e : (rowOf k fun _ => (0 : Int)) = List.replicate k 0 := by
          unfold rowOf
          rw [List.map_const']; simp
        rwa [e] at h3
end Go.Proofs.Ytolghmhodaphfaa
