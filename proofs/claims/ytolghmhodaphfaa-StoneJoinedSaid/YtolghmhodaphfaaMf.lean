/- Texts of the proof, laid together by program. -/
import Derived.Test.YtolghmhodaphfaaMe
import Derived.Maps.OwnIn
import Derived.Maps.OwnSet
import Derived.Maps.OwnOps
import Derived.DeepKeys4
import Derived.RangeFuncNested
import Derived.Shelf.Abstract
/- Keys of the memory of few; the best of several; what is known of the memory. -/
namespace Go.Proofs.Ytolghmhodaphfaa
open Go.RowKit Go.WideMaps
open Go.Maps (Keyed)
attribute [local go_sem] Oper.semAt_some
theorem laidOut : laidOutB Try.prog = true := by kernel_rfl
set_option maxRecDepth 100000 in
theorem row115 : (115 : TypeId) < Try.prog.types.size := by
  have : decide ((115 : TypeId) < Try.prog.types.size) = true := by kernel_rfl
  exact of_decide_eq_true this
set_option maxRecDepth 100000 in
theorem wide115 : (match Try.prog.underlying 115 with | some (.array _ _) | some (.struct _) => true | _ => false) = true := by kernel_rfl
set_option maxRecDepth 100000 in
theorem law115 : KeyLaw Try.prog 115 := deep_law_laid laidOut (m := 2) (by omega) row115 (by kernel_rfl) wide115
theorem K115 : Keyed Try.prog 115 := Maps.Keyed.of_law law115
theorem under112 : Try.prog.underlying 112 = some (.map 115 2) := by kernel_rfl
theorem under2 : Try.prog.underlying 2 = some (.int .i64) := by kernel_rfl
theorem under3 : Try.prog.underlying 3 = some (.int .i64) := by kernel_rfl
def klF (i : Nat) (a : Int) : Lit := .string (keyBytes [.int .i64 (i : Int), .int .i64 a])
theorem wf_i64 {a : Int} (h1 : -1000000 ≤ a) (h2 : a ≤ 1000000) : (Lit.int .i64 a).wf = true := by
  simp [Lit.wf, IntKind.min, IntKind.max, IntKind.signed, IntKind.bits]
  omega
set_option maxRecDepth 100000 in
theorem key_klF {i : Nat} {a : Int} (hi : i ≤ 100) (h1 : -100000 ≤ a) (h2 : a ≤ 100000) : keyOf Try.prog 115 (.agg #[.int .i64 (i : Int), .int .i64 a]) = some (klF i a) := by
  have hf : (match Try.prog.underlying 115 with | some (.struct fs) => fs.toList.map (fun f => (f.type, f.offset, f.name != "_")) | _ => []) = [(3, 0, true), (2, 1, true)] := by kernel_rfl
  have hkt : Try.prog.keyType 115 = true := by kernel_rfl
  have c115 : Try.prog.cellsOf 115 = 2 := by kernel_rfl
  have c3 : Try.prog.cellsOf 3 = 1 := by kernel_rfl
  have c2 : Try.prog.cellsOf 2 = 1 := by kernel_rfl
  obtain ⟨d, hd⟩ : ∃ d, Try.prog.types.size + 1 = d + 2 := ⟨Try.prog.types.size - 1, by have h := row115; have h2 : 115 < Try.prog.types.size := h; omega⟩
  have w1 : (Lit.int .i64 (i : Int)).wf = true := wf_i64 (by omega) (by omega)
  have w2 : (Lit.int .i64 a).wf = true := wf_i64 (by omega) (by omega)
  have hcs : keyOf Try.prog 115 (.agg #[.int .i64 (i : Int), .int .i64 a]) = (match Try.prog.underlying 115 with | some (.array _ _) | some (.struct _) => (Try.prog.keyLits (d + 2) 115 [.int .i64 (i : Int), .int .i64 a]).map fun ls => .string (keyBytes ls) | _ => mapKey Try.prog 115 (.agg #[.int .i64 (i : Int), .int .i64 a])) := by
    unfold keyOf
    rw [hkt, hd]
    have hform : Value.formed Try.prog 115 (.agg #[.int .i64 (i : Int), .int .i64 a]) = true := by
      have hw := wide115
      unfold Value.formed
      revert hw
      cases Try.prog.underlying 115 with
      | none => intro h; cases h
      | some T => cases T <;> intro h <;> first | (simp [c115]; done) | (cases h)
    rw [hform]
    rfl
  rw [hcs]
  have hkl : ∀ (fs : Array Field), Try.prog.underlying 115 = some (.struct fs) → fs.toList.map (fun f => (f.type, f.offset, f.name != "_")) = [(3, 0, true), (2, 1, true)] → Try.prog.keyLits (d + 2) 115 [.int .i64 (i : Int), .int .i64 a] = some [.int .i64 (i : Int), .int .i64 a] := by
    intro fs hu hfs
    obtain ⟨fl⟩ := fs
    rcases fl with _ | ⟨f1, _ | ⟨f2, _ | ⟨f3, r⟩⟩⟩
    · simp at hfs
    · simp at hfs
    · simp only [List.map_cons, List.map_nil, List.cons.injEq, Prod.mk.injEq, and_true] at hfs
      obtain ⟨⟨a1, a2, a3⟩, b1, b2, b3⟩ := hfs
      unfold Program.keyLits
      rw [hu]
      simp only [List.length_cons, List.length_nil, c115, List.all_toArray, List.all_cons, List.all_nil, a3, b3, Bool.and_true, and_self, if_true, List.mapM_cons, List.mapM_nil, a1, a2, b1, b2, c2, c3, List.drop_zero, List.drop_succ_cons, List.take_succ_cons, List.take_zero]
      unfold Program.keyLits
      simp only [under2, under3, w1, w2, and_self, if_true]
      rfl
    · simp at hfs
  revert hf hkl
  cases Try.prog.underlying 115 with
  | none => intro hf; cases hf
  | some T =>
    cases T with
    | struct fs => intro hf hkl; rw [hkl fs rfl hf]; rfl
    | _ => intro hf; cases hf
theorem klF_ne {i j : Nat} {a b : Int} (hi : i ≤ 100) (h1 : -100000 ≤ a) (h2 : a ≤ 100000) (hj : j ≤ 100) (h3 : -100000 ≤ b) (h4 : b ≤ 100000) (hne : ¬ (i = j ∧ a = b)) : klF i a ≠ klF j b := by
  intro e
  have x := key_klF hi h1 h2
  have y := key_klF hj h3 h4
  rw [e] at x
  have := K115.inj x y
  injection this with this
  simp only [Array.mk.injEq, List.cons.injEq, Value.int.injEq, true_and, and_true] at this
  exact hne ⟨by omega, this.2⟩
end Go.Proofs.Ytolghmhodaphfaa
/- Plain law: few, as the program's memory tells it. No program in sight. -/
namespace Go.Proofs.Ytolghmhodaphfaa
/-- What is told for "there is none". -/
def nv (o : Option Int) : Int := o.getD 1073741824
def bestI : List Int → Int
  | [] => 0
  | x :: l => l.foldl (fun o y => if y < o then y else o) x
theorem bestI_snoc (x : Int) (l : List Int) (y : Int) : bestI (x :: l ++ [y]) = if y < bestI (x :: l) then y else bestI (x :: l) := by
  show (l ++ [y]).foldl _ x = _
  rw [List.foldl_append]; rfl
theorem bestI_take {l : List Int} {k : Nat} {y : Int} (h1 : 1 ≤ k) (h : l[k]? = some y) : bestI (l.take (k + 1)) = if y < bestI (l.take k) then y else bestI (l.take k) := by
  cases l with
  | nil => simp at h
  | cons x l =>
    obtain ⟨j, rfl⟩ : ∃ j, k = j + 1 := ⟨k - 1, by omega⟩
    rw [List.take_add_one, h]
    exact bestI_snoc x (l.take j) y
/-- What the program lists for the numbers that have come. -/
def allL (f : Int → Option Int) (l : List Int) : List Int := 1073741824 :: l.filterMap fun n => (f n).map (· + absI n)
def foldL (f : Int → Option Int) (l : List Int) : Option Int := l.foldl (stepF f) none
theorem allL_nil (f : Int → Option Int) : allL f [] = [1073741824] := rfl
theorem allL_none {f : Int → Option Int} {n : Int} (l : List Int) (h : f n = none) : allL f (l ++ [n]) = allL f l := by
  unfold allL; rw [List.filterMap_append]; simp [h]
theorem allL_some {f : Int → Option Int} {n m : Int} (l : List Int) (h : f n = some m) : allL f (l ++ [n]) = allL f l ++ [m + absI n] := by
  unfold allL; rw [List.filterMap_append]; simp [h]
theorem foldL_none {f : Int → Option Int} {n : Int} (l : List Int) (h : f n = none) : foldL f (l ++ [n]) = foldL f l := by
  unfold foldL; rw [List.foldl_append]; simp [stepF, h]
theorem foldL_some {f : Int → Option Int} {n m : Int} (l : List Int) (h : f n = some m) : foldL f (l ++ [n]) = minO (foldL f l) (m + absI n) := by
  unfold foldL; rw [List.foldl_append]; simp [stepF, h]
theorem nv_min {o : Option Int} {x : Int} (hx : x < 1073741824) (ho : ∀ y, o = some y → y < 1073741824) : nv (minO o x) = if x < nv o then x else nv o := by
  cases o with
  | none => show x = if x < 1073741824 then x else 1073741824; rw [if_pos hx]
  | some y =>
    have := ho y rfl
    show nv (if x < y then some x else some y) = if x < y then x else y
    by_cases h : x < y
    · rw [if_pos h, if_pos h]; rfl
    · rw [if_neg h, if_neg h]; rfl
theorem min_lt {o : Option Int} {x : Int} (hx : x < 1073741824) (ho : ∀ y, o = some y → y < 1073741824) : ∀ y, minO o x = some y → y < 1073741824 := by
  intro y hy
  obtain ⟨z, h1, -, h2 | h2, -⟩ := minO_some (o := o) (x := x)
  · rw [hy] at h1; cases h1; omega
  · rw [hy] at h1; cases h1; exact ho _ h2
theorem best_all {f : Int → Option Int} (hf : ∀ n m, f n = some m → m + absI n < 1073741824) : ∀ l : List Int, bestI (allL f l.reverse) = nv (foldL f l.reverse) ∧ ∀ y, foldL f l.reverse = some y → y < 1073741824
  | [] => ⟨rfl, fun y h => by cases h⟩
  | n :: l => by
    obtain ⟨h1, h2⟩ := best_all hf l
    rw [List.reverse_cons]
    cases hn : f n with
    | none => rw [allL_none _ hn, foldL_none _ hn]; exact ⟨h1, h2⟩
    | some m =>
      have h3 := hf n m hn
      rw [allL_some _ hn, foldL_some _ hn]
      refine ⟨?_, min_lt h3 h2⟩
      rw [nv_min h3 h2]
      have := bestI_snoc 1073741824 (l.reverse.filterMap fun n => (f n).map (· + absI n)) (m + absI n)
      have e : allL f l.reverse = 1073741824 :: (l.reverse.filterMap fun n => (f n).map (· + absI n)) := rfl
      rw [← e] at this
      rw [show allL f l.reverse ++ [m + absI n] = (1073741824 :: (l.reverse.filterMap fun n => (f n).map (· + absI n))) ++ [m + absI n] from rfl]
      rw [e] at h1
      rw [bestI_snoc, h1]
theorem best_allL {f : Int → Option Int} (hf : ∀ n m, f n = some m → m + absI n < 1073741824) (l : List Int) : bestI (allL f l) = nv (foldL f l) := by
  have := (best_all hf l.reverse).1
  rwa [List.reverse_reverse] at this
theorem foldL_few (p : Int) (k : Kd) (ks : List Kd) (a : Int) : foldL (fun n => fewO p ks (a - n * k.wt)) ((List.range (k.many - leastK p k + 1).toNat).map fun j : Nat => leastK p k + j) = fewO p (k :: ks) a := by
  show foldL _ _ = foldF _ _ _
  unfold foldL foldF
  rw [List.foldl_map]
/-- A lay's numbers are small. -/
theorem lay_uses {p : Int} (hp : p = 1 ∨ p = 2) : ∀ {ks : List Kd} {l : List Int}, ks.all okK = true → LayOk p ks l → uses l ≤ 300 * ks.length
  | [], [], _, _ => by simp [uses]
  | k :: ks, n :: l, h, ⟨h1, h2, h3⟩ => by
    simp only [List.all_cons, Bool.and_eq_true] at h
    have hk := okK_t.1 h.1
    have := lay_uses hp h.2 h3
    have e : uses (n :: l) = absI n + uses l := by unfold uses; simp
    rw [e, List.length_cons]
    have : absI n ≤ 300 := by
      unfold absI leastK at *
      rcases hp with rfl | rfl <;> omega
    omega
  | [], _ :: _, _, h => h.elim
  | _ :: _, [], _, h => h.elim
theorem few_bd {p : Int} (hp : p = 1 ∨ p = 2) {ks : List Kd} (h : ks.all okK = true) {a y : Int} (hy : fewO p ks a = some y) : 0 ≤ y ∧ y ≤ 300 * ks.length := by
  obtain ⟨l, h1, -, rfl⟩ := few_lay hy
  refine ⟨?_, lay_uses hp h h1⟩
  unfold uses
  clear h1 hy
  induction l with
  | nil => simp
  | cons n l ih => rw [List.map_cons, List.sum_cons]; have := absI_nonneg n; omega
/-- How often the memory can be written. -/
def wrN (p : Int) : List Kd → Nat
  | [] => 0
  | k :: ks => 1 + (k.many - leastK p k + 1).toNat * wrN p ks
theorem wrN_le {p : Int} (hp : p = 1 ∨ p = 2) : ∀ {ks : List Kd}, ks.all okK = true → wrN p ks + 1 ≤ pw (manys ks)
  | [], _ => by simp [wrN, manys, pw]
  | k :: ks, h => by
    simp only [List.all_cons, Bool.and_eq_true] at h
    have hk := okK_t.1 h.1
    have ih := wrN_le hp h.2
    show 1 + (k.many - leastK p k + 1).toNat * wrN p ks + 1 ≤ (2 * k.many.toNat + 1) * pw (manys ks)
    have hc : 2 ≤ (k.many - leastK p k + 1).toNat ∧ (k.many - leastK p k + 1).toNat ≤ 2 * k.many.toNat + 1 := by
      unfold leastK; rcases hp with rfl | rfl <;> omega
    have h1 : (k.many - leastK p k + 1).toNat * (wrN p ks + 1) ≤ (2 * k.many.toNat + 1) * pw (manys ks) := Nat.mul_le_mul hc.2 ih
    rw [Nat.mul_add, Nat.mul_one] at h1
    omega
end Go.Proofs.Ytolghmhodaphfaa
/- Walks: the best of several; what the memory holds. -/
namespace Go.Proofs.Ytolghmhodaphfaa
open Go.RowKit Go.WideMaps
open Go.Maps (Keyed)
attribute [local go_sem] Oper.semAt_some
theorem fclo_any (x y : Int) (w : World) : Calls Try.prog 99 #[.int .i64 x, .int .i64 y] w fun e w' => e = .returned (.bool (decide (x < y))) ∧ w = w' := by
  go_enter Try.func99, Try.ntmps99
  go_wp2
  go_ret
  exact ⟨rfl, rfl⟩
set_option maxHeartbeats 400000 in
theorem best_any (A : Option Addr) (n c : Nat) (l : List Int) (w : World) (hl : InS w w.heap.size A n l) (h1 : 1 ≤ n) (hn : n ≤ 1000) (hnc : n ≤ c) :
    Calls Try.prog 100 #[.slice A n c, .func (.func 99) #[] #[]] w fun e w' => e = .returned (.int .i64 (bestI l)) ∧ w = w' := by
  have hlen := hid hl.len
  obtain ⟨b, off, x0, rfl, hb, hm0, c0⟩ := hl.at_ (k := 0) h1
  have hst : Hid (bestI (l.take 1) = x0) := hid (by
    cases l with
    | nil => simp at hm0
    | cons y l => simp only [List.getElem?_cons_zero, Option.some.injEq] at hm0; subst hm0; rfl)
  clear hm0
  rw [Nat.add_zero] at c0
  have hn1 : ((n : Int) - 1) = ((n - 1 : Nat) : Int) := by omega
  by_cases hc1 : c = 1
  · obtain rfl : n = 1 := by omega
    subst hc1
    go_enter Try.func100, Try.ntmps100
    go_wp2
    go_loop [5, 14] (fun o i => i = .int .i64 0 ∧ o = .int .i64 x0) (fun _ _ => 0)
    case atStart => exact ⟨rfl, rfl⟩
    case round =>
      obtain ⟨rfl, rfl⟩ := hrel
      go_wp2
      go_ret
      refine ⟨?_, rfl⟩
      have := hst.out
      rw [List.take_of_length_le (by rw [hlen.out]; exact Nat.le_refl _)] at this
      rw [this]; rfl
  · have hc2 : 1 < c := by omega
    go_enter Try.func100, Try.ntmps100
    go_wp2
    go_loop [5, 14] (fun o i => ∃ k : Nat, k ≤ n - 1 ∧ i = .int .i64 k ∧ ∃ x, o = .int .i64 x ∧ Hid (bestI (l.take (k + 1)) = x)) (fun _ i => n - (intOf i).toNat)
    case atStart => exact ⟨0, by omega, rfl, x0, rfl, hst⟩
    case round =>
      obtain ⟨k, hk, rfl, x, rfl, hx⟩ := hrel
      by_cases hlt : k < n - 1
      · obtain ⟨b', off', y, hbe, hb', hm, c1⟩ := hl.at_ (k := k + 1) (by omega)
        cases hbe
        rw [show off + (k + 1) = off + 1 + k by omega] at c1
        have hnx := bestI_take (by omega) hm
        rw [hx.out] at hnx
        have Hnx := hid hnx
        clear hm hnx
        cases hd : decide (y < x)
        · have hd' := of_decide_eq_false hd
          have hn2 : Hid (bestI (l.take (k + 1 + 1)) = x) := hid (by rw [Hnx.out, if_neg hd'])
          clear Hnx hd'
          have Hd := hid hd
          clear hd
          go_wp2_with (first | (go_at_call 99; refine (fclo_any y x _).mono ?_; rw [Hd.out]; rintro e w1 ⟨rfl, rfl⟩))
          exact ⟨⟨k + 1, by omega, by go_num, x, rfl, hn2⟩, by simp [intOf]; omega⟩
        · have hd' := of_decide_eq_true hd
          have hn2 : Hid (bestI (l.take (k + 1 + 1)) = y) := hid (by rw [Hnx.out, if_pos hd'])
          clear Hnx hd'
          have Hd := hid hd
          clear hd
          go_wp2_with (first | (go_at_call 99; refine (fclo_any y x _).mono ?_; rw [Hd.out]; rintro e w1 ⟨rfl, rfl⟩))
          exact ⟨⟨k + 1, by omega, by go_num, y, rfl, hn2⟩, by simp [intOf]; omega⟩
      · obtain rfl : k = n - 1 := by omega
        go_wp2
        go_ret
        refine ⟨?_, rfl⟩
        have := hx.out
        rw [List.take_of_length_le (by rw [hlen.out]; omega)] at this
        rw [this]; rfl
/-- The memory of few holds nothing wrong. -/
structure Memo (p : Int) (ks : List Kd) (D : DataW Unit) : Prop where
  ok : ∀ (i : Nat) (a : Int), i ≤ ks.length → -100000 ≤ a → a ≤ 100000 → Maps.has D (klF i a) = true → ∀ z, D.atKey (klF i a) z = .lit (.int .i64 (nv (fewO p (ks.drop i) a)))
  isMap : Maps.IsMap D
theorem Memo.nil (p : Int) (ks : List Kd) : Memo p ks (.map []) := ⟨fun i a _ _ _ h => by simp [Maps.has] at h, ⟨_, rfl⟩⟩
theorem Memo.put {p : Int} {ks : List Kd} {D : DataW Unit} (h : Memo p ks D) (hn : ks.length ≤ 100) {i : Nat} {a : Int} (hi : i ≤ ks.length) (h1 : -100000 ≤ a) (h2 : a ≤ 100000) :
    Memo p ks (D.put (klF i a) (.lit (.int .i64 (nv (fewO p (ks.drop i) a))))) ∧ Maps.has (D.put (klF i a) (.lit (.int .i64 (nv (fewO p (ks.drop i) a))))) (klF i a) = true ∧ ∀ z, (D.put (klF i a) (.lit (.int .i64 (nv (fewO p (ks.drop i) a))))).atKey (klF i a) z = .lit (.int .i64 (nv (fewO p (ks.drop i) a))) := by
  have hk := K115.key (key_klF (i := i) (by omega) h1 h2)
  have hs := Maps.has_put_same h.isMap hk (.lit (.int .i64 (nv (fewO p (ks.drop i) a))))
  have ha := fun z => Maps.atKey_put_same h.isMap hk (.lit (.int .i64 (nv (fewO p (ks.drop i) a)))) z
  refine ⟨⟨fun j b hj h3 h4 hh z => ?_, h.isMap.put _ _⟩, hs, ha⟩
  by_cases e : j = i ∧ b = a
  · obtain ⟨rfl, rfl⟩ := e; exact ha z
  · have hne := klF_ne (i := j) (j := i) (by omega) h3 h4 (by omega) h1 h2 e
    rw [Maps.has_put_other hne] at hh
    rw [Maps.atKey_put_other hne]
    exact h.ok j b hj h3 h4 hh z
theorem Memo.del {p : Int} {ks : List Kd} {D : DataW Unit} (h : Memo p ks D) (hn : ks.length ≤ 100) {i : Nat} {a : Int} (hi : i ≤ ks.length) (h1 : -100000 ≤ a) (h2 : a ≤ 100000) : Memo p ks (D.del (klF i a)) := by
  refine ⟨fun j b hj h3 h4 hh z => ?_, h.isMap.del _⟩
  by_cases e : j = i ∧ b = a
  · obtain ⟨rfl, rfl⟩ := e
    rw [Maps.has_del_same] at hh; cases hh
  · have hne := klF_ne (i := j) (j := i) (by omega) h3 h4 (by omega) h1 h2 e
    rw [Maps.has_del_other hne] at hh
    rw [Maps.atKey_del_other hne]
    exact h.ok j b hj h3 h4 hh z
end Go.Proofs.Ytolghmhodaphfaa
/- Walks: few, by its memory. -/
namespace Go.Proofs.Ytolghmhodaphfaa
open Go.RowKit Go.WideMaps Go.Shelf
open Go.Maps (Keyed)
attribute [local go_sem] Oper.semAt_some
theorem nv_wf {o : Option Int} (h : ∀ y, o = some y → 0 ≤ y ∧ y ≤ 1000000) : (Lit.int .i64 (nv o)).wf = true := by
  cases o with
  | none => show (Lit.int .i64 1073741824).wf = true; decide
  | some y => exact (show (Lit.int .i64 y).wf = true from wf_i64 (by have := h y rfl; omega) (h y rfl).2)
theorem nv_lt {o : Option Int} (h : ∀ y, o = some y → 0 ≤ y ∧ y ≤ 1000000) : decide (nv o < 1073741824) = o.isSome := by
  cases o with
  | none => rfl
  | some y => have := h y rfl; show decide (y < 1073741824) = true; exact decide_eq_true (by omega)
theorem nv_some {o : Option Int} {y : Int} (h : o = some y) : nv o = y := by subst h; rfl
theorem look_run {w : World} {M m : Nat} {D : DataW Unit} {i : Nat} {a v : Int} (hown : w.ownsMap Try.prog 115 (plainElem (H := Unit) Try.prog 2) M m D) (hi : i ≤ 100) (h1 : -100000 ≤ a) (h2 : a ≤ 100000)
    (hat : ∀ z, D.atKey (klF i a) z = .lit (.int .i64 v)) : (Instr.lookup 112 (.map (some M)) (.agg #[.int .i64 (i : Int), .int .i64 a]) false).run Try.prog w = .ok (.int .i64 v) w := by
  obtain ⟨c, hrun, hc, -⟩ := hown.lookup_int K115 under112 under2 (zero2 w) (key_klF hi h1 h2)
  rw [hat] at hc
  cases hc
  exact hrun
/-- What few answers, and what it leaves of the memory. -/
def FewPost (p : Int) (ks : List Kd) (n M i : Nat) (a : Int) (m : Nat) (w : World) (e : Ending) (w' : World) : Prop :=
  ∃ (v : Int) (ok : Bool) (m' : Nat) (D' : DataW Unit), e = .returned (.tuple #[.int .i64 v, .bool ok]) ∧ ok = (fewO p (ks.drop i) a).isSome ∧ (∀ y, fewO p (ks.drop i) a = some y → v = y) ∧ m' ≤ m + wrN p (ks.drop i) ∧
    w'.ownsMap Try.prog 115 (plainElem (H := Unit) Try.prog 2) M m' D' ∧ Memo p ks D' ∧ (i < n → Maps.has D' (klF i a) = true) ∧ w.grownBy w' (some M)
set_option maxRecDepth 100000 in
set_option maxHeartbeats 2000000 in
theorem few_end (g M : Nat) (A : Option Addr) (n c : Nat) (ks : List Kd) (p : Int) (hlen : ks.length = n) (_ : n ≤ 8) (a : Int) (w : World) (m : Nat) (D : DataW Unit) (hg : g < w.heap.size) (hsc : Sc w g (.slice A n c) p)
    (hown : w.ownsMap Try.prog 115 (plainElem (H := Unit) Try.prog 2) M m D) (hmemo : Memo p ks D) :
    Calls Try.prog 95 #[.pointer (some ⟨g, 0, none⟩), .agg #[.int .i64 (n : Int), .int .i64 a], .map (some M)] w (FewPost p ks n M n a m w) := by
  have hM := hown.lt
  have b3 : Blk (((w.alloc (.cells #[.pointer (some ⟨g, 0, none⟩)] 71)).alloc (.cells #[.int .i64 (n : Int), .int .i64 a] 115)).alloc (.cells #[.map (some M)] 112)) w.heap.size 71 #[.pointer (some ⟨g, 0, none⟩)] := ((Blk.new' rfl).alloc _).alloc _
  have b4 : Blk (((w.alloc (.cells #[.pointer (some ⟨g, 0, none⟩)] 71)).alloc (.cells #[.int .i64 (n : Int), .int .i64 a] 115)).alloc (.cells #[.map (some M)] 112)) (w.heap.size + 1) 115 #[.int .i64 (n : Int), .int .i64 a] := (Blk.new' (by first | (simp; done) | (simp; omega) | omega)).alloc _
  have hb : Below w.heap.size w (((w.alloc (.cells #[.pointer (some ⟨g, 0, none⟩)] 71)).alloc (.cells #[.int .i64 (n : Int), .int .i64 a] 115)).alloc (.cells #[.map (some M)] 112)) := (by repeat' (first | with_reducible assumption | with_reducible exact Below.refl _ _ | refine Below.alloc ?_ ?_ _ | refine Below.setCell ?_ ?_ _ | refine Below.drew ?_ | refine below_drewN ?_ _ | (simp; done) | (simp; omega) | omega))
  obtain ⟨s0, s1⟩ := hsc.below hb hg
  have l3 := b3.lt
  have l4 := b4.lt
  have hgl : g < (((w.alloc (.cells #[.pointer (some ⟨g, 0, none⟩)] 71)).alloc (.cells #[.int .i64 (n : Int), .int .i64 a] 115)).alloc (.cells #[.map (some M)] 112)).heap.size := by have := hb.size; omega
  (refine (callsIn_wide (n := 9)).1 ?_; refine callsIn_of_wp_marks (F := Wd none) Try.func95 rfl trivial ?_ rfl; simp only [Try.ntmps95, List.size_toArray, List.length_cons, List.length_nil, Nat.reduceAdd, Nat.reduceSub, Array.replicate_succ, Array.replicate_zero, List.push_toArray, List.append_toArray, List.nil_append, List.cons_append])
  gi_wp2
  generalize (((w.alloc (.cells #[.pointer (some ⟨g, 0, none⟩)] 71)).alloc (.cells #[.int .i64 (n : Int), .int .i64 a] 115)).alloc (.cells #[.map (some M)] 112)) = W1 at *
  have c3 := b3.cell 0
  have c40 := b4.cell 0
  have c41 := b4.cell 1
  refine wpIn_region_hd_all (fun W' => Below W1.heap.size W1 W') (by kernel_rfl) (by kernel_rfl) ((Below.refl _ _).drew) ?_
  iterate 9 (refine wpHd_val (v := ?_) (by rfl) (fun W hW => ?_) ?_; rotate_left; (· obtain ⟨hcW, hfW⟩ := bcell hW; go_simp; with_reducible rfl); simp only [Act.put, List.setIfInBounds_toArray, List.set_cons_zero, List.set_cons_succ])
  refine wpHd_nil ?_
  intro W2 hW2
  obtain ⟨hcW, hfW⟩ := bcell hW2
  have c42 := (hcW _ 1 l4).trans c41
  have l42 : w.heap.size + 1 < W2.heap.size := by have := hW2.size; omega
  gi_wp2
  refine wpIn_region_hd_all (fun W' => Below W2.heap.size W2 W') (by kernel_rfl) (by kernel_rfl) ((Below.refl _ _).drew) ?_
  iterate 5 (refine wpHd_val (v := ?_) (by rfl) (fun W hW => ?_) ?_; rotate_left; (· obtain ⟨hcW, hfW⟩ := bcell hW; go_simp; with_reducible rfl); simp only [Act.put, List.setIfInBounds_toArray, List.set_cons_zero, List.set_cons_succ])
  refine wpHd_nil ?_
  intro W3 hW3
  gi_wp2
  have hbw : Below w.heap.size w W3 := hb.trans ((hW2.mono hb.size).trans (hW3.mono (Nat.le_trans hb.size hW2.size)))
  have hdr : ks.drop n = [] := List.drop_of_length_le (by omega)
  refine leavesM_marks [] _ (by simp) (by simp) (fun w' ho => ⟨.tuple #[.int .i64 0, .bool (a == 0)], by simp [results, Try.results95, go_sem], ?_⟩)
  have hbo : Below w.heap.size w w' := ho.below hbw (by simp)
  refine ⟨0, a == 0, m, D, rfl, ?_, ?_, by omega, map_below hown hbo, hmemo, fun h => absurd h (by omega), ⟨hbo.os, hbo.tape, hbo.output, hbo.size, fun k hk _ => hbo.block k hk⟩⟩
  · rw [hdr]
    show (a == 0) = (if a = 0 then some (0 : Int) else none).isSome
    by_cases h : a = 0
    · rw [if_pos h]; simp [h]
    · rw [if_neg h]; simp [h]
  · intro y hy
    rw [hdr] at hy
    have hy' : (if a = 0 then some (0 : Int) else none) = some y := hy
    split at hy'
    · cases hy'; rfl
    · cases hy'
end Go.Proofs.Ytolghmhodaphfaa
/- Walks: few, the recursion. -/
namespace Go.Proofs.Ytolghmhodaphfaa
open Go.RowKit Go.WideMaps Go.Shelf
open Go.Maps (Keyed)
attribute [local go_sem] Oper.semAt_some
theorem best_below (A : Option Addr) (n c : Nat) (l : List Int) (w : World) (hl : InS w w.heap.size A n l) (h1 : 1 ≤ n) (hn : n ≤ 1000) (hnc : n ≤ c) :
    Calls Try.prog 100 #[.slice A n c, .func (.func 99) #[] #[]] w fun e w' => e = .returned (.int .i64 (bestI l)) ∧ Below w.heap.size w w' :=
  (best_any A n c l w hl h1 hn hnc).mono (by rintro e w' ⟨rfl, rfl⟩; exact ⟨rfl, Below.refl _ _⟩)
theorem few_far {p : Int} (hp : p = 1 ∨ p = 2) {ks : List Kd} (h0 : checkSet ks = 0) {i : Nat} {a : Int} (h : a < -300 ∨ 300 < a) : fewO p (ks.drop i) a = none := by
  obtain ⟨-, -, h3, -, h5⟩ := checkSet_good h0
  have h6 : (ks.drop i).all okK = true := List.all_eq_true.2 fun y hy => List.all_eq_true.1 h3 y (List.mem_of_mem_drop hy)
  have h7 : sumOf (ks.drop i) ≤ sumOf ks := by
    have e : sumOf ks = sumOf (ks.take i) + sumOf (ks.drop i) := by
      conv => lhs; rw [← List.take_append_drop i ks]
      unfold sumOf; rw [List.map_append, List.sum_append]
    have := sumOf_nonneg (ks := ks.take i) (List.all_eq_true.2 fun y hy => List.all_eq_true.1 h3 y (List.mem_of_mem_take hy))
    omega
  have h8 := sumOf_nonneg h6
  exact few_ways.2 (ways_far hp h6 a (by rcases hp with rfl | rfl <;> omega))
theorem few_bd' {p : Int} (hp : p = 1 ∨ p = 2) {ks : List Kd} (h0 : checkSet ks = 0) (i : Nat) (a : Int) : ∀ y, fewO p (ks.drop i) a = some y → 0 ≤ y ∧ y ≤ 2400 := by
  intro y hy
  obtain ⟨-, h2, h3, -, -⟩ := checkSet_good h0
  have h6 : (ks.drop i).all okK = true := List.all_eq_true.2 fun y hy => List.all_eq_true.1 h3 y (List.mem_of_mem_drop hy)
  have := few_bd hp h6 hy
  rw [List.length_drop] at this
  omega
theorem grownM_trans {w X Y : World} {M : Nat} {row : Option Nat} (h : w.grownBy X (some M)) (hg : X.grownBy Y row) (hr : ∀ r, row = some r → w.heap.size ≤ r ∨ r = M) : w.grownBy Y (some M) :=
  ⟨hg.os.trans h.os, hg.tape.trans h.tape, hg.output.trans h.output, Nat.le_trans h.size hg.size, fun k hk hne => (hg.block k (Nat.lt_of_lt_of_le hk h.size) (fun e => by rcases hr k e.symm with h1 | h1; omega; exact hne (by rw [h1]))).trans (h.block k hk hne)⟩
theorem grownM_below {w X : World} {M : Nat} (h : Below w.heap.size w X) : w.grownBy X (some M) := ⟨h.os, h.tape, h.output, h.size, fun k hk _ => h.block k hk⟩
theorem grown_of_below' {X Y : World} (h : Below X.heap.size X Y) : X.grownBy Y none := ⟨h.os, h.tape, h.output, h.size, fun k hk _ => h.block k hk⟩
theorem grownM_setCell {w X : World} {M g o : Nat} (h : w.grownBy X (some M)) (hg : w.heap.size ≤ g) (u : Value) : w.grownBy (X.setCell ⟨g, o, none⟩ u) (some M) :=
  ⟨h.os, h.tape, h.output, by have := h.size; simpa [World.setCell] using this, fun k hk hne => (Below.heap_setCell _ _ _ _ (by simp; omega)).trans (h.block k hk hne)⟩
theorem sl_grownM {w w' : World} {B size n M : Nat} {A : Option Addr} {xs : List Value} (h : Sl w B size A n xs) (hg : w.grownBy w' (some M)) (hB : B ≤ w.heap.size) (hA : ∀ b off, A = some ⟨b, off, none⟩ → b ≠ M) : Sl w' B size A n xs :=
  ⟨h.1, fun hn => by
    obtain ⟨b, off, e, hb, hc⟩ := h.2 hn
    exact ⟨b, off, e, hb, fun j u hu => (World.cell?_of_block (hg.block b (by omega) (fun e2 => hA b off e (Option.some.inj e2)))).trans (hc j u hu)⟩⟩
theorem kpg_grownM {W W' : World} {M n₀ : Nat} {G : Nat → Prop} (h : W.grownBy W' (some M)) (hn : n₀ ≤ W.heap.size) (hG : G M) : KpG n₀ G W W' := ⟨h.size, fun k hk hk' => h.block k (by omega) (fun e => hk' (Option.some.inj e ▸ hG))⟩
theorem own_set2 {A : World} {base e size n g t o : Nat} {v : Value} {xs : List Value} {cs : Array Value} (h : A.ownsRow base e size v n xs) (hb : Blk A g t cs) (u : Value) (ht : t ≠ e := by decide) : (A.setCell ⟨g, o, none⟩ u).ownsRow base e size v n xs := by
  refine ⟨h.1, h.2.imp id ?_⟩
  rintro ⟨g', cap, cur, e1, h1, h2, h3⟩
  refine ⟨g', cap, cur, e1, h1, (Below.heap_setCell _ _ _ _ (fun e => ?_)).trans h2, h3⟩
  simp only at e
  subst e
  unfold Blk at hb
  rw [h2] at hb
  cases hb
  exact ht rfl
/-- What holds between the numbers of a kind. -/
def FewInv (p : Int) (ks : List Kd) (M m T0 B0 n₀ : Nat) (f : Int → Option Int) (w w5 : World) (pre : List Nb) (W : World) : Prop :=
  ∃ (q cap m' : Nat) (D' : DataW Unit), (q = B0 ∨ n₀ ≤ q) ∧ Blk W (B0 + 1) 23 #[.slice (some ⟨q, 0, none⟩) (allL f (pre.map (·.1))).length cap] ∧
    W.ownsRow B0 2 1 (.slice (some ⟨q, 0, none⟩) (allL f (pre.map (·.1))).length cap) (allL f (pre.map (·.1))).length ((allL f (pre.map (·.1))).flatMap cI) ∧ m' ≤ m + pre.length * T0 ∧
    W.ownsMap Try.prog 115 (plainElem (H := Unit) Try.prog 2) M m' D' ∧ Memo p ks D' ∧ KpG n₀ (fun q => q = M ∨ q = B0 ∨ q = B0 + 1) w5 W ∧ w.grownBy W (some M)
theorem FewInv.ownk {p : Int} {ks : List Kd} {M m T0 B0 n₀ : Nat} {f : Int → Option Int} {w w5 X Y : World} {pre : List Nb} {row : Option Nat} (h : FewInv p ks M m T0 B0 n₀ f w w5 pre X) (hg : X.grownBy Y row)
    (hr : ∀ r, row = some r → n₀ ≤ r ∧ ∃ o : Obj, X.heap[r]? = some o ∧ o.isCells = false) (hn : n₀ ≤ w5.heap.size) (hM : M < n₀) (hw : w.heap.size ≤ n₀) : FewInv p ks M m T0 B0 n₀ f w w5 pre Y := by
  obtain ⟨q, cap, m', D', h1, h2, h3, h4, h5, h6, h7, h8⟩ := h
  exact ⟨q, cap, m', D', h1, h2.ownk hg (fun r e => (hr r e).2), own_ownk h3 hg (fun r e => (hr r e).2), h4, h5.kept hg (fun e => by have := (hr M e.symm).1; omega), h6, h7.ownk hg (fun r e => (hr r e).1) hn, grownM_trans h8 hg (fun r e => .inl (by have := (hr r e).1; omega))⟩
theorem allL_len (f : Int → Option Int) (l : List Int) : 1 ≤ (allL f l).length ∧ (allL f l).length ≤ l.length + 1 := by
  unfold allL
  have := List.length_filterMap_le (fun n => (f n).map (· + absI n)) l
  simp only [List.length_cons]; omega
set_option maxRecDepth 100000 in
set_option maxHeartbeats 4000000 in
theorem few_walk (g M : Nat) (A : Option Addr) (n c : Nat) (ks : List Kd) (p : Int) (h0 : checkSet ks = 0) (hp : p = 1 ∨ p = 2) (hlen : ks.length = n) (hgM : g ≠ M) (hAM : ∀ b off, A = some ⟨b, off, none⟩ → b ≠ M) :
    ∀ (d i : Nat) (a : Int), i + d = n → -100000 ≤ a → a ≤ 100000 → ∀ (w : World) (m : Nat) (D : DataW Unit), g < w.heap.size → Sc w g (.slice A n c) p → KdS w w.heap.size A n ks →
      w.ownsMap Try.prog 115 (plainElem (H := Unit) Try.prog 2) M m D → Memo p ks D → m + wrN p (ks.drop i) ≤ 100000000000000000 →
      Calls Try.prog 95 #[.pointer (some ⟨g, 0, none⟩), .agg #[.int .i64 (i : Int), .int .i64 a], .map (some M)] w (FewPost p ks n M i a m w) := by
  have hn8 : n ≤ 8 := by have := (checkSet_good h0).2.1; omega
  intro d
  induction d with
  | zero =>
    intro i a hi h1 h2 w m D hg hsc hk hown hmemo hmN
    obtain rfl : i = n := by omega
    exact few_end g M A _ c ks p hlen hn8 a w m D hg hsc hown hmemo
  | succ d ih =>
    intro i a hi h1 h2 w m D hg hsc hk hown hmemo hmN
    have IH := hid ih
    have hlt : i < n := by omega
    obtain ⟨b, off, kd, rfl, hb, hm0, c0, c1⟩ := hk.at_ hlt
    have hdrop : ks.drop i = kd :: ks.drop (i + 1) := by
      have hl2 : i < ks.length := by omega
      rw [List.drop_eq_getElem_cons hl2]
      rw [List.getElem?_eq_getElem hl2] at hm0
      cases hm0; rfl
    have Hm := hid hm0
    have Hdrop := hid hdrop
    have hok : okK kd = true := List.all_eq_true.1 (checkSet_good h0).2.2.1 kd (List.mem_of_getElem? hm0)
    have hkb := okK_le hok
    have hbd := hid (few_bd' hp h0 i a)
    have hbd2 := hid (few_bd' hp h0 (i + 1))
    have hni : ¬ (i : Int) = n := by omega
    have hM := hown.lt
    have hkey := hid (key_klF (i := i) (by omega) h1 h2)
    obtain ⟨W1, hW1⟩ : ∃ W1, (((w.alloc (.cells #[.pointer (some ⟨g, 0, none⟩)] 71)).alloc (.cells #[.int .i64 (i : Int), .int .i64 a] 115)).alloc (.cells #[.map (some M)] 112)) = W1 := ⟨_, rfl⟩
    have b3 : Blk W1 w.heap.size 71 #[.pointer (some ⟨g, 0, none⟩)] := by rw [← hW1]; exact ((Blk.new' rfl).alloc _).alloc _
    have b4 : Blk W1 (w.heap.size + 1) 115 #[.int .i64 (i : Int), .int .i64 a] := by rw [← hW1]; exact (Blk.new' (by first | (simp; done) | (simp; omega) | omega)).alloc _
    have b5 : Blk W1 (w.heap.size + 1 + 1) 112 #[.map (some M)] := by rw [← hW1]; exact Blk.new' (by first | (simp; done) | (simp; omega) | omega)
    have hb1 : Below w.heap.size w W1 := by rw [← hW1]; exact (by repeat' (first | with_reducible assumption | with_reducible exact Below.refl _ _ | refine Below.alloc ?_ ?_ _ | refine Below.setCell ?_ ?_ _ | refine Below.drew ?_ | refine below_drewN ?_ _ | (simp; done) | (simp; omega) | omega))
    have hz1 : W1.heap.size = w.heap.size + 3 := by rw [← hW1]; simp
    obtain ⟨s0, s1⟩ := hsc.below hb1 hg
    have l3 := b3.lt
    have l4 := b4.lt
    have l5 := b5.lt
    have hgl : g < W1.heap.size := by omega
    have Hz1 := hid hz1
    clear hz1
    (refine (callsIn_wide (n := 9)).1 ?_; refine callsIn_of_wp_marks (F := Wd none) Try.func95 rfl trivial ?_ rfl; simp only [Try.ntmps95, List.size_toArray, List.length_cons, List.length_nil, Nat.reduceAdd, Nat.reduceSub, Array.replicate_succ, Array.replicate_zero, List.push_toArray, List.append_toArray, List.nil_append, List.cons_append])
    gi_wp2
    have c3 := b3.cell 0
    have c40 := b4.cell 0
    have c41 := b4.cell 1
    refine wpIn_region_hd_all (fun W' => Below W1.heap.size W1 W') (by kernel_rfl) (by kernel_rfl) ((Below.refl _ _).drew) ?_
    iterate 9 (refine wpHd_val (v := ?_) (by rfl) (fun W hW => ?_) ?_; rotate_left; (· obtain ⟨hcW, hfW⟩ := bcell hW; go_simp; with_reducible rfl); simp only [Act.put, List.setIfInBounds_toArray, List.set_cons_zero, List.set_cons_succ])
    refine wpHd_nil ?_
    intro W2 hW2
    have hb2 : Below w.heap.size w W2 := hb1.trans (hW2.mono hb1.size)
    replace b3 := b3.below hW2 l3
    replace b4 := b4.below hW2 l4
    replace b5 := b5.below hW2 l5
    have hz2 : w.heap.size + 3 ≤ W2.heap.size := by have := hW2.size; have := Hz1.out; omega
    have hown2 := map_below hown hb2
    have hown2' := hid hown2
    have r40 := b4.cell 0
    have r41 := b4.cell 1
    have r5 := b5.cell 0
    have hhas : ∀ c : Int, D.atKey (klF i a) (.lit (.int .i64 0)) = .lit (.int .i64 c) → Maps.has D (klF i a) = true → c = nv (fewO p (ks.drop i) a) := fun c h h' => by
      rw [hmemo.ok i a (by omega) h1 h2 h' _] at h
      cases h; rfl
    have Hhas := hid hhas
    have Hmemo := hid hmemo
    have Hown := hid hown
    clear hhas hown2 hown hdrop hm0 ih hW1 hW2 c3 c40 c41 s0 s1 l3 l4 l5 hgl hmemo
    have l4' : w.heap.size + 1 < W2.heap.size := by omega
    have l5' : w.heap.size + 1 + 1 < W2.heap.size := by omega
    cases hh : Maps.has D (klF i a)
    · have Hh := hid hh
      clear hh
      gi_wp2_with (first | (gi_at_lookup; refine wpListIn_lookup_own_ok_int _ rfl _ _ 112 rfl 115 2 .i64 K115 under112 under2 (zero2 _) M m D rfl hown2'.out _ (klF i a) rfl hkey.out ?_; intro cv hat hwc; rw [Hh.out]; clear hat hwc))
      obtain ⟨B0, hB0⟩ : ∃ B0, W2.heap.size = B0 := ⟨_, rfl⟩
      have L0 : Blk ((W2.alloc (.cells #[.int .i64 1073741824] 2)).alloc (.cells #[.slice (some ⟨W2.heap.size, 0, none⟩) 1 1] 23)) B0 2 #[.int .i64 1073741824] := (Blk.new' hB0).alloc _
      have X0 : Blk ((W2.alloc (.cells #[.int .i64 1073741824] 2)).alloc (.cells #[.slice (some ⟨W2.heap.size, 0, none⟩) 1 1] 23)) (B0 + 1) 23 #[.slice (some ⟨B0, 0, none⟩) 1 1] := by rw [← hB0]; exact Blk.new' (by simp)
      have hb23 : Below W2.heap.size W2 ((W2.alloc (.cells #[.int .i64 1073741824] 2)).alloc (.cells #[.slice (some ⟨W2.heap.size, 0, none⟩) 1 1] 23)) := (by repeat' (first | with_reducible assumption | with_reducible exact Below.refl _ _ | refine Below.alloc ?_ ?_ _ | refine Below.setCell ?_ ?_ _ | refine Below.drew ?_ | refine below_drewN ?_ _ | (simp; done) | (simp; omega) | omega))
      generalize ((W2.alloc (.cells #[.int .i64 1073741824] 2)).alloc (.cells #[.slice (some ⟨W2.heap.size, 0, none⟩) 1 1] 23)) = W3 at *
      replace b3 := b3.below hb23 b3.lt
      replace b4 := b4.below hb23 b4.lt
      replace b5 := b5.below hb23 b5.lt
      have hb3 : Below w.heap.size w W3 := hb2.trans (hb23.mono hb2.size)
      have hown3 := map_below Hown.out hb3
      have hz3 : w.heap.size + 3 ≤ W3.heap.size ∧ B0 + 1 < W3.heap.size ∧ w.heap.size + 3 ≤ B0 := ⟨by have := hb23.size; omega, X0.lt, by omega⟩
      obtain ⟨s0, s1⟩ := hsc.below hb3 hg
      rw [hB0]
      obtain ⟨hz31, hz32, hz33⟩ := hz3
      have c3 := b3.cell 0
      have c40 := b4.cell 0
      have l3 := b3.lt
      have l4 := b4.lt
      have hgl : g < W3.heap.size := by omega
      clear r40 r41 r5 hown2'
      refine wpIn_region_hd 6 (fun W' => Below W3.heap.size W3 W') (by kernel_rfl) (by kernel_rfl) ((Below.refl _ _).drew) ?_
      simp only [List.take_succ_cons, List.take_zero, List.drop_succ_cons, List.drop_zero]
      iterate 6 (refine wpHd_val (v := ?_) (by rfl) (fun W hW => ?_) ?_; rotate_left; (· obtain ⟨hcW, hfW⟩ := bcell hW; go_simp; with_reducible rfl); simp only [Act.put, List.setIfInBounds_toArray, List.set_cons_zero, List.set_cons_succ])
      refine wpHd_nil ?_
      intro W4 hW4
      have hz4 := hW4.size
      replace L0 := L0.below hW4 L0.lt
      replace X0 := X0.below hW4 X0.lt
      replace b3 := b3.below hW4 l3
      replace b4 := b4.below hW4 l4
      replace b5 := b5.below hW4 b5.lt
      have hb4 : Below w.heap.size w W4 := hb3.trans (hW4.mono hb3.size)
      have hown4 := map_below hown3 hW4
      clear c3 c40 l3 l4 hgl s0 s1 hown3 hW4
      gi_wp2_with (first | (gi_at_call 94; refine (calls_wd (numbers_any _ _ _ _ _ _)).mono ?_; rintro e w5 ⟨rfl, hw5⟩))
      obtain ⟨n₀, hn₀⟩ : ∃ n₀, w5.heap.size = n₀ := ⟨_, rfl⟩
      have hz5 : n₀ = W4.heap.size + 2 := by rw [← hn₀, ← hw5]; simp
      have hb45 : Below W4.heap.size W4 w5 := by rw [← hw5]; exact (by repeat' (first | with_reducible assumption | with_reducible exact Below.refl _ _ | refine Below.alloc ?_ ?_ _ | refine Below.setCell ?_ ?_ _ | refine Below.drew ?_ | refine below_drewN ?_ _ | (simp; done) | (simp; omega) | omega))
      have I0 : Blk w5 W4.heap.size 76 #[.slice (some ⟨b, off, none⟩) n c, .int .i64 p] := by rw [← hw5]; exact (Blk.new' rfl).alloc _
      have I1 : Blk w5 (W4.heap.size + 1) 3 #[.int .i64 (i : Int)] := by rw [← hw5]; exact Blk.new' (by first | (simp; done) | (simp; omega) | omega)
      replace L0 := L0.below hb45 L0.lt
      replace X0 := X0.below hb45 X0.lt
      replace b3 := b3.below hb45 b3.lt
      replace b4 := b4.below hb45 b4.lt
      replace b5 := b5.below hb45 b5.lt
      have hb5 : Below w.heap.size w w5 := hb4.trans (hb45.mono hb4.size)
      have hown5 := map_below hown4 hb45
      have hkk : KdS w5 n₀ (some ⟨b, off, none⟩) n ks := (hk.below hb5 (Nat.le_refl _)).more (by omega)
      obtain ⟨s0, s1⟩ := hsc.below hb5 hg
      have k0 := (bcell hb5).1 _ (off + i * 2) hb |>.trans c0
      have hbM := hAM b off rfl
      obtain ⟨f, hf⟩ : ∃ f, (fun x : Int => fewO p (ks.drop (i + 1)) (a - x * kd.wt)) = f := ⟨_, rfl⟩
      obtain ⟨T0, hT0⟩ : ∃ T0, wrN p (ks.drop (i + 1)) = T0 := ⟨_, rfl⟩
      have hTd : wrN p (ks.drop i) = 1 + numsN p kd * T0 := by rw [Hdrop.out, ← hT0]; rfl
      rw [hTd] at hmN
      have hfb : ∀ x y, f x = some y → 0 ≤ y ∧ y ≤ 2400 := fun x y h => by rw [← hf] at h; exact hbd2.out _ y h
      have Hf := hid hf
      have HT := hid hT0
      have Hfb := hid hfb
      clear hw5 hown4 hb45 hf hT0 hfb
      refine with_frame fun T hT => ?_
      refine wpIn_rangeFunc_ownH (F := Wd none) (n := 9) rfl (by omega) (gf := 98) (lb := #[.pointer (some ⟨W4.heap.size, 0, none⟩), .pointer (some ⟨W4.heap.size + 1, 0, none⟩)]) (by rw [hT]; rfl) trivial (enters_of Try.func98 (by kernel_rfl) rfl)
        (nums_stops 8 W4.heap.size (W4.heap.size + 1) n₀ (fun q => q = M ∨ q = B0 ∨ q = B0 + 1) (some ⟨b, off, none⟩) n c i ks p kd Hm.out hok hp (by omega) (by omega) (by omega) (by omega) (fun b' off' e => by cases e; omega) w5 (by omega) (I0.cell 0) (I0.cell 1) (I1.cell 0) hkk)
        (fun h k => h.trans k) (KpG.putObj (by omega)) (Below.refl _ _) (fun _ => rfl)
        (FewInv p ks M m T0 B0 n₀ f w w5)
        (fun c pre W => False)
        (fun s X Y rw_ hs hg hrow => FewInv.ownk hs hg (fun r e => by have := hrow r e; rw [hn₀] at this; exact this) (by omega) (by omega) (by omega)) (fun c s X Y rw_ hs hg hrow => hs.elim)
        ⟨B0, 1, m, D, .inl rfl, X0, ?h0, by omega, hown5, Hmemo.out, KpG.refl _ _ _, grownM_below hb5⟩
        (fun x a' W => a' = { tmps := (T.setIfInBounds 46 (.int .i64 x.1)).setIfInBounds 11 (.int .i64 x.1), defers := [] })
        (fun x a' s X Y rw_ hs hg hrow => hs) ?assign ?body ?done ?stop
      case h0 =>
        refine ⟨rfl, .inr ⟨B0, 1, _, rfl, Nat.le_refl _, L0, Nat.le_refl _, by unfold maxLen; omega, rfl, rfl⟩⟩
      case assign =>
        rintro l pre x W K hI hK
        simp only [encN, hT]
        gi_wp2
        exact hK _ _ ((KeepsOthers.refl _).from _) (KpG.refl _ _ _) hI (by rw [hT]; rfl)
      case stop =>
        rintro D c pre W hD _ h
        exact h.elim
      case body =>
        rintro l pre x a' W hl _ ⟨q, cap, m', D', hq, hX, hrow, hm', hmap, hme, hkp, hgw⟩ rfl hltN
        obtain ⟨x, hx1, hx2⟩ := x
        have hlen5 : pre.length < 601 := Nat.lt_of_lt_of_le hltN (numsN_le hp hok).2.2.2
        have hzW : n₀ ≤ W.heap.size := by have := hkp.1; omega
        obtain ⟨sx, hsx⟩ : ∃ sx, x * kd.wt = sx := ⟨_, rfl⟩
        have hsx1 : -90000 ≤ sx ∧ sx ≤ 90000 := by
          have a1 : x * kd.wt ≤ 300 * kd.wt := Int.mul_le_mul_of_nonneg_right hx2 (by omega)
          have a2 : -300 * kd.wt ≤ x * kd.wt := Int.mul_le_mul_of_nonneg_right hx1 (by omega)
          omega
        have hpp : (pre ++ ([⟨x, hx1, hx2⟩] : List Nb)).map (·.1) = pre.map (·.1) ++ [x] := by rw [List.map_append]; rfl
        have hpp2 : (pre ++ ([⟨x, hx1, hx2⟩] : List Nb)).length = pre.length + 1 := by rw [List.length_append]; rfl
        have hmT : m' + T0 ≤ m + (pre.length + 1) * T0 := by rw [Nat.succ_mul]; omega
        have hmT2 : (pre.length + 1) * T0 ≤ numsN p kd * T0 := Nat.mul_le_mul_right _ hltN
        obtain ⟨pl, hpl⟩ : ∃ pl, pre.map (·.1) = pl := ⟨_, rfl⟩
        have hpll : pl.length = pre.length := by rw [← hpl, List.length_map]
        rw [hpl] at hX hrow hpp
        obtain ⟨L, hL⟩ : ∃ L, (allL f pl).length = L := ⟨_, rfl⟩
        have hLb : 1 ≤ L ∧ L ≤ 602 := by have := allL_len f pl; omega
        rw [hL] at hX hrow
        have zm : IntKind.i64.wrap (x * kd.wt) = sx := by rw [hsx]; exact wrap_ok (by omega)
        have zl : IntKind.i64.wrap (a - sx) = a - sx := wrap_ok (by omega)
        have r3 := (hkp.blk b3 (by omega) (by omega)).cell 0
        have r40 := (hkp.blk b4 (by omega) (by omega)).cell 0
        have r41 := (hkp.blk b4 (by omega) (by omega)).cell 1
        have rs0 := (hkp.cell (p := ⟨g, 0, none⟩) (by simp; omega) (by simp; omega)).trans s0
        have rk := (hkp.cell (p := ⟨b, off + i * 2, none⟩) (by simp; omega) (by simp; omega)).trans k0
        have l3 : w.heap.size < W.heap.size := by omega
        have l4 : w.heap.size + 1 < W.heap.size := by omega
        have l5 : w.heap.size + 1 + 1 < W.heap.size := by omega
        have lg : g < W.heap.size := by omega
        have lb : b < W.heap.size := by omega
        have hfx : fewO p (ks.drop (i + 1)) (a - sx) = f x := by rw [← Hf.out]; show _ = fewO p (ks.drop (i + 1)) (a - x * kd.wt); rw [hsx]
        have Hfx := hid hfx
        simp only [hT, List.setIfInBounds_toArray, List.set_cons_zero, List.set_cons_succ]
        have Hn0 := hid hn₀
        clear hfx hsx hn₀
        gi_wp2
        refine wpIn_region_hd_all (ro := some l) (fun W' => Below W.heap.size W W') (by kernel_rfl) (by kernel_rfl) ((Below.refl _ _).drew) ?_
        iterate 16 (refine wpHd_val (v := ?_) (by rfl) (fun W hW => ?_) ?_; rotate_left; (· obtain ⟨hcW, hfW⟩ := bcell hW; go_simp; with_reducible rfl); simp only [Act.put, List.setIfInBounds_toArray, List.set_cons_zero, List.set_cons_succ])
        refine wpHd_nil ?_
        intro W6 hW6
        have hz6 := hW6.size
        have IHc : ∀ (w' : World), g < w'.heap.size → Sc w' g (.slice (some ⟨b, off, none⟩) n c) p → KdS w' w'.heap.size (some ⟨b, off, none⟩) n ks → w'.ownsMap Try.prog 115 (plainElem (H := Unit) Try.prog 2) M m' D' → -300 ≤ a - sx ∧ a - sx ≤ 300 →
            Calls Try.prog 95 #[.pointer (some ⟨g, 0, none⟩), .agg #[.int .i64 ((i : Int) + 1), .int .i64 (a - sx)], .map (some M)] w' (FewPost p ks n M (i + 1) (a - sx) m' w') := fun w' q1 q2 q3 q4 q5 => by
          have := IH.out (i + 1) (a - sx) (by omega) (by omega) (by omega) w' m' D' q1 q2 q3 q4 hme (by rw [HT.out]; omega)
          rwa [Int.natCast_add, Int.natCast_one] at this
        have IHc := hid IHc
        by_cases hin : -300 ≤ a - sx ∧ a - sx ≤ 300
        · have Hin := hid ((all_one (x := a - sx) (lo := -300) (hi := 300)).trans (inR_t.2 hin))
          have Hin0 := hid hin
          clear hin
          cases hfv : f x with
          | none =>
            have hN := hid (allL_none pl hfv)
            have HS := hid (show (fewO p (ks.drop (i + 1)) (a - sx)).isSome = false by rw [Hfx.out, hfv]; rfl)
            clear hfv
            gi_wp2_with (first | (gi_at_call 66; refine (calls_wd (within_any _ _ _ [a - sx] (-300) 300 _ (inS_lit1 _ (by first | (simp; done) | (simp; omega) | omega) (by first | (simp; done) | (simp; omega) | omega)) (by omega))).mono ?_; rw [Hin.out]; rintro e w7 ⟨rfl, hb7⟩; have hb67 : Below W.heap.size W w7 := hW6.trans (Below.trans (Below.alloc (Below.refl _ _) hz6 _) (hb7.mono (by first | (simp; done) | (simp; omega) | omega))); have hz7 := hb67.size; have r7 := ((bcell hb67).1 _ 0 l3).trans r3; have r8 := ((bcell hb67).1 _ 0 l4).trans r40; have r5 := ((bcell hb67).1 _ 0 (by omega)).trans ((hkp.blk b5 (by omega) (by omega)).cell 0); have l7 := Nat.lt_of_lt_of_le l3 hz7; have l8 := Nat.lt_of_lt_of_le l4 hz7; have l9 := Nat.lt_of_lt_of_le l5 hz7; have lg7 := Nat.lt_of_lt_of_le lg hz7) | (gi_at_call 95; refine (calls_wd (IHc.out _ lg7 ⟨((bcell hb67).1 _ 0 lg).trans rs0, ((bcell hb67).1 _ 1 lg).trans ((hkp.cell (p := ⟨g, 1, none⟩) (by simp; omega) (by simp; omega)).trans s1)⟩ ((sl_grownM hk hgw (Nat.le_refl _) hAM).below' (hb67.mono hgw.size) (Nat.le_trans hgw.size hz7)) (map_below hmap hb67) Hin0.out)).mono ?_; rintro e w8 ⟨v8, ok8, m8, D8, rfl, hok8, -, hm8, hmap8, hme8, -, hgr8⟩; have hok9 : ok8 = false := hok8.trans HS.out; clear hok8; subst hok9))
            have hg8 : W.grownBy w8 (some M) := grownM_trans (grownM_below hb67) hgr8 (fun r e => .inr (Option.some.inj e).symm)
            have hk8 : KpG n₀ (fun q => q = M ∨ q = B0 ∨ q = B0 + 1) W w8 := kpg_grownM hg8 hzW (Or.inl rfl)
            refine ⟨KeepsFrom.of_grownBy hg8 (fun j e => by cases e; have := Hn0.out; omega), hk8, q, cap, m8, D8, hq, ?_, ?_, by rw [hpp2]; have := HT.out; omega, hmap8, hme8, hkp.trans hk8, grownM_trans hgw hg8 (fun r e => .inr (Option.some.inj e).symm)⟩
            · rw [hpp, hN.out, hL]; exact hX.grown hg8 (fun e => by cases e; omega)
            · rw [hpp, hN.out, hL]; exact hrow.kept hg8 (.inr (by simp only [Value.ownBlock, ne_eq, Option.some.injEq]; omega))
          | some y =>
            have hN := hid (allL_some pl hfv)
            have HS := hid (show (fewO p (ks.drop (i + 1)) (a - sx)).isSome = true by rw [Hfx.out, hfv]; rfl)
            have HV := hid (show fewO p (ks.drop (i + 1)) (a - sx) = some y by rw [Hfx.out, hfv])
            have hyb := Hfb.out x y hfv
            have zn : IntKind.i64.wrap (-x) = -x := wrap_ok (by omega)
            have zy : IntKind.i64.wrap (y + max x (-x)) = y + max x (-x) := wrap_ok (by omega)
            obtain ⟨i0, hi0, hi1, hi2, hi3⟩ := info_parts' info2
            have J0 := hid hi0; have J1 := hid hi1; have J2 := hid hi2; have J3 := hid hi3
            clear hfv hi0 hi1 hi2 hi3
            gi_wp2_with (first | (gi_at_call 66; refine (calls_wd (within_any _ _ _ [a - sx] (-300) 300 _ (inS_lit1 _ (by first | (simp; done) | (simp; omega) | omega) (by first | (simp; done) | (simp; omega) | omega)) (by omega))).mono ?_; rw [Hin.out]; rintro e w7 ⟨rfl, hb7⟩; have hb67 : Below W.heap.size W w7 := hW6.trans (Below.trans (Below.alloc (Below.refl _ _) hz6 _) (hb7.mono (by first | (simp; done) | (simp; omega) | omega))); have hz7 := hb67.size; have r7 := ((bcell hb67).1 _ 0 l3).trans r3; have r8 := ((bcell hb67).1 _ 0 l4).trans r40; have r5 := ((bcell hb67).1 _ 0 (by omega)).trans ((hkp.blk b5 (by omega) (by omega)).cell 0); have l7 := Nat.lt_of_lt_of_le l3 hz7; have l8 := Nat.lt_of_lt_of_le l4 hz7; have l9 := Nat.lt_of_lt_of_le l5 hz7; have lg7 := Nat.lt_of_lt_of_le lg hz7) | (gi_at_call 95; refine (calls_wd (IHc.out _ lg7 ⟨((bcell hb67).1 _ 0 lg).trans rs0, ((bcell hb67).1 _ 1 lg).trans ((hkp.cell (p := ⟨g, 1, none⟩) (by simp; omega) (by simp; omega)).trans s1)⟩ ((sl_grownM hk hgw (Nat.le_refl _) hAM).below' (hb67.mono hgw.size) (Nat.le_trans hgw.size hz7)) (map_below hmap hb67) Hin0.out)).mono ?_; rintro e w8 ⟨v8, ok8, m8, D8, rfl, hok8, hv8, hm8, hmap8, hme8, -, hgr8⟩; have hok9 : ok8 = true := hok8.trans HS.out; clear hok8; subst hok9; have hv9 : v8 = y := hv8 y HV.out; clear hv8; subst hv9; have hg8 : W.grownBy w8 (some M) := grownM_trans (grownM_below hb67) hgr8 (fun r e => .inr (Option.some.inj e).symm); have hk8 : KpG n₀ (fun q => q = M ∨ q = B0 ∨ q = B0 + 1) W w8 := kpg_grownM hg8 hzW (Or.inl rfl); have hX8 := hX.grown hg8 (fun e => by cases e; omega); have hrow8 := hid (hrow.kept hg8 (.inr (by simp only [Value.ownBlock, ne_eq, Option.some.injEq]; omega))); have hz8 := hg8.size; have rx := hX8.cell 0; have lx := hX8.lt) | (gi_at_builtin; refine wpListIn_append_own_at _ rfl _ _ 23 rfl B0 2 i0 _ 1 8 under23 J0.out J1.out J2.out J3.out rfl (by decide) _ L ((allL f pl).flatMap cI) rfl (hrow8.out.alloc _) ⟨w8.heap.size, 0, none⟩ 1 1 [.int .i64 (v8 + max x (-x))] rfl rfl (fun j u hj => World.news_of_block (Blk.new' rfl) j u hj) (one1 _) (by unfold maxLen; omega) (by omega) (by simp; omega) ?_; intro v9 w9 ho9 hg9 hn9 hat9; obtain ⟨q9, cap9, hv9, hq9, hl9⟩ := World.ownsRow.form ho9 (Nat.succ_pos _); subst hv9; have hX9 := hid ((hX8.alloc (.cells #[.int .i64 (v8 + max x (-x))] 2)).grown hg9 (fun e => by have e2 : some (B0 + 1) = some q := e; have e3 := Option.some.inj e2; omega)); have rx9 := hX9.out.cell 0; have fx9 := hX9.out.frozen 0; have lx9 := hX9.out.lt; clear rx lx))
            have hz9 := hg9.size
            simp only [World.size_alloc] at hz9
            have hqq : q9 = q ∨ q9 = w8.heap.size + 1 := by
              rcases hat9 with h | h
              · exact .inl (Option.some.inj (show some q9 = some q from h))
              · have h2 := Option.some.inj (show some q9 = some _ from h); rw [World.size_alloc] at h2; exact .inr h2
            have hk9 : KpG n₀ (fun q => q = M ∨ q = B0 ∨ q = B0 + 1) w8 w9 := (KpG.alloc w8 (by omega) (.cells #[.int .i64 (v8 + max x (-x))] 2)).trans ⟨hg9.size, fun k hk hG => hg9.block k (by simp; omega) (fun e => by have e2 : some k = some q := e; have e3 := Option.some.inj e2; omega)⟩
            have hk10 : KpG n₀ (fun q => q = M ∨ q = B0 ∨ q = B0 + 1) W (w9.setCell ⟨B0 + 1, 0, none⟩ (.slice (some ⟨q9, 0, none⟩) (L + 1) cap9)) := (hk8.trans hk9).trans (KpG.setCell _ (Or.inr (Or.inr rfl)) _)
            have hkf : KeepsFrom w5.heap.size W (w9.setCell ⟨B0 + 1, 0, none⟩ (.slice (some ⟨q9, 0, none⟩) (L + 1) cap9)) := ((KeepsFrom.of_grownBy hg8 (fun j e => by cases e; have := Hn0.out; omega)).trans (((KeepsOthers.alloc w8 (.cells #[.int .i64 (v8 + max x (-x))] 2)).from _).trans (keepsFrom_own (hrow8.out.alloc _) hg9))).trans ((KeepsOthers.setCell _ _ _).from _)
            have hgw9 : w.grownBy w9 (some M) := grownM_trans (grownM_trans (grownM_trans hgw hg8 (fun r e => .inr (Option.some.inj e).symm)) (grown_of_below' (Below.alloc (Below.refl _ _) (Nat.le_refl _) (.cells #[.int .i64 (v8 + max x (-x))] 2))) (fun r e => by cases e)) hg9 (fun r e => by have e2 : some q = some r := e; have e3 := Option.some.inj e2; omega)
            have hLs : (allL f (pl ++ [x])).length = L + 1 := by rw [hN.out, List.length_append, hL]; rfl
            refine ⟨hkf, hk10, q9, cap9, m8, D8, by omega, ?_, ?_, by rw [hpp2]; have := HT.out; omega, ?_, hme8, hkp.trans hk10, grownM_setCell hgw9 (by omega) _⟩
            · rw [hpp, hLs]; exact hX9.out.set_ 0 _
            · rw [hpp, hLs, hN.out, List.flatMap_append]
              exact own_set2 ho9 hX9.out _
            · exact ((hmap8.alloc _).kept hg9 (fun e => by have e2 : some M = some q := e; have e3 := Option.some.inj e2; omega)).setCell (by simp; omega) _
        · have Hin := hid ((all_one (x := a - sx) (lo := -300) (hi := 300)).trans (inR_f.2 (by omega)))
          have hN := hid (allL_none pl (f := f) (n := x) (by rw [← Hfx.out]; exact few_far hp h0 (by omega)))
          gi_wp2_with (first | (gi_at_call 66; refine (calls_wd (within_any _ _ _ [a - sx] (-300) 300 _ (inS_lit1 _ (by first | (simp; done) | (simp; omega) | omega) (by first | (simp; done) | (simp; omega) | omega)) (by omega))).mono ?_; rw [Hin.out]; rintro e w7 ⟨rfl, hb7⟩; have hb67 : Below W.heap.size W w7 := hW6.trans (Below.trans (Below.alloc (Below.refl _ _) hz6 _) (hb7.mono (by first | (simp; done) | (simp; omega) | omega)))))
          have hk8 : KpG n₀ (fun q => q = M ∨ q = B0 ∨ q = B0 + 1) W w7 := KpG.of_below (hb67.mono hzW)
          refine ⟨keepsFrom_below hb67, hk8, q, cap, m', D', hq, ?_, ?_, by rw [hpp2]; omega, map_below hmap hb67, hme, hkp.trans hk8, grownM_trans hgw (grown_of_below' hb67) (fun r e => by cases e)⟩
          · rw [hpp, hN.out, hL]; exact hX.below hb67 hX.lt
          · rw [hpp, hN.out, hL]; exact owns_below hrow hb67
      case done =>
        rintro D1 ys W9 hD hys ⟨q, cap, m', D', hq, hX, hrow, hm', hmap, hme, hkp, hgw⟩ hK
        have hbest : bestI (allL f (ys.map (·.1))) = nv (fewO p (ks.drop i) a) := by
          rw [best_allL (fun x y h => by
            have h3 := Hfb.out x y h
            have h4 : -300 ≤ a - x * kd.wt ∧ a - x * kd.wt ≤ 300 := by
              rcases Classical.em (-300 ≤ a - x * kd.wt ∧ a - x * kd.wt ≤ 300) with h5 | h5
              · exact h5
              · rw [← Hf.out] at h
                have h6 : fewO p (ks.drop (i + 1)) (a - x * kd.wt) = some y := h
                rw [few_far hp h0 (by omega)] at h6; cases h6
            have h7 : -100300 ≤ x ∧ x ≤ 100300 := by
              rcases Int.le_total 0 x with h8 | h8
              · have : x * 1 ≤ x * kd.wt := Int.mul_le_mul_of_nonneg_left hkb.1 h8
                omega
              · have : x * kd.wt ≤ x * 1 := Int.mul_le_mul_of_nonpos_left h8 hkb.1
                omega
            unfold absI
            omega)]
          rw [Hdrop.out, ← foldL_few, ← Hf.out]
          congr 2
          rw [hys]
          unfold upto
          rw [List.map_map]
          refine List.map_congr_left fun j hj => ?_
          exact numAt_v hp hok (List.mem_range.1 hj)
        have hyl : ys.length = numsN p kd := by rw [hys, upto_length]
        have hNb := (numsN_le hp hok).2.2.2
        obtain ⟨L, hL⟩ : ∃ L, (allL f (ys.map (·.1))).length = L := ⟨_, rfl⟩
        have hLb : 1 ≤ L ∧ L ≤ 602 := by have := allL_len f (ys.map (·.1)); rw [List.length_map] at this; omega
        rw [hL] at hX hrow
        have hcap := own_cap hrow
        have hins : InS W9 W9.heap.size (some ⟨q, 0, none⟩) L (allL f (ys.map (·.1))) := Sl.of_own hrow
        have hzW : n₀ ≤ W9.heap.size := by have := hkp.1; omega
        have e4 := hkp.blk b4 (by omega) (by omega)
        have e5 := hkp.blk b5 (by omega) (by omega)
        have r40 := e4.cell 0
        have r41 := e4.cell 1
        have r5 := e5.cell 0
        have rx := hX.cell 0
        have l4 : w.heap.size + 1 < W9.heap.size := by omega
        have l5 : w.heap.size + 1 + 1 < W9.heap.size := by omega
        have lx : B0 + 1 < W9.heap.size := by omega
        have Hbest := hid hbest
        have Hm' := hid (show m' ≤ m + numsN p kd * T0 by rw [← hyl]; exact hm')
        have hMW : M < W9.heap.size := hmap.lt
        have hDW : D1 < W9.heap.size := (Array.getElem?_eq_some_iff.1 hK).1
        have hMD : M ≠ D1 := by omega
        simp only [hT]
        clear hbest hys hm'
        gi_wp2
        refine wpIn_region_hd 5 (fun W' => Below W9.heap.size W9 W') (by kernel_rfl) (by kernel_rfl) ((Below.refl _ _).drew) ?_
        simp only [List.take_succ_cons, List.take_zero, List.drop_succ_cons, List.drop_zero]
        iterate 4 (refine wpHd_val (v := ?_) (by rfl) (fun W hW => ?_) ?_; rotate_left; (· obtain ⟨hcW, hfW⟩ := bcell hW; go_simp; with_reducible rfl); simp only [Act.put, List.setIfInBounds_toArray, List.set_cons_zero, List.set_cons_succ])
        (refine wpHd_callB (by rfl) (fun W hW => best_below _ L cap _ W (hins.below hW hW.size) hLb.1 (by omega) hcap) (fun W hW => ?_) ?_; (· obtain ⟨hcW, hfW⟩ := bcell hW; go_simp); simp only [Act.put, List.setIfInBounds_toArray, List.set_cons_zero, List.set_cons_succ])
        refine wpHd_nil ?_
        intro W10 hW10
        rw [Hbest.out]
        have Hwf := hid (nv_wf (o := fewO p (ks.drop i) a) (fun y hy => by have := hbd.out y hy; omega))
        gi_wp2_with (gi_at_mapUpdate; refine wpListIn_mapUpdate_own _ rfl _ _ _ 112 rfl 115 2 K115 under112 _ M m' D' rfl (map_below hmap hW10) (by unfold maxLen; have := Hm'.out; omega) _ _ (klF i a) rfl rfl hkey.out _ [] (plainElem_int under2 Hwf.out) ?_; intro W11 hmap11 hgr11)
        obtain ⟨hp1, hp2, hp3⟩ := Hmemo.out.put (by omega) (by omega : i ≤ ks.length) h1 h2
        obtain ⟨q1, q2, q3⟩ := hme.put (by omega) (by omega : i ≤ ks.length) h1 h2
        have Hq3 := hid q3
        have hmap11' := hid hmap11
        have hg1011 : W9.grownBy W11 (some M) := grownM_trans (grownM_below hW10) hgr11 (fun r e => .inr (Option.some.inj e).symm)
        have hz11 := hg1011.size
        have g40 := ((e4.grown hg1011 (fun e => by have := Option.some.inj e; omega)).cell 0)
        have g41 := ((e4.grown hg1011 (fun e => by have := Option.some.inj e; omega)).cell 1)
        have g5 := ((e5.grown hg1011 (fun e => by have := Option.some.inj e; omega)).cell 0)
        have m4 := Nat.lt_of_lt_of_le l4 hz11
        have m5 := Nat.lt_of_lt_of_le l5 hz11
        clear r40 r41 r5 rx l4 l5 lx hmap11 q3 hp1 hp2 hp3
        simp only [Act.put]
        refine wpIn_region_hd_all (fun W' => Below W11.heap.size W11 W') (by kernel_rfl) (by kernel_rfl) ((Below.refl _ _).drew) ?_
        iterate 2 (refine wpHd_val (v := ?_) (by rfl) (fun W hW => ?_) ?_; rotate_left; (· obtain ⟨hcW, hfW⟩ := bcell hW; go_simp; with_reducible rfl); simp only [Act.put, List.setIfInBounds_toArray, List.set_cons_zero, List.set_cons_succ])
        refine wpHd_val (v := .int .i64 (nv (fewO p (ks.drop i) a))) (by rfl) (fun W hW => ?_) ?_
        · go_simp
          rw [look_run (map_below hmap11'.out hW) (by omega) h1 h2 Hq3.out]
          rfl
        simp only [Act.put, List.setIfInBounds_toArray, List.set_cons_zero, List.set_cons_succ]
        iterate 2 (refine wpHd_val (v := ?_) (by rfl) (fun W hW => ?_) ?_; rotate_left; (· obtain ⟨hcW, hfW⟩ := bcell hW; go_simp; with_reducible rfl); simp only [Act.put, List.setIfInBounds_toArray, List.set_cons_zero, List.set_cons_succ])
        refine wpHd_val (v := .int .i64 (nv (fewO p (ks.drop i) a))) (by rfl) (fun W hW => ?_) ?_
        · go_simp
          rw [look_run (map_below hmap11'.out hW) (by omega) h1 h2 Hq3.out]
          rfl
        simp only [Act.put, List.setIfInBounds_toArray, List.set_cons_zero, List.set_cons_succ]
        iterate 3 (refine wpHd_val (v := ?_) (by rfl) (fun W hW => ?_) ?_; rotate_left; (· obtain ⟨hcW, hfW⟩ := bcell hW; go_simp; with_reducible rfl); simp only [Act.put, List.setIfInBounds_toArray, List.set_cons_zero, List.set_cons_succ])
        refine wpHd_nil ?_
        intro W12 hW12
        gi_wp2
        have hg12 : W9.grownBy W12 (some M) := grownM_trans hg1011 (grown_of_below' hW12) (fun r e => by cases e)
        have hK12 : W12.heap[D1]? = some (.deferred (some [])) := (hg12.block D1 hDW (fun e => hMD (Option.some.inj e).symm)).trans hK
        have hg13 : w.grownBy W12 (some M) := grownM_trans hgw hg12 (fun r e => .inr (Option.some.inj e).symm)
        refine leavesM_marks [D1] _ (by simp) (by simpa using hK12) (fun w' ho => ⟨.tuple #[.int .i64 (nv (fewO p (ks.drop i) a)), .bool (decide (nv (fewO p (ks.drop i) a) < 1073741824))], by simp [results, Try.results95, go_sem], ?_⟩)
        rw [nv_lt (fun y hy => by have := hbd.out y hy; omega)]
        refine ⟨_, _, m' + 1, _, rfl, rfl, fun y hy => nv_some hy, ?_, map_off (map_below hmap11'.out hW12) ho (by simp; omega), q1, fun _ => q2, ⟨ho.os.trans hg13.os, ho.tape.trans hg13.tape, ho.output.trans hg13.output, by rw [ho.size]; exact hg13.size, fun k hk' hne => (ho.block k (by simp; omega)).trans (hg13.block k hk' hne)⟩⟩
        rw [Hdrop.out]
        show m' + 1 ≤ m + (1 + numsN p kd * wrN p (ks.drop (i + 1)))
        rw [HT.out]
        have := Hm'.out
        omega
    · have Hh := hid hh
      clear hh
      gi_wp2_with (first | (gi_at_lookup; refine wpListIn_lookup_own_ok_int _ rfl _ _ 112 rfl 115 2 .i64 K115 under112 under2 (zero2 _) M m D rfl hown2'.out _ (klF i a) rfl hkey.out ?_; intro cv hat hwc; rw [Hh.out]; obtain rfl := Hhas.out cv hat Hh.out; clear hat hwc))
      refine leavesM_marks [] _ (by simp) (by simp) (fun w' ho => ⟨.tuple #[.int .i64 (nv (fewO p (ks.drop i) a)), .bool (decide (nv (fewO p (ks.drop i) a) < 1073741824))], by simp [results, Try.results95, go_sem], ?_⟩)
      rw [nv_lt (fun y hy => by have := hbd.out y hy; omega)]
      exact ⟨_, _, m, D, rfl, rfl, fun y hy => nv_some hy, by omega, map_off hown2'.out ho (by simp), Hmemo.out, fun _ => Hh.out, grownM_below (ho.below hb2 (by simp))⟩
end Go.Proofs.Ytolghmhodaphfaa
