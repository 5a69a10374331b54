/- Texts of the proof, laid together by program. -/
import Derived.Test.YtpgdfipikfbjeaaMi
import Derived.Test.YtpgdfipikfbjeaaMf
set_option linter.unusedSimpArgs false
set_option linter.unusedVariables false
/- Walks: the closures that compare results; find. -/
namespace Go.Proofs.Ytpgdfipikfbjeaa
open Go.RowKit Go.Shelf
attribute [local go_sem] Oper.semAt_some
set_option maxRecDepth 10000 in
set_option maxHeartbeats 1600000 in
theorem alclo_any (A B : Option Addr) (n c m d g P M mp bd br : Nat) (CL pl : List (List Int)) (x r : List Int) (w : World) (hB : Bench w g P M CL pl mp) (hx : InS w w.heap.size A n x) (hr : InS w w.heap.size B m r) (c1 : w.cell? ⟨bd, 0, none⟩ = some (.pointer (some ⟨g, 0, none⟩))) (c2 : w.cell? ⟨br, 0, none⟩ = some (.slice B m d)) (lbd : bd < w.heap.size) (lbr : br < w.heap.size) (hn : n ≤ 1000000) (hxb : ∀ v ∈ x, 0 ≤ v ∧ v < 8) (hpl : pl.length ≤ 8) :
    Calls Try.prog 67 #[.slice A n c, .pointer (some ⟨bd, 0, none⟩), .pointer (some ⟨br, 0, none⟩)] w fun e w' => e = .returned (.bool (eqI (resL pl x) r)) ∧ Below w.heap.size w w' := by
  obtain ⟨W0, hW0⟩ : ∃ W0 : World, W0 = w := ⟨_, rfl⟩
  rw [← hW0] at hB hx hr c1 c2 lbd lbr ⊢
  clear hW0 w
  have HBn := hid hB
  have HX := hid hx
  have HR := hid hr
  have Hxb := hid hxb
  have C1 := hid c1
  have C2 := hid c2
  clear hB hx hr hxb c1 c2
  go_enter Try.func67, Try.ntmps67
  go_wp2
  (refine Sx.wp_region_rel (fun W => Below W0.heap.size W0 W) (fun _ _ h he => h.trans (he.mono h.size)) [0, 1, 3] [(2, []), (4, [0]), (5, [1])] (by kernel_rfl) (by kernel_rfl) (by kernel_rfl) (Below.refl _ _).drew ?_; simp only [pick, List.getElem?_toArray, List.getElem?_cons_zero, List.getElem?_cons_succ])
  iterate 3 (refine Sx.wpE_val (v := ?_) (by rfl) (fun W hW => ?_) ?_; rotate_left; (· have e1 := ((bcell hW).1 bd 0 lbd).trans C1.out; have e2 := ((bcell hW).1 br 0 lbr).trans C2.out; have l1 := Nat.lt_of_lt_of_le lbd hW.size; have l2 := Nat.lt_of_lt_of_le lbr hW.size; go_simp; with_reducible rfl); simp only [Act.put, List.setIfInBounds_toArray, List.set_cons_zero, List.set_cons_succ])
  simp only [Sx.wpE, Sx.pickD, List.getElem?_toArray, List.getElem?_cons_zero, List.getElem?_cons_succ]
  refine ⟨fun v W => ∃ A' k, v = .slice A' pl.length k ∧ InS W W.heap.size A' pl.length (resL pl x), fun v W W' _ _ he ⟨A', k, h1, h2⟩ => ⟨A', k, h1, h2.below he he.size⟩, ?_, ?_⟩
  · simp only [List.filterMap_cons, List.filterMap_nil, List.nil_append, List.cons_append, List.getElem?_cons_zero, List.getElem?_cons_succ, Sx.Wi, Act.put, List.setIfInBounds_toArray, List.set_cons_zero, List.set_cons_succ]
    intro W hW
    refine Sx.ROp_call (f := 65) (by rfl) (by go_simp) ((results_any g P M CL pl mp A n c x _ (HBn.out.below hW) (HX.out.below hW hW.size) hn Hxb.out hpl).mono ?_)
    rintro e W2 ⟨v2, rfl, ho2, hb2⟩
    obtain ⟨A3, c3, hv3, hs3⟩ := sl_of_owns ho2
    exact ⟨_, rfl, hW.trans (hb2.mono hW.size), hb2, A3, c3, hv3, hs3⟩
  simp only [List.filterMap_cons, List.filterMap_nil, List.nil_append, List.cons_append, List.getElem?_cons_zero, List.getElem?_cons_succ, Sx.Wi, Act.put, List.setIfInBounds_toArray, List.set_cons_zero, List.set_cons_succ]
  refine ⟨fun v _ => v = .bool (eqI (resL pl x) r), fun _ _ _ _ _ _ h => h, ?_, ?_⟩
  · simp only [List.filterMap_cons, List.filterMap_nil, List.nil_append, List.cons_append, List.getElem?_cons_zero, List.getElem?_cons_succ, Sx.Wi, Act.put, List.setIfInBounds_toArray, List.set_cons_zero, List.set_cons_succ]
    rintro _ W ⟨hW, A3, c3, rfl, hs3⟩
    refine Sx.ROp_call (f := 68) (by rfl) (by go_simp) ((equal_any _ A3 B pl.length c3 m d (resL pl x) r hs3 (HR.out.below hW hW.size) (by omega)).mono ?_)
    rintro e W4 ⟨rfl, hb4⟩
    exact ⟨_, rfl, hW.trans (hb4.mono hW.size), hb4, rfl⟩
  simp only [List.filterMap_cons, List.filterMap_nil, List.nil_append, List.cons_append, List.getElem?_cons_zero, List.getElem?_cons_succ, Sx.Wi, Act.put, List.setIfInBounds_toArray, List.set_cons_zero, List.set_cons_succ]
  refine ⟨fun v _ => v = .bool (eqI (resL pl x) r), fun _ _ _ _ _ _ h => h, ?_, ?_⟩
  · simp only [List.filterMap_cons, List.filterMap_nil, List.nil_append, List.cons_append, List.getElem?_cons_zero, List.getElem?_cons_succ, Sx.Wi, Act.put, List.setIfInBounds_toArray, List.set_cons_zero, List.set_cons_succ]
    rintro _ W ⟨hW, rfl⟩
    exact Sx.ROp_val _ (by rfl) (by go_simp) hW rfl
  simp only [List.filterMap_cons, List.filterMap_nil, List.nil_append, List.cons_append, List.getElem?_cons_zero, List.getElem?_cons_succ, Sx.Wi, Act.put, List.setIfInBounds_toArray, List.set_cons_zero, List.set_cons_succ]
  rintro _ _ _ W4 ⟨⟨⟨hbw4, A3, c3, rfl, -⟩, rfl⟩, rfl⟩
  go_wp2
  refine bodyPost_ret (v := .bool (eqI (resL pl x) r)) (by first | (simp [results, Try.results67, go_sem]; done) | (simp [results, Try.results67, go_sem, *]; done) | (simp [results, Try.results67, go_sem, World.cell?_setCell_same', *]; done) | (simp [results, Try.results67, go_sem]; first | exact ⟨rfl, rfl⟩ | rfl)) rfl ⟨rfl, hbw4⟩
end Go.Proofs.Ytpgdfipikfbjeaa
/- Walks: find. -/
namespace Go.Proofs.Ytpgdfipikfbjeaa
open Go.RowKit Go.Shelf
attribute [local go_sem] Oper.semAt_some
/-- What find finds. -/
def fndL (q : List Int → Bool) (ls : List (List Int)) : List Int := (ls.find? q).getD []
def fndB (q : List Int → Bool) (ls : List (List Int)) : Bool := (ls.find? q).isSome
theorem find_hit {q : List Int → Bool} {ls : List (List Int)} {k : Nat} {x : List Int} (h : (ls.take k).all (fun y => !q y) = true) (hx : ls[k]? = some x) (hq : q x = true) : ls.find? q = some x := by
  rw [← List.take_append_drop k ls, List.find?_append]
  have h1 : (ls.take k).find? q = none := by
    rw [List.find?_eq_none]
    intro y hy
    have := List.all_eq_true.1 h y hy
    simpa using this
  obtain ⟨hk, e⟩ := List.getElem?_eq_some_iff.1 hx
  rw [h1, List.drop_eq_getElem_cons hk, e]
  simp [hq]
theorem find_none {q : List Int → Bool} {ls : List (List Int)} (h : ls.all (fun y => !q y) = true) : ls.find? q = none := by
  rw [List.find?_eq_none]
  intro y hy
  have := List.all_eq_true.1 h y hy
  simpa using this
set_option maxRecDepth 10000 in
set_option maxHeartbeats 800000 in
theorem findA_any (A B : Option Addr) (n c m d g P M mp bd br : Nat) (CL pl ls : List (List Int)) (r : List Int) (w : World) (hB : Bench w g P M CL pl mp) (hl : LiS w w.heap.size A n ls) (hr : InS w w.heap.size B m r) (c1 : w.cell? ⟨bd, 0, none⟩ = some (.pointer (some ⟨g, 0, none⟩))) (c2 : w.cell? ⟨br, 0, none⟩ = some (.slice B m d)) (lbd : bd < w.heap.size) (lbr : br < w.heap.size) (hn : n ≤ 1000) (hlb : ∀ x ∈ ls, ∀ v ∈ x, 0 ≤ v ∧ v < 8) (hls : ∀ x ∈ ls, x.length ≤ 12) (hpl : pl.length ≤ 8) :
    Calls Try.prog 66 #[.slice A n c, .func (.func 67) #[] #[.pointer (some ⟨bd, 0, none⟩), .pointer (some ⟨br, 0, none⟩)]] w fun e w' => ∃ A' m' c', e = .returned (.tuple #[.slice A' m' c', .bool (fndB (fun x => eqI (resL pl x) r) ls)]) ∧ InS w' w'.heap.size A' m' (fndL (fun x => eqI (resL pl x) r) ls) ∧ Below w.heap.size w w' := by
  have HL := hid hl
  have HBn := hid hB
  have HR := hid hr
  have Hlb := hid hlb
  have Hls := hid hls
  have C1 := hid c1
  have C2 := hid c2
  have hlen := hid hl.1
  obtain ⟨q, hq⟩ : ∃ q, (fun x => eqI (resL pl x) r) = q := ⟨_, rfl⟩
  have hqx : ∀ x, eqI (resL pl x) r = q x := fun x => by rw [← hq]
  have Hqx := hid hqx
  rw [hq]
  clear hl hB hr hlb hls c1 c2 hq hqx
  go_enter Try.func66, Try.ntmps66
  go_wp2
  go_loopw [11] (fun i wr => ∃ k : Nat, k ≤ n ∧ i = .int .i64 k ∧ Hid ((ls.take k).all (fun y => !q y) = true) ∧ Below w.heap.size w wr) (fun i _ => n - (intOf i).toNat)
  case atStart => exact ⟨0, by omega, rfl, rfl, Below.refl _ _⟩
  case round =>
    obtain ⟨k, hk, rfl, hall, hbw⟩ := hrel
    have hzw := hbw.size
    by_cases hlt : k < n
    · obtain ⟨b, off, x, A', m', c', rfl, hb, hx, c0, hin⟩ := (HL.out.below hbw hzw).at_ hlt
      have Hx := hid hx
      have HI := hid hin
      have hlti : (k : Int) < n := by omega
      have hm' : m' ≤ 1000000 := by have := hin.len; have := Hls.out x (List.mem_of_getElem? hx); omega
      clear hx hin
      cases hqv : q x
      all_goals
        have Hq := hid ((Hqx.out x).trans hqv)
        have Hqv := hid hqv
        clear hqv
        go_wp2_with (go_at_call 67; refine (alclo_any A' B m' c' m d g P M mp bd br CL pl x r _ (HBn.out.below hbw) HI.out (HR.out.below hbw hzw) ((hbw.cell (p := ⟨bd, 0, none⟩) lbd).trans C1.out) ((hbw.cell (p := ⟨br, 0, none⟩) lbr).trans C2.out) (by omega) (by omega) hm' (Hlb.out x (List.mem_of_getElem? Hx.out)) hpl).mono ?_; rw [Hq.out]; rintro e w1 ⟨rfl, hb1⟩)
      · have hbw1 : Below w.heap.size w w1 := hbw.trans (hb1.mono hzw)
        exact ⟨⟨k + 1, by omega, by go_num, hid (all_take_succ hall.out Hx.out (by rw [Hqv.out]; rfl)), hbw1⟩, by simp [intOf]; omega⟩
      · have hbw1 : Below w.heap.size w w1 := hbw.trans (hb1.mono hzw)
        have hf := find_hit hall.out Hx.out Hqv.out
        refine bodyPost_ret (v := .tuple #[.slice A' m' c', .bool true]) (by first | (simp [results, Try.results66, go_sem]; done) | (simp [results, Try.results66, go_sem, *]; done) | (simp [results, Try.results66, go_sem, World.cell?_setCell_same', *]; done) | (simp [results, Try.results66, go_sem]; first | exact ⟨rfl, rfl⟩ | rfl)) rfl ⟨A', m', c', ?_, ?_, hbw1⟩
        · unfold fndB; rw [hf]; rfl
        · unfold fndL; rw [hf]; exact HI.out.below hb1 hb1.size
    · have hf : ls.find? q = none := find_none (by have := hall.out; rwa [List.take_of_length_le (by rw [hlen.out]; omega)] at this)
      have hlti : ¬ (k : Int) < n := by omega
      have Hf := hid hf
      clear hf
      go_wp2
      refine bodyPost_ret (v := .tuple #[.slice none 0 0, .bool false]) (by first | (simp [results, Try.results66, go_sem]; done) | (simp [results, Try.results66, go_sem, *]; done) | (simp [results, Try.results66, go_sem, World.cell?_setCell_same', *]; done) | (simp [results, Try.results66, go_sem]; first | exact ⟨rfl, rfl⟩ | rfl)) rfl ⟨none, 0, ⟨0, ?_⟩, ?_, hbw⟩
      · unfold fndB; rw [Hf.out]; rfl
      · unfold fndL; rw [Hf.out]; exact Sl.none_
end Go.Proofs.Ytpgdfipikfbjeaa
/- Walks: Alike, CheckTells. -/
namespace Go.Proofs.Ytpgdfipikfbjeaa
open Go.RowKit Go.Shelf
attribute [local go_sem] Oper.semAt_some
theorem ali_find {pl CL : List (List Int)} {i : Nat} : (CL.drop (i + 1)).find? (fun x => eqI (resL pl x) (resL pl (CL.getD i []))) = (aliK pl CL i CL.length).map fun k => CL.getD k [] := by
  have sym : ∀ a b : List Int, eqI a b = eqI b a := fun a b => by unfold eqI; by_cases h : a = b <;> simp [h, eq_comm]
  have at_ : ∀ j x, (CL.drop (i + 1))[j]? = some x → aliP pl CL i (i + 1 + j) = eqI (resL pl x) (resL pl (CL.getD i [])) := fun j x h => by
    rw [List.getElem?_drop] at h
    unfold aliP
    rw [sym, List.getD_eq_getElem?_getD (l := CL) (i := i + 1 + j), h]; rfl
  cases hk : aliK pl CL i CL.length with
  | none =>
    rw [Option.map_none]
    refine find_none ?_
    rw [List.all_eq_true]
    intro x hx
    obtain ⟨j, hj⟩ := List.getElem?_of_mem hx
    unfold aliK at hk
    rw [List.find?_eq_none] at hk
    have hlt := (List.getElem?_eq_some_iff.1 hj).1
    rw [List.length_drop] at hlt
    have := hk (i + 1 + j) (List.mem_range.2 (by omega))
    rw [at_ j x hj] at this
    have e : decide (i < i + 1 + j) = true := decide_eq_true (by omega)
    rw [e, Bool.true_and] at this
    simpa using this
  | some k =>
    rw [Option.map_some]
    unfold aliK at hk
    rw [List.find?_range_eq_some] at hk
    obtain ⟨h1, h2, h3⟩ := hk
    rw [Bool.and_eq_true, decide_eq_true_eq] at h1
    rw [List.mem_range] at h2
    have hx : (CL.drop (i + 1))[k - (i + 1)]? = some (CL.getD k []) := by
      rw [List.getElem?_drop, show i + 1 + (k - (i + 1)) = k by omega, List.getElem?_eq_getElem h2, List.getD_eq_getElem?_getD, List.getElem?_eq_getElem h2]; rfl
    refine find_hit (k := k - (i + 1)) ?_ hx ?_
    · rw [List.all_eq_true]
      intro y hy
      obtain ⟨j, hj⟩ := List.getElem?_of_mem hy
      have hlt : j < k - (i + 1) := by
        have := (List.getElem?_eq_some_iff.1 hj).1
        rw [List.length_take] at this; omega
      rw [List.getElem?_take_of_lt hlt] at hj
      have := h3 (i + 1 + j) (by omega)
      rw [at_ j y hj] at this
      have e : decide (i < i + 1 + j) = true := decide_eq_true (by omega)
      rw [e, Bool.true_and] at this
      simpa using this
    · have := at_ _ _ hx
      rw [show i + 1 + (k - (i + 1)) = k by omega] at this
      rw [← this]; exact h1.2
theorem LiS.drop {w : World} {B n k c : Nat} {A : Option Addr} {ls : List (List Int)} (h : LiS w B A n ls) (hk : k ≤ n) (hc : n ≤ c) : LiS w B (if c = k then A else A.map (·.add k)) (n - k) (ls.drop k) := by
  obtain ⟨h1, vs, h2, h3⟩ := h
  refine ⟨by rw [List.length_drop, h1], vs.drop k, ?_, fun j l hl => ?_⟩
  · have := h2.cut hk (Nat.le_refl _) hc
    rw [Nat.mul_one, Nat.mul_one, List.take_of_length_le (by rw [List.length_drop]; have := h2.1; omega)] at this
    exact this
  · rw [List.getElem?_drop] at hl
    obtain ⟨A', m, c', e, h4⟩ := h3 _ l hl
    exact ⟨A', m, c', by rw [List.getElem?_drop]; exact e, h4⟩
set_option maxRecDepth 10000 in
set_option maxHeartbeats 1600000 in
theorem alike_any (A : Option Addr) (n c : Nat) (pl : List (List Int)) (P M : Int) (w : World) (hp : LiS w w.heap.size A n pl) (hn : n ≤ 12) (hw : ∀ l ∈ pl, l.length ≤ 12) :
    Calls Try.prog 18 #[.agg #[.int .i64 P, .int .i64 M], .slice A n c] w fun e w' => ∃ A1 m1 c1 A2 m2 c2, e = .returned (.tuple #[.slice A1 m1 c1, .slice A2 m2 c2, .int .i64 (aliR P M pl).2.2]) ∧ InS w' w'.heap.size A1 m1 (aliR P M pl).1 ∧ InS w' w'.heap.size A2 m2 (aliR P M pl).2.1 ∧ Below w.heap.size w w' := by
  obtain ⟨W0, hWb⟩ : ∃ W0, w.alloc (.cells #[.int .i64 P, .int .i64 M] 23) = W0 := ⟨_, rfl⟩
  have bB : Blk W0 w.heap.size 23 #[.int .i64 P, .int .i64 M] := by rw [← hWb]; exact Blk.new' rfl
  have hbel : Below w.heap.size w W0 := by rw [← hWb]; exact (Below.refl _ _).alloc (Nat.le_refl _) _
  have hsz := hbel.size
  have lB := bB.lt
  have p0 := bB.cell 0
  have p1 := bB.cell 1
  have HP := hid (hp.below hbel hsz)
  clear hp
  by_cases hbd : checkPlan P M pl ≠ 0
  · have hR := hid (show aliR P M pl = ([], [], checkPlan P M pl) from if_pos hbd)
    have hbi : (checkPlan P M pl == 0) = false := by simpa using hbd
    have hbi2 : ¬ checkPlan P M pl = 0 := hbd
    have Hb := hid hbd
    clear hbd
    go_enter Try.func18, Try.ntmps18
    go_wp2_with (fail)
    refine (open_bad A n c pl P M _ (HP.out.below (by repeat' (first | with_reducible assumption | with_reducible exact Below.refl _ _ | refine Below.alloc ?_ ?_ _ | refine Below.setCell ?_ ?_ _ | refine Below.drew ?_ | refine below_drewN ?_ _ | (simp; done) | (simp; omega) | omega)) (by first | (simp; done) | (simp; omega) | omega)) hn hw Hb.out).mono ?_
    rintro e W1 ⟨rfl, hb⟩
    have hst : Below W0.heap.size W0 W1 := Below.trans (by repeat' (first | with_reducible assumption | with_reducible exact Below.refl _ _ | refine Below.alloc ?_ ?_ _ | refine Below.setCell ?_ ?_ _ | refine Below.drew ?_ | refine below_drewN ?_ _ | (simp; done) | (simp; omega) | omega)) (hb.mono (by first | (simp; done) | (simp; omega) | omega))
    replace hbel := hbel.trans (hst.mono hsz)
    replace hsz := hbel.size
    replace bB := bB.below hst bB.lt
    clear p0 p1 lB
    have p0 := bB.cell 0
    have p1 := bB.cell 1
    have lB := bB.lt
    try clear hWb
    replace HP := hid (HP.out.below hst hst.size)
    clear hb hst
    obtain ⟨W0, rfl⟩ : ∃ W0 : World, W0 = W1 := ⟨_, rfl⟩
    go_wp2
    refine bodyPost_ret (v := .tuple #[.slice none 0 0, .slice none 0 0, .int .i64 (checkPlan P M pl)]) (by first | (simp [results, Try.results18, go_sem]; done) | (simp [results, Try.results18, go_sem, *]; done) | (simp [results, Try.results18, go_sem, World.cell?_setCell_same', *]; done) | (simp [results, Try.results18, go_sem]; first | exact ⟨rfl, rfl⟩ | rfl)) rfl ⟨none, 0, 0, none, 0, 0, by rw [hR.out], by rw [hR.out]; exact Sl.none_, by rw [hR.out]; exact Sl.none_, (by repeat' (first | with_reducible assumption | with_reducible exact Below.refl _ _ | refine Below.alloc ?_ ?_ _ | refine Below.setCell ?_ ?_ _ | refine Below.drew ?_ | refine below_drewN ?_ _ | (simp; done) | (simp; omega) | omega))⟩
  · have hb0 : checkPlan P M pl = 0 := by simpa using hbd
    obtain ⟨g1, g2, g3⟩ := plan_good hb0
    obtain ⟨g4, g5, g6, g7⟩ := book_good g1
    have Hb := hid hb0
    have hR : Hid (aliR P M pl = match aliF pl (casesL P.toNat M.toNat) (casesL P.toNat M.toNat).length with | some (i, k) => ((casesL P.toNat M.toNat).getD i [], (casesL P.toNat M.toNat).getD k [], 0) | none => ([], [], 5)) := hid (if_neg (by omega))
    obtain ⟨Pn, rfl⟩ : ∃ Pn : Nat, P = Pn := ⟨P.toNat, by omega⟩
    obtain ⟨Mn, rfl⟩ : ∃ Mn : Nat, M = Mn := ⟨M.toNat, by omega⟩
    rw [Int.toNat_natCast, Int.toNat_natCast] at hR
    have hcl := cases_len (P := Pn) (M := Mn) (by omega)
    have hcb := cases_bd (P := Pn) (M := Mn) (by omega) (by omega)
    have hcs := cases_short Pn Mn
    clear hbd hb0 g1 g3
    go_enter Try.func18, Try.ntmps18
    go_wp2_with (fail)
    refine (open_ok A n c pl Pn Mn _ (HP.out.below (by repeat' (first | with_reducible assumption | with_reducible exact Below.refl _ _ | refine Below.alloc ?_ ?_ _ | refine Below.setCell ?_ ?_ _ | refine Below.drew ?_ | refine below_drewN ?_ _ | (simp; done) | (simp; omega) | omega)) (by first | (simp; done) | (simp; omega) | omega)) hw Hb.out).mono ?_
    rintro e W1 ⟨g, mp, rfl, hB, hM0, hmm, hb⟩
    have hzz := hbel.size
    have hst : Below W0.heap.size W0 W1 := Below.trans (by repeat' (first | with_reducible assumption | with_reducible exact Below.refl _ _ | refine Below.alloc ?_ ?_ _ | refine Below.setCell ?_ ?_ _ | refine Below.drew ?_ | refine below_drewN ?_ _ | (simp; done) | (simp; omega) | omega)) (hb.mono (by first | (simp; done) | (simp; omega) | omega))
    replace hbel := hbel.trans (hst.mono hsz)
    replace hsz := hbel.size
    replace bB := bB.below hst bB.lt
    clear p0 p1 lB
    have p0 := bB.cell 0
    have p1 := bB.cell 1
    have lB := bB.lt
    try clear hWb
    replace HP := hid (HP.out.below hst hst.size)
    clear hmm
    have HBn := hid hB
    clear hB
    have HM0 := hid hM0
    clear hM0
    clear hb hst
    obtain ⟨W0, rfl⟩ : ∃ W0 : World, W0 = W1 := ⟨_, rfl⟩
    clear HM0
    obtain ⟨CL, hCL⟩ : ∃ CL, casesL Pn Mn = CL := ⟨_, rfl⟩
    rw [hCL] at HBn hcl hR hcb hcs
    have HCB := hid (show ∀ x ∈ CL, ∀ v ∈ x, 0 ≤ v ∧ v < 8 from fun x hx v hv => by have := hcb x hx v hv; omega)
    have HCS := hid hcs
    clear hCL hcb hcs
    have hB0 := HBn.out
    obtain ⟨A1, c1, A2, c2, hG, hC, hR8, hcap⟩ := hB0
    obtain ⟨T7, hT7⟩ : ∃ T7, W0.heap.size = T7 := ⟨_, rfl⟩
    obtain ⟨W2, hW2⟩ : ∃ W2, W0.alloc (.cells #[.pointer (some ⟨g, 0, none⟩)] 69) = W2 := ⟨_, rfl⟩
    have hb2 : Below W0.heap.size W0 W2 := by rw [← hW2]; exact (Below.refl _ _).alloc (Nat.le_refl _) _
    have B7 : Blk W2 T7 69 #[.pointer (some ⟨g, 0, none⟩)] := by rw [← hW2]; exact Blk.new' hT7
    have hbel2 : Below w.heap.size w W2 := hbel.trans (hb2.mono hsz)
    have hsz2 := hbel2.size
    have q2 := (hG.below hb2 hG.lt).cell 2
    have lg := Nat.lt_of_lt_of_le hG.lt hb2.size
    have q7 := B7.cell 0
    have l7 := B7.lt
    have HB7 := hid B7
    have HB2 := hid (HBn.out.below hb2)
    have HC2 := hid (hC.below hb2 hb2.size)
    have HG2 := hid (hG.below hb2 hG.lt)
    clear hG hC hR8 HBn p0 p1 lB bB HP B7
    go_wp2_with (fail)
    clear hW2 q2 q7
    go_loopw [28] (fun i wr => ∃ k : Nat, k ≤ CL.length ∧ i = .int .i64 k ∧ Hid (aliF pl CL k = none) ∧ Below W2.heap.size W2 wr) (fun i _ => CL.length - (intOf i).toNat)
    case atStart => exact ⟨0, by omega, rfl, hid rfl, Below.refl _ _⟩
    case round =>
      obtain ⟨k, hk, rfl, hno, hbw⟩ := hrel
      have hzw := hbw.size
      by_cases hlt : k < CL.length
      · obtain ⟨b0, off, x, A', m', c', rfl, hb0, hx, c0, hin, hin2⟩ := (HC2.out.below hbw hzw).at_ hlt
        have HIn := hid hin
        have Hx := hid hx
        have hlti : (k : Int) < CL.length := by omega
        have zk : IntKind.i64.wrap ((k : Int) + 1) = (k : Int) + 1 := IntWalk.i64_in _ (by omega)
        have hm' : m' ≤ 1000000 := by have := hin.len; have := HCS.out x (List.mem_of_getElem? hx); omega
        have q7 := (HB7.out.below hbw l7).cell 0
        have l7r := Nat.lt_of_lt_of_le l7 hzw
        have hgx : CL.getD k [] = x := by rw [List.getD_eq_getElem?_getD, hx]; rfl
        have Hgx := hid hgx
        have hkc : k + 1 ≤ CL.length := hlt
        have hcap2 : CL.length ≤ c1 := hcap
        clear hin hx hgx
        go_wp2_with (fail)
        refine (results_any g Pn Mn CL pl mp A' m' c' x _ (HB2.out.below hbw) HIn.out hm' (HCB.out x (List.mem_of_getElem? Hx.out)) g2).mono ?_
        rintro e W3 ⟨v3, rfl, ho3, hb3⟩
        obtain ⟨A7, c7, rfl, hs7, -⟩ := own_src ho3
        obtain ⟨T11, hT11⟩ : ∃ T11, W3.heap.size = T11 := ⟨_, rfl⟩
        obtain ⟨W4, hW4⟩ : ∃ W4, W3.alloc (.cells #[.slice A7 pl.length c7] 25) = W4 := ⟨_, rfl⟩
        have hb34 : Below W3.heap.size W3 W4 := by rw [← hW4]; exact (Below.refl _ _).alloc (Nat.le_refl _) _
        have hbw4 : Below W2.heap.size W2 W4 := hbw.trans ((hb3.trans (hb34.mono hb3.size)).mono hzw)
        have hbr4 : Below wr.heap.size wr W4 := hb3.trans (hb34.mono hb3.size)
        have B11 : Blk W4 T11 25 #[.slice A7 pl.length c7] := by rw [← hW4]; exact Blk.new' hT11
        have HS7 := hid (show InS W4 W4.heap.size A7 pl.length (resL pl x) from Sl.below' hs7 hb34 hb34.size)
        have q7' := (HB7.out.below hbw4 l7).cell 0
        have l74 := Nat.lt_of_lt_of_le l7 hbw4.size
        have lg4 : g < W4.heap.size := Nat.lt_of_lt_of_le lg hbw4.size
        have q24 := (HG2.out.below hbw4 lg).cell 2
        have HB11 := hid B11
        clear q7 ho3 hs7 B11
        have hdr := LiS.drop (HC2.out.below hbw4 hbw4.size).1 hkc hcap2
        obtain ⟨bv, hbv⟩ : ∃ bv, fndB (fun y => eqI (resL pl y) (resL pl x)) (CL.drop (k + 1)) = bv := ⟨_, rfl⟩
        obtain ⟨fv, hfv⟩ : ∃ fv, fndL (fun y => eqI (resL pl y) (resL pl x)) (CL.drop (k + 1)) = fv := ⟨_, rfl⟩
        have haf := ali_find (pl := pl) (CL := CL) (i := k)
        rw [Hgx.out] at haf
        have Hbv := hid hbv
        have Hfv := hid hfv
        have Haf := hid haf
        clear hbv hfv haf
        have hq7 := HB7.out.below hbw4 l7
        have HDR := hid hdr
        have Hq7 := hid hq7
        have H11 := hid (HB11.out.cell 0)
        have hl11 : T11 < W4.heap.size := HB11.out.lt
        clear hdr hq7
        by_cases hcc : c1 = k + 1
        · have hdr := HDR.out
          rw [if_pos hcc, show CL.length - (k + 1) = 0 by omega] at hdr
          have HD := hid hdr
          clear hdr HDR
          subst hcc
          cases bv
          · have hnx : aliK pl CL k CL.length = none := by
              have h := Hbv.out
              unfold fndB at h
              rw [Haf.out] at h
              cases h2 : aliK pl CL k CL.length with
              | none => rfl
              | some q => rw [h2] at h; cases h
            have hno2 := hid (aliF_next hno.out hnx)
            clear hnx
            go_wp2_with (go_at_call 66; refine (findA_any (some ⟨b0, off, none⟩) A7 _ _ pl.length c7 g Pn Mn mp T7 T11 CL pl (CL.drop (k + 1)) (resL pl x) _ (HB2.out.below hbw4) HD.out HS7.out (Hq7.out.cell 0) H11.out l74 hl11 (by omega) (fun y hy => HCB.out y (List.mem_of_mem_drop hy)) (fun y hy => by have := HCS.out y (List.mem_of_mem_drop hy); omega) g2).mono ?_; rw [Hbv.out, Hfv.out]; rintro e W5 ⟨A9, m9, c9, rfl, hf9, hb5⟩)
            have hbw5 : Below W2.heap.size W2 W5 := hbw4.trans (hb5.mono hbw4.size)
            (first | exact ⟨⟨k + 1, by omega, by go_num, hno2, hbw5⟩, (by first | (simp [intOf]; omega) | (simp [intOf]; done))⟩ | (refine ⟨?_, ?_⟩; (focus ((repeat apply Exists.intro); refine ⟨?_, rfl⟩; exact ⟨k + 1, by omega, by go_num, hno2, hbw5⟩)); (first | (simp [intOf]; omega) | (simp [intOf]; done))))
          · have hkk : ∃ q, aliK pl CL k CL.length = some q ∧ CL.getD q [] = fv := by
              have h := Hbv.out
              have h3 := Hfv.out
              unfold fndB at h
              unfold fndL at h3
              rw [Haf.out] at h h3
              cases h2 : aliK pl CL k CL.length with
              | none => rw [h2] at h; cases h
              | some q => rw [h2] at h3; exact ⟨q, rfl, h3⟩
            obtain ⟨q, hq1, hq2⟩ := hkk
            have hhit := aliF_hit hno.out hq1 hlt
            have hR2 : Hid (aliR Pn Mn pl = (x, fv, 0)) := hid (by rw [hR.out, hhit]; show (CL.getD k [], CL.getD q [], (0 : Int)) = _; rw [Hgx.out, hq2])
            have hio := hid (HIn.out.below hbr4 hbr4.size)
            clear hhit hq1 hq2
            go_wp2_with (go_at_call 66; refine (findA_any (some ⟨b0, off, none⟩) A7 _ _ pl.length c7 g Pn Mn mp T7 T11 CL pl (CL.drop (k + 1)) (resL pl x) _ (HB2.out.below hbw4) HD.out HS7.out (Hq7.out.cell 0) H11.out l74 hl11 (by omega) (fun y hy => HCB.out y (List.mem_of_mem_drop hy)) (fun y hy => by have := HCS.out y (List.mem_of_mem_drop hy); omega) g2).mono ?_; rw [Hbv.out, Hfv.out]; rintro e W5 ⟨A9, m9, c9, rfl, hf9, hb5⟩)
            have hbw5 : Below w.heap.size w W5 := hbel2.trans ((hbw4.trans (hb5.mono hbw4.size)).mono hsz2)
            refine bodyPost_ret (v := .tuple #[.slice A' m' c', .slice A9 m9 c9, .int .i64 0]) (by first | (simp [results, Try.results18, go_sem]; done) | (simp [results, Try.results18, go_sem, *]; done) | (simp [results, Try.results18, go_sem, World.cell?_setCell_same', *]; done) | (simp [results, Try.results18, go_sem]; first | exact ⟨rfl, rfl⟩ | rfl)) rfl ⟨A', m', c', A9, m9, c9, by rw [hR2.out], ?_, ?_, hbw5⟩
            · rw [hR2.out]; exact hio.out.below hb5 hb5.size
            · rw [hR2.out]; exact hf9
        · have hdr := HDR.out
          rw [if_neg hcc] at hdr
          have hdr2 : LiS W4 W4.heap.size (some ⟨b0, off + (k + 1), none⟩) (CL.length - (k + 1)) (CL.drop (k + 1)) := by rw [← add_at]; exact hdr
          have HD := hid hdr2
          clear hdr2
          clear hdr HDR
          cases bv
          · have hnx : aliK pl CL k CL.length = none := by
              have h := Hbv.out
              unfold fndB at h
              rw [Haf.out] at h
              cases h2 : aliK pl CL k CL.length with
              | none => rfl
              | some q => rw [h2] at h; cases h
            have hno2 := hid (aliF_next hno.out hnx)
            clear hnx
            go_wp2_with (go_at_call 66; refine (findA_any (some ⟨b0, off + (k + 1), none⟩) A7 _ _ pl.length c7 g Pn Mn mp T7 T11 CL pl (CL.drop (k + 1)) (resL pl x) _ (HB2.out.below hbw4) HD.out HS7.out (Hq7.out.cell 0) H11.out l74 hl11 (by omega) (fun y hy => HCB.out y (List.mem_of_mem_drop hy)) (fun y hy => by have := HCS.out y (List.mem_of_mem_drop hy); omega) g2).mono ?_; rw [Hbv.out, Hfv.out]; rintro e W5 ⟨A9, m9, c9, rfl, hf9, hb5⟩)
            have hbw5 : Below W2.heap.size W2 W5 := hbw4.trans (hb5.mono hbw4.size)
            (first | exact ⟨⟨k + 1, by omega, by go_num, hno2, hbw5⟩, (by first | (simp [intOf]; omega) | (simp [intOf]; done))⟩ | (refine ⟨?_, ?_⟩; (focus ((repeat apply Exists.intro); refine ⟨?_, rfl⟩; exact ⟨k + 1, by omega, by go_num, hno2, hbw5⟩)); (first | (simp [intOf]; omega) | (simp [intOf]; done))))
          · have hkk : ∃ q, aliK pl CL k CL.length = some q ∧ CL.getD q [] = fv := by
              have h := Hbv.out
              have h3 := Hfv.out
              unfold fndB at h
              unfold fndL at h3
              rw [Haf.out] at h h3
              cases h2 : aliK pl CL k CL.length with
              | none => rw [h2] at h; cases h
              | some q => rw [h2] at h3; exact ⟨q, rfl, h3⟩
            obtain ⟨q, hq1, hq2⟩ := hkk
            have hhit := aliF_hit hno.out hq1 hlt
            have hR2 : Hid (aliR Pn Mn pl = (x, fv, 0)) := hid (by rw [hR.out, hhit]; show (CL.getD k [], CL.getD q [], (0 : Int)) = _; rw [Hgx.out, hq2])
            have hio := hid (HIn.out.below hbr4 hbr4.size)
            clear hhit hq1 hq2
            go_wp2_with (go_at_call 66; refine (findA_any (some ⟨b0, off + (k + 1), none⟩) A7 _ _ pl.length c7 g Pn Mn mp T7 T11 CL pl (CL.drop (k + 1)) (resL pl x) _ (HB2.out.below hbw4) HD.out HS7.out (Hq7.out.cell 0) H11.out l74 hl11 (by omega) (fun y hy => HCB.out y (List.mem_of_mem_drop hy)) (fun y hy => by have := HCS.out y (List.mem_of_mem_drop hy); omega) g2).mono ?_; rw [Hbv.out, Hfv.out]; rintro e W5 ⟨A9, m9, c9, rfl, hf9, hb5⟩)
            have hbw5 : Below w.heap.size w W5 := hbel2.trans ((hbw4.trans (hb5.mono hbw4.size)).mono hsz2)
            refine bodyPost_ret (v := .tuple #[.slice A' m' c', .slice A9 m9 c9, .int .i64 0]) (by first | (simp [results, Try.results18, go_sem]; done) | (simp [results, Try.results18, go_sem, *]; done) | (simp [results, Try.results18, go_sem, World.cell?_setCell_same', *]; done) | (simp [results, Try.results18, go_sem]; first | exact ⟨rfl, rfl⟩ | rfl)) rfl ⟨A', m', c', A9, m9, c9, by rw [hR2.out], ?_, ?_, hbw5⟩
            · rw [hR2.out]; exact hio.out.below hb5 hb5.size
            · rw [hR2.out]; exact hf9
      · obtain rfl : k = CL.length := by omega
        have hlti : ¬ ((CL.length : Nat) : Int) < CL.length := by omega
        have hR2 : Hid (aliR Pn Mn pl = ([], [], 5)) := hid (by rw [hR.out, hno.out])
        have hbw5 : Below w.heap.size w wr := hbel2.trans (hbw.mono hsz2)
        go_wp2
        refine bodyPost_ret (v := .tuple #[.slice none 0 0, .slice none 0 0, .int .i64 5]) (by first | (simp [results, Try.results18, go_sem]; done) | (simp [results, Try.results18, go_sem, *]; done) | (simp [results, Try.results18, go_sem, World.cell?_setCell_same', *]; done) | (simp [results, Try.results18, go_sem]; first | exact ⟨rfl, rfl⟩ | rfl)) rfl ⟨none, 0, 0, none, 0, ⟨0, by rw [hR2.out]⟩, by rw [hR2.out]; exact Sl.none_, by rw [hR2.out]; exact Sl.none_, hbw5⟩
    
set_option maxRecDepth 10000 in
set_option maxHeartbeats 1600000 in
theorem checkTells_any (A : Option Addr) (n c : Nat) (pl : List (List Int)) (P M : Int) (w : World) (hp : LiS w w.heap.size A n pl) (hn : n ≤ 12) (hw : ∀ l ∈ pl, l.length ≤ 12) :
    Calls Try.prog 22 #[.agg #[.int .i64 P, .int .i64 M], .slice A n c] w fun e w' => e = .returned (.int .i64 (tellsE P M pl)) ∧ Below w.heap.size w w' := by
  obtain ⟨W0, hWb⟩ : ∃ W0, w.alloc (.cells #[.int .i64 P, .int .i64 M] 23) = W0 := ⟨_, rfl⟩
  have bB : Blk W0 w.heap.size 23 #[.int .i64 P, .int .i64 M] := by rw [← hWb]; exact Blk.new' rfl
  have hbel : Below w.heap.size w W0 := by rw [← hWb]; exact (Below.refl _ _).alloc (Nat.le_refl _) _
  have hsz := hbel.size
  have lB := bB.lt
  have p0 := bB.cell 0
  have p1 := bB.cell 1
  have HP := hid (hp.below hbel hsz)
  clear hp
  obtain ⟨av, hav⟩ : ∃ av, (aliR P M pl).2.2 = av := ⟨_, rfl⟩
  have hE : Hid (tellsE P M pl = if av = 0 then 23 else if av = 5 then 0 else av) := hid (by rw [← hav]; rfl)
  have Hav := hid hav
  clear hav
  by_cases h0 : av = 0
  · have hE2 := hid (hE.out.trans (if_pos h0))
    subst h0
    go_enter Try.func22, Try.ntmps22
    go_wp2_with (fail)
    refine (alike_any A n c pl P M _ (HP.out.below (by repeat' (first | with_reducible assumption | with_reducible exact Below.refl _ _ | refine Below.alloc ?_ ?_ _ | refine Below.setCell ?_ ?_ _ | refine Below.drew ?_ | refine below_drewN ?_ _ | (simp; done) | (simp; omega) | omega)) (by first | (simp; done) | (simp; omega) | omega)) hn hw).mono ?_
    rw [Hav.out]
    rintro e W1 ⟨A1, m1, c1, A2, m2, c2, rfl, -, -, hb⟩
    have hst : Below W0.heap.size W0 W1 := Below.trans (by repeat' (first | with_reducible assumption | with_reducible exact Below.refl _ _ | refine Below.alloc ?_ ?_ _ | refine Below.setCell ?_ ?_ _ | refine Below.drew ?_ | refine below_drewN ?_ _ | (simp; done) | (simp; omega) | omega)) (hb.mono (by first | (simp; done) | (simp; omega) | omega))
    replace hbel := hbel.trans (hst.mono hsz)
    replace hsz := hbel.size
    replace bB := bB.below hst bB.lt
    clear p0 p1 lB
    have p0 := bB.cell 0
    have p1 := bB.cell 1
    have lB := bB.lt
    try clear hWb
    replace HP := hid (HP.out.below hst hst.size)
    clear hb hst
    obtain ⟨W0, rfl⟩ : ∃ W0 : World, W0 = W1 := ⟨_, rfl⟩
    go_wp2
    refine bodyPost_ret (v := .int .i64 23) (by first | (simp [results, Try.results22, go_sem]; done) | (simp [results, Try.results22, go_sem, *]; done) | (simp [results, Try.results22, go_sem, World.cell?_setCell_same', *]; done) | (simp [results, Try.results22, go_sem]; first | exact ⟨rfl, rfl⟩ | rfl)) rfl ⟨by rw [hE2.out], hbel⟩
  · by_cases h5 : av = 5
    · have hE2 := hid (hE.out.trans ((if_neg h0).trans (if_pos h5)))
      subst h5
      go_enter Try.func22, Try.ntmps22
      go_wp2_with (fail)
      refine (alike_any A n c pl P M _ (HP.out.below (by repeat' (first | with_reducible assumption | with_reducible exact Below.refl _ _ | refine Below.alloc ?_ ?_ _ | refine Below.setCell ?_ ?_ _ | refine Below.drew ?_ | refine below_drewN ?_ _ | (simp; done) | (simp; omega) | omega)) (by first | (simp; done) | (simp; omega) | omega)) hn hw).mono ?_
      rw [Hav.out]
      rintro e W1 ⟨A1, m1, c1, A2, m2, c2, rfl, -, -, hb⟩
      have hst : Below W0.heap.size W0 W1 := Below.trans (by repeat' (first | with_reducible assumption | with_reducible exact Below.refl _ _ | refine Below.alloc ?_ ?_ _ | refine Below.setCell ?_ ?_ _ | refine Below.drew ?_ | refine below_drewN ?_ _ | (simp; done) | (simp; omega) | omega)) (hb.mono (by first | (simp; done) | (simp; omega) | omega))
      replace hbel := hbel.trans (hst.mono hsz)
      replace hsz := hbel.size
      replace bB := bB.below hst bB.lt
      clear p0 p1 lB
      have p0 := bB.cell 0
      have p1 := bB.cell 1
      have lB := bB.lt
      try clear hWb
      replace HP := hid (HP.out.below hst hst.size)
      clear hb hst
      obtain ⟨W0, rfl⟩ : ∃ W0 : World, W0 = W1 := ⟨_, rfl⟩
      go_wp2
      refine bodyPost_ret (v := .int .i64 0) (by first | (simp [results, Try.results22, go_sem]; done) | (simp [results, Try.results22, go_sem, *]; done) | (simp [results, Try.results22, go_sem, World.cell?_setCell_same', *]; done) | (simp [results, Try.results22, go_sem]; first | exact ⟨rfl, rfl⟩ | rfl)) rfl ⟨by rw [hE2.out], hbel⟩
    · have hE2 := hid (hE.out.trans ((if_neg h0).trans (if_neg h5)))
      have t0 : (av == 0) = false := by simpa using h0
      have t5 : (av == 5) = false := by simpa using h5
      go_enter Try.func22, Try.ntmps22
      go_wp2_with (fail)
      refine (alike_any A n c pl P M _ (HP.out.below (by repeat' (first | with_reducible assumption | with_reducible exact Below.refl _ _ | refine Below.alloc ?_ ?_ _ | refine Below.setCell ?_ ?_ _ | refine Below.drew ?_ | refine below_drewN ?_ _ | (simp; done) | (simp; omega) | omega)) (by first | (simp; done) | (simp; omega) | omega)) hn hw).mono ?_
      rw [Hav.out]
      rintro e W1 ⟨A1, m1, c1, A2, m2, c2, rfl, -, -, hb⟩
      have hst : Below W0.heap.size W0 W1 := Below.trans (by repeat' (first | with_reducible assumption | with_reducible exact Below.refl _ _ | refine Below.alloc ?_ ?_ _ | refine Below.setCell ?_ ?_ _ | refine Below.drew ?_ | refine below_drewN ?_ _ | (simp; done) | (simp; omega) | omega)) (hb.mono (by first | (simp; done) | (simp; omega) | omega))
      replace hbel := hbel.trans (hst.mono hsz)
      replace hsz := hbel.size
      replace bB := bB.below hst bB.lt
      clear p0 p1 lB
      have p0 := bB.cell 0
      have p1 := bB.cell 1
      have lB := bB.lt
      try clear hWb
      replace HP := hid (HP.out.below hst hst.size)
      clear hb hst
      obtain ⟨W0, rfl⟩ : ∃ W0 : World, W0 = W1 := ⟨_, rfl⟩
      go_wp2
      refine bodyPost_ret (v := .int .i64 av) (by first | (simp [results, Try.results22, go_sem]; done) | (simp [results, Try.results22, go_sem, *]; done) | (simp [results, Try.results22, go_sem, World.cell?_setCell_same', *]; done) | (simp [results, Try.results22, go_sem]; first | exact ⟨rfl, rfl⟩ | rfl)) rfl ⟨by rw [hE2.out], hbel⟩
end Go.Proofs.Ytpgdfipikfbjeaa
/- Walks: told's closure, its index, the clone. -/
namespace Go.Proofs.Ytpgdfipikfbjeaa
open Go.RowKit Go.Shelf
attribute [local go_sem] Oper.semAt_some
set_option maxRecDepth 10000 in
set_option maxHeartbeats 1600000 in
theorem toclo_any (A B : Option Addr) (n c m d g P M mp bd br : Nat) (CL pl : List (List Int)) (x r : List Int) (w : World) (hB : Bench w g P M CL pl mp) (hx : InS w w.heap.size A n x) (hr : InS w w.heap.size B m r) (c1 : w.cell? ⟨bd, 0, none⟩ = some (.func (.func 65) #[.pointer (some ⟨g, 0, none⟩)] #[])) (c2 : w.cell? ⟨br, 0, none⟩ = some (.slice B m d)) (lbd : bd < w.heap.size) (lbr : br < w.heap.size) (hn : n ≤ 1000000) (hxb : ∀ v ∈ x, 0 ≤ v ∧ v < 8) (hpl : pl.length ≤ 8) :
    Calls Try.prog 95 #[.slice A n c, .pointer (some ⟨bd, 0, none⟩), .pointer (some ⟨br, 0, none⟩)] w fun e w' => e = .returned (.bool (!eqI (resL pl x) r)) ∧ Below w.heap.size w w' := by
  obtain ⟨W0, hW0⟩ : ∃ W0 : World, W0 = w := ⟨_, rfl⟩
  rw [← hW0] at hB hx hr c1 c2 lbd lbr ⊢
  clear hW0 w
  have HBn := hid hB
  have HX := hid hx
  have HR := hid hr
  have Hxb := hid hxb
  have C1 := hid c1
  have C2 := hid c2
  clear hB hx hr hxb c1 c2
  go_enter Try.func95, Try.ntmps95
  go_wp2
  (refine Sx.wp_region_rel (fun W => Below W0.heap.size W0 W) (fun _ _ h he => h.trans (he.mono h.size)) [0, 1, 3] [(2, []), (4, [0]), (5, [1]), (6, [2])] (by kernel_rfl) (by kernel_rfl) (by kernel_rfl) (Below.refl _ _).drew ?_; simp only [pick, List.getElem?_toArray, List.getElem?_cons_zero, List.getElem?_cons_succ])
  iterate 3 (refine Sx.wpE_val (v := ?_) (by rfl) (fun W hW => ?_) ?_; rotate_left; (· have e1 := ((bcell hW).1 bd 0 lbd).trans C1.out; have e2 := ((bcell hW).1 br 0 lbr).trans C2.out; have l1 := Nat.lt_of_lt_of_le lbd hW.size; have l2 := Nat.lt_of_lt_of_le lbr hW.size; go_simp; with_reducible rfl); simp only [Act.put, List.setIfInBounds_toArray, List.set_cons_zero, List.set_cons_succ])
  simp only [Sx.wpE, Sx.pickD, List.getElem?_toArray, List.getElem?_cons_zero, List.getElem?_cons_succ]
  refine ⟨fun v W => ∃ A' k, v = .slice A' pl.length k ∧ InS W W.heap.size A' pl.length (resL pl x), fun v W W' _ _ he ⟨A', k, h1, h2⟩ => ⟨A', k, h1, h2.below he he.size⟩, ?_, ?_⟩
  · simp only [List.filterMap_cons, List.filterMap_nil, List.nil_append, List.cons_append, List.getElem?_cons_zero, List.getElem?_cons_succ, Sx.Wi, Act.put, List.setIfInBounds_toArray, List.set_cons_zero, List.set_cons_succ]
    intro W hW
    refine Sx.ROp_call (f := 65) (args := #[.pointer (some ⟨g, 0, none⟩), .slice A n c]) (by rfl) (by go_simp) ((results_any g P M CL pl mp A n c x _ (HBn.out.below hW) (HX.out.below hW hW.size) hn Hxb.out hpl).mono ?_)
    rintro e W2 ⟨v2, rfl, ho2, hb2⟩
    obtain ⟨A3, c3, hv3, hs3⟩ := sl_of_owns ho2
    exact ⟨_, rfl, hW.trans (hb2.mono hW.size), hb2, A3, c3, hv3, hs3⟩
  simp only [List.filterMap_cons, List.filterMap_nil, List.nil_append, List.cons_append, List.getElem?_cons_zero, List.getElem?_cons_succ, Sx.Wi, Act.put, List.setIfInBounds_toArray, List.set_cons_zero, List.set_cons_succ]
  refine ⟨fun v _ => v = .bool (eqI (resL pl x) r), fun _ _ _ _ _ _ h => h, ?_, ?_⟩
  · simp only [List.filterMap_cons, List.filterMap_nil, List.nil_append, List.cons_append, List.getElem?_cons_zero, List.getElem?_cons_succ, Sx.Wi, Act.put, List.setIfInBounds_toArray, List.set_cons_zero, List.set_cons_succ]
    rintro _ W ⟨hW, A3, c3, rfl, hs3⟩
    refine Sx.ROp_call (f := 68) (by rfl) (by go_simp) ((equal_any _ A3 B pl.length c3 m d (resL pl x) r hs3 (HR.out.below hW hW.size) (by omega)).mono ?_)
    rintro e W4 ⟨rfl, hb4⟩
    exact ⟨_, rfl, hW.trans (hb4.mono hW.size), hb4, rfl⟩
  simp only [List.filterMap_cons, List.filterMap_nil, List.nil_append, List.cons_append, List.getElem?_cons_zero, List.getElem?_cons_succ, Sx.Wi, Act.put, List.setIfInBounds_toArray, List.set_cons_zero, List.set_cons_succ]
  refine ⟨fun v _ => v = .bool (!eqI (resL pl x) r), fun _ _ _ _ _ _ h => h, ?_, ?_⟩
  · simp only [List.filterMap_cons, List.filterMap_nil, List.nil_append, List.cons_append, List.getElem?_cons_zero, List.getElem?_cons_succ, Sx.Wi, Act.put, List.setIfInBounds_toArray, List.set_cons_zero, List.set_cons_succ]
    rintro _ W ⟨hW, rfl⟩
    exact Sx.ROp_val _ (by rfl) (by go_simp) hW rfl
  simp only [List.filterMap_cons, List.filterMap_nil, List.nil_append, List.cons_append, List.getElem?_cons_zero, List.getElem?_cons_succ, Sx.Wi, Act.put, List.setIfInBounds_toArray, List.set_cons_zero, List.set_cons_succ]
  refine ⟨fun v _ => v = .bool (!eqI (resL pl x) r), fun _ _ _ _ _ _ h => h, ?_, ?_⟩
  · simp only [List.filterMap_cons, List.filterMap_nil, List.nil_append, List.cons_append, List.getElem?_cons_zero, List.getElem?_cons_succ, Sx.Wi, Act.put, List.setIfInBounds_toArray, List.set_cons_zero, List.set_cons_succ]
    rintro _ W ⟨hW, rfl⟩
    exact Sx.ROp_val _ (by rfl) (by go_simp) hW rfl
  simp only [List.filterMap_cons, List.filterMap_nil, List.nil_append, List.cons_append, List.getElem?_cons_zero, List.getElem?_cons_succ, Sx.Wi, Act.put, List.setIfInBounds_toArray, List.set_cons_zero, List.set_cons_succ]
  rintro _ _ _ _ W4 ⟨⟨⟨⟨hbw4, A3, c3, rfl, -⟩, rfl⟩, rfl⟩, rfl⟩
  go_wp2
  refine bodyPost_ret (v := .bool (!eqI (resL pl x) r)) (by first | (simp [results, Try.results95, go_sem]; done) | (simp [results, Try.results95, go_sem, *]; done) | (simp [results, Try.results95, go_sem, World.cell?_setCell_same', *]; done) | (simp [results, Try.results95, go_sem]; first | exact ⟨rfl, rfl⟩ | rfl)) rfl ⟨rfl, hbw4⟩
set_option maxHeartbeats 400000 in
theorem idxTo_any (A : Option Addr) (n c : Nat) (ls : List (List Int)) (w : World) (hl : LiS w w.heap.size A n ls) (hn : n ≤ 1000) (B : Option Addr) (m d g P M mp bd br : Nat) (CL pl : List (List Int)) (r : List Int) (hB : Bench w g P M CL pl mp) (hr : InS w w.heap.size B m r) (c1 : w.cell? ⟨bd, 0, none⟩ = some (.func (.func 65) #[.pointer (some ⟨g, 0, none⟩)] #[])) (c2 : w.cell? ⟨br, 0, none⟩ = some (.slice B m d)) (lbd : bd < w.heap.size) (lbr : br < w.heap.size) (hlb : ∀ x ∈ ls, ∀ v ∈ x, 0 ≤ v ∧ v < 8) (hls : ∀ x ∈ ls, x.length ≤ 12) (hpl : pl.length ≤ 8) :
    Calls Try.prog 104 #[.slice A n c, .func (.func 95) #[] #[.pointer (some ⟨bd, 0, none⟩), .pointer (some ⟨br, 0, none⟩)]] w fun e w' => e = .returned (.int .i64 (idxL (fun y => !eqI (resL pl y) r) ls)) ∧ Below w.heap.size w w' := by
  have HL := hid hl
  have hlen := hid hl.1
  obtain ⟨iv, hiv⟩ : ∃ iv, idxL (fun y => !eqI (resL pl y) r) ls = iv := ⟨_, rfl⟩
  have Hiv := hid hiv
  rw [hiv]
  clear hl hiv
  go_enter Try.func104, Try.ntmps104
  go_wp2
  go_loopw [8] (fun i wr => ∃ k : Nat, k ≤ n ∧ i = .int .i64 k ∧ Hid ((ls.take k).all (fun y => !(fun y => !eqI (resL pl y) r) y) = true) ∧ Below w.heap.size w wr) (fun i _ => n - (intOf i).toNat)
  case atStart => exact ⟨0, by omega, rfl, rfl, Below.refl _ _⟩
  case round =>
    obtain ⟨k, hk, rfl, hall, hbw⟩ := hrel
    have hzw := hbw.size
    by_cases hlt : k < n
    · obtain ⟨b, off, x, Ai, mi, ci, rfl, hb, hx, c0, hin⟩ := (HL.out.below hbw hzw).at_ hlt
      have Hx := hid hx
      have HI := hid hin
      have hlti : (k : Int) < n := by omega
      clear hx hin
      cases hq : (fun y => !eqI (resL pl y) r) x
      · have Hq := hid hq
        clear hq
        go_wp2_with (go_at_call 95; refine (toclo_any Ai B mi ci m d g P M mp bd br CL pl x r _ (hB.below hbw) HI.out (hr.below hbw hzw) ((hbw.cell (p := ⟨bd, 0, none⟩) lbd).trans c1) ((hbw.cell (p := ⟨br, 0, none⟩) lbr).trans c2) (by omega) (by omega) (by have := HI.out.len; have := hls x (List.mem_of_getElem? Hx.out); omega) (hlb x (List.mem_of_getElem? Hx.out)) hpl).mono ?_; rw [Hq.out]; rintro e w1 ⟨rfl, hb1⟩)
        have hbw1 : Below w.heap.size w w1 := hbw.trans (hb1.mono hzw)
        exact ⟨⟨k + 1, by omega, by go_num, hid (all_take_succ hall.out Hx.out (by rw [Hq.out]; rfl)), hbw1⟩, by simp [intOf]; omega⟩
      · have Hq := hid hq
        clear hq
        go_wp2_with (go_at_call 95; refine (toclo_any Ai B mi ci m d g P M mp bd br CL pl x r _ (hB.below hbw) HI.out (hr.below hbw hzw) ((hbw.cell (p := ⟨bd, 0, none⟩) lbd).trans c1) ((hbw.cell (p := ⟨br, 0, none⟩) lbr).trans c2) (by omega) (by omega) (by have := HI.out.len; have := hls x (List.mem_of_getElem? Hx.out); omega) (hlb x (List.mem_of_getElem? Hx.out)) hpl).mono ?_; rw [Hq.out]; rintro e w1 ⟨rfl, hb1⟩)
        have hbw1 : Below w.heap.size w w1 := hbw.trans (hb1.mono hzw)
        go_ret
        exact ⟨by rw [← Hiv.out, idxL_hit hall.out Hx.out Hq.out]; rfl, hbw1⟩
    · have hfin : Hid (idxL (fun y => !eqI (resL pl y) r) ls = -1) := hid (idxL_none (by have := hall.out; rwa [List.take_of_length_le (by rw [hlen.out]; omega)] at this))
      have hlti : ¬ (k : Int) < n := by omega
      go_wp2
      go_ret
      exact ⟨by rw [← Hiv.out, hfin.out]; rfl, hbw⟩
theorem eq_nil24 (a : Addr) (n c : Nat) (W : World) : (binOp .eql 24 (.slice (some a) n c) (.slice none 0 0)).run Try.prog W = .ok (.bool false) W := by
  have h : ∀ d : Nat, (Op.equalIn (d + 1) 24 (.slice (some a) n c) (.slice none 0 0)).run Try.prog W = .ok false W := fun d => by
    unfold Op.equalIn
    simp only [Sem.run_bind, run_underlying under24, Result.andThen_ok]
    rfl
  simp only [binOp]
  simp [Op.equal, Op.maxDepth, h 9999]
set_option maxRecDepth 10000 in
set_option maxHeartbeats 800000 in
theorem cloneT_any (A : Option Addr) (n c : Nat) (ls : List (List Int)) (w : World) (hl : LiT w w.heap.size A n ls) (hn0 : 1 ≤ n) (hn : n ≤ 1000) :
    Calls Try.prog 94 #[.slice A n c] w fun e w' => ∃ v, e = .returned v ∧ NewLi w' w.heap.size v ls ∧ Below w.heap.size w w' := by
  obtain ⟨i0, hi0, hi1, hi2, hi3⟩ := info_parts' info25
  have I0 := hid hi0; have I1 := hid hi1; have I2 := hid hi2; have I3 := hid hi3
  clear hi0 hi1 hi2 hi3
  obtain ⟨⟨h1, vs, h2, h3⟩, h4⟩ := hl
  obtain ⟨b, off, rfl, hb, hc⟩ := h2.2 (by omega)
  have HS := hid h2
  have H3 := hid h3
  have H4 := hid h4
  have Hc := hid hc
  have H1 := hid h1
  have hvl : vs.length = n := by have := h2.1; omega
  have Hvl := hid hvl
  have hone : ∀ u ∈ vs, u.oneCell' = true := fun u hu => by
    obtain ⟨j, hj⟩ := List.getElem?_of_mem hu
    have hjl := (List.getElem?_eq_some_iff.1 hj).1
    obtain ⟨A', m, c', e, -⟩ := h3 j (ls[j]'(by omega)) (List.getElem?_eq_getElem _)
    rw [hj] at e; cases e; rfl
  have Hone := hid hone
  clear h1 h2 h3 h4 hc hvl hone
  have heq := eq_nil24 ⟨b, off, none⟩ n c w
  go_enter Try.func94, Try.ntmps94
  go_wp2_with (at_builtin; refine wpList_append_cap rfl _ _ 24 rfl w.heap.size 25 i0 _ 1 24 under24 I0.out I1.out I2.out I3.out rfl _ 0 [] rfl rfl (Or.inr ⟨_, rfl, fun j u hj => by simp at hj⟩) ⟨b, off, none⟩ n c vs rfl (by rw [Hvl.out, Nat.mul_one]) (fun j u hu => by rw [add_at]; exact (World.cell?_alloc_lt _ _ _ hb).trans (Hc.out j u hu)) hn0 (by unfold maxLen; omega) (by omega) (by simp) ?_; intro cap w2 ho2 hg2 hz2)
  obtain ⟨g, cap', hv, hg, hlt⟩ := World.ownsRow.form ho2 (by omega)
  cases hv
  have ho3 := hid ho2
  clear ho2
  go_wp2
  have hb2 : Below w.heap.size w w2 := below_grown0 ((Below.refl _ _).alloc (Nat.le_refl _) _) hg2 (Nat.le_refl _)
  refine bodyPost_ret (v := .slice (some ⟨w.heap.size + 1, 0, none⟩) n cap) (by simp [results, Try.results94, go_sem]) rfl ⟨_, rfl, ⟨vs, ?_, ?_, fun k l hk => ?_⟩, hb2⟩
  · have h9 := ho3.out
    rw [Nat.zero_add, World.size_alloc] at h9
    rw [H1.out]
    exact h9
  · rw [Hvl.out, H1.out]
  · have hkn : k < n := by have := (List.getElem?_eq_some_iff.1 hk).1; have := H1.out; omega
    obtain ⟨A', m, c', e, h4⟩ := H3.out k l hk
    refine ⟨A', m, c', e, h4.below hb2 hb2.size, fun b' off' hA => ?_⟩
    have hlt' := H4.out k hkn b off A' m c' rfl (Hc.out k _ e) b' off' hA
    refine ⟨Nat.lt_of_lt_of_le hlt' hb2.size, fun e2 => ?_⟩
    have e3 : some (w.heap.size + 1) = some b' := e2
    have := Option.some.inj e3
    omega
end Go.Proofs.Ytpgdfipikfbjeaa
/- Walks: DeleteFunc of the cases whose results are others. -/
namespace Go.Proofs.Ytpgdfipikfbjeaa
open Go.RowKit Go.Shelf
attribute [local go_sem] Oper.semAt_some
theorem filt_next {α : Type} {p : α → Bool} {l : List α} {k : Nat} {x : α} (h : l[k]? = some x) : (l.take (k + 1)).filter p = (l.take k).filter p ++ (if p x then [x] else []) := by
  rw [List.take_add_one, h, List.filter_append]
  congr 1
  cases hp : p x <;> simp [hp]
theorem take_set_succ (cu : Array Value) (i : Nat) (v : Value) (hi : i < cu.toList.length) : (cu.setIfInBounds i v).toList.take (i + 1) = cu.toList.take i ++ [v] := by
  rw [Array.toList_setIfInBounds, List.take_add_one, List.take_set_of_le (Nat.le_refl _), List.getElem?_set_self hi]
  rfl
theorem zero25 (W : World) : (zeroValue 25).run Try.prog W = .ok (.slice none 0 0) W := by go_simp
theorem zero25_row (n : Nat) : (Builtin.zeroCells (Value.slice none 0 0).cells n).toList = List.replicate n (Value.slice none 0 0) := by
  have : (Value.slice none 0 0).cells = #[Value.slice none 0 0] := by rfl
  rw [this]
  simp [Builtin.zeroCells, Nat.mod_one, List.map_const']
set_option maxRecDepth 10000 in
set_option maxHeartbeats 4000000 in
theorem delT_any (w0 w : World) (q n cap : Nat) (ls : List (List Int)) (B : Option Addr) (m d g P M mp bd br : Nat) (CL pl : List (List Int)) (r : List Int) (keep : List Int → Bool) (hkeep : ∀ x, eqI (resL pl x) r = keep x) (hB : Bench w0 g P M CL pl mp) (hr : InS w0 w0.heap.size B m r) (c1 : w0.cell? ⟨bd, 0, none⟩ = some (.func (.func 65) #[.pointer (some ⟨g, 0, none⟩)] #[])) (c2 : w0.cell? ⟨br, 0, none⟩ = some (.slice B m d)) (lbd : bd < w0.heap.size) (lbr : br < w0.heap.size) (hlb : ∀ x ∈ ls, ∀ v ∈ x, 0 ≤ v ∧ v < 8) (hls : ∀ x ∈ ls, x.length ≤ 12) (hpl : pl.length ≤ 8) (hbw : Below w0.heap.size w0 w) (hN : NewLi w w0.heap.size (.slice (some ⟨q, 0, none⟩) n cap) ls) (hnl : ls.length = n) (hn : n ≤ 1000) :
    Calls Try.prog 93 #[.slice (some ⟨q, 0, none⟩) n cap, .func (.func 95) #[] #[.pointer (some ⟨bd, 0, none⟩), .pointer (some ⟨br, 0, none⟩)]] w fun e w' => ∃ A' n' c', e = .returned (.slice A' n' c') ∧ LiT w' w'.heap.size A' n' (ls.filter keep) ∧ Below w0.heap.size w0 w' := by
  have hsz0 := hbw.size
  obtain ⟨A0, c0', e0, hlit⟩ := hN.lit
  rw [hnl] at e0 hlit
  have hlis := hlit.1
  cases e0
  obtain ⟨vs, ho, hat⟩ := hN
  rw [hnl] at ho
  obtain ⟨hvl, ⟨hx, -⟩ | ⟨q', cap', cur, e1, hq0, hgq, hnc, hcm, hcs, htk⟩⟩ := ho
  · cases hx
  cases e1
  have hq1 : q < w.heap.size := (Array.getElem?_eq_some_iff.1 hgq).1
  rw [Nat.mul_one] at hvl hcs htk
  have hvl2 : vs.length = n := hvl
  have e0 : (ls.all fun y => !(!eqI (resL pl y) r)) = ls.all keep := by
    congr 1; funext y; rw [hkeep]; simp
  -- the pairs of values and lists
  obtain ⟨pz, hpz⟩ : ∃ pz, vs.zip ls = pz := ⟨_, rfl⟩
  have hpzl : pz.length = n := by rw [← hpz, List.length_zip]; omega
  have hpat : ∀ k, k < n → ∃ v x A' m' c', pz[k]? = some (v, x) ∧ vs[k]? = some v ∧ ls[k]? = some x ∧ v = .slice A' m' c' ∧ InS w w.heap.size A' m' x ∧ ∀ b off, A' = some ⟨b, off, none⟩ → b < w.heap.size ∧ q ≠ b := fun k hk => by
    have hx : ls[k]? = some (ls[k]'(by omega)) := List.getElem?_eq_getElem _
    obtain ⟨A', m', c', h1, h2, h3⟩ := hat.2 k _ hx
    refine ⟨_, _, A', m', c', ?_, h1, hx, rfl, h2, fun b off e => ⟨(h3 b off e).1, fun e2 => (h3 b off e).2 (by rw [← e2]; rfl)⟩⟩
    have hzip : (vs.zip ls)[k]? = some (Value.slice A' m' c', ls[k]'(by omega)) := List.getElem?_zip_eq_some.2 ⟨h1, hx⟩
    rw [hpz] at hzip; exact hzip
  have hsnd : ls.filter keep = (pz.filter fun p => keep p.2).map Prod.snd := by
    have : ls = pz.map Prod.snd := by rw [← hpz, List.map_snd_zip (by omega)]
    rw [this, List.filter_map]; rfl
  have Hpat := hid hpat
  have Hsnd := hid hsnd
  have HBn := hid hB
  have HR := hid hr
  have C1 := hid c1
  have C2 := hid c2
  have Hlb := hid hlb
  have Hls := hid hls
  have Hk := hid hkeep
  have Hlis := hid hlis
  have Hlit := hid hlit
  have Hgq : Hid (Blk w q 25 cur) := hid hgq
  have Htk := hid htk
  have Hvl := hid hvl2
  have Hpl := hid hpzl
  have Hnl := hid hnl
  have Hiz := hid (idxTo_any (some ⟨q, 0, none⟩) n cap ls w hlis hn B m d g P M mp bd br CL pl r (hB.below hbw) (hr.below hbw hbw.size) ((hbw.cell (p := ⟨bd, 0, none⟩) lbd).trans c1) ((hbw.cell (p := ⟨br, 0, none⟩) lbr).trans c2) (by omega) (by omega) hlb hls hpl)
  clear hpat hsnd hB hr c1 c2 hlb hls hkeep hlis hlit hgq htk hvl hvl2 hpzl hat hnl
  by_cases hall : ls.all keep = true
  · have hiz : idxL (fun y => !eqI (resL pl y) r) ls = -1 := idxL_none (by rw [← e0] at hall; exact hall)
    have Hz := hid hiz
    have hf : Hid (ls.filter keep = ls) := hid (List.filter_eq_self.2 (fun x hx => List.all_eq_true.1 hall x hx))
    clear hiz e0 hall hpz
    go_enter Try.func93, Try.ntmps93
    go_wp2_with (go_at_call 104; refine (Hiz.out).mono ?_; rw [Hz.out]; rintro e w1 ⟨rfl, hb1⟩)
    refine bodyPost_ret (v := .slice (some ⟨q, 0, none⟩) n cap) (by first | (simp [results, Try.results93, go_sem]; done) | (simp [results, Try.results93, go_sem, *]; done) | (simp [results, Try.results93, go_sem, World.cell?_setCell_same', *]; done) | (simp [results, Try.results93, go_sem]; first | exact ⟨rfl, rfl⟩ | rfl)) rfl ⟨_, _, _, rfl, ?_, hbw.trans (hb1.mono hsz0)⟩
    rw [hf.out]
    exact Hlit.out.below hb1 hb1.size
  · obtain ⟨i0, hi0, hiz, hi1, hi2⟩ : ∃ i0, i0 < n ∧ idxL (fun y => !eqI (resL pl y) r) ls = i0 ∧ (∀ t x, t < i0 → ls[t]? = some x → keep x = true) ∧ (∀ x, ls[i0]? = some x → keep x = false) := by
      cases h : ls.findIdx? (fun y => !eqI (resL pl y) r) with
      | none =>
        rw [List.findIdx?_eq_none_iff] at h
        exact absurd (List.all_eq_true.2 fun x hx => by have := h x hx; rw [Hk.out] at this; simpa using this) hall
      | some i0 =>
        have h9 := h
        rw [List.findIdx?_eq_some_iff_getElem] at h9
        obtain ⟨k1, k2, k3⟩ := h9
        refine ⟨i0, by have := Hnl.out; omega, by unfold idxL; rw [h], fun t x ht hx => ?_, fun x hx => ?_⟩
        · obtain ⟨ht2, e⟩ := List.getElem?_eq_some_iff.1 hx
          have := k3 t ht
          rw [e, Hk.out] at this
          simpa using this
        · obtain ⟨ht2, e⟩ := List.getElem?_eq_some_iff.1 hx
          rw [e, Hk.out] at k2
          simpa using k2
    have Hz := hid hiz
    -- the kept ones of the first i0 + 1
    have hst : ((pz.take (i0 + 1)).filter fun p => keep p.2).map Prod.fst = vs.take i0 := by
      obtain ⟨v, x, A', m', c', h1, h2, h3, -⟩ := Hpat.out i0 hi0
      rw [filt_next h1, hi2 x h3]
      simp only [Bool.false_eq_true, if_false, List.append_nil]
      have h4 : (pz.take i0).filter (fun p => keep p.2) = pz.take i0 := by
        rw [List.filter_eq_self]
        intro p hp
        obtain ⟨t, ht⟩ := List.getElem?_of_mem hp
        have htl := (List.getElem?_eq_some_iff.1 ht).1
        rw [List.length_take] at htl
        rw [List.getElem?_take_of_lt (by omega)] at ht
        obtain ⟨v', x', _, _, _, k1, _, k3, -⟩ := Hpat.out t (by omega)
        rw [ht] at k1; cases k1
        exact hi1 t _ (by omega) k3
      rw [h4, ← hpz, List.map_take, List.map_fst_zip (by have := Hvl.out; have := Hnl.out; omega)]
    have Hst := hid hst
    have z1 : IntKind.i64.wrap ((i0 : Int) + 1) = (i0 : Int) + 1 := IntWalk.i64_in _ (by omega)
    have hz2 : ¬ (i0 : Int) = -1 := by omega
    have hnni : ¬ i0 = cap := by omega
    clear hiz hi1 hi2 e0 hall hst hpz
    go_enter Try.func93, Try.ntmps93
    go_wp2_with (go_at_call 104; refine (Hiz.out).mono ?_; rw [Hz.out]; rintro e w1 ⟨rfl, hb1⟩)
    have hg1 : w.grownBy w1 (some q) := grownM_below hb1
    have B1 : Hid (Blk w1 q 25 cur) := hid (Hgq.out.below hb1 hq1)
    go_loopw [5, 6] (fun i j wr => ∃ (i' j' : Nat) (cu : Array Value), i' < j' ∧ j' ≤ n ∧ i = .int .i64 i' ∧ j = .int .i64 j' ∧ Hid (Blk wr q 25 cu) ∧ cu.size = cap ∧ Hid (cu.toList.take i' = ((pz.take j').filter fun p => keep p.2).map Prod.fst) ∧ Hid (∀ t, j' ≤ t → t < n → cu[t]? = vs[t]?) ∧ w.grownBy wr (some q)) (fun _ j _ => n - (intOf j).toNat)
    case atStart =>
      refine ⟨i0, i0 + 1, cur, by omega, by omega, rfl, by go_num, B1, hcs, hid ?_, hid (fun t ht htn => ?_), hg1⟩
      · rw [Hst.out, ← Htk.out, List.take_take, Nat.min_eq_left (by omega)]
      · rw [← Htk.out, List.getElem?_take_of_lt htn, Array.getElem?_toList]
    case round =>
      obtain ⟨i, j, cu, hij, hjn, rfl, rfl, hBq, hcu, hk1, hk2, hgw⟩ := hrel
      have hzw := hgw.size
      have hb0 : Below w0.heap.size w0 wr := hbw.grown hgw hsz0 (fun r hr => by cases hr; exact hq0)
      have hsz1 := hb0.size
      have lq : q < wr.heap.size := by omega
      by_cases hlt : j < n
      · obtain ⟨v, x, A', m', c', h1, h2, h3, rfl, hin, hne⟩ := Hpat.out j hlt
        have hlti : (j : Int) < n := by omega
        have hcj := (hBq.out.cell j).trans ((hk2.out j (Nat.le_refl _) hlt).trans h2)
        have hinr := hin.grown hgw (fun b off e e2 => (hne b off e).2 (Option.some.inj e2)) hgw.size
        have hinr2 : InS wr wr.heap.size A' m' x := hinr
        have HI := hid hinr2
        have zj : IntKind.i64.wrap ((j : Int) + 1) = (j : Int) + 1 := IntWalk.i64_in _ (by omega)
        have zi : IntKind.i64.wrap ((i : Int) + 1) = (i : Int) + 1 := IntWalk.i64_in _ (by omega)
        have hm' : m' ≤ 1000000 := by have := hin.len; have := Hls.out x (List.mem_of_getElem? h3); omega
        have H1 := hid h1
        have H3 := hid h3
        clear hin hinr hinr2 h1 h2 h3 hne
        cases hqv : keep x
        all_goals
          have Hq : Hid (eqI (resL pl x) r = _) := hid ((Hk.out x).trans hqv)
          have Hqv := hid hqv
          clear hqv
        · go_wp2_with (go_at_call 95; refine (toclo_any A' B m' c' m d g P M mp bd br CL pl x r _ (HBn.out.below hb0) HI.out (HR.out.below hb0 hsz1) ((hb0.cell (p := ⟨bd, 0, none⟩) lbd).trans C1.out) ((hb0.cell (p := ⟨br, 0, none⟩) lbr).trans C2.out) (by omega) (by omega) hm' (Hlb.out x (List.mem_of_getElem? H3.out)) hpl).mono ?_; rw [Hq.out]; rintro e w5 ⟨rfl, hb5⟩)
          have hgw5 := grownM_then hgw hb5
          have B5 : Hid (Blk w5 q 25 cu) := hid (hBq.out.below hb5 lq)
          (first | exact ⟨⟨i, j + 1, cu, by omega, by omega, rfl, by go_num, B5, hcu, hid (by rw [hk1.out, filt_next H1.out, Hqv.out]; simp), hid (fun t ht htn => hk2.out t (by omega) htn), hgw5⟩, (by first | (simp [intOf]; omega) | (simp [intOf]; done))⟩ | (refine ⟨?_, ?_⟩; (focus ((repeat apply Exists.intro); refine ⟨?_, rfl⟩; exact ⟨i, j + 1, cu, by omega, by omega, rfl, by go_num, B5, hcu, hid (by rw [hk1.out, filt_next H1.out, Hqv.out]; simp), hid (fun t ht htn => hk2.out t (by omega) htn), hgw5⟩)); (first | (simp [intOf]; omega) | (simp [intOf]; done))))
        · have hci : i < cu.size := by omega
          have hcell : cu[i]? = some cu[i] := Array.getElem?_eq_getElem hci
          go_wp2_with (go_at_call 95; refine (toclo_any A' B m' c' m d g P M mp bd br CL pl x r _ (HBn.out.below hb0) HI.out (HR.out.below hb0 hsz1) ((hb0.cell (p := ⟨bd, 0, none⟩) lbd).trans C1.out) ((hb0.cell (p := ⟨br, 0, none⟩) lbr).trans C2.out) (by omega) (by omega) hm' (Hlb.out x (List.mem_of_getElem? H3.out)) hpl).mono ?_; rw [Hq.out]; rintro e w5 ⟨rfl, hb5⟩; have B5 : Blk w5 q 25 cu := hBq.out.below hb5 lq; have d5 := (B5.cell i).trans hcell; have f5 := B5.frozen i; have l5 := B5.lt)
          have B5 : Blk w5 q 25 cu := hBq.out.below hb5 lq
          have hgw5 := grownM_setCell (o := i) (grownM_then hgw hb5) (.inr rfl : w.heap.size ≤ q ∨ q = q) (.slice A' m' c')
          have B6 := B5.set_ i (.slice A' m' c')
          have hlen : i = (((pz.take j).filter fun p => keep p.2).map Prod.fst).length := by rw [← hk1.out, List.length_take, Array.length_toList]; omega
          (first | exact ⟨⟨i + 1, j + 1, cu.setIfInBounds i (.slice A' m' c'), by omega, by omega, by go_num, by go_num, hid B6, by rw [Array.size_setIfInBounds]; exact hcu, hid (by rw [filt_next H1.out, Hqv.out, List.map_append, ← hk1.out]; simpa using take_set_succ cu i (.slice A' m' c') (by rw [Array.length_toList]; exact hci)), hid (fun t ht htn => by rw [Array.getElem?_setIfInBounds_ne (by omega)]; exact hk2.out t (by omega) htn), hgw5⟩, (by first | (simp [intOf]; omega) | (simp [intOf]; done))⟩ | (refine ⟨?_, ?_⟩; (focus ((repeat apply Exists.intro); refine ⟨?_, rfl⟩; exact ⟨i + 1, j + 1, cu.setIfInBounds i (.slice A' m' c'), by omega, by omega, by go_num, by go_num, hid B6, by rw [Array.size_setIfInBounds]; exact hcu, hid (by rw [filt_next H1.out, Hqv.out, List.map_append, ← hk1.out]; simpa using take_set_succ cu i (.slice A' m' c') (by rw [Array.length_toList]; exact hci)), hid (fun t ht htn => by rw [Array.getElem?_setIfInBounds_ne (by omega)]; exact hk2.out t (by omega) htn), hgw5⟩)); (first | (simp [intOf]; omega) | (simp [intOf]; done))))
      · obtain rfl : j = n := by omega
        have hlti : ¬ (j : Int) < j := by omega
        have hci : ¬ cap = i := by omega
        have hcl := run_clear_sz (P := Try.prog) wr 24 0 25 (.slice none 0 0) q i (j - i) (cap - i) cu 25 under24 (zero25 _) (by omega) hBq.out (List.replicate (j - i) (Value.slice none 0 0)) (zero25_row _) (by rw [List.length_replicate]; omega) (fun v hv => by rw [(List.mem_replicate.1 hv).2]; rfl)
        have HBr := hid (hBq.out.row (cu.toList.take i ++ List.replicate (j - i) (Value.slice none 0 0) ++ cu.toList.drop (i + (List.replicate (j - i) (Value.slice none 0 0)).length)).toArray)
        have hbr := below_setRow hb0 hq0 (cu.toList.take i ++ List.replicate (j - i) (Value.slice none 0 0) ++ cu.toList.drop (i + (List.replicate (j - i) (Value.slice none 0 0)).length)).toArray
        have hgr : w.grownBy (wr.setRow q (cu.toList.take i ++ List.replicate (j - i) (Value.slice none 0 0) ++ cu.toList.drop (i + (List.replicate (j - i) (Value.slice none 0 0)).length)).toArray) (some q) := grownM_trans hgw ⟨rfl, rfl, rfl, by rw [setRow_size]; exact Nat.le_refl _, fun k _ hne => setRow_other _ _ _ _ (fun e => hne (by rw [e]))⟩ (fun r hr => by cases hr; exact .inr rfl)
        generalize hZ : wr.setRow q (cu.toList.take i ++ List.replicate (j - i) (Value.slice none 0 0) ++ cu.toList.drop (i + (List.replicate (j - i) (Value.slice none 0 0)).length)).toArray = W9 at *
        have Hlen : Hid (i = (((pz.take j).filter fun p => keep p.2).map Prod.fst).length) := hid (by rw [← hk1.out, List.length_take, Array.length_toList]; omega)
        have hij2 : (i : Int) ≤ j := by omega
        clear hZ
        go_wp2
        refine bodyPost_ret (v := .slice (some ⟨q, 0, none⟩) i cap) (by first | (simp [results, Try.results93, go_sem]; done) | (simp [results, Try.results93, go_sem, *]; done) | (simp [results, Try.results93, go_sem, World.cell?_setCell_same', *]; done) | (simp [results, Try.results93, go_sem]; first | exact ⟨rfl, rfl⟩ | rfl)) rfl ⟨_, _, ⟨_, rfl⟩, ?_, hbr⟩
        have hpj : pz.take j = pz := List.take_of_length_le (by rw [Hpl.out]; exact Nat.le_refl _)
        have hlen := Hlen.out
        rw [hpj] at hlen
        rw [Hsnd.out]
        refine ⟨⟨by rw [List.length_map, hlen, List.length_map], (pz.filter fun p => keep p.2).map Prod.fst, ⟨by rw [Nat.mul_one]; exact hlen.symm, fun _ => ⟨q, 0, rfl, HBr.out.lt, fun t u hu => ?_⟩⟩, fun k l hl => ?_⟩, fun k hk b off A' m c hA hc b' off' hA' => ?_⟩
        · rw [Nat.zero_add, HBr.out.cell]
          have ht : t < i := by rw [hlen]; exact (List.getElem?_eq_some_iff.1 hu).1
          have e1 := hk1.out
          rw [hpj] at e1
          rw [List.getElem?_toArray, List.append_assoc, List.getElem?_append_left (by rw [List.length_take, Array.length_toList]; omega), e1]
          exact hu
        · rw [List.getElem?_map] at hl
          cases hp : (pz.filter fun p => keep p.2)[k]? with
          | none => rw [hp] at hl; cases hl
          | some p =>
            rw [hp] at hl
            have hm := (List.mem_filter.1 (List.mem_of_getElem? hp)).1
            obtain ⟨t, ht⟩ := List.getElem?_of_mem hm
            have htl := (List.getElem?_eq_some_iff.1 ht).1
            obtain ⟨v, x, A', m', c', h1, -, -, rfl, hin, hne⟩ := Hpat.out t (by rw [← Hpl.out]; exact htl)
            rw [ht] at h1; cases h1
            cases hl
            exact ⟨A', m', c', by rw [List.getElem?_map, hp]; rfl, hin.grown hgr (fun b off e e2 => (hne b off e).2 (Option.some.inj e2)) hgr.size⟩
        · cases hA
          rw [Nat.zero_add, HBr.out.cell] at hc
          have e1 := hk1.out
          rw [hpj] at e1
          rw [List.getElem?_toArray, List.append_assoc, List.getElem?_append_left (by rw [List.length_take, Array.length_toList]; omega), e1, List.getElem?_map] at hc
          cases hp : (pz.filter fun p => keep p.2)[k]? with
          | none => rw [hp] at hc; cases hc
          | some p =>
            rw [hp] at hc
            have hm := (List.mem_filter.1 (List.mem_of_getElem? hp)).1
            obtain ⟨t, ht⟩ := List.getElem?_of_mem hm
            have htl := (List.getElem?_eq_some_iff.1 ht).1
            obtain ⟨v, x, A2, m2, c2, h1, -, -, rfl, -, hne⟩ := Hpat.out t (by rw [← Hpl.out]; exact htl)
            rw [ht] at h1; cases h1
            cases hc
            exact Nat.lt_of_lt_of_le (hne b' off' hA').1 hgr.size
end Go.Proofs.Ytpgdfipikfbjeaa
/- Walks: told. -/
namespace Go.Proofs.Ytpgdfipikfbjeaa
open Go.RowKit Go.Shelf
attribute [local go_sem] Oper.semAt_some
@[local go_sem] theorem run_store_func (P : Program) (a : Addr) (f : Fn) (b fr : Array Value) (m : Mode) (w : World) : (store a (.func f b fr) m).run P w = stored P w a (.func f b fr) m := run_store P w a _ m rfl
set_option maxRecDepth 10000 in
set_option maxHeartbeats 1600000 in
theorem told_any (B : Option Addr) (m d g P M mp : Nat) (CL pl : List (List Int)) (r : List Int) (w : World) (hB : Bench w g P M CL pl mp) (hr : InS w w.heap.size B m r) (hlb : ∀ x ∈ CL, ∀ v ∈ x, 0 ≤ v ∧ v < 8) (hls : ∀ x ∈ CL, x.length ≤ 12) (hpl : pl.length ≤ 8) (hc1 : 1 ≤ CL.length) (hc2 : CL.length ≤ 1000) :
    Calls Try.prog 71 #[.pointer (some ⟨g, 0, none⟩), .slice B m d] w fun e w' => ∃ A' n' c', e = .returned (.slice A' n' c') ∧ LiT w' w'.heap.size A' n' (CL.filter fun c => eqI (resL pl c) r) ∧ Below w.heap.size w w' := by
  have HBn := hid hB
  have HR := hid hr
  have Hlb := hid hlb
  have Hls := hid hls
  obtain ⟨A1, c1, A2, c2, hG, hC, -, hcap⟩ := hB
  obtain ⟨W1, hW1⟩ : ∃ W1, (w.alloc (.cells #[.slice B m d] 25)).alloc (.cells #[.func (.func 65) #[.pointer (some ⟨g, 0, none⟩)] #[]] 76) = W1 := ⟨_, rfl⟩
  have hb1 : Below w.heap.size w W1 := by rw [← hW1]; exact (by repeat' (first | with_reducible assumption | with_reducible exact Below.refl _ _ | refine Below.alloc ?_ ?_ _ | refine Below.setCell ?_ ?_ _ | refine Below.drew ?_ | refine below_drewN ?_ _ | (simp; done) | (simp; omega) | omega))
  have B3 : Blk W1 w.heap.size 25 #[.slice B m d] := by rw [← hW1]; exact (Blk.new' rfl).alloc _
  have B5 : Blk W1 (w.heap.size + 1) 76 #[.func (.func 65) #[.pointer (some ⟨g, 0, none⟩)] #[]] := by rw [← hW1]; exact Blk.new' (by simp)
  have q2 := (hG.below hb1 hG.lt).cell 2
  have lg := Nat.lt_of_lt_of_le hG.lt hb1.size
  have HC := hid (hC.below hb1 hb1.size)
  have hz1 := hb1.size
  have H3 := hid B3
  have H5 := hid B5
  clear hG hC hr hlb hls B3 B5
  go_enter Try.func71, Try.ntmps71
  go_wp2_with (first | (go_at_call 94; refine (cloneT_any A1 CL.length c1 CL _ HC.out hc1 hc2).mono ?_; rintro e W2 ⟨v2, rfl, hN, hb2⟩; have hz2 := hb2.size; obtain ⟨A7, c7, hv7, -, -⟩ := hN.lis; subst hv7; obtain ⟨vs, ho, hat⟩ := hN; obtain ⟨q, cap, hv8, hq1, hq2⟩ := own_form2 ho (by omega); cases hv8; have HN : Hid (NewLi W2 W1.heap.size (.slice (some ⟨q, 0, none⟩) CL.length c7) CL) := hid ⟨vs, ho, hat⟩; clear ho hat) | (go_at_call 93; refine (delT_any W1 W2 q CL.length c7 CL B m d g P M mp (w.heap.size + 1) w.heap.size CL pl r (fun c => eqI (resL pl c) r) (fun _ => rfl) (HBn.out.below hb1) (HR.out.below hb1 hz1) (H5.out.cell 0) (H3.out.cell 0) H5.out.lt H3.out.lt Hlb.out Hls.out hpl hb2 HN.out rfl hc2).mono ?_; rintro e W3 ⟨A9, n9, c9, rfl, hl9, hb3⟩))
  refine bodyPost_ret (v := .slice A9 n9 c9) (by first | (simp [results, Try.results71, go_sem]; done) | (simp [results, Try.results71, go_sem, *]; done) | (simp [results, Try.results71, go_sem, World.cell?_setCell_same', *]; done) | (simp [results, Try.results71, go_sem]; first | exact ⟨rfl, rfl⟩ | rfl)) rfl ⟨A9, n9, c9, rfl, hl9, hb1.trans (hb3.mono hz1)⟩
end Go.Proofs.Ytpgdfipikfbjeaa
/- Walks: Told. -/
namespace Go.Proofs.Ytpgdfipikfbjeaa
open Go.RowKit Go.Shelf
attribute [local go_sem] Oper.semAt_some
set_option maxRecDepth 10000 in
set_option maxHeartbeats 1600000 in
theorem toldF_any (A B : Option Addr) (n c m d : Nat) (pl : List (List Int)) (r : List Int) (P M : Int) (w : World) (hp : LiS w w.heap.size A n pl) (hb : InS w w.heap.size B m r) (hn : n ≤ 12) (hw : ∀ l ∈ pl, l.length ≤ 12) :
    Calls Try.prog 20 #[.agg #[.int .i64 P, .int .i64 M], .slice A n c, .slice B m d] w fun e w' => ∃ A' n' c', e = .returned (.tuple #[.slice A' n' c', .int .i64 (toldE P M pl r)]) ∧ LiT w' w'.heap.size A' n' (toldV P M pl r) ∧ Below w.heap.size w w' := by
  obtain ⟨W0, hWb⟩ : ∃ W0, w.alloc (.cells #[.int .i64 P, .int .i64 M] 23) = W0 := ⟨_, rfl⟩
  have bB : Blk W0 w.heap.size 23 #[.int .i64 P, .int .i64 M] := by rw [← hWb]; exact Blk.new' rfl
  have hbel : Below w.heap.size w W0 := by rw [← hWb]; exact (Below.refl _ _).alloc (Nat.le_refl _) _
  have hsz := hbel.size
  have lB := bB.lt
  have p0 := bB.cell 0
  have p1 := bB.cell 1
  have HP := hid (hp.below hbel hsz)
  clear hp
  have HB := hid (hb.below hbel hsz)
  clear hb
  by_cases hbd : errR P M pl r ≠ 0
  · have hE := hid (show toldE P M pl r = errR P M pl r from if_pos hbd)
    have hV := hid (show toldV P M pl r = [] from if_neg (by rw [hE.out]; exact hbd))
    have hbi : (errR P M pl r == 0) = false := by simpa using hbd
    have hbi2 : ¬ errR P M pl r = 0 := hbd
    have Hb := hid hbd
    clear hbd
    go_enter Try.func20, Try.ntmps20
    go_wp2_with (fail)
    refine (seen_bad A B n c m d pl r P M _ (HP.out.below (by repeat' (first | with_reducible assumption | with_reducible exact Below.refl _ _ | refine Below.alloc ?_ ?_ _ | refine Below.setCell ?_ ?_ _ | refine Below.drew ?_ | refine below_drewN ?_ _ | (simp; done) | (simp; omega) | omega)) (by first | (simp; done) | (simp; omega) | omega)) (HB.out.below (by repeat' (first | with_reducible assumption | with_reducible exact Below.refl _ _ | refine Below.alloc ?_ ?_ _ | refine Below.setCell ?_ ?_ _ | refine Below.drew ?_ | refine below_drewN ?_ _ | (simp; done) | (simp; omega) | omega)) (by first | (simp; done) | (simp; omega) | omega)) hn hw Hb.out).mono ?_
    rintro e W1 ⟨rfl, hb⟩
    have hst : Below W0.heap.size W0 W1 := Below.trans (by repeat' (first | with_reducible assumption | with_reducible exact Below.refl _ _ | refine Below.alloc ?_ ?_ _ | refine Below.setCell ?_ ?_ _ | refine Below.drew ?_ | refine below_drewN ?_ _ | (simp; done) | (simp; omega) | omega)) (hb.mono (by first | (simp; done) | (simp; omega) | omega))
    replace hbel := hbel.trans (hst.mono hsz)
    replace hsz := hbel.size
    replace bB := bB.below hst bB.lt
    clear p0 p1 lB
    have p0 := bB.cell 0
    have p1 := bB.cell 1
    have lB := bB.lt
    try clear hWb
    replace HP := hid (HP.out.below hst hst.size)
    replace HB := hid (HB.out.below hst hst.size)
    clear hb hst
    obtain ⟨W0, rfl⟩ : ∃ W0 : World, W0 = W1 := ⟨_, rfl⟩
    go_wp2
    refine bodyPost_ret (v := .tuple #[.slice none 0 0, .int .i64 (errR P M pl r)]) (by first | (simp [results, Try.results20, go_sem]; done) | (simp [results, Try.results20, go_sem, *]; done) | (simp [results, Try.results20, go_sem, World.cell?_setCell_same', *]; done) | (simp [results, Try.results20, go_sem]; first | exact ⟨rfl, rfl⟩ | rfl)) rfl ⟨none, 0, 0, by rw [hE.out], by rw [hV.out]; exact LiT.nil_ _ _, hbel⟩
  · have hb0 : errR P M pl r = 0 := by simpa using hbd
    obtain ⟨g1, g2, g3⟩ := plan_good (errR_zero hb0).1
    obtain ⟨g4, g5, g6, g7⟩ := book_good g1
    have hE : Hid (toldE P M pl r = if (toldL P.toNat M.toNat pl r).length = 0 then 23 else 0) := hid (if_neg (by omega))
    have hV : Hid (toldV P M pl r = if toldE P M pl r = 0 then toldL P.toNat M.toNat pl r else []) := rfl
    obtain ⟨Pn, rfl⟩ : ∃ Pn : Nat, P = Pn := ⟨P.toNat, by omega⟩
    obtain ⟨Mn, rfl⟩ : ∃ Mn : Nat, M = Mn := ⟨M.toNat, by omega⟩
    rw [Int.toNat_natCast, Int.toNat_natCast] at hE hV
    have Hb := hid hb0
    have hP8 : Pn ≤ 8 := by omega
    have hM2 : Mn ≤ 2 := by omega
    have hcl := cases_len (P := Pn) (M := Mn) hP8
    have hc1 := cases_pos Pn Mn
    have hcb := hid (show ∀ x ∈ casesL Pn Mn, ∀ v ∈ x, 0 ≤ v ∧ v < 8 from fun x hx v hv => by have := cases_bd hP8 hM2 x hx v hv; omega)
    have hcs := hid (show ∀ x ∈ casesL Pn Mn, x.length ≤ 12 from fun x hx => by have := cases_short Pn Mn x hx; omega)
    obtain ⟨TL, hTL⟩ : ∃ TL, toldL Pn Mn pl r = TL := ⟨_, rfl⟩
    have hTL2 : ((casesL Pn Mn).filter fun c => eqI (resL pl c) r) = TL := hTL
    rw [hTL] at hE hV
    have HTL := hid hTL2
    clear hbd hb0 g1 g3 hTL hTL2
    by_cases h0 : TL.length = 0
    · have hE2 := hid (hE.out.trans (if_pos h0))
      have hV2 := hid (hV.out.trans (if_neg (by rw [hE2.out]; decide)))
      go_enter Try.func20, Try.ntmps20
      go_wp2_with (fail)
      refine (seen_ok A B n c m d pl r Pn Mn _ (HP.out.below (by repeat' (first | with_reducible assumption | with_reducible exact Below.refl _ _ | refine Below.alloc ?_ ?_ _ | refine Below.setCell ?_ ?_ _ | refine Below.drew ?_ | refine below_drewN ?_ _ | (simp; done) | (simp; omega) | omega)) (by first | (simp; done) | (simp; omega) | omega)) (HB.out.below (by repeat' (first | with_reducible assumption | with_reducible exact Below.refl _ _ | refine Below.alloc ?_ ?_ _ | refine Below.setCell ?_ ?_ _ | refine Below.drew ?_ | refine below_drewN ?_ _ | (simp; done) | (simp; omega) | omega)) (by first | (simp; done) | (simp; omega) | omega)) hn hw Hb.out).mono ?_
      rintro e W1 ⟨g, mp, rfl, hB, hM0, hmm, hb⟩
      have hzz := hbel.size
      have hst : Below W0.heap.size W0 W1 := Below.trans (by repeat' (first | with_reducible assumption | with_reducible exact Below.refl _ _ | refine Below.alloc ?_ ?_ _ | refine Below.setCell ?_ ?_ _ | refine Below.drew ?_ | refine below_drewN ?_ _ | (simp; done) | (simp; omega) | omega)) (hb.mono (by first | (simp; done) | (simp; omega) | omega))
      replace hbel := hbel.trans (hst.mono hsz)
      replace hsz := hbel.size
      replace bB := bB.below hst bB.lt
      clear p0 p1 lB
      have p0 := bB.cell 0
      have p1 := bB.cell 1
      have lB := bB.lt
      try clear hWb
      replace HP := hid (HP.out.below hst hst.size)
      replace HB := hid (HB.out.below hst hst.size)
      clear hmm
      have HBn := hid hB
      clear hB
      have HM0 := hid hM0
      clear hM0
      clear hb hst
      obtain ⟨W0, rfl⟩ : ∃ W0 : World, W0 = W1 := ⟨_, rfl⟩
      clear HM0
      go_wp2_with (fail)
      refine (told_any B m d g Pn Mn mp (casesL Pn Mn) pl r _ (HBn.out.below (by repeat' (first | with_reducible assumption | with_reducible exact Below.refl _ _ | refine Below.alloc ?_ ?_ _ | refine Below.setCell ?_ ?_ _ | refine Below.drew ?_ | refine below_drewN ?_ _ | (simp; done) | (simp; omega) | omega))) (HB.out.below (by repeat' (first | with_reducible assumption | with_reducible exact Below.refl _ _ | refine Below.alloc ?_ ?_ _ | refine Below.setCell ?_ ?_ _ | refine Below.drew ?_ | refine below_drewN ?_ _ | (simp; done) | (simp; omega) | omega)) (by first | (simp; done) | (simp; omega) | omega)) hcb.out hcs.out g2 (by omega) (by omega)).mono ?_
      rw [HTL.out]
      rintro e W1 ⟨A9, n9, c9, rfl, hl9, hb⟩
      have hln : TL.length = n9 := hl9.1.1
      subst hln
      have HL9 := hid hl9
      clear hl9
      have hst : Below W0.heap.size W0 W1 := Below.trans (by repeat' (first | with_reducible assumption | with_reducible exact Below.refl _ _ | refine Below.alloc ?_ ?_ _ | refine Below.setCell ?_ ?_ _ | refine Below.drew ?_ | refine below_drewN ?_ _ | (simp; done) | (simp; omega) | omega)) (hb.mono (by first | (simp; done) | (simp; omega) | omega))
      replace hbel := hbel.trans (hst.mono hsz)
      replace hsz := hbel.size
      replace bB := bB.below hst bB.lt
      clear p0 p1 lB
      have p0 := bB.cell 0
      have p1 := bB.cell 1
      have lB := bB.lt
      try clear hWb
      replace HP := hid (HP.out.below hst hst.size)
      replace HB := hid (HB.out.below hst hst.size)
      clear HBn
      clear hb hst
      obtain ⟨W0, rfl⟩ : ∃ W0 : World, W0 = W1 := ⟨_, rfl⟩
      have h0i : ((TL.length : Nat) : Int) = 0 := by omega
      go_wp2
      refine bodyPost_ret (v := .tuple #[.slice none 0 0, .int .i64 23]) (by first | (simp [results, Try.results20, go_sem]; done) | (simp [results, Try.results20, go_sem, *]; done) | (simp [results, Try.results20, go_sem, World.cell?_setCell_same', *]; done) | (simp [results, Try.results20, go_sem]; first | exact ⟨rfl, rfl⟩ | rfl)) rfl ⟨none, 0, 0, by rw [hE2.out], by rw [hV2.out]; exact LiT.nil_ _ _, hbel⟩
    · have hE2 := hid (hE.out.trans (if_neg h0))
      have hV2 := hid (hV.out.trans (if_pos hE2.out))
      go_enter Try.func20, Try.ntmps20
      go_wp2_with (fail)
      refine (seen_ok A B n c m d pl r Pn Mn _ (HP.out.below (by repeat' (first | with_reducible assumption | with_reducible exact Below.refl _ _ | refine Below.alloc ?_ ?_ _ | refine Below.setCell ?_ ?_ _ | refine Below.drew ?_ | refine below_drewN ?_ _ | (simp; done) | (simp; omega) | omega)) (by first | (simp; done) | (simp; omega) | omega)) (HB.out.below (by repeat' (first | with_reducible assumption | with_reducible exact Below.refl _ _ | refine Below.alloc ?_ ?_ _ | refine Below.setCell ?_ ?_ _ | refine Below.drew ?_ | refine below_drewN ?_ _ | (simp; done) | (simp; omega) | omega)) (by first | (simp; done) | (simp; omega) | omega)) hn hw Hb.out).mono ?_
      rintro e W1 ⟨g, mp, rfl, hB, hM0, hmm, hb⟩
      have hzz := hbel.size
      have hst : Below W0.heap.size W0 W1 := Below.trans (by repeat' (first | with_reducible assumption | with_reducible exact Below.refl _ _ | refine Below.alloc ?_ ?_ _ | refine Below.setCell ?_ ?_ _ | refine Below.drew ?_ | refine below_drewN ?_ _ | (simp; done) | (simp; omega) | omega)) (hb.mono (by first | (simp; done) | (simp; omega) | omega))
      replace hbel := hbel.trans (hst.mono hsz)
      replace hsz := hbel.size
      replace bB := bB.below hst bB.lt
      clear p0 p1 lB
      have p0 := bB.cell 0
      have p1 := bB.cell 1
      have lB := bB.lt
      try clear hWb
      replace HP := hid (HP.out.below hst hst.size)
      replace HB := hid (HB.out.below hst hst.size)
      clear hmm
      have HBn := hid hB
      clear hB
      have HM0 := hid hM0
      clear hM0
      clear hb hst
      obtain ⟨W0, rfl⟩ : ∃ W0 : World, W0 = W1 := ⟨_, rfl⟩
      clear HM0
      go_wp2_with (fail)
      refine (told_any B m d g Pn Mn mp (casesL Pn Mn) pl r _ (HBn.out.below (by repeat' (first | with_reducible assumption | with_reducible exact Below.refl _ _ | refine Below.alloc ?_ ?_ _ | refine Below.setCell ?_ ?_ _ | refine Below.drew ?_ | refine below_drewN ?_ _ | (simp; done) | (simp; omega) | omega))) (HB.out.below (by repeat' (first | with_reducible assumption | with_reducible exact Below.refl _ _ | refine Below.alloc ?_ ?_ _ | refine Below.setCell ?_ ?_ _ | refine Below.drew ?_ | refine below_drewN ?_ _ | (simp; done) | (simp; omega) | omega)) (by first | (simp; done) | (simp; omega) | omega)) hcb.out hcs.out g2 (by omega) (by omega)).mono ?_
      rw [HTL.out]
      rintro e W1 ⟨A9, n9, c9, rfl, hl9, hb⟩
      have hln : TL.length = n9 := hl9.1.1
      subst hln
      have HL9 := hid hl9
      clear hl9
      have hst : Below W0.heap.size W0 W1 := Below.trans (by repeat' (first | with_reducible assumption | with_reducible exact Below.refl _ _ | refine Below.alloc ?_ ?_ _ | refine Below.setCell ?_ ?_ _ | refine Below.drew ?_ | refine below_drewN ?_ _ | (simp; done) | (simp; omega) | omega)) (hb.mono (by first | (simp; done) | (simp; omega) | omega))
      replace hbel := hbel.trans (hst.mono hsz)
      replace hsz := hbel.size
      replace bB := bB.below hst bB.lt
      clear p0 p1 lB
      have p0 := bB.cell 0
      have p1 := bB.cell 1
      have lB := bB.lt
      try clear hWb
      replace HP := hid (HP.out.below hst hst.size)
      replace HB := hid (HB.out.below hst hst.size)
      clear HBn
      clear hb hst
      obtain ⟨W0, rfl⟩ : ∃ W0 : World, W0 = W1 := ⟨_, rfl⟩
      have h0i : ¬ ((TL.length : Nat) : Int) = 0 := by omega
      go_wp2
      refine bodyPost_ret (v := .tuple #[.slice A9 TL.length c9, .int .i64 0]) (by first | (simp [results, Try.results20, go_sem]; done) | (simp [results, Try.results20, go_sem, *]; done) | (simp [results, Try.results20, go_sem, World.cell?_setCell_same', *]; done) | (simp [results, Try.results20, go_sem]; first | exact ⟨rfl, rfl⟩ | rfl)) rfl ⟨A9, TL.length, c9, by rw [hE2.out], by rw [hV2.out]; exact HL9.out, hbel⟩
end Go.Proofs.Ytpgdfipikfbjeaa
