/- Texts of the proof, laid together by program. -/
import Derived.Test.YtnpilfpackdimaaGreatMc
import Derived.ChangeKeysEq
import Derived.Laws.StructEq
import Derived.Test.YtnpilfpackdimaaGreatMa
set_option linter.unusedSimpArgs false
set_option linter.unusedVariables false
/- Walks: slices.Compare; the order of sets. -/
namespace Go.Proofs.YtnpilfpackdimaaGreat
open Go.RowKit Go.Shelf
attribute [local go_sem] Oper.semAt_some
def cmpI (x y : Int) : Int := if x < y then -1 else if y < x then 1 else 0
theorem isNaN_any (x : Int) (w : World) : Calls Tryz.prog 129 #[.int .i64 x] w fun e w' => e = .returned (.bool false) ∧ w = w' := by
  go_enter Tryz.func129, Tryz.ntmps129
  go_wp2
  go_ret
  exact ⟨by first | rfl | simp, rfl⟩
set_option maxHeartbeats 800000 in
theorem cmpCompare_any (x y : Int) (w : World) : Calls Tryz.prog 118 #[.int .i64 x, .int .i64 y] w fun e w' => e = .returned (.int .i64 (cmpI x y)) ∧ w = w' := by
  have hv : Hid (cmpI x y = if x < y then -1 else if y < x then 1 else 0) := rfl
  by_cases h1 : x < y
  · rw [if_pos h1] at hv
    go_enter Tryz.func118, Tryz.ntmps118
    go_wp2_with (go_at_call 129; refine (isNaN_any _ _).mono ?_; rintro e w1 ⟨rfl, rfl⟩)
    refine bodyPost_ret (v := .int .i64 (-1)) (by first | (simp [results, Tryz.results118, go_sem]; done) | (simp [results, Tryz.results118, go_sem, *]; done) | (simp [results, Tryz.results118, go_sem, World.cell?_setCell_same', *]; done) | (simp [results, Tryz.results118, go_sem]; first | exact ⟨rfl, rfl⟩ | rfl)) rfl ⟨by rw [hv.out], rfl⟩
  · rw [if_neg h1] at hv
    by_cases h2 : y < x
    · rw [if_pos h2] at hv
      go_enter Tryz.func118, Tryz.ntmps118
      go_wp2_with (go_at_call 129; refine (isNaN_any _ _).mono ?_; rintro e w1 ⟨rfl, rfl⟩)
      refine bodyPost_ret (v := .int .i64 1) (by first | (simp [results, Tryz.results118, go_sem]; done) | (simp [results, Tryz.results118, go_sem, *]; done) | (simp [results, Tryz.results118, go_sem, World.cell?_setCell_same', *]; done) | (simp [results, Tryz.results118, go_sem]; first | exact ⟨rfl, rfl⟩ | rfl)) rfl ⟨by rw [hv.out], rfl⟩
    · rw [if_neg h2] at hv
      go_enter Tryz.func118, Tryz.ntmps118
      go_wp2_with (go_at_call 129; refine (isNaN_any _ _).mono ?_; rintro e w1 ⟨rfl, rfl⟩)
      refine bodyPost_ret (v := .int .i64 0) (by first | (simp [results, Tryz.results118, go_sem]; done) | (simp [results, Tryz.results118, go_sem, *]; done) | (simp [results, Tryz.results118, go_sem, World.cell?_setCell_same', *]; done) | (simp [results, Tryz.results118, go_sem]; first | exact ⟨rfl, rfl⟩ | rfl)) rfl ⟨by rw [hv.out], rfl⟩
/-- How two lists lie. -/
def cmpL (a b : List Int) : Int := if before a b then -1 else if a = b then 0 else 1
theorem before_pre : ∀ {k : Nat} {a b : List Int}, a.take k = b.take k → before a b = before (a.drop k) (b.drop k)
  | 0, _, _, _ => by simp
  | k + 1, [], [], _ => rfl
  | k + 1, [], _ :: _, h => by simp at h
  | k + 1, _ :: _, [], h => by simp at h
  | k + 1, x :: a, y :: b, h => by
    simp only [List.take_succ_cons, List.cons.injEq] at h
    rw [before_cons, if_pos h.1, before_pre h.2, List.drop_succ_cons, List.drop_succ_cons]
theorem drop_at {α : Type} {l : List α} {k : Nat} {x : α} (h : l[k]? = some x) : l.drop k = x :: l.drop (k + 1) := by
  obtain ⟨hk, e⟩ := List.getElem?_eq_some_iff.1 h
  rw [List.drop_eq_getElem_cons hk, e]
theorem cmpL_lt {a b : List Int} {k : Nat} {x y : Int} (h : a.take k = b.take k) (ha : a[k]? = some x) (hb : b[k]? = some y) (hne : x ≠ y) : cmpL a b = if x < y then -1 else 1 := by
  have hb2 : before a b = decide (x < y) := by rw [before_pre h, drop_at ha, drop_at hb, before_cons, if_neg hne]
  have he : a ≠ b := ne_of_at ha hb hne
  unfold cmpL
  rw [hb2, if_neg he]
  by_cases hl : x < y <;> simp [hl]
theorem cmpL_long {a b : List Int} {k : Nat} {x : Int} (h : a.take k = b.take k) (ha : a[k]? = some x) (hb : b.length ≤ k) : cmpL a b = 1 := by
  have hb2 : before a b = false := by rw [before_pre h, drop_at ha, List.drop_of_length_le hb]; rfl
  have he : a ≠ b := fun e => by
    have := (List.getElem?_eq_some_iff.1 ha).1
    rw [e] at this; omega
  unfold cmpL
  rw [hb2, if_neg he]; rfl
theorem cmpL_end {a b : List Int} (h : a = b.take a.length) : cmpL a b = if a.length < b.length then -1 else 0 := by
  by_cases hl : a.length < b.length
  · have hb2 : before a b = true := by
      rw [before_pre (k := a.length) (by rw [List.take_length]; exact h), List.drop_length, List.drop_eq_getElem_cons hl]; rfl
    unfold cmpL
    rw [hb2, if_pos hl]; rfl
  · have he : a = b := by rw [h, List.take_of_length_le]; omega
    unfold cmpL
    rw [if_neg hl, he, before_irr]; simp
set_option maxRecDepth 10000 in
set_option maxHeartbeats 1600000 in
theorem compare_any (A B : Option Addr) (n c m d : Nat) (a b : List Int) (w : World) (ha : InS w w.heap.size A n a) (hb : InS w w.heap.size B m b) (hn : n ≤ 1000000) (hm1 : m ≤ 1000000) :
    Calls Tryz.prog 109 #[.slice A n c, .slice B m d] w fun e w' => e = .returned (.int .i64 (cmpL a b)) ∧ w = w' := by
  have hla := hid ha.len
  have hlb := hid hb.len
  have HA := hid ha
  have HB := hid hb
  obtain ⟨cv, hcv⟩ : ∃ cv, cmpL a b = cv := ⟨_, rfl⟩
  have Hcv := hid hcv
  rw [hcv]
  clear ha hb hcv
  go_enter Tryz.func109, Tryz.ntmps109
  go_wp2
  go_loopw [11] (fun i wr => ∃ k : Nat, k ≤ n ∧ i = .int .i64 k ∧ Hid (a.take k = b.take k) ∧ w = wr) (fun i _ => n - (intOf i).toNat)
  case atStart => exact ⟨0, by omega, rfl, hid (by simp), rfl⟩
  case round =>
    obtain ⟨k, hk, rfl, heq, rfl⟩ := hrel
    by_cases hlt : k < n
    · obtain ⟨b1, o1, x, rfl, hb1, hx, c1⟩ := HA.out.at_ hlt
      have Hx := hid hx
      have hlti : (k : Int) < n := by omega
      clear hx
      by_cases hkm : k < m
      · obtain ⟨b2, o2, y, rfl, hb2, hy, c2⟩ := HB.out.at_ hkm
        have Hy := hid hy
        have hkmi : ¬ (m : Int) ≤ k := by omega
        have hkmi2 : (k : Int) < m := by omega
        have Hc : Hid (cmpI x y = if x < y then -1 else if y < x then 1 else 0) := rfl
        clear hy
        by_cases h1 : x < y
        · rw [if_pos h1] at Hc
          have Hf : Hid (cmpL a b = -1) := hid (by rw [cmpL_lt heq.out Hx.out Hy.out (by omega), if_pos h1])
          go_wp2_with (go_at_call 118; refine (cmpCompare_any x y _).mono ?_; rw [Hc.out]; rintro e w1 ⟨rfl, rfl⟩)
          refine bodyPost_ret (v := .int .i64 (-1)) (by first | (simp [results, Tryz.results109, go_sem]; done) | (simp [results, Tryz.results109, go_sem, *]; done) | (simp [results, Tryz.results109, go_sem, World.cell?_setCell_same', *]; done) | (simp [results, Tryz.results109, go_sem]; first | exact ⟨rfl, rfl⟩ | rfl)) rfl ⟨by rw [← Hcv.out, Hf.out], rfl⟩
        · rw [if_neg h1] at Hc
          by_cases h2 : y < x
          · rw [if_pos h2] at Hc
            have Hf : Hid (cmpL a b = 1) := hid (by rw [cmpL_lt heq.out Hx.out Hy.out (by omega), if_neg h1])
            go_wp2_with (go_at_call 118; refine (cmpCompare_any x y _).mono ?_; rw [Hc.out]; rintro e w1 ⟨rfl, rfl⟩)
            refine bodyPost_ret (v := .int .i64 1) (by first | (simp [results, Tryz.results109, go_sem]; done) | (simp [results, Tryz.results109, go_sem, *]; done) | (simp [results, Tryz.results109, go_sem, World.cell?_setCell_same', *]; done) | (simp [results, Tryz.results109, go_sem]; first | exact ⟨rfl, rfl⟩ | rfl)) rfl ⟨by rw [← Hcv.out, Hf.out], rfl⟩
          · rw [if_neg h2] at Hc
            obtain rfl : x = y := by omega
            have Hs := hid (take_eq_succ heq.out Hx.out Hy.out)
            clear h1 h2
            go_wp2_with (go_at_call 118; refine (cmpCompare_any x x _).mono ?_; rw [Hc.out]; rintro e w1 ⟨rfl, rfl⟩)
            exact ⟨⟨k + 1, by omega, by go_num, Hs, trivial⟩, by simp [intOf]; omega⟩
      · have hkmi : (m : Int) ≤ k := by omega
        have Hf : Hid (cmpL a b = 1) := hid (cmpL_long heq.out Hx.out (by rw [hlb.out]; omega))
        go_wp2
        refine bodyPost_ret (v := .int .i64 1) (by first | (simp [results, Tryz.results109, go_sem]; done) | (simp [results, Tryz.results109, go_sem, *]; done) | (simp [results, Tryz.results109, go_sem, World.cell?_setCell_same', *]; done) | (simp [results, Tryz.results109, go_sem]; first | exact ⟨rfl, rfl⟩ | rfl)) rfl ⟨by rw [← Hcv.out, Hf.out], rfl⟩
    · obtain rfl : k = n := by omega
      have He : Hid (cmpL a b = if k < m then -1 else 0) := hid (by
        have := heq.out
        rw [List.take_of_length_le (by rw [hla.out]; exact Nat.le_refl _)] at this
        rw [cmpL_end (by rw [hla.out]; exact this), hla.out, hlb.out])
      by_cases hkm : k < m
      · have hkmi : (k : Int) < m := by omega
        rw [if_pos hkm] at He
        go_wp2
        refine bodyPost_ret (v := .int .i64 (-1)) (by first | (simp [results, Tryz.results109, go_sem]; done) | (simp [results, Tryz.results109, go_sem, *]; done) | (simp [results, Tryz.results109, go_sem, World.cell?_setCell_same', *]; done) | (simp [results, Tryz.results109, go_sem]; first | exact ⟨rfl, rfl⟩ | rfl)) rfl ⟨by rw [← Hcv.out, He.out], rfl⟩
      · have hkmi : ¬ (k : Int) < m := by omega
        rw [if_neg hkm] at He
        go_wp2
        refine bodyPost_ret (v := .int .i64 0) (by first | (simp [results, Tryz.results109, go_sem]; done) | (simp [results, Tryz.results109, go_sem, *]; done) | (simp [results, Tryz.results109, go_sem, World.cell?_setCell_same', *]; done) | (simp [results, Tryz.results109, go_sem]; first | exact ⟨rfl, rfl⟩ | rfl)) rfl ⟨by rw [← Hcv.out, He.out], rfl⟩
theorem least1_any (A B : Option Addr) (n c m d : Nat) (a b : List Int) (w : World) (ha : InS w w.heap.size A n a) (hb : InS w w.heap.size B m b) (hn : n ≤ 1000000) (hm1 : m ≤ 1000000) :
    Calls Tryz.prog 108 #[.slice A n c, .slice B m d] w fun e w' => e = .returned (.int .i64 (cmpL a b)) ∧ w = w' := by
  have hc := compare_any A B n c m d a b w ha hb hn hm1
  obtain ⟨cv, hcv⟩ : ∃ cv, cmpL a b = cv := ⟨_, rfl⟩
  rw [hcv] at hc ⊢
  clear hcv ha hb
  go_enter Tryz.func108, Tryz.ntmps108
  go_wp2_with (go_at_call 109; refine hc.mono ?_; rintro e w1 ⟨rfl, rfl⟩)
  go_ret
  exact ⟨rfl, rfl⟩
end Go.Proofs.YtnpilfpackdimaaGreat
/- Walks: lists of sets are sorted. -/
namespace Go.Proofs.YtnpilfpackdimaaGreat
open Go.RowKit Go.Shelf Go.Sort
attribute [local go_sem] Oper.semAt_some
/-- A slice that reads as a list, but not in one block. -/
def OkE (w : World) (lo blk : Nat) (x : Value × List Int) : Prop := ∃ (A : Option Addr) (m c : Nat), x.1 = .slice A m c ∧ m ≤ 1000000 ∧ InS w w.heap.size A m x.2 ∧ ∀ b off, A = some ⟨b, off, none⟩ → b ≠ blk ∧ b < w.heap.size ∧ lo ≤ b
abbrev SE (w : World) (lo blk : Nat) : Type := { x : Value × List Int // OkE w lo blk x }
instance (w : World) (lo blk : Nat) : Inhabited (SE w lo blk) := ⟨⟨(.slice none 0 0, []), none, 0, 0, rfl, by omega, Sl.none_, fun _ _ h => by cases h⟩⟩
def encE {w : World} {lo blk : Nat} (x : SE w lo blk) : Value := x.1.1
def lstE {w : World} {lo blk : Nat} (x : SE w lo blk) : List Int := x.1.2
def cfE {w : World} {lo blk : Nat} (x y : SE w lo blk) : Int := cmpL x.1.2 y.1.2
theorem se_list {w : World} {lo blk : Nat} : ∀ (vs : List Value) (ls : List (List Int)), vs.length = ls.length → (∀ (k : Nat) (l : List Int), ls[k]? = some l → ∃ v, vs[k]? = some v ∧ OkE w lo blk (v, l)) → ∃ d : List (SE w lo blk), d.map encE = vs ∧ d.map lstE = ls
  | [], [], _, _ => ⟨[], rfl, rfl⟩
  | [], _ :: _, h, _ => by simp at h
  | _ :: _, [], h, _ => by simp at h
  | v :: vs, l :: ls, h, hk => by
    obtain ⟨d, h1, h2⟩ := se_list vs ls (by simpa using h) fun k l' hl => by simpa using hk (k + 1) l' (by simpa using hl)
    obtain ⟨v', hv, hok⟩ := hk 0 l rfl
    obtain rfl : v = v' := by simpa using hv
    exact ⟨⟨(v, l), hok⟩ :: d, by simp [encE, ← h1], by simp [lstE, ← h2]⟩
theorem oneE (w : World) (lo blk : Nat) : OneCell (encE (w := w) (lo := lo) (blk := blk)) := fun x => by
  obtain ⟨⟨v, l⟩, A, m, c, h, -⟩ := x
  have : v = .slice A m c := h
  show v.oneCell' = true
  rw [this]; rfl
theorem cmpL_neg {a b : List Int} : cmpL a b < 0 ↔ before a b = true := by
  unfold cmpL
  cases before a b
  · by_cases e : a = b <;> simp [e]
  · simp
theorem ltE {w : World} {lo blk : Nat} (x y : SE w lo blk) : ltOf cfE x y = before x.1.2 y.1.2 := by
  unfold ltOf cfE
  rw [Bool.eq_iff_iff, decide_eq_true_eq, cmpL_neg]
theorem swoE (w : World) (lo blk : Nat) : SWO (ltOf (cfE (w := w) (lo := lo) (blk := blk))) where
  irrefl x := by rw [ltE]; exact before_irr _
  trans x y z h1 h2 := by rw [ltE] at *; exact before_trans h1 h2
  ntrans x y z h1 h2 := by
    rw [ltE] at *
    cases h : before x.1.2 z.1.2
    · rfl
    · exfalso
      by_cases e : x.1.2 = y.1.2
      · rw [e, h2] at h; cases h
      · have := before_trans (before_tot e h1) h
        rw [h2] at this; cases this
section
variable {w : World} {lo blk off m : Nat} {dk : Array (SE w lo blk)} {os : Array Obj}
theorem sw_grown (hb : blk < w.heap.size) : w.grownBy (sortWorld encE w blk off m dk os) (some blk) := by
  refine ⟨rfl, rfl, rfl, ?_, fun k hk hne => ?_⟩
  · simp [sortWorld, grow, putRow, mapBlock, ahead]
  · have hne' : blk ≠ k := fun e => hne (by rw [e])
    show (w.heap.modify blk (onCells (putCells encE off dk)) ++ os)[k]? = _
    rw [Array.getElem?_append_left (by simpa using hk), Array.getElem?_modify, if_neg hne']
theorem sw_ins (hb : blk < w.heap.size) {A : Option Addr} {n : Nat} {l : List Int} (h : InS w w.heap.size A n l) (hA : ∀ b off, A = some ⟨b, off, none⟩ → b ≠ blk) : InS (sortWorld encE w blk off m dk os) (sortWorld encE w blk off m dk os).heap.size A n l :=
  h.grown (sw_grown hb) (fun b off e e' => hA b off e (Option.some.inj e').symm) (sw_grown (off := off) (m := m) (dk := dk) (os := os) hb).size
end
theorem enLeast1 : ∀ args w, (callFunc 108 args).run Tryz.prog w = .ok (.enter 108 args) w := enters_of Tryz.func108 (by kernel_rfl) rfl
theorem cmpLays (w : World) (lo blk size : Nat) (hb : blk < w.heap.size) : CmpLays1 Tryz.prog 108 #[] (encE (w := w) (lo := lo) (blk := blk)) cfE blk 0 size w := CmpReads.lays fun m os dk _ x y => by
  obtain ⟨⟨v, l⟩, A, n, c, h1, h2, h3, h4⟩ := x
  obtain ⟨⟨v', l'⟩, A', n', c', h1', h2', h3', h4'⟩ := y
  obtain rfl : v = .slice A n c := h1
  obtain rfl : v' = .slice A' n' c' := h1'
  refine (least1_any A A' n c n' c' l l' _ (sw_ins hb h3 fun b off e => (h4 b off e).1) (sw_ins hb h3' fun b off e => (h4' b off e).1) h2 h2').mono ?_
  rintro e w1 ⟨rfl, rfl⟩
  exact ⟨rfl, 0, rfl⟩
theorem sort_some (w : World) (lo g n c base : Nat) (vs : List Value) (ls : List (List Int)) (ho : w.ownsRow base 25 1 (.slice (some ⟨g, 0, none⟩) n c) n vs) (hl : LiAt w vs ls (some g)) (hn : n = ls.length) (hn2 : n ≤ 1000000) (hw : ∀ l ∈ ls, l.length ≤ 1000000) (hlv : ∀ x ∈ vs, lowV lo x) (hlg : lo ≤ g) :
    Calls Tryz.prog 107 #[.slice (some ⟨g, 0, none⟩) n c, .func (.func 108) #[] #[]] w fun e w' => e = .returned (.tuple #[]) ∧ ∃ ls' : List (List Int), ls'.Perm ls ∧ ls'.Pairwise (fun a b => before b a = false) ∧ LiF w' lo w'.heap.size (some ⟨g, 0, none⟩) n ls' ∧ w.grownBy w' (some g) := by
  obtain ⟨hg, cur, fr⟩ : g < w.heap.size ∧ (∀ j u, vs[j]? = some u → w.cell? ⟨g, j, none⟩ = some u) ∧ ∀ j, w.frozen? ⟨g, j, none⟩ = false := by
    refine ⟨?_, fun j u hu => own_cell ho hu, ?_⟩
    · rcases ho.2 with ⟨h1, -⟩ | ⟨g', cap, cur, h1, hb, hg, -⟩
      · cases h1
      · cases h1; exact (Array.getElem?_eq_some_iff.1 hg).1
    · intro j
      rcases ho.2 with ⟨h1, -⟩ | ⟨g', cap, cur, h1, hb, hg, -⟩
      · cases h1
      · cases h1; simp [World.frozen?, hg]
  obtain ⟨d, hd1, hd2⟩ := se_list (w := w) (lo := lo) (blk := g) vs ls hl.1 fun k l hk => by
    obtain ⟨A, m, c', h1, h2, h3⟩ := hl.2 k l hk
    exact ⟨_, h1, A, m, c', rfl, by have := hw l (List.mem_of_getElem? hk); have := h2.len; omega, h2, fun b off e => ⟨fun e' => (h3 b off e).2 (by rw [e']), (h3 b off e).1, hlv _ (List.mem_of_getElem? h1) A m c' b off rfl e⟩⟩
  have hdl : d.length = n := by rw [hn, ← hd2, List.length_map]
  have hH : Holds encE w g 0 d.toArray := fun j hj => by
    have hj' : j < d.length := by simpa using hj
    refine ⟨?_, fr _⟩
    rw [Nat.zero_add]
    refine cur j _ ?_
    rw [← hd1, List.getElem?_map, List.getElem?_eq_getElem hj', getElem!_pos d.toArray j (by simpa using hj')]
    rfl
  have hc := Any.slices_SortFunc Tryz.sortL encE (oneE w lo g) cfE (swoE w lo g) 108 #[] g 0 c d.toArray w enLeast1 (cmpLays w lo g _ hg) hH hg (by simp; omega)
  change Calls Tryz.prog 107 _ _ _ at hc
  rw [show d.toArray.size = n by simpa using hdl] at hc
  refine hc.mono ?_
  rintro e w' ⟨rfl, d', q, os, ⟨hp1, -, hp3⟩, hs, rfl⟩
  refine ⟨rfl, d'.toList.map lstE, ?_, ?_, ?_, sw_grown hg⟩
  · rw [← hd2]
    refine List.Perm.map _ ?_
    have e1 : d'.extract 0 n = d' := by rw [show n = d'.size by rw [hp1]; simp [hdl]]; exact Array.extract_size
    have e2 : d.toArray.extract 0 n = d.toArray := by rw [show n = d.toArray.size by simp [hdl]]; exact Array.extract_size
    rw [e1, e2] at hp3
    simpa using hp3
  · rw [List.pairwise_map, List.pairwise_iff_getElem]
    intro i j hi hj hij
    have hsz : d'.size = n := by rw [hp1]; simp [hdl]
    have hi' : i < d'.size := by simpa using hi
    have hj' : j < d'.size := by simpa using hj
    have := hs i j (Nat.zero_le _) hij (by omega)
    rw [ltE, getElem!_pos d' i hi', getElem!_pos d' j hj'] at this
    simpa [lstE] using this
  · have hsz : d'.size = n := by rw [hp1]; simp [hdl]
    have hHo := SW.holds (enc := encE) (w0 := w) (blk := g) (off := 0) (dk := d') (W := sortWorld encE w g 0 q d' os) ⟨q, os, rfl⟩ hg hH (by rw [hp1])
    have hsize := (sw_grown (off := 0) (m := q) (dk := d') (os := os) hg).size
    refine ⟨by simp [hsz], fun _ b off e => by cases e; exact hlg, d'.toList.map encE, ⟨by simp [hsz], fun _ => ⟨g, 0, rfl, by omega, fun j u hu => ?_⟩⟩, fun k l hk => ?_⟩
    · rw [List.getElem?_map] at hu
      have hj : j < d'.size := by
        rcases Nat.lt_or_ge j d'.size with h | h
        · exact h
        · rw [List.getElem?_eq_none (by simpa using h)] at hu; cases hu
      rw [(hHo j hj).1, getElem!_pos d' j hj]
      rw [List.getElem?_eq_getElem (by simpa using hj)] at hu
      simpa using hu
    · rw [List.getElem?_map] at hk
      have hj : k < d'.size := by
        rcases Nat.lt_or_ge k d'.size with h | h
        · exact h
        · rw [List.getElem?_eq_none (by simpa using h)] at hk; cases hk
      rw [List.getElem?_eq_getElem (by simpa using hj)] at hk
      obtain ⟨A, m, c', h1, h2, h3, h4⟩ := d'[k].2
      refine ⟨A, m, c', ?_, ?_, fun b off e => ⟨(h4 b off e).2.2, Nat.lt_of_lt_of_le (h4 b off e).2.1 hsize⟩⟩
      · rw [List.getElem?_map, List.getElem?_eq_getElem (by simpa using hj)]
        simp only [Option.map_some, Array.getElem_toList]
        exact congrArg some h1
      · have hl' : l = d'[k].1.2 := by simpa [lstE] using hk.symm
        rw [hl']
        exact sw_ins hg h3 fun b off e => (h4 b off e).1
theorem sort_none (w : World) (A : Option Addr) (c : Nat) : Calls Tryz.prog 107 #[.slice A 0 c, .func (.func 108) #[] #[]] w fun e w' => e = .returned (.tuple #[]) ∧ w' = w := by
  have h := AnyF.slices_SortFunc_none (P := Tryz.prog) (ρ := Tryz.sortL_ren) { Tryz.sortL with } A c (.func (.func 108) #[] #[]) w
  change Calls Tryz.prog 107 _ _ _ at h
  exact h
end Go.Proofs.YtnpilfpackdimaaGreat
/- Marks compared; what a map of sets holds; a step of a range over it. -/
namespace Go.Proofs.YtnpilfpackdimaaGreat
open Go.RowKit Go.WideMaps Go.Shelf
open Go.Maps (Keyed)
attribute [local go_sem] Oper.semAt_some
theorem cellsI : Tryz.prog.cellsOf 3 = 1 := by kernel_rfl
theorem eqItem1 (W : World) (d i : Nat) (xs ys : Array Value) (is : List Nat) (a b : Int) (hx : xs[i]? = some (.int .i64 a)) (hy : ys[i]? = some (.int .i64 b)) (r : Bool) (hr : (Op.eqItems (d + 1) 3 1 xs ys is).run Tryz.prog W = .ok r W) : (Op.eqItems (d + 1) 3 1 xs ys (i :: is)).run Tryz.prog W = .ok (a == b && r) W := by
  simp only [Op.eqItems, Nat.mul_one]
  have e1 : (part 3 xs i).run Tryz.prog W = .ok (.int .i64 a) W := by go_simp
  have e2 : (part 3 ys i).run Tryz.prog W = .ok (.int .i64 b) W := by go_simp
  have e3 : (Op.equalIn (d + 1) 3 (.int .i64 a) (.int .i64 b)).run Tryz.prog W = .ok (a == b) W := by go_simp
  simp only [Sem.run_bind, e1, e2, e3, Result.andThen_ok]
  cases h : (a == b)
  · simp
  · simpa using hr
def sameB (a b : Nat) : Bool := (List.range 8).all fun i => a.testBit i == b.testBit i
theorem sameB_eq {a b : Nat} (ha : a < 256) (hb : b < 256) : sameB a b = decide (a = b) := by
  rw [Bool.eq_iff_iff, decide_eq_true_eq]
  unfold sameB
  rw [List.all_eq_true]
  constructor
  · intro h
    exact bits8_ext ha hb fun i hi => by simpa using h i (List.mem_range.2 hi)
  · rintro rfl i _
    simp
def aggB (b : Nat) : Value := .agg #[bv b 0, bv b 1, bv b 2, bv b 3, bv b 4, bv b 5, bv b 6, bv b 7]
theorem eqMarks (W : World) (d : Nat) (a b : Nat) : (Op.equalIn (d + 2) 77 (aggB a) (aggB b)).run Tryz.prog W = .ok (sameB a b) W := by
  obtain ⟨i0, hi0, hi1, hi2, hi3⟩ := info_parts' infoI
  unfold aggB bv
  rw [run_equalIn_array W (d + 1) (t := 77) (e := 3) (n := 8) (i := i0) _ _ (by kernel_rfl) hi0, cellsI]
  rw [show List.range 8 = [0, 1, 2, 3, 4, 5, 6, 7] from rfl]
  refine (eqItem1 W d 0 _ _ _ _ _ rfl rfl _ (eqItem1 W d 1 _ _ _ _ _ rfl rfl _ (eqItem1 W d 2 _ _ _ _ _ rfl rfl _ (eqItem1 W d 3 _ _ _ _ _ rfl rfl _ (eqItem1 W d 4 _ _ _ _ _ rfl rfl _ (eqItem1 W d 5 _ _ _ _ _ rfl rfl _ (eqItem1 W d 6 _ _ _ _ _ rfl rfl _ (eqItem1 W d 7 _ _ _ _ _ rfl rfl true ?_)))))))).trans ?_
  · simp [Op.eqItems]
  · have e : ∀ i : Nat, (((if a.testBit i = true then (1 : Int) else 0) == (if b.testBit i = true then (1 : Int) else 0))) = (a.testBit i == b.testBit i) := fun i => by cases a.testBit i <;> cases b.testBit i <;> rfl
    simp only [sameB, e]
    simp [List.range, List.range.loop]
set_option maxRecDepth 10000 in
theorem neqF (W : World) (a b : Nat) : (binOp .neq 108 (aggB a) (aggB b)).run Tryz.prog W = .ok (.bool (!sameB a b)) W := by
  have hm : (Op.equalIn 9999 77 (aggB a) (aggB b)).run Tryz.prog W = .ok (sameB a b) W := eqMarks W 9997 a b
  have hf : (match Tryz.prog.underlying 108 with | some (.struct fs) => fs.toList.map (fun f => (f.type, f.offset, f.name != "_")) | _ => []) = [(77, 0, true)] := by kernel_rfl
  have hp : Tryz.prog.stoodInHeld 108 = false := by kernel_rfl
  have hcm : (Tryz.prog.info? 77).map (·.size) = some 8 := by kernel_rfl
  have h : (Op.equalIn 10000 108 (aggB a) (aggB b)).run Tryz.prog W = .ok (sameB a b) W := by
    cases hu : Tryz.prog.underlying 108 with
    | none => rw [hu] at hf; cases hf
    | some T =>
      cases T with
      | struct fs =>
        rw [hu] at hf
        have hfo : Tryz.prog.fieldsOf 108 = fs := by unfold Program.fieldsOf; rw [hu]
        unfold aggB at hm ⊢
        rw [run_equalIn_struct W 9999 108 _ _ (by rw [hfo]; exact hu) hp, hfo]
        obtain ⟨fl⟩ := fs
        rcases fl with _ | ⟨f1, _ | ⟨f2, r⟩⟩
        · simp at hf
        · simp only [List.map_cons, List.map_nil, List.cons.injEq, Prod.mk.injEq, and_true] at hf
          obtain ⟨a1, a2, a3⟩ := hf
          have a3' : f1.name ≠ "_" := by simpa using a3
          have p1 : ∀ z : Nat, (part f1.type #[bv z 0, bv z 1, bv z 2, bv z 3, bv z 4, bv z 5, bv z 6, bv z 7] f1.offset).run Tryz.prog W = .ok (.agg #[bv z 0, bv z 1, bv z 2, bv z 3, bv z 4, bv z 5, bv z 6, bv z 7]) W := fun z => by
            rw [a1, a2]; go_simp
          simp only [Op.eqFields, if_pos a3', Sem.run_bind, p1, Result.andThen_ok]
          rw [a1, hm]
          simp only [Result.andThen_ok]
          cases sameB a b <;> simp
        · simp at hf
      | _ => rw [hu] at hf; cases hf
  unfold aggB at h ⊢
  go_simp
/-! What a map of sets holds. -/
abbrev MF (w : World) (mp n : Nat) (D : DataW Unit) : Prop := w.ownsMap Tryz.prog 108 (plainElem (H := Unit) Tryz.prog 3) mp n D
abbrev RF (w : World) (mp r n : Nat) (D : DataW Unit) (left : Lit → Bool) (cnt : Nat) : Prop := w.ranges Tryz.prog 108 (plainElem (H := Unit) Tryz.prog 3) mp r n D left cnt
structure SetM (D : DataW Unit) (S : Nat → Bool) : Prop where
  has : ∀ x, x < 256 → Maps.has D (klB x) = S x
  keys : ∀ kl, Maps.has D kl = true → ∃ x, x < 256 ∧ klB x = kl
theorem SetM.nil : SetM (.map []) fun _ => false := ⟨fun _ _ => rfl, fun kl h => by simp [Maps.has] at h⟩
theorem SetM.put {D : DataW Unit} {S : Nat → Bool} (h : SetM D S) (hD : Maps.IsMap D) {x : Nat} (hx : x < 256) (d : DataW Unit) : SetM (D.put (klB x) d) fun y => S y || y == x := by
  refine ⟨fun y hy => ?_, fun kl hk => ?_⟩
  · by_cases e : y = x
    · subst e
      rw [Maps.has_put_same hD (klB_is hx)]; simp
    · rw [Maps.has_put_other fun e' => e (klB_inj hy hx e'), h.has y hy]
      simp [e]
  · by_cases e : kl = klB x
    · exact ⟨x, hx, e.symm⟩
    · rw [Maps.has_put_other e] at hk
      exact h.keys kl hk
theorem SetM.del {D : DataW Unit} {S : Nat → Bool} (h : SetM D S) {x : Nat} (hx : x < 256) : SetM (D.del (klB x)) fun y => S y && y != x := by
  refine ⟨fun y hy => ?_, fun kl hk => ?_⟩
  · by_cases e : y = x
    · subst e
      rw [Maps.has_del_same]; simp
    · rw [Maps.has_del_other fun e' => e (klB_inj hy hx e'), h.has y hy]
      simp [e]
  · by_cases e : kl = klB x
    · rw [e, Maps.has_del_same] at hk; cases hk
    · rw [Maps.has_del_other e] at hk
      exact h.keys kl hk
theorem SetM.congr {D : DataW Unit} {S S' : Nat → Bool} (h : SetM D S) (hS : ∀ x, x < 256 → S' x = S x) : SetM D S' := ⟨fun x hx => by rw [h.has x hx, hS x hx], h.keys⟩
theorem sameKey_klB {x y : Nat} (hx : x < 256) (hy : y < 256) : (klB x).sameKey (klB y) = decide (x = y) := by
  by_cases e : x = y
  · subst e
    rw [WideAt.sameKey_self (klB_is hx)]; simp
  · rw [Maps.sameKey_ne fun e' => e (klB_inj hx hy e')]; simp [e]
theorem rf_below {w w' : World} {mp r n : Nat} {D : DataW Unit} {left : Lit → Bool} {cnt : Nat} (h : RF w mp r n D left cnt) (hb : Below w.heap.size w w') : RF w' mp r n D left cnt :=
  h.kept (row := none) ⟨hb.os, hb.tape, hb.output, hb.size, fun k hk _ => hb.block k hk⟩ (by simp) (by simp)
theorem rf_has {w : World} {mp r n : Nat} {D : DataW Unit} {left : Lit → Bool} {cnt : Nat} (h : RF w mp r n D left cnt) {x : Nat} (hx : x < 256) (hl : left (klB x) = true) : Maps.has D (klB x) = true := by
  obtain ⟨es, clock, since, seen, c0, -, -, -, hD, -, -, -, -, h2, -⟩ := h
  obtain ⟨e, he, hek⟩ := h2 _ hl
  rw [hD]
  exact List.any_eq_true.2 ⟨_, mem_sorted.2 (List.mem_map.2 ⟨e, he, rfl⟩), by rw [hek]; exact WideAt.sameKey_self (klB_is hx)⟩
/-- Who is still to come, by bits. -/
def Lf (left : Lit → Bool) (T : Nat → Bool) : Prop := (∀ x, x < 256 → left (klB x) = T x) ∧ ∀ kl, left kl = true → ∃ x, x < 256 ∧ klB x = kl
theorem Lf.start {D : DataW Unit} {S : Nat → Bool} (h : SetM D S) : Lf (Maps.has D) S := ⟨h.has, h.keys⟩
theorem Lf.next {left : Lit → Bool} {T : Nat → Bool} (h : Lf left T) {x : Nat} (hx : x < 256) : Lf (fun z => left z && !z.sameKey (klB x)) fun y => T y && y != x := by
  refine ⟨fun y hy => ?_, fun kl hk => ?_⟩
  · show (left (klB y) && !(klB y).sameKey (klB x)) = _
    rw [h.1 y hy, sameKey_klB hy hx]
    by_cases e : y = x <;> simp [e]
  · simp only [Bool.and_eq_true] at hk
    exact h.2 kl hk.1
theorem Lf.done {left : Lit → Bool} {T : Nat → Bool} (h : Lf left T) (h0 : ∀ kl, left kl = false) : ∀ x, x < 256 → T x = false := fun x hx => by rw [← h.1 x hx, h0]
section
variable {w : World} {ops : Array Oper} {rest : List Oper} {o : Oper} {a : Act} {Q : Exit → Act → World → Prop}
/-- The next set of a range over the map. -/
theorem wpList_next_found (hg : o.guard = none) (it : Operand) (hop : o.op = Op.next it false) (b r n : Nat) (D : DataW Unit) (left : Lit → Bool) (cnt : Nat) (T : Nat → Bool)
    (hit : a.eval it = .pointer (some ⟨r, 0, none⟩)) (h : RF w b r n D left cnt) (hT : Lf left T)
    (hDone : (∀ x, x < 256 → T x = false) → wpList Tryz.prog ops Q rest (a.put o.dst (.tuple #[.bool false])) w)
    (hMore : ∀ (x : Nat) (c : Int) (left' : Lit → Bool) (w' : World) (cnt' : Nat), x < 256 → T x = true → RF w' b r n D left' cnt' → Lf left' (fun y => T y && y != x) → cnt' < cnt →
      w.grownBy w' (some r) → w'.heap.size = w.heap.size → (Instr.entry (.pointer (some ⟨r, 0, none⟩))).run Tryz.prog w' = .ok (.tuple #[aggB x, .int .i64 c]) w' → wpList Tryz.prog ops Q rest (a.put o.dst (.tuple #[.bool true, aggB x, .int .i64 c])) w') :
    wpList Tryz.prog ops Q (o :: rest) a w := by
  refine wpList_plain hg fun K' hK' => ?_
  unfold Oper.wp
  rcases h.next KF o.type with ⟨h0, hl, hrun⟩ | ⟨key, v, kl, y, w', cnt', hkey, hlk, hv, hat, hrun, hrg, hlt, hgr, hsz, hen⟩
  · simp [execOp, hop, hit, hrun, Result.andThen]
    exact hK' _ _ (hDone (hT.done hl))
  · obtain ⟨x, hx, rfl⟩ := hT.2 kl hlk
    obtain ⟨c, rfl, -⟩ := plainElem_int_inv underI hv
    have hk : key = aggB x := KF.inj hkey (key_klB hx)
    subst hk
    have hTx : T x = true := by rw [← hT.1 x hx]; exact hlk
    have hrest := hMore x c _ w' cnt' hx hTx hrg (hT.next hx) hlt hgr hsz hen
    simp [execOp, hop, hit, hrun, Result.andThen]
    exact hK' _ _ hrest
end
end Go.Proofs.YtnpilfpackdimaaGreat
/- Plain law: the least ones of some sets. -/
namespace Go.Proofs.YtnpilfpackdimaaGreat
/-- A set stands among some. -/
def S0 (ls : List (List Int)) (x : Nat) : Bool := ls.any fun l => bitsL l == x
/-- Set y is a part of set x, or the whole. -/
def subB (y x : Nat) : Bool := (listed y 8).all fun i => x.testBit i.toNat
theorem subB_iff {y x : Nat} (hy : y < 256) : subB y x = true ↔ ∀ i, y.testBit i = true → x.testBit i = true := by
  unfold subB
  rw [List.all_eq_true]
  constructor
  · intro h i hi
    by_cases h8 : i < 8
    · have := h (i : Int) (mem_listed.2 ⟨i, rfl, h8, hi⟩)
      simpa using this
    · have e8 : (256 : Nat) ≤ 2 ^ i := Nat.le_trans (by decide : 256 ≤ 2 ^ 8) (Nat.pow_le_pow_right (by omega) (by omega))
      rw [Nat.testBit_lt_two_pow (Nat.lt_of_lt_of_le hy e8)] at hi; cases hi
  · intro h x hx
    obtain ⟨i, rfl, -, hi⟩ := mem_listed.1 hx
    simpa using h i hi
theorem subB_refl {x : Nat} (hx : x < 256) : subB x x = true := (subB_iff hx).2 fun _ h => h
theorem subB_trans {x y z : Nat} (hx : x < 256) (hy : y < 256) (h : subB x y = true) (h' : subB y z = true) : subB x z = true := (subB_iff hx).2 fun i hi => (subB_iff hy).1 h' i ((subB_iff hx).1 h i hi)
theorem subB_anti {x y : Nat} (hx : x < 256) (hy : y < 256) (h : subB x y = true) (h' : subB y x = true) : x = y := by
  refine bits8_ext hx hy fun i _ => ?_
  cases h1 : x.testBit i <;> cases h2 : y.testBit i
  · rfl
  · rw [(subB_iff hy).1 h' i h2] at h1; cases h1
  · rw [(subB_iff hx).1 h i h1] at h2; cases h2
  · rfl
/-- No other one that stands is a part of it. -/
def minB (S : Nat → Bool) (x : Nat) : Bool := S x && (List.range 256).all fun y => !(S y && y != x && subB y x)
theorem minB_iff {S : Nat → Bool} {x : Nat} : minB S x = true ↔ S x = true ∧ ∀ y, y < 256 → S y = true → y ≠ x → subB y x = false := by
  unfold minB
  rw [Bool.and_eq_true, List.all_eq_true]
  constructor
  · rintro ⟨h1, h2⟩
    refine ⟨h1, fun y hy hS hne => ?_⟩
    have := h2 y (List.mem_range.2 hy)
    simp only [hS, Bool.true_and] at this
    cases h : subB y x
    · rfl
    · rw [h] at this; simp [hne] at this
  · rintro ⟨h1, h2⟩
    refine ⟨h1, fun y hy => ?_⟩
    cases hS : S y
    · simp
    · by_cases e : y = x
      · simp [e]
      · rw [h2 y (List.mem_range.1 hy) hS e]; simp
theorem subB_le {x y : Nat} (hy : y < 256) (h : subB y x = true) : y ≤ x := by
  have e : y &&& x = y := Nat.eq_of_testBit_eq fun i => by
    rw [Nat.testBit_and]
    cases hi : y.testBit i
    · rfl
    · rw [(subB_iff hy).1 h i hi]; rfl
  rw [← e]
  exact Nat.and_le_right
/-- In each one that stands there is one that is least. -/
theorem minB_below {S : Nat → Bool} (x : Nat) : x < 256 → S x = true → ∃ y, y < 256 ∧ minB S y = true ∧ subB y x = true := by
  induction x using Nat.strongRecOn with
  | _ x ih =>
    intro hx hS
    cases hm : minB S x
    · have : ∃ y, y < 256 ∧ S y = true ∧ y ≠ x ∧ subB y x = true := by
        rcases Classical.em (∃ y, y < 256 ∧ S y = true ∧ y ≠ x ∧ subB y x = true) with h | h
        · exact h
        · exfalso
          have : minB S x = true := minB_iff.2 ⟨hS, fun y hy hs hne => by
            cases hb : subB y x
            · rfl
            · exact absurd ⟨y, hy, hs, hne, hb⟩ h⟩
          rw [hm] at this; cases this
      obtain ⟨y, hy, hs, hne, hb⟩ := this
      have hle := subB_le hy hb
      obtain ⟨z, hz, hm', hb'⟩ := ih y (by omega) hy hs
      exact ⟨z, hz, hm', subB_trans hz hy hb' hb⟩
    · exact ⟨x, hx, hm, subB_refl hx⟩
/-- The least ones, in order. -/
def ordL (S : Nat → Bool) : List (List Int) := sortL (((List.range 256).filter S).map fun x => listed x 8)
def leastL (ls : List (List Int)) : List (List Int) := ordL (minB (S0 ls))
theorem listed_inj {x y : Nat} (hx : x < 256) (hy : y < 256) (h : listed x 8 = listed y 8) : x = y := by
  rw [← bits_listed (n := 8) hx, ← bits_listed (n := 8) hy, h]
theorem map_listed_nodup {xs : List Nat} (hn : xs.Nodup) (hx : ∀ x ∈ xs, x < 256) : (xs.map fun x => listed x 8).Nodup := by
  refine List.pairwise_map.2 (List.Pairwise.imp_of_mem ?_ hn)
  intro a b ha hb hne e
  exact hne (listed_inj (hx a ha) (hx b hb) e)
theorem ordL_srt (S : Nat → Bool) : Srt (ordL S) := sortL_srt (map_listed_nodup (List.Pairwise.sublist List.filter_sublist List.nodup_range) fun x hx => List.mem_range.1 (List.mem_filter.1 hx).1)
theorem mem_ordL {S : Nat → Bool} {l : List Int} : l ∈ ordL S ↔ ∃ x, x < 256 ∧ S x = true ∧ listed x 8 = l := by
  unfold ordL
  rw [mem_sortL, List.mem_map]
  constructor
  · rintro ⟨x, hx, rfl⟩
    have := List.mem_filter.1 hx
    exact ⟨x, List.mem_range.1 this.1, this.2, rfl⟩
  · rintro ⟨x, hx, hS, rfl⟩
    exact ⟨x, List.mem_filter.2 ⟨List.mem_range.2 hx, hS⟩, rfl⟩
theorem ordL_congr {S S' : Nat → Bool} (h : ∀ x, x < 256 → S x = S' x) : ordL S = ordL S' := by
  refine srt_ext (ordL_srt S) (ordL_srt S') fun l => ?_
  rw [mem_ordL, mem_ordL]
  constructor
  · rintro ⟨x, hx, hS, e⟩
    exact ⟨x, hx, by rw [← h x hx]; exact hS, e⟩
  · rintro ⟨x, hx, hS, e⟩
    exact ⟨x, hx, by rw [h x hx]; exact hS, e⟩
/-- Sets that were collected, and sorted. -/
theorem ordL_of {S : Nat → Bool} {xs : List Nat} {L : List (List Int)} (hn : xs.Nodup) (hx : ∀ x ∈ xs, x < 256) (hm : ∀ x, x < 256 → (x ∈ xs ↔ S x = true)) (hp : L.Perm (xs.map fun x => listed x 8)) (hs : L.Pairwise fun a b => before b a = false) : L = ordL S := by
  have hnd : L.Nodup := hp.nodup_iff.2 (map_listed_nodup hn hx)
  refine srt_ext ?_ (ordL_srt S) fun l => ?_
  · refine List.Pairwise.imp_of_mem ?_ (List.Pairwise.and hs hnd)
    rintro a b _ _ ⟨h1, h2⟩
    exact before_tot (Ne.symm h2) h1
  · rw [hp.mem_iff, mem_ordL, List.mem_map]
    constructor
    · rintro ⟨x, h, rfl⟩
      exact ⟨x, hx x h, (hm x (hx x h)).1 h, rfl⟩
    · rintro ⟨x, hx', hS, rfl⟩
      exact ⟨x, (hm x hx').2 hS, rfl⟩
/-! The sets are struck out, one by one. -/
structure Str (S0 S T : Nat → Bool) : Prop where
  sub : ∀ x, x < 256 → S x = true → S0 x = true
  off : ∀ x, x < 256 → S0 x = true → S x = false → ∃ y, y < 256 ∧ S0 y = true ∧ y ≠ x ∧ subB y x = true
  kept : ∀ x, x < 256 → S x = true → T x = false → ∀ y, y < 256 → S y = true → y ≠ x → subB y x = false
theorem Str.start (S : Nat → Bool) : Str S S S := ⟨fun _ _ h => h, (fun _ _ h h' => by rw [h] at h'; cases h'), (fun x _ h h' => by rw [h] at h'; cases h')⟩
theorem Str.mins {S0 S T : Nat → Bool} (h : Str S0 S T) {x : Nat} (hx : x < 256) (hm : minB S0 x = true) : S x = true := by
  obtain ⟨h1, h2⟩ := minB_iff.1 hm
  cases hS : S x
  · obtain ⟨y, hy, hs, hne, hb⟩ := h.off x hx h1 hS
    rw [h2 y hy hs hne] at hb; cases hb
  · rfl
theorem Str.done {S0 S T : Nat → Bool} (h : Str S0 S T) (hT : ∀ x, x < 256 → T x = false) : ∀ x, x < 256 → S x = minB S0 x := fun x hx => by
  cases hS : S x
  · cases hm : minB S0 x
    · rfl
    · rw [h.mins hx hm] at hS; cases hS
  · symm
    refine minB_iff.2 ⟨h.sub x hx hS, fun y hy hs hne => ?_⟩
    cases hb : subB y x
    · rfl
    · exfalso
      obtain ⟨z, hz, hm, hbz⟩ := minB_below y hy hs
      have hzx := subB_trans hz hy hbz hb
      by_cases e : z = x
      · subst e
        exact hne (subB_anti hy hx hb hbz)
      · rw [h.kept x hx hS (hT x hx) z hz (h.mins hz hm) e] at hzx; cases hzx
theorem Str.keep {S0 S T : Nat → Bool} (h : Str S0 S T) {x : Nat} (hk : ∀ y, y < 256 → S y = true → y ≠ x → subB y x = false) : Str S0 S fun y => T y && y != x :=
  ⟨h.sub, h.off, fun z hz hS hT y hy hs hne => by
    by_cases e : z = x
    · subst e; exact hk y hy hs hne
    · exact h.kept z hz hS (by simpa [e] using hT) y hy hs hne⟩
theorem Str.strike {S0 S T : Nat → Bool} (h : Str S0 S T) {x y : Nat} (hx : x < 256) (hy : y < 256) (hS : S y = true) (hne : y ≠ x) (hb : subB y x = true) : Str S0 (fun z => S z && z != x) fun z => T z && z != x :=
  ⟨fun z hz hs => h.sub z hz (by simp at hs; exact hs.1), fun z hz h0 hs => by
    by_cases e : z = x
    · subst e
      exact ⟨y, hy, h.sub y hy hS, hne, hb⟩
    · exact h.off z hz h0 (by simpa [e] using hs), fun z hz hs hT v hv hsv hnv => by
    simp only [Bool.and_eq_true, bne_iff_ne, ne_eq] at hs hsv
    exact h.kept z hz hs.1 (by simpa [hs.2] using hT) v hv hsv.1 hnv⟩
end Go.Proofs.YtnpilfpackdimaaGreat
/- Walks: least: sets in a map, those with another one in them struck out. -/
namespace Go.Proofs.YtnpilfpackdimaaGreat
open Go.RowKit Go.WideMaps Go.Shelf
open Go.Maps (Keyed)
attribute [local go_sem] Oper.semAt_some
theorem S0_take {ls : List (List Int)} {k : Nat} {l : List Int} (h : ls[k]? = some l) (y : Nat) : S0 (ls.take (k + 1)) y = (S0 (ls.take k) y || y == bitsL l) := by
  unfold S0
  rw [List.take_add_one, h, List.any_append]
  have : (bitsL l == y) = (y == bitsL l) := Bool.beq_comm
  simp [this]
theorem newLi_other {w w' : World} {lo base : Nat} {v : Value} {ls : List (List Int)} {r : Nat} (h : NewLiF w lo base v ls) (hg : w.grownBy w' (some r)) (hr : ∀ o : Obj, w.heap[r]? = some o → o.isCells = false) : NewLiF w' lo base v ls := by
  obtain ⟨vs, ho, hl, hlv⟩ := h
  refine ⟨vs, ?_, ⟨hl.1, fun k l hk => ?_⟩, hlv⟩
  · exact owns_same ho fun q hq => hg.block q (World.ownsRow.lt ho q hq).2 (fun e => by
      have e := Option.some.inj e
      rcases ho.2 with ⟨h1, -⟩ | ⟨g', cap, cur, h1, -, hb, -⟩
      · subst h1; cases hq
      · subst h1
        have hq' : q = g' := by have := hq; simp [Value.ownBlock] at this; exact this.symm
        rw [← hq', e] at hb
        have := hr _ hb
        cases this)
  · obtain ⟨A, m, c, h1, h2, h3⟩ := hl.2 k l hk
    refine ⟨A, m, c, h1, ⟨h2.1, fun hm => ?_⟩, fun b off e => ⟨Nat.lt_of_lt_of_le (h3 b off e).1 hg.size, (h3 b off e).2⟩⟩
    obtain ⟨b, off, e, hb, hc⟩ := h2.2 hm
    refine ⟨b, off, e, Nat.lt_of_lt_of_le hb hg.size, fun j u hu => ?_⟩
    have hcell := hc j u hu
    refine (World.cell?_of_block (hg.block b hb fun e' => ?_)).trans hcell
    have e' := Option.some.inj e'
    obtain ⟨o, ho', hoc⟩ := cells_of_cell hcell
    have ho2 : w.heap[b]? = some o := ho'
    rw [e'] at ho2
    rw [hr o ho2] at hoc; cases hoc
theorem newLi_ne {w : World} {lo base : Nat} {v : Value} {ls : List (List Int)} {r : Nat} {o : Obj} (h : NewLiF w lo base v ls) (hr : w.heap[r]? = some o) (ho : o.isCells = false) : some r ≠ v.ownBlock := by
  obtain ⟨vs, hw, -⟩ := h
  rcases hw.2 with ⟨h1, -⟩ | ⟨g', cap, cur, h1, -, hb, -⟩
  · subst h1; exact fun e => by cases e
  · subst h1
    intro e
    have e : r = g' := by simpa [Value.ownBlock] using e
    subst e
    rw [hb] at hr; cases hr; cases ho
/-- Who has been collected. -/
structure Coll (S T : Nat → Bool) (xs : List Nat) : Prop where
  nodup : xs.Nodup
  lt : ∀ x ∈ xs, x < 256
  mem : ∀ x, x < 256 → (x ∈ xs ↔ S x = true ∧ T x = false)
theorem Coll.nil (S : Nat → Bool) : Coll S S [] := ⟨List.nodup_nil, (fun _ h => by cases h), (fun x _ => by simp)⟩
theorem Coll.done {S T : Nat → Bool} {xs : List Nat} (h : Coll S T xs) (hT : ∀ x, x < 256 → T x = false) : ∀ x, x < 256 → (x ∈ xs ↔ S x = true) := fun x hx => by
  rw [h.mem x hx, hT x hx]; simp
theorem Coll.len {S T : Nat → Bool} {xs : List Nat} (h : Coll S T xs) : xs.length ≤ 256 := by
  have hp : ∀ (l : List Nat) (n : Nat), l.Nodup → (∀ x ∈ l, x < n) → l.length ≤ n := by
    intro l n
    induction n generalizing l with
    | zero => intro _ h; cases l with
      | nil => simp
      | cons x l => exact absurd (h x (List.mem_cons_self)) (by omega)
    | succ n ih =>
      intro hn h
      have h1 := ih (l.erase n) (hn.erase n) fun x hx => by
        have h2 := h x (List.mem_of_mem_erase hx)
        have h3 : x ≠ n := fun e => hn.not_mem_erase (e ▸ hx)
        omega
      have := List.length_erase_le (a := n) (l := l)
      have h4 : l.length ≤ (l.erase n).length + 1 := by
        by_cases hm : n ∈ l
        · rw [List.length_erase_of_mem hm]; omega
        · rw [List.erase_of_not_mem hm]; omega
      omega
  exact hp xs 256 h.nodup h.lt
theorem Coll.more {S T : Nat → Bool} {xs : List Nat} (h : Coll S T xs) {x : Nat} (hx : x < 256) (hT : T x = true) (hS : S x = true) : Coll S (fun z => T z && z != x) (xs ++ [x]) := by
  refine ⟨List.nodup_append.2 ⟨h.nodup, by simp, fun a ha b hb e => ?_⟩, fun y hy => ?_, fun y hy => ?_⟩
  · rw [List.mem_singleton.1 hb] at e
    subst e
    have := ((h.mem a hx).1 ha).2
    rw [hT] at this; cases this
  · rcases List.mem_append.1 hy with h1 | h1
    · exact h.lt y h1
    · rw [List.mem_singleton.1 h1]; exact hx
  · rw [List.mem_append, h.mem y hy, List.mem_singleton]
    by_cases e : y = x
    · subst e; simp [hS]
    · simp [e]
theorem wf1 : (Lit.int .i64 1).wf = true := by decide
set_option maxRecDepth 100000 in
set_option maxHeartbeats 4000000 in
theorem least_any (A : Option Addr) (n c : Nat) (ls : List (List Int)) (w : World) (hl : LiS w w.heap.size A n ls) (hn : n ≤ 1000000) (hv : ∀ l ∈ ls, isL 8 0 l = true) :
    Calls Tryz.prog 88 #[.slice A n c] w fun e w' => ∃ A' n' c', e = .returned (.slice A' n' c') ∧ (n' = 0 → A' = none ∧ c' = 0) ∧ LiF w' w.heap.size w'.heap.size A' n' (leastL ls) ∧ Below w.heap.size w w' := by
  have hlen := hid hl.1
  have HL := hid hl
  have HV := hid hv
  clear hl hv
  have hMm := World.ownsMap_made (H := Unit) w Tryz.prog 108 (plainElem (H := Unit) Tryz.prog 3)
  obtain ⟨W1, hW1⟩ : ∃ W1, w.alloc (.map #[] 0) = W1 := ⟨_, rfl⟩
  have hb1 : Below w.heap.size w W1 := by rw [← hW1]; exact (Below.refl _ _).alloc (Nat.le_refl _) _
  rw [hW1] at hMm
  have HM0 := hid hMm
  have hmm := @run_makeMap Tryz.prog
  clear hMm
  go_enter Tryz.func88, Tryz.ntmps88
  go_wp2
  go_loopw [13] (fun i wr => ∃ (k : Nat) (D : DataW Unit), k ≤ n ∧ i = .int .i64 k ∧ Hid (MF wr w.heap.size k D) ∧ Hid (SetM D (S0 (ls.take k))) ∧ Below w.heap.size w wr) (fun i _ => n - (intOf i).toNat)
  case atStart => exact ⟨0, .map [], by omega, rfl, HM0, hid SetM.nil, hb1⟩
  case round =>
    clear HM0 hb1 hW1 hmm
    obtain ⟨k, D, hk, rfl, hM, hS, hbw⟩ := hrel
    have hszw := hbw.size
    by_cases hlt : k < n
    · obtain ⟨b, off, x, A', m, c', rfl, hb, hm, c0, hin⟩ := (HL.out.below hbw hszw).at_ hlt
      have Hm := hid hm
      have hlti : (k : Int) < n := by omega
      have hxv := HV.out x (List.mem_of_getElem? hm)
      have hxb := hid (isL_bd hxv)
      have hx256 : Hid (bitsL x < 256) := hid (bitsL_lt (n := 8) hxv)
      have hm8 : m ≤ 1000000 := by have := isL_len8 hxv (by omega); have := hin.len; omega
      have HI := hid hin
      clear hm hin hxv
      go_wp2_with (fail)
      refine (marked_any A' m c' x _ HI.out hm8 hxb.out).mono ?_
      rintro e w2 ⟨rfl, hb2⟩
      have hM2 := hid (map_below hM.out hb2)
      have hbw2 := hbw.trans (hb2.mono hszw)
      clear hb2
      unfold mkB
      go_wp2_with (at_mapUpdate; refine wpList_mapUpdate_own _ rfl _ _ _ 106 rfl 108 3 KF underM _ w.heap.size k D rfl hM2.out (by unfold maxLen; omega) _ _ (klB (bitsL x)) rfl rfl (key_klE hx256.out) _ [] (plainElem_int underI wf1) ?_; intro W3 hmap3 hgr3)
      have hb3 : Below w.heap.size w W3 := hbw2.grown hgr3 hbw2.size (fun r e => by have := Option.some.inj e; have := hbw2.size; omega)
      have hS3 : Hid (SetM (D.put (klB (bitsL x)) (.lit (.int .i64 1))) (S0 (ls.take (k + 1)))) := hid ((hS.out.put hM2.out.isMap hx256.out _).congr fun y _ => S0_take Hm.out y)
      have HM3 := hid hmap3
      clear hmap3 hgr3
      exact ⟨⟨k + 1, _, by omega, by go_num, HM3, hS3, hb3⟩, by simp [intOf]; omega⟩
    · obtain rfl : k = n := by omega
      have hS1 : Hid (SetM D (S0 ls)) := hid (by have := hS.out; rwa [List.take_of_length_le (by rw [hlen.out]; exact Nat.le_refl _)] at this)
      clear hS hlen HL HV
      go_wp2_with (at_range; refine wpList_range_own _ rfl _ _ rfl 108 3 KF underM _ w.heap.size k D rfl hM.out ?_; intro W2 hrg hgr hs2)
      go_frame
      have hb2 : Below w.heap.size w W2 := hbw.grown hgr hszw (fun r e => by cases e)
      have HR0 := hid hrg
      obtain ⟨R1, hR1⟩ : ∃ R, wr.heap.size = R := ⟨_, rfl⟩
      rw [hR1] at HR0 ⊢
      have hwR : w.heap.size ≤ R1 := by omega
      have hR2 : R1 < W2.heap.size := by omega
      have hS0 := hS1
      clear hrg hgr hs2 hM hbw hszw hR1 hlt hS1
      go_loopw [6] (fun _ wr => ∃ (S T : Nat → Bool) (D : DataW Unit) (left : Lit → Bool) (cnt : Nat), Hid (RF wr w.heap.size R1 k D left cnt) ∧ Hid (SetM D S) ∧ Hid (Lf left T) ∧ Hid (Str (S0 ls) S T) ∧ Below w.heap.size w wr) (fun _ wr => wr.rangeLeft w.heap.size R1)
      case atStart => exact ⟨S0 ls, S0 ls, D, _, _, HR0, hS0, hid (Lf.start hS0.out), hid (Str.start _), hb2⟩
      case round =>
        clear hb2 HR0 hS0 hR2
        obtain ⟨S, T, D, left, cnt, hRF, hSM, hLf, hStr, hbw⟩ := hrel
        have hszw := hbw.size
        go_wp2_with (at_next; refine wpList_next_found rfl _ rfl w.heap.size R1 k D left cnt T rfl hRF.out hLf.out ?_ ?_)
        · intro hT0
          have Hmin := hid (hStr.out.done hT0)
          clear hT0
          have HMF := hid hRF.out.owns
          clear hRF hLf hStr
          go_wp2_with (at_range; refine wpList_range_own _ rfl _ _ rfl 108 3 KF underM _ w.heap.size k D rfl HMF.out ?_; intro W3 hrg3 hgr3 hs3)
          go_frame
          have hb3 : Below w.heap.size w W3 := hbw.grown hgr3 hszw (fun r e => by cases e)
          have HR3 := hid hrg3
          obtain ⟨R3, hR3⟩ : ∃ R, wr.heap.size = R := ⟨_, rfl⟩
          have hwR3 : w.heap.size ≤ R3 := by omega
          rw [hR3] at HR3 ⊢
          clear hrg3 hgr3 hs3 hbw hszw hR3 HMF
          go_loopw [8] (fun v wr => ∃ (xs : List Nat) (T : Nat → Bool) (left : Lit → Bool) (cnt : Nat), Hid (RF wr w.heap.size R3 k D left cnt) ∧ Hid (Lf left T) ∧ Hid (NewLiF wr w.heap.size w.heap.size v (xs.map fun x => listed x 8)) ∧ Hid (Coll S T xs) ∧ Hid (xs = [] → v = .slice none 0 0) ∧ Below w.heap.size w wr) (fun _ wr => wr.rangeLeft w.heap.size R3)
          case atStart => exact ⟨[], S, _, _, HR3, hid (Lf.start hSM.out), hid (NewLiF.nil _ _ _), hid (Coll.nil S), hid (fun _ => rfl), hb3⟩
          case round =>
            clear hb3 HR3
            obtain ⟨xs, T, left, cnt, hRF, hLf, hNL, hCo, hnil, hbw⟩ := hrel
            have hszw := hbw.size
            go_wp2_with (at_next; refine wpList_next_found rfl _ rfl w.heap.size R3 k D left cnt T rfl hRF.out hLf.out ?_ ?_)
            · intro hT0
              have hCo1 := hid (hCo.out.done hT0)
              have hxl : Hid (∀ l ∈ xs.map (fun x => listed x 8), l.length ≤ 1000000) := hid (fun l hl => by
                obtain ⟨x, -, rfl⟩ := List.mem_map.1 hl
                have := listed_len x 8; omega)
              have hln := hCo.out.len
              have hord : Hid (∀ L : List (List Int), L.Perm (xs.map fun x => listed x 8) → L.Pairwise (fun a b => before b a = false) → L = leastL ls) := hid (fun L hp hs => by
                have := ordL_of (S := minB (S0 ls)) hCo.out.nodup hCo.out.lt (fun x hx => by rw [hCo1.out x hx, Hmin.out x hx]) hp hs
                exact this)
              obtain ⟨vs, ho, hLi, hLv⟩ := hNL.out
              obtain ⟨L, hL⟩ : ∃ L, xs.map (fun x => listed x 8) = L := ⟨_, rfl⟩
              have hLn : L.length ≤ 256 := by rw [← hL, List.length_map]; exact hln
              rw [hL] at ho hLi hxl hord
              have HxL := hid hL
              clear hL hNL hln hT0 hRF hLf hCo hCo1
              obtain ⟨nL, hnL⟩ : ∃ nL, L.length = nL := ⟨_, rfl⟩
              rw [hnL] at ho hLn
              have HnL := hid hnL
              clear hnL
              rcases Nat.eq_zero_or_pos nL with h0 | h0
              · subst h0
                have hv0 := hnil.out (by have := HnL.out; rw [← HxL.out, List.length_map] at this; exact List.eq_nil_of_length_eq_zero this)
                subst hv0
                have hle : Hid (leastL ls = []) := hid (by
                  have hL0 : L = [] := List.eq_nil_of_length_eq_zero HnL.out
                  rw [← hord.out [] (by rw [hL0]) List.Pairwise.nil])
                clear ho hLi hLv
                go_wp2_with (go_at_call 107; refine (sort_none _ none 0).mono ?_; rintro e w1 ⟨rfl, rfl⟩)
                refine bodyPost_ret (v := .slice none 0 0) (by first | (simp [results, Tryz.results88, go_sem]; done) | (simp [results, Tryz.results88, go_sem, *]; done) | (simp [results, Tryz.results88, go_sem, World.cell?_setCell_same', *]; done) | (simp [results, Tryz.results88, go_sem]; first | exact ⟨rfl, rfl⟩ | rfl)) rfl ⟨none, 0, 0, rfl, fun _ => ⟨rfl, rfl⟩, ?_, hbw⟩
                rw [hle.out]
                exact LiF.nil _ _ _
              · obtain ⟨g, cap, rfl, hg1, hg2⟩ := own_form2 ho h0
                have HS := hid (sort_some wr w.heap.size g nL cap w.heap.size vs L ho hLi HnL.out.symm (by omega) hxl.out hLv hg1)
                clear ho hLi hLv
                go_wp2_with (go_at_call 107; refine HS.out.mono ?_; rintro e w1 ⟨rfl, ls', hp, hs, hli, hgr⟩)
                have hle := hid (hord.out ls' hp hs)
                refine bodyPost_ret (v := .slice (some ⟨g, 0, none⟩) nL cap) (by first | (simp [results, Tryz.results88, go_sem]; done) | (simp [results, Tryz.results88, go_sem, *]; done) | (simp [results, Tryz.results88, go_sem, World.cell?_setCell_same', *]; done) | (simp [results, Tryz.results88, go_sem]; first | exact ⟨rfl, rfl⟩ | rfl)) rfl ⟨_, nL, cap, rfl, fun h => by omega, ?_, hbw.grown hgr hszw (fun r e => by have := Option.some.inj e; omega)⟩
                rw [← hle.out]
                exact hli
            · intro x c1 left1 w1 cnt1 hx hTx hrg1 hLf1 hlt1 hgr1 hsz1 hen
              have hSx : Hid (S x = true) := hid (by
                have h1 := hLf.out.1 x hx
                rw [hTx] at h1
                rw [← hSM.out.has x hx]
                exact rf_has hRF.out hx h1)
              have hneR := hRF.out.ne
              have Hrd := hid hRF.out.left_eq
              have Hlt1 := hid hlt1
              have hb1 : Below w.heap.size w w1 := hbw.grown hgr1 hszw (fun r e => by have := Option.some.inj e; omega)
              have hCo2 := hid (hCo.out.more hx hTx hSx.out)
              have hln := hCo.out.len
              have HR1 := hid hrg1
              have HL1 := hid hLf1
              have hN1 : Hid (NewLiF w1 w.heap.size w.heap.size u8 (xs.map fun x => listed x 8)) := hid (newLi_other hNL.out hgr1 (fun o ho => by
                obtain ⟨es, clock, since, seen, c0, -, -, -, -, h2, -⟩ := hRF.out
                rw [h2] at ho; cases ho; rfl))
              obtain ⟨W3, hW3⟩ : ∃ W3, w1.alloc (.cells (mkB x) 108) = W3 := ⟨_, rfl⟩
              have hb13 : Below w1.heap.size w1 W3 := by rw [← hW3]; exact (Below.refl _ _).alloc (Nat.le_refl _) _
              have hb3 : Below w.heap.size w W3 := hb1.trans (hb13.mono hb1.size)
              have HR3 := hid (rf_below HR1.out hb13)
              have hN3 := hid (hN1.out.below hb13)
              have B9 : Hid (Blk W3 w1.heap.size 108 (mkB x)) := hid (by rw [← hW3]; exact Blk.new' rfl)
              obtain ⟨q0, q1, q2, q3, q4, q5, q6, q7⟩ := load8 B9.out
              have l9 := B9.out.lt
              have hz3 := hb3.size
              have hLA := @list_any x
              unfold mkB at hLA hW3
              unfold aggB at hen
              have HLA := hid hLA
              clear hLA hrg1 hgr1 hsz1 hlt1 hLf1 hTx hRF hLf hCo hNL HR1 hN1 hb13
              go_wp2_with (fail)
              refine (HLA.out _).mono ?_
              rintro e V1 ⟨A1, n1, c1', rfl, hc1, hn1, hin1, hfr1, hb10⟩
              have hbV1 := hb3.trans (hb10.mono hz3)
              have HR4 := hid (rf_below HR3.out hb10)
              have hN4 := hid (hN3.out.below hb10)
              have hzV := hbV1.size
              have hW3V := hb10.size
              have HI1 := hid hin1
              have Hfr := hid hfr1
              have hin2 : ∀ b off, A1 = some ⟨b, off, none⟩ → b < V1.heap.size := fun b off e => by
                rcases Nat.eq_zero_or_pos n1 with h | h
                · rw [(hn1 h).1] at e; cases e
                · obtain ⟨b', o', e', hb'⟩ := ins_some hin1 h
                  rw [e'] at e; cases e; exact hb'
              have Hin2 := hid hin2
              have hown : ∀ r, u8.ownBlock = some r → r < W3.heap.size := fun r hr => by
                obtain ⟨vs, ho, -⟩ := hN3.out
                exact (World.ownsRow.lt ho r hr).2
              have Hown := hid hown
              clear hin1 hfr1 hb10 hn1 hc1 hin2 q0 q1 q2 q3 q4 q5 q6 q7 hen hown
              have hneM : Hid (some w.heap.size ≠ u8.ownBlock ∧ some R3 ≠ u8.ownBlock) := hid (by
                obtain ⟨es, clock, since, seen, c0, h1, -, -, -, h2, -⟩ := HR4.out
                exact ⟨newLi_ne hN4.out h1 rfl, newLi_ne hN4.out h2 rfl⟩)
              have hN5 : Hid (NewLiF (V1.alloc (.cells #[.slice A1 n1 c1'] 25)) w.heap.size w.heap.size u8 (xs.map fun x => listed x 8)) := hid (hN4.out.below ((Below.refl _ _).alloc (Nat.le_refl _) _))
              have hll : (xs.map fun x => listed x 8).length ≤ 1000000 := by rw [List.length_map]; omega
              have Hll := hid hll
              have HR5 : Hid (RF (V1.alloc (.cells #[.slice A1 n1 c1'] 25)) w.heap.size R3 k D left1 cnt1) := hid (HR4.out.alloc _)
              have hb5 : Below w.heap.size w (V1.alloc (.cells #[.slice A1 n1 c1'] 25)) := hbV1.alloc hzV _
              clear hll hN4 HR4
              go_wp2_with (at_builtin; refine newLiF_append rfl (by rfl) _ _ rfl w.heap.size w.heap.size _ _ rfl hN5.out V1.heap.size A1 n1 c1' (listed x 8) rfl (Blk.new' rfl) (HI1.out.below ((Below.refl _ _).alloc (Nat.le_refl _) _) (by simp)) (fun b' off' e' => ⟨by have := Hin2.out b' off' e'; simp; omega, fun e3 => by have h1 := Hfr.out b' off' e'; have h2 := Hown.out b' e3; omega⟩) (fun b' off' e' => by have h1 := Hfr.out b' off' e'; omega) Hll.out hb5.size ?_; intro v4 w4 hn4 hg4 hat4)
              have hb6 : Below w.heap.size w w4 := hb5.grown hg4 hb5.size (fun r hr => by
                obtain ⟨vs, ho, -⟩ := hN5.out
                exact (World.ownsRow.lt ho r hr).1)
              have HR6 := hid (HR5.out.kept hg4 hneM.out.1 hneM.out.2)
              have hm6 : w4.rangeLeft w.heap.size R3 = cnt1 := HR6.out.left_eq
              have hn6 : NewLiF w4 w.heap.size w.heap.size v4 ((xs ++ [x]).map fun x => listed x 8) := by rw [List.map_append]; exact hn4
              exact ⟨⟨_, _, _, cnt1, HR6, HL1, hid hn6, hCo2, hid (fun e => by simp at e), hb6⟩, by rw [hm6, Hrd.out]; exact Hlt1.out⟩
        · intro x c1 left1 w1 cnt1 hx hTx hrg1 hLf1 hlt1 hgr1 hsz1 hen
          have hb1 : Below w.heap.size w w1 := hbw.grown hgr1 hszw (fun r e => by have := Option.some.inj e; omega)
          have hrd := hRF.out.left_eq
          have Hrd := hid hrd
          have Hlt1 := hid hlt1
          have HR1 := hid hrg1
          have HL1 := hid hLf1
          unfold aggB at hen
          clear hrd hlt1 hrg1 hLf1 hgr1 hsz1 hRF hLf hTx
          have hz1 := hb1.size
          obtain ⟨W3, hW3⟩ : ∃ W3, w1.alloc (.cells (mkB x) 108) = W3 := ⟨_, rfl⟩
          have hb3 : Below w.heap.size w W3 := by rw [← hW3]; exact hb1.alloc hz1 _
          have HR3 : Hid (RF W3 w.heap.size R1 k D left1 cnt1) := hid (by rw [← hW3]; exact HR1.out.alloc _)
          have B6 : Hid (Blk W3 w1.heap.size 108 (mkB x)) := hid (by rw [← hW3]; exact Blk.new' rfl)
          obtain ⟨X6, hX6⟩ : ∃ X, w1.heap.size = X := ⟨_, rfl⟩
          have hX6w : w.heap.size ≤ X6 := by omega
          have hX63 : X6 < W3.heap.size := by have := B6.out.lt; omega
          unfold mkB at hW3
          go_wp2_with (at_range; refine wpList_range_own _ rfl _ _ rfl 108 3 KF underM _ w.heap.size k D rfl HR3.out.owns ?_; intro W4 hrg4 hgr4 hs4)
          go_frame
          rw [hX6] at B6
          have hb4 : Below w.heap.size w W4 := hb3.grown hgr4 hb3.size (fun r e => by cases e)
          have B64 : Hid (Blk W4 X6 108 (mkB x)) := hid (B6.out.grown hgr4 (by simp))
          have HR4 := hid hrg4
          have HR14 : Hid (RF W4 w.heap.size R1 k D left1 cnt1) := hid (HR3.out.kept hgr4 (by simp) (by simp))
          obtain ⟨R2, hR2⟩ : ∃ R, W3.heap.size = R := ⟨_, rfl⟩
          rw [hR2] at HR4 ⊢
          have hwR2 : w.heap.size ≤ R2 := by have := hb3.size; omega
          have hR12 : Hid (R1 ≠ R2) := hid (by have := HR3.out.lt; omega)
          have hX6R : Hid (X6 ≠ R2 ∧ X6 ≠ R1) := hid ⟨by have := B6.out.lt; omega, by have := HR1.out.lt; omega⟩
          clear hrg4 hgr4 hs4 hW3 hX6 hR2 hen HR1 hb1 hb3 hz1 B6 HR3
          go_loopw [7] (fun _ wr => ∃ (T2 : Nat → Bool) (left2 : Lit → Bool) (cnt2 : Nat), Hid (RF wr w.heap.size R2 k D left2 cnt2) ∧ Hid (RF wr w.heap.size R1 k D left1 cnt1) ∧ Hid (Lf left2 T2) ∧ Hid (∀ y, y < 256 → S y = true → T2 y = false → y ≠ x → subB y x = false) ∧ Hid (Blk wr X6 108 (mkB x)) ∧ Below w.heap.size w wr) (fun _ wr => wr.rangeLeft w.heap.size R2)
          case atStart => exact ⟨S, _, _, HR4, HR14, hid (Lf.start hSM.out), hid (fun y _ h h' => by rw [h] at h'; cases h'), B64, hb4⟩
          case round =>
            clear hb4 HR4 HR14 B64 hX63
            obtain ⟨T2, left2, cnt2, hRF2, hRF1, hLf2, hno, hB6, hbw5⟩ := hrel
            have hszw5 := hbw5.size
            go_wp2_with (at_next; refine wpList_next_found rfl _ rfl w.heap.size R2 k D left2 cnt2 T2 rfl hRF2.out hLf2.out ?_ ?_)
            · intro hT0
              have hStr2 : Hid (Str (S0 ls) S fun y => T y && y != x) := hid (hStr.out.keep fun y hy hs hne => hno.out y hy hs (hT0 y hy) hne)
              clear hT0
              go_wp2
              exact ⟨⟨S, _, D, left1, cnt1, hRF1, hSM, HL1, hStr2, hbw5⟩, by rw [hRF1.out.left_eq, Hrd.out]; exact Hlt1.out⟩
            · intro y c2 left3 w2 cnt3 hy hTy hrg2 hLf3 hlt2 hgr2 hsz2 hen
              have hne2 := hRF2.out.ne
              have hSy : Hid (S y = true) := hid (by
                have h1 := hLf2.out.1 y hy
                rw [hTy] at h1
                rw [← hSM.out.has y hy]
                exact rf_has hRF2.out hy h1)
              have Hrd2 := hid hRF2.out.left_eq
              have Hlt2 := hid hlt2
              have hb6 : Below w.heap.size w w2 := hbw5.grown hgr2 hszw5 (fun r e => by have := Option.some.inj e; omega)
              have hz6 := hb6.size
              have HR26 := hid hrg2
              have HR16 : Hid (RF w2 w.heap.size R1 k D left1 cnt1) := hid (hRF1.out.kept hgr2 (by simpa using Ne.symm hne2) (by simpa using hR12.out))
              have HL3 := hid hLf3
              have B66 : Hid (Blk w2 X6 108 (mkB x)) := hid (hB6.out.grown hgr2 (by simpa using hX6R.out.1))
              obtain ⟨W5, hW5⟩ : ∃ W5, w2.alloc (.cells (mkB y) 108) = W5 := ⟨_, rfl⟩
              have hb5 : Below w.heap.size w W5 := by rw [← hW5]; exact hb6.alloc hz6 _
              have hb25 : Below w2.heap.size w2 W5 := by rw [← hW5]; exact (Below.refl _ _).alloc (Nat.le_refl _) _
              have HR25 : Hid (RF W5 w.heap.size R2 k D left3 cnt3) := hid (by rw [← hW5]; exact HR26.out.alloc _)
              have HR15 : Hid (RF W5 w.heap.size R1 k D left1 cnt1) := hid (by rw [← hW5]; exact HR16.out.alloc _)
              have B65 : Hid (Blk W5 X6 108 (mkB x)) := hid (B66.out.below hb25 B66.out.lt)
              have B75 : Hid (Blk W5 w2.heap.size 108 (mkB y)) := hid (by rw [← hW5]; exact Blk.new' rfl)
              obtain ⟨p0, p1, p2, p3, p4, p5, p6, p7⟩ := load8 B65.out
              obtain ⟨q0, q1, q2, q3, q4, q5, q6, q7⟩ := load8 B75.out
              have l6 := B65.out.lt
              have l7 := B75.out.lt
              have hz5 := hb5.size
              have hN := neqF (a := x) (b := y)
              rw [sameB_eq hx hy] at hN
              unfold mkB at hW5
              unfold aggB at hen hN
              clear hrg2 hgr2 hsz2 hlt2 hLf3 hTy hRF2 hLf2 hRF1 hB6 hb25 HR26 HR16 B66
              have Hno := hid hno.out
              by_cases hxy : y = x
              · subst hxy
                have hN' : ∀ W : World, (binOp .neq 108 (.agg #[bv y 0, bv y 1, bv y 2, bv y 3, bv y 4, bv y 5, bv y 6, bv y 7]) (.agg #[bv y 0, bv y 1, bv y 2, bv y 3, bv y 4, bv y 5, bv y 6, bv y 7])).run Tryz.prog W = .ok (.bool false) W := fun W => by rw [hN W]; simp
                clear hN
                go_wp2
                refine wp_region_hd_all (fun W => Below W5.heap.size W5 W) (by kernel_rfl) (by kernel_rfl) ((Below.refl _ _).drew) ?_
                iterate 4 (refine wpHd_val (v := ?_) (by rfl) (fun W hW => ?_) ?_; rotate_left; (· obtain ⟨hcW, hfW⟩ := bcell hW; go_simp; with_reducible rfl); simp only [Act.put, List.setIfInBounds_toArray, List.set_cons_zero, List.set_cons_succ])
                iterate 6 (refine wpHd_not (by rfl) ?_; simp only [Act.put, List.setIfInBounds_toArray, List.set_cons_zero, List.set_cons_succ])
                (refine wpHd_val (v := ?_) (by rfl) (fun W hW => ?_) ?_; rotate_left; (· obtain ⟨hcW, hfW⟩ := bcell hW; go_simp; with_reducible rfl); simp only [Act.put, List.setIfInBounds_toArray, List.set_cons_zero, List.set_cons_succ])
                refine wpHd_nil ?_
                intro W9 hW9
                have hb9 := hb5.trans (hW9.mono hz5)
                have HR29 := hid (rf_below HR25.out hW9)
                have HR19 := hid (rf_below HR15.out hW9)
                have B69 := hid (B65.out.below hW9 B65.out.lt)
                have hno9 : Hid (∀ z, z < 256 → S z = true → (T2 z && z != y) = false → z ≠ y → subB z y = false) := hid (fun z hz hs ht hne => Hno.out z hz hs (by simpa [hne] using ht) hne)
                have hm9 : Hid (W9.rangeLeft w.heap.size R2 = cnt3) := hid HR29.out.left_eq
                clear hW9 p0 p1 p2 p3 p4 p5 p6 p7 q0 q1 q2 q3 q4 q5 q6 q7 hno hen
                go_wp2
                exact ⟨⟨_, left3, cnt3, HR29, HR19, HL3, hno9, B69, hb9⟩, by rw [hm9.out, Hrd2.out]; exact Hlt2.out⟩
              · have hN' : ∀ W : World, (binOp .neq 108 (.agg #[bv x 0, bv x 1, bv x 2, bv x 3, bv x 4, bv x 5, bv x 6, bv x 7]) (.agg #[bv y 0, bv y 1, bv y 2, bv y 3, bv y 4, bv y 5, bv y 6, bv y 7])).run Tryz.prog W = .ok (.bool true) W := fun W => by rw [hN W]; simp [Ne.symm hxy]
                have hsb : Hid ((listed y 8).all (inB x) = subB y x) := rfl
                have hLA := @list_any y
                have hMH := @marksHas_any x
                unfold mkB at hLA hMH
                have HLA := hid hLA
                have HMH := hid hMH
                obtain ⟨sv, hsv⟩ : ∃ sv, subB y x = sv := ⟨_, rfl⟩
                have Hsv := hid hsv
                rw [hsv] at hsb
                clear hN hLA hMH hsv hno
                clear p0 p1 p2 p3 p4 p5 p6 p7 q0 q1 q2 q3 q4 q5 q6 q7
                go_wp2
                refine wp_region_el [0, 1, 2, 3, 4, 5, 6, 7] 3 (by kernel_rfl) (by kernel_rfl) (fun Y hY => ?_)
                have hYX : Below W5.heap.size W5 Y := by rw [hY]; exact (Below.refl _ _).drew
                clear hY
                have B6y := B65.out.below hYX l6
                have B7y := B75.out.below hYX l7
                have hbY := hid (hb5.trans (hYX.mono hz5))
                have HRY2 := hid (rf_below HR25.out hYX)
                have HRY1 := hid (rf_below HR15.out hYX)
                obtain ⟨p0, p1, p2, p3, p4, p5, p6, p7⟩ := load8 B6y
                obtain ⟨q0, q1, q2, q3, q4, q5, q6, q7⟩ := load8 B7y
                have l6y := B6y.lt
                have l7y := B7y.lt
                have HB6y := hid B6y
                clear hYX l6 l7 hen hz5 hb5 B6y B7y
                simp only [pick, List.getElem?_toArray, List.getElem?_cons_zero, List.getElem?_cons_succ]
                iterate 8 (refine wpE_val (v := ?_) (by rfl) (fun W hW => ?_) ?_; rotate_left; (· obtain ⟨hcW, hfW⟩ := bcell hW; go_simp; with_reducible rfl); simp only [Act.put, List.setIfInBounds_toArray, List.set_cons_zero, List.set_cons_succ])
                simp only [wpE]
                clear p0 p1 p2 p3 p4 p5 p6 p7 q0 q1 q2 q3 q4 q5 q6 q7
                (refine wpM_one 8 _ (by simp only [List.getElem?_toArray, List.getElem?_cons_zero, List.getElem?_cons_succ]; rfl) (by kernel_rfl) (by rfl) ?_)
                intro V0 hV0 hV0'
                (go_simp; simp only [LUpon, Act.put]; try simp only [List.setIfInBounds_toArray, List.set_cons_zero, List.set_cons_succ])
                refine (HLA.out V0).mono ?_
                rintro e V1 ⟨A1, n1, c1', rfl, hc1, hn1, hin1, hfr1, hb10⟩
                have hbV1 := hV0'.trans' hb10
                have HI1 := hid hin1
                have hn8 : n1 ≤ 1000000 := by have := hin1.len; have := listed_len y 8; omega
                clear hin1 hfr1 hb10 hn1 hc1
                refine ⟨_, rfl, hbV1, ?_⟩
                (refine wpM_one 9 _ (by simp only [List.getElem?_toArray, List.getElem?_cons_zero, List.getElem?_cons_succ]; rfl) (by kernel_rfl) (by rfl) ?_)
                intro V2 hV2 hV2'
                (go_simp; simp only [LUpon, Act.put]; try simp only [List.setIfInBounds_toArray, List.set_cons_zero, List.set_cons_succ])
                refine (HMH.out A1 n1 c1' (listed y 8) _ (HI1.out.below hV2 hV2.size) hn8 (listed_bd y)).mono ?_
                rw [hsb.out]
                rintro e V3 ⟨rfl, hb11⟩
                refine ⟨_, rfl, hV2'.trans' hb11, ?_⟩
                (refine wpM_one 10 _ (by simp only [List.getElem?_toArray, List.getElem?_cons_zero, List.getElem?_cons_succ]; rfl) (by kernel_rfl) (by rfl) ?_)
                intro V4 hV4 hV4'
                (go_simp; simp only [LUpon, Act.put]; try simp only [List.setIfInBounds_toArray, List.set_cons_zero, List.set_cons_succ])
                refine ⟨hV4', ?_⟩
                refine wpM_end (by kernel_rfl) ?_
                intro W9 hW9 hW9'
                have hb9 := hbY.out.trans (hW9'.mono hbY.out.size)
                have HR29 := hid (rf_below HRY2.out hW9')
                have HR19 := hid (rf_below HRY1.out hW9')
                have B69 := hid (HB6y.out.below hW9' l6y)
                have hz9 := hb9.size
                clear hV0 hV0' hV2 hV2' hV4 hV4' hW9 hW9' hbV1 hb11 l6y l7y
                cases sv
                · have hno9 : Hid (∀ z, z < 256 → S z = true → (T2 z && z != y) = false → z ≠ x → subB z x = false) := hid (fun z hz hs ht hne => by
                    by_cases e : z = y
                    · rw [e]; exact Hsv.out
                    · exact Hno.out z hz hs (by simpa [e] using ht) hne)
                  have hm9 : Hid (W9.rangeLeft w.heap.size R2 = cnt3) := hid HR29.out.left_eq
                  go_wp2
                  exact ⟨⟨_, left3, cnt3, HR29, HR19, HL3, hno9, B69, hb9⟩, by rw [hm9.out, Hrd2.out]; exact Hlt2.out⟩
                · obtain ⟨q0, q1, q2, q3, q4, q5, q6, q7⟩ := load8 B69.out
                  have l9 := B69.out.lt
                  go_wp2_with (at_delete; refine wpList_delete_ranges _ rfl _ _ 106 108 rfl 3 KF underM _ w.heap.size R1 k D left1 cnt1 rfl HR19.out _ (klB x) rfl (key_klE hx) ?_; intro V3 cnt4 hrg3 hle3 hturn)
                  have hm3 : V3.rangeLeft w.heap.size R1 = cnt4 := hrg3.left_eq
                  have hlf : Lf (fun z => left1 z && !z.sameKey (klB x)) (fun z => T z && z != x) := by
                    refine ⟨fun z hz => ?_, fun kl hk => ?_⟩
                    · show (left1 (klB z) && !(klB z).sameKey (klB x)) = _
                      rw [HL1.out.1 z hz, sameKey_klB hz hx]
                      by_cases e : z = x <;> simp [e]
                    · simp only [Bool.and_eq_true] at hk
                      exact HL1.out.2 kl hk.1
                  have hb3 : Below w.heap.size w V3 := hb9.grown hturn.grown hz9 (fun r e => by have := Option.some.inj e; omega)
                  refine ⟨?_, ?_⟩
                  · (repeat apply Exists.intro)
                    refine ⟨?_, rfl⟩
                    exact ⟨_, _, _, _, cnt4, hid hrg3, hid (hSM.out.del hx), hid hlf, hid (hStr.out.strike hx hy hSy.out hxy Hsv.out), hb3⟩
                  · rw [hm3, Hrd.out]
                    have := Hlt1.out
                    omega
end Go.Proofs.YtnpilfpackdimaaGreat
/- Walks: all: hire by hire, the least blames. -/
namespace Go.Proofs.YtnpilfpackdimaaGreat
open Go.RowKit Go.Shelf
attribute [local go_sem] Oper.semAt_some
/-- What a set goes on to with one more hire. -/
def goOn1 (l x : List Int) : List (List Int) := if l.any (inB (bitsL x)) then [x] else l.map fun i => listed (bitsL x ||| 2 ^ i.toNat) 8
def stepL (out : List (List Int)) (l : List Int) : List (List Int) := out.flatMap (goOn1 l)
def allP (hs : List (List Int)) : List (List Int) := hs.foldl (fun out l => leastL (stepL out l)) [[]]
theorem allP_take {hs : List (List Int)} {k : Nat} {l : List Int} (h : hs[k]? = some l) : allP (hs.take (k + 1)) = leastL (stepL (allP (hs.take k)) l) := by
  unfold allP
  rw [List.take_add_one, h, List.foldl_append]; rfl
theorem ordL_len (S : Nat → Bool) : (ordL S).length ≤ 256 := by
  unfold ordL
  rw [sortL_len, List.length_map]
  exact Nat.le_trans (List.length_filter_le _ _) (by simp)
theorem ordL_isL {S : Nat → Bool} {l : List Int} (h : l ∈ ordL S) : isL 8 0 l = true := by
  obtain ⟨x, -, -, rfl⟩ := mem_ordL.1 h
  exact isL_listed' x 8
theorem allP_len : ∀ (hs : List (List Int)), (allP hs).length ≤ 256
  | [] => by simp [allP]
  | l :: hs => by
    rcases List.eq_nil_or_concat (l :: hs) with h | ⟨hs', x, h⟩
    · cases h
    · rw [h, List.concat_eq_append]
      unfold allP
      rw [List.foldl_append]
      exact ordL_len _
theorem allP_isL : ∀ (hs : List (List Int)), ∀ l ∈ allP hs, isL 8 0 l = true
  | [], l, h => by
    have : l = [] := by simpa [allP] using h
    rw [this]; rfl
  | l' :: hs, l, h => by
    rcases List.eq_nil_or_concat (l' :: hs) with h' | ⟨hs', x, h'⟩
    · cases h'
    · rw [h', List.concat_eq_append] at h
      unfold allP at h
      rw [List.foldl_append] at h
      exact ordL_isL h
theorem stepL_take {out : List (List Int)} {l : List Int} {j : Nat} {x : List Int} (h : out[j]? = some x) : stepL (out.take (j + 1)) l = stepL (out.take j) l ++ goOn1 l x := by
  unfold stepL
  rw [List.take_add_one, h, List.flatMap_append]; simp
theorem goOn1_isL {l x : List Int} (hx : isL 8 0 x = true) : ∀ y ∈ goOn1 l x, isL 8 0 y = true := fun y hy => by
  unfold goOn1 at hy
  split at hy
  · rw [List.mem_singleton.1 hy]; exact hx
  · obtain ⟨i, -, rfl⟩ := List.mem_map.1 hy
    exact isL_listed' _ 8
theorem goOn1_len {l x : List Int} (hl : l.length ≤ 8) : (goOn1 l x).length ≤ 8 := by
  unfold goOn1
  split
  · simp
  · rw [List.length_map]; exact hl
theorem stepL_isL {out : List (List Int)} {l : List Int} (h : ∀ x ∈ out, isL 8 0 x = true) : ∀ y ∈ stepL out l, isL 8 0 y = true := fun y hy => by
  obtain ⟨x, hx, hy⟩ := List.mem_flatMap.1 hy
  exact goOn1_isL (h x hx) y hy
theorem stepL_len {l : List Int} (hl : l.length ≤ 8) : ∀ (out : List (List Int)), (stepL out l).length ≤ 8 * out.length
  | [] => by simp [stepL]
  | x :: out => by
    have h1 := goOn1_len (x := x) hl
    have h2 := stepL_len hl out
    unfold stepL at h2 ⊢
    rw [List.flatMap_cons, List.length_append, List.length_cons]
    omega
/-- A list's blocks lie below B. -/
theorem ins_lt {w : World} {B n : Nat} {A : Option Addr} {l : List Int} (h : InS w B A n l) (h0 : n = 0 → A = none) : ∀ b off, A = some ⟨b, off, none⟩ → b < B := fun b off e => by
  rcases Nat.eq_zero_or_pos n with h1 | h1
  · rw [h0 h1] at e; cases e
  · obtain ⟨b', o', e', hb'⟩ := ins_some h h1
    rw [e'] at e; cases e; exact hb'
end Go.Proofs.YtnpilfpackdimaaGreat
/- Walks: all. -/
namespace Go.Proofs.YtnpilfpackdimaaGreat
open Go.RowKit Go.Shelf
attribute [local go_sem] Oper.semAt_some
theorem LiF.lis {w : World} {lo B n : Nat} {A : Option Addr} {ls : List (List Int)} (h : LiF w lo B A n ls) : LiS w B A n ls := h.lip.lis
theorem enAll1 : ∀ args w, (callFunc 102 args).run Tryz.prog w = .ok (.enter 102 args) w := enters_of Tryz.func102 (by kernel_rfl) rfl
theorem newLi_own {w : World} {base : Nat} {v : Value} {ls : List (List Int)} (h : NewLi w base v ls) : ∀ r, v.ownBlock = some r → base ≤ r ∧ r < w.heap.size := fun r hr => by
  obtain ⟨vs, ho, -⟩ := h
  exact World.ownsRow.lt ho r hr
theorem newLi_lip {w : World} {base : Nat} {v : Value} {ls : List (List Int)} (h : NewLi w base v ls) : ∃ A c, v = .slice A ls.length c ∧ LiP w w.heap.size A ls.length ls := by
  obtain ⟨vs, h1, h2⟩ := h
  obtain ⟨A, c, e, h3, -⟩ := own_src h1
  exact ⟨A, c, e, h2.lip h3⟩
theorem newLi_blk {w : World} {base : Nat} {v : Value} {ls : List (List Int)} {g : Nat} {t : TypeId} {cs : Array Value} (h : NewLi w base v ls) (hb : Blk w g t cs) (ht : t ≠ 25) : v.ownBlock ≠ some g := by
  obtain ⟨vs, ho, -⟩ := h
  exact own_ne_blk ho hb ht
set_option maxRecDepth 100000 in
set_option maxHeartbeats 4000000 in
theorem all_any (g : Nat) (I : Int) (A : Option Addr) (n c : Nat) (ls : List (List Int)) (w : World) (hd : Desk w g I A n c ls) (hn : n ≤ 1000000) (hbd : ∀ l ∈ ls, isL 8 0 l = true) :
    Calls Tryz.prog 72 #[.pointer (some ⟨g, 0, none⟩)] w fun e w' => ∃ A' n' c', e = .returned (.slice A' n' c') ∧ (n' = 0 → A' = none ∧ c' = 0) ∧ LiF w' w.heap.size w'.heap.size A' n' (allP ls) ∧ Below w.heap.size w w' := by
  have hlen := hid hd.2.1
  have HL := hid hd.2
  have HBD := hid hbd
  obtain ⟨W1, hW1⟩ : ∃ W1, w.alloc (.cells #[.slice none 0 0] 25) = W1 := ⟨_, rfl⟩
  have hb1 : Below w.heap.size w W1 := by rw [← hW1]; exact (Below.refl _ _).alloc (Nat.le_refl _) _
  have hd1 := hd.below hb1
  have c0 : W1.cell? ⟨g, 0, none⟩ = some (.int .i64 I) := hd1.1.cell 0
  have c1 : W1.cell? ⟨g, 1, none⟩ = some (.slice A n c) := hd1.1.cell 1
  have lg := hd1.1.lt
  have H0 : Hid (LiF W1 w.heap.size W1.heap.size (some ⟨w.heap.size, 0, none⟩) 1 (allP (ls.take 0))) := hid ⟨rfl, fun _ b off e => (by cases e; exact Nat.le_refl _), [.slice none 0 0], ⟨rfl, fun _ => ⟨w.heap.size, 0, rfl, by rw [← hW1]; simp, fun j u hu => by
      rw [← hW1, Nat.zero_add, (Blk.new' rfl : Blk _ w.heap.size 25 #[.slice none 0 0]).cell]; simpa using hu⟩⟩, fun k l hk => by
      have hk0 : k = 0 := by
        have := (List.getElem?_eq_some_iff.1 hk).1
        simp [allP] at this; omega
      subst hk0
      have : l = [] := by simpa [allP] using hk.symm
      subst this
      exact ⟨none, 0, 0, rfl, Sl.none_, fun _ _ e => by cases e⟩⟩
  clear hd hbd hd1
  go_enter Tryz.func72, Tryz.ntmps72
  go_wp2
  go_loopw [3, 20] (fun v i wr => ∃ (k m c' : Nat) (A' : Option Addr), k ≤ n ∧ i = .int .i64 k ∧ v = .slice A' m c' ∧ Hid (m = 0 → A' = none ∧ c' = 0) ∧ Hid (LiF wr w.heap.size wr.heap.size A' m (allP (ls.take k))) ∧ Below w.heap.size w wr) (fun _ i _ => n - (intOf i).toNat)
  case atStart => exact ⟨0, 1, 1, _, by omega, rfl, rfl, hid (fun h => by omega), H0, hb1⟩
  case round =>
    clear H0 hb1 hW1 c0 c1 lg
    obtain ⟨k, m, c', A', hk, rfl, rfl, hnil, hout, hbw⟩ := hrel
    have hszw := hbw.size
    by_cases hlt : k < n
    · obtain ⟨b, off, x, A2, m2, c2, rfl, hb, hm, c0, hin⟩ := (HL.out.below hbw hszw).at_ hlt
      have hlti : (k : Int) < n := by omega
      have hxv := HBD.out x (List.mem_of_getElem? hm)
      have Hx := hid (isL_bd hxv)
      have hx8 : m2 ≤ 8 := by have := isL_len8 hxv (by omega); have := hin.len; omega
      have hxl := hid hin.len
      have hstep := hid (allP_take hm)
      obtain ⟨out, hout'⟩ : ∃ out, allP (ls.take k) = out := ⟨_, rfl⟩
      have hol : out.length ≤ 256 := by rw [← hout']; exact allP_len _
      have hoL : Hid (∀ y ∈ out, isL 8 0 y = true) := hid (by rw [← hout']; exact allP_isL _)
      rw [hout'] at hout hstep
      have hom := hid hout.out.1
      have hm256 : m ≤ 256 := by have := hom.out; omega
      have HI := hid hin
      obtain ⟨W0, hW0⟩ : ∃ W0 : World, W0 = wr := ⟨_, rfl⟩
      rw [← hW0] at hout HI hbw hszw c0 hb ⊢
      clear hm hin hxv hout' hW0
      go_wp2
      clear c0
      go_loopw [6, 26] (fun v i wr => ∃ j : Nat, j ≤ m ∧ i = .int .i64 j ∧ Hid (NewLi wr W0.heap.size v (stepL (out.take j) x)) ∧ Below W0.heap.size W0 wr) (fun _ i _ => m - (intOf i).toNat)
      case atStart => exact ⟨0, by omega, rfl, hid (NewLi.nil _ _), Below.refl _ _⟩
      case round =>
        obtain ⟨j, hj, rfl, hN, hb0⟩ := hrel
        have hsz0 := hb0.size
        by_cases hltj : j < m
        · obtain ⟨b3, o3, y, A3, m3, c3, rfl, hb3, hy, q4, hin3, hA3⟩ := hout.out.lip.at_ hltj
          have q0 : wr.cell? ⟨b3, o3 + j, none⟩ = some (.slice A3 m3 c3) := (hb0.cell (p := ⟨b3, o3 + j, none⟩) hb3).trans q4
          have hltji : (j : Int) < m := by omega
          have hyv := hoL.out y (List.mem_of_getElem? hy)
          have hyb := hid (isL_bd hyv)
          have hy256 := hid (bitsL_lt (n := 8) hyv)
          have hm38 : m3 ≤ 1000000 := by have := isL_len8 hyv (by omega); have := hin3.len; omega
          have hst := hid (stepL_take (l := x) hy)
          have hA30 := hid hA3
          have hI30 := hid hin3
          have hHI := hid (HI.out.below hb0 hsz0)
          have hlen8 : Hid ((stepL (out.take j) x).length ≤ 2048) := hid (by
            have h1 := stepL_len (l := x) (by rw [hxl.out]; exact hx8) (out.take j)
            have h2 := List.length_take_le j out
            have := hom.out
            omega)
          have hb3r : b3 < wr.heap.size := by omega
          clear hy hin3 hyv hA3 q4
          go_wp2_with (fail)
          refine (marked_any A3 m3 c3 y _ (hI30.out.below hb0 hsz0) hm38 hyb.out).mono ?_
          rintro e w1 ⟨rfl, hb4⟩
          have hbe1 := hb0.trans (hb4.mono hsz0)
          have hN1 := hid (hN.out.below hb4)
          have hsz1 := hb4.size
          clear hb4 q0
          obtain ⟨W2, hW2⟩ : ∃ W2, w1.alloc (.cells (mkB (bitsL y)) 77) = W2 := ⟨_, rfl⟩
          have hb12 : Below w1.heap.size w1 W2 := by rw [← hW2]; exact (Below.refl _ _).alloc (Nat.le_refl _) _
          have hbe2 := hbe1.trans (hb12.mono hbe1.size)
          have hN2 := hid (hN1.out.below hb12)
          have B9 : Hid (Blk W2 w1.heap.size 77 (mkB (bitsL y))) := hid (by rw [← hW2]; exact Blk.new' rfl)
          have HI2 := hid (HI.out.below hbe2 hbe2.size)
          have hI32 := hid (hI30.out.below hbe2 hbe2.size)
          have hsz2 := hbe2.size
          have hcc := conFI_any 102 #[.pointer (some ⟨w1.heap.size, 0, none⟩)] enAll1 (inB (bitsL y)) A2 m2 c2 x W2 HI2.out (by omega) (fun z hz => all1_any z (bitsL y) _ _ B9.out (Hx.out z hz).1 (Hx.out z hz).2)
          have hgo : Hid (goOn1 x y = if x.any (inB (bitsL y)) then [y] else x.map fun i => listed (bitsL y ||| 2 ^ i.toNat) 8) := rfl
          obtain ⟨T9, hT9⟩ : ∃ T, w1.heap.size = T := ⟨_, rfl⟩
          rw [hT9] at B9 hcc
          have hT9w : W0.heap.size ≤ T9 := by have := hbe1.size; omega
          unfold mkB at hW2 ⊢
          cases hany : x.any (inB (bitsL y))
          · rw [hany] at hcc hgo
            simp only [Bool.false_eq_true, if_false] at hgo
            clear hany hb0 hbe1 hb12 hN hN1 hHI hsz0 hsz1
            go_wp2_with (go_at_call 99; refine hcc.mono ?_; rintro e w3 ⟨rfl, rfl⟩)
            have HB9 := hid B9.out
            clear hW2 hcc
            go_loopw [6, 41] (fun v i wr => ∃ q : Nat, q ≤ m2 ∧ i = .int .i64 q ∧ Hid (NewLi wr W0.heap.size v (stepL (out.take j) x ++ (x.take q).map fun i => listed (bitsL y ||| 2 ^ i.toNat) 8)) ∧ Hid (Blk wr T9 77 (mkB (bitsL y))) ∧ Below W0.heap.size W0 wr) (fun _ i _ => m2 - (intOf i).toNat)
            case atStart => exact ⟨0, by omega, rfl, hid (by simpa using hN2.out), B9, hbe2⟩
            case round =>
              clear HB9 hN2 HI2 hI32 hsz2 hbe2
              obtain ⟨q, hq, rfl, hNq, hBq, hbq⟩ := hrel
              have hszq := hbq.size
              by_cases hltq : q < m2
              · have hltqi : (q : Int) < m2 := by omega
                obtain ⟨bx, ox, z, rfl, hbx, hz, qz⟩ := (HI.out.below hbq hszq).at_ hltq
                obtain ⟨z0, z8⟩ := Hx.out z (List.mem_of_getElem? hz)
                obtain ⟨zn, rfl⟩ : ∃ zn : Nat, z = zn := ⟨z.toNat, by omega⟩
                have hz8 : zn < 8 := by omega
                have hz8i : (zn : Int) < 8 := by omega
                have hnx : Hid ((x.take (q + 1)).map (fun i => listed (bitsL y ||| 2 ^ i.toNat) 8) = (x.take q).map (fun i => listed (bitsL y ||| 2 ^ i.toNat) 8) ++ [listed (bitsL y ||| 2 ^ zn) 8]) := hid (by
                  rw [List.take_add_one, hz, List.map_append]; simp)
                have hlenq : Hid ((stepL (out.take j) x ++ (x.take q).map fun i => listed (bitsL y ||| 2 ^ i.toNat) 8).length ≤ 1000000) := hid (by
                  rw [List.length_append, List.length_map, List.length_take]
                  have := hlen8.out
                  omega)
                obtain ⟨d0, d1, d2, d3, d4, d5, d6, d7⟩ := load8 hBq.out
                have l9 := hBq.out.lt
                obtain ⟨W5, hW5⟩ : ∃ W5, wr.alloc (.cells (mkB (bitsL y)) 77) = W5 := ⟨_, rfl⟩
                have hb15 : Below wr.heap.size wr W5 := by rw [← hW5]; exact (Below.refl _ _).alloc (Nat.le_refl _) _
                have B12 : Blk W5 wr.heap.size 77 (mkB (bitsL y)) := by rw [← hW5]; exact Blk.new' rfl
                obtain ⟨W6, hW6⟩ : ∃ W6, W5.setCell ⟨wr.heap.size, zn, none⟩ (.int .i64 1) = W6 := ⟨_, rfl⟩
                have B126 : Blk W6 wr.heap.size 77 (mkB (bitsL y ||| 2 ^ zn)) := by rw [← hW6, ← mkB_on hz8]; exact B12.set_ zn _
                have hb16 : Below wr.heap.size wr W6 := by rw [← hW6]; exact hb15.setCell (by simp) _
                have hbe6 := hbq.trans (hb16.mono hszq)
                have hN6 := hid (hNq.out.below hb16)
                have hB6 := hid (hBq.out.below hb16 l9)
                have k0 : ∃ v, W5.cell? ⟨wr.heap.size, zn, none⟩ = some v := ⟨_, (B12.cell zn).trans (mkB_at hz8)⟩
                obtain ⟨vv, k0⟩ := k0
                have f0 := B12.frozen zn
                have l12 := B12.lt
                obtain ⟨e0, e1, e2, e3, e4, e5, e6, e7⟩ := load8 B126
                have l126 := B126.lt
                have hz6 := hbe6.size
                have hLA := @list_any (bitsL y ||| 2 ^ zn)
                unfold mkB at hLA hW5
                have HLA := hid hLA
                clear hLA hb15 B12 B126 hb16 hz hNq
                go_wp2_with (fail)
                refine (HLA.out _).mono ?_
                rintro e V1 ⟨A1, n1, c1', rfl, hc1, hn1, hin1, hfr1, hb10⟩
                have hbV1 := hbe6.trans (hb10.mono hz6)
                have hN7 := hid (hN6.out.below hb10)
                have hB7 := hid (hB6.out.below hb10 hB6.out.lt)
                have hzV := hbV1.size
                have hW6V := hb10.size
                have HI1 := hid hin1
                have Hfr := hid hfr1
                have hin2 : ∀ b off, A1 = some ⟨b, off, none⟩ → b < V1.heap.size := ins_lt hin1 (fun h => (hn1 h).1)
                have Hin2 := hid hin2
                have hown := fun r hr => (newLi_own hN6.out r hr).2
                have Hown := hid hown
                clear hin1 hfr1 hb10 hn1 hc1 hin2 hown d0 d1 d2 d3 d4 d5 d6 d7 e0 e1 e2 e3 e4 e5 e6 e7 k0 f0
                have hb5 : Below W0.heap.size W0 (V1.alloc (.cells #[.slice A1 n1 c1'] 25)) := hbV1.alloc hzV _
                have hN8 : Hid (NewLi (V1.alloc (.cells #[.slice A1 n1 c1'] 25)) W0.heap.size u6 (stepL (out.take j) x ++ (x.take q).map fun i => listed (bitsL y ||| 2 ^ i.toNat) 8)) := hid (hN7.out.below ((Below.refl _ _).alloc (Nat.le_refl _) _))
                have hB8 : Hid (Blk (V1.alloc (.cells #[.slice A1 n1 c1'] 25)) T9 77 (mkB (bitsL y))) := hid (hB7.out.alloc _)
                go_wp2_with (at_builtin; refine newLi_append rfl (by rfl) _ _ rfl W0.heap.size _ _ rfl hN8.out V1.heap.size A1 n1 c1' (listed (bitsL y ||| 2 ^ zn) 8) rfl (Blk.new' rfl) (HI1.out.below ((Below.refl _ _).alloc (Nat.le_refl _) _) (by simp)) (fun b' off' e' => ⟨by have := Hin2.out b' off' e'; simp; omega, fun e3 => by have h1 := Hfr.out b' off' e'; have h2 := Hown.out b' e3; omega⟩) hlenq.out hb5.size ?_; intro v4 w4 hn4 hg4 hat4)
                have hb9 : Below W0.heap.size W0 w4 := hb5.grown hg4 hb5.size (fun r hr => (newLi_own hN8.out r hr).1)
                have hB9 : Blk w4 T9 77 (mkB (bitsL y)) := hB8.out.grown hg4 (fun e => by
                  have hne := newLi_blk hN8.out hB8.out (by decide)
                  exact hne e.symm)
                have hn5 : Hid (NewLi w4 W0.heap.size v4 (stepL (out.take j) x ++ (x.take (q + 1)).map fun i => listed (bitsL y ||| 2 ^ i.toNat) 8)) := hid (by rw [hnx.out, ← List.append_assoc]; exact hn4)
                have hB10 : Hid (Blk w4 T9 77 (mkB (bitsL y))) := hid hB9
                (first | exact ⟨⟨q + 1, by omega, by go_num, hn5, hB10, hb9⟩, (by first | (simp [intOf]; omega) | (simp [intOf]; done))⟩ | (refine ⟨?_, ?_⟩; (focus ((repeat apply Exists.intro); refine ⟨?_, rfl⟩; exact ⟨q + 1, by omega, by go_num, hn5, hB10, hb9⟩)); (first | (simp [intOf]; omega) | (simp [intOf]; done))))
              · obtain rfl : m2 = q := by omega
                have hfin : Hid (stepL (out.take (j + 1)) x = stepL (out.take j) x ++ (x.take m2).map fun i => listed (bitsL y ||| 2 ^ i.toNat) 8) := hid (by
                  rw [hst.out, hgo.out, List.take_of_length_le (l := x) (by rw [hxl.out]; exact Nat.le_refl _)])
                go_wp2
                exact ⟨⟨j + 1, by omega, by go_num, hid (by rw [hfin.out]; exact hNq.out), hbq⟩, by simp [intOf]; omega⟩
          · rw [hany] at hcc hgo
            simp only [if_true] at hgo
            have hst2 : Hid (stepL (out.take (j + 1)) x = stepL (out.take j) x ++ [y]) := hid (by rw [hst.out, hgo.out])
            clear hany hb0 hbe1 hb12 hN hN1 hHI hsz0 hsz1
            have hb5 : Below W0.heap.size W0 (W2.alloc (.cells #[.slice A3 m3 c3] 25)) := hbe2.alloc hsz2 _
            have hN5 : Hid (NewLi (W2.alloc (.cells #[.slice A3 m3 c3] 25)) W0.heap.size u6 (stepL (out.take j) x)) := hid (hN2.out.below ((Below.refl _ _).alloc (Nat.le_refl _) _))
            go_wp2_with (first | (go_at_call 99; refine hcc.mono ?_; rintro e w3 ⟨rfl, rfl⟩) | (at_builtin; refine newLi_append rfl (by rfl) _ _ rfl W0.heap.size _ _ rfl hN5.out W2.heap.size A3 m3 c3 y rfl (Blk.new' rfl) (hI30.out.below hb5 hb5.size) (fun b' off' e' => ⟨by have := hA30.out b' off' e'; simp; omega, fun e3 => by have h1 := hA30.out b' off' e'; have h2 := (newLi_own hN5.out b' e3).1; omega⟩) (by have := hlen8.out; omega) hb5.size ?_; intro v4 w4 hn4 hg4 hat4))
            have hb6 : Below W0.heap.size W0 w4 := hb5.grown hg4 hb5.size (fun r hr => (newLi_own hN5.out r hr).1)
            exact ⟨⟨j + 1, by omega, by go_num, hid (by rw [hst2.out]; exact hn4), hb6⟩, by simp [intOf]; omega⟩
        · obtain rfl : m = j := by omega
          have hfin : Hid (stepL (out.take m) x = stepL out x) := hid (by rw [List.take_of_length_le (by rw [hom.out]; exact Nat.le_refl _)])
          obtain ⟨A4, c4, rfl, hl4⟩ := newLi_lip hN.out
          rw [hfin.out] at hl4
          have HL4 := hid hl4
          have hl4n : (stepL out x).length ≤ 1000000 := by
            have h1 := stepL_len (l := x) (by rw [hxl.out]; exact hx8) out
            have := hom.out
            omega
          have hsv := stepL_isL (l := x) hoL.out
          obtain ⟨n4, hn4⟩ : ∃ n4, (stepL (out.take m) x).length = n4 := ⟨_, rfl⟩
          have Hn4 : Hid ((stepL out x).length = n4) := hid (by rw [← hfin.out]; exact hn4)
          rw [hn4]
          rw [Hn4.out] at HL4 hl4n
          have hle := hid (fun W h => least_any A4 n4 c4 (stepL out x) W h hl4n hsv)
          clear hl4 hN hsv hn4
          go_wp2_with (go_at_call 88; refine (hle.out _ HL4.out.lis).mono ?_; rintro e w5 ⟨A5, n5, c5, rfl, hc5, hl5, hb5⟩)
          have hbe5 := hbw.trans ((hb0.trans (hb5.mono hsz0)).mono hszw)
          exact ⟨⟨k + 1, n5, c5, A5, by omega, by go_num, rfl, hid hc5, hid (by rw [hstep.out]; exact hl5.mono (by omega)), hbe5⟩, by simp [intOf]; omega⟩
    · obtain rfl : k = n := by omega
      have hfin : Hid (allP (ls.take k) = allP ls) := hid (by rw [List.take_of_length_le (by rw [hlen.out]; exact Nat.le_refl _)])
      have hout2 : Hid (LiF wr w.heap.size wr.heap.size A' m (allP ls)) := hid (by rw [← hfin.out]; exact hout.out)
      go_wp2
      refine bodyPost_ret (v := .slice A' m c') (by first | (simp [results, Tryz.results72, go_sem]; done) | (simp [results, Tryz.results72, go_sem, *]; done) | (simp [results, Tryz.results72, go_sem, World.cell?_setCell_same', *]; done) | (simp [results, Tryz.results72, go_sem]; first | exact ⟨rfl, rfl⟩ | rfl)) rfl ⟨A', m, c', rfl, hnil.out, hout2.out, hbw⟩
end Go.Proofs.YtnpilfpackdimaaGreat
/- Plain law: hires that are apart, one after another. -/
namespace Go.Proofs.YtnpilfpackdimaaGreat
/-- A hire, by its number. -/
def hire (ls : List (List Int)) (i : Int) : List Int := ls.getD i.toNat []
/-- All inns of some hires, by bits. -/
def sB (ls : List (List Int)) (hs : List Int) : Nat := hs.foldl (fun b i => b ||| bitsL (hire ls i)) 0
/-- The next hire goes with those before it. -/
def ap1 (ls : List (List Int)) (hs : List Int) (k : Nat) : Bool := !(hire ls (hs.getD k 0)).isEmpty && !(hire ls (hs.getD k 0)).any fun x => (sB ls (hs.take k)).testBit x.toNat
def apK (ls : List (List Int)) (hs : List Int) (k : Nat) : Bool := (List.range k).all (ap1 ls hs)
def apP (ls : List (List Int)) (hs : List Int) : Bool := apK ls hs hs.length
theorem sB_take {ls : List (List Int)} {hs : List Int} {k : Nat} {i : Int} (h : hs[k]? = some i) : sB ls (hs.take (k + 1)) = sB ls (hs.take k) ||| bitsL (hire ls i) := by
  unfold sB
  rw [List.take_add_one, h, List.foldl_append]; rfl
theorem apK_succ (ls : List (List Int)) (hs : List Int) (k : Nat) : apK ls hs (k + 1) = (apK ls hs k && ap1 ls hs k) := by
  unfold apK
  rw [List.range_succ, List.all_append]; simp
theorem apP_off {ls : List (List Int)} {hs : List Int} {k : Nat} (hk : k < hs.length) (h : ap1 ls hs k = false) : apP ls hs = false := by
  unfold apP apK
  cases h' : (List.range hs.length).all (ap1 ls hs)
  · rfl
  · have := List.all_eq_true.1 h' k (List.mem_range.2 hk)
    rw [h] at this; cases this
theorem ap1_at {ls : List (List Int)} {hs : List Int} {k : Nat} {i : Int} (h : hs[k]? = some i) : ap1 ls hs k = (!(hire ls i).isEmpty && !(hire ls i).any fun x => (sB ls (hs.take k)).testBit x.toNat) := by
  unfold ap1
  rw [List.getD_eq_getElem?_getD, h]; rfl
/-- The longest lists of hires that are apart: the search. -/
def mostL (ls : List (List Int)) : Nat → List Int → Nat → List Int → List Int
  | 0, _, _, out => out
  | r + 1, begun, i, out => mostL ls r begun (i + 1) (if apP ls (begun ++ [(i : Int)]) then (if out.length < (mostL ls r (begun ++ [(i : Int)]) (i + 1) (begun ++ [(i : Int)])).length then mostL ls r (begun ++ [(i : Int)]) (i + 1) (begun ++ [(i : Int)]) else out) else out)
def mostP (ls : List (List Int)) (begun : List Int) (i : Nat) : List Int := mostL ls (ls.length - i) begun i begun
theorem mostL_step (ls : List (List Int)) {n i : Nat} (hi : i < n) (begun out : List Int) : mostL ls (n - i) begun i out = mostL ls (n - (i + 1)) begun (i + 1) (if apP ls (begun ++ [(i : Int)]) then (if out.length < (mostL ls (n - (i + 1)) (begun ++ [(i : Int)]) (i + 1) (begun ++ [(i : Int)])).length then mostL ls (n - (i + 1)) (begun ++ [(i : Int)]) (i + 1) (begun ++ [(i : Int)]) else out) else out) := by
  rw [show n - i = (n - (i + 1)) + 1 by omega]
  rfl
theorem mostL_len (ls : List (List Int)) : ∀ (r : Nat) (begun : List Int) (i : Nat) (out : List Int) (m : Nat), out.length ≤ m → begun.length + r ≤ m → (mostL ls r begun i out).length ≤ m
  | 0, _, _, _, _, h, _ => h
  | r + 1, begun, i, out, m, h, h2 => by
    have h3 := mostL_len ls r (begun ++ [(i : Int)]) (i + 1) (begun ++ [(i : Int)]) m (by simp; omega) (by simp; omega)
    rw [mostL]
    refine mostL_len ls r begun (i + 1) _ m ?_ (by omega)
    split
    · split
      · exact h3
      · exact h
    · exact h
theorem mostP_len (ls : List (List Int)) (begun : List Int) (i : Nat) : (mostP ls begun i).length ≤ begun.length + (ls.length - i) := mostL_len ls _ begun i begun _ (by omega) (by omega)
end Go.Proofs.YtnpilfpackdimaaGreat
/- Walks: hires that are apart. -/
namespace Go.Proofs.YtnpilfpackdimaaGreat
open Go.RowKit Go.Shelf
attribute [local go_sem] Oper.semAt_some
set_option maxRecDepth 10000 in
theorem eqZ (W : World) (b : Nat) : (binOp .eql 77 (.agg #[bv b 0, bv b 1, bv b 2, bv b 3, bv b 4, bv b 5, bv b 6, bv b 7]) (.agg #[.int .i64 0, .int .i64 0, .int .i64 0, .int .i64 0, .int .i64 0, .int .i64 0, .int .i64 0, .int .i64 0])).run Tryz.prog W = .ok (.bool (sameB b 0)) W := by
  have h : (Op.equalIn 10000 77 (.agg #[bv b 0, bv b 1, bv b 2, bv b 3, bv b 4, bv b 5, bv b 6, bv b 7]) (.agg #[.int .i64 0, .int .i64 0, .int .i64 0, .int .i64 0, .int .i64 0, .int .i64 0, .int .i64 0, .int .i64 0])).run Tryz.prog W = .ok (sameB b 0) W := eqMarks W 9998 b 0
  go_simp
set_option maxRecDepth 100000 in
set_option maxHeartbeats 4000000 in
theorem apart_any (g : Nat) (I : Int) (A B : Option Addr) (n c m d : Nat) (ls : List (List Int)) (hs : List Int) (w : World) (hd : Desk w g I A n c ls) (hs0 : InS w w.heap.size B m hs) (hn : n ≤ 1000000) (hm : m ≤ 1000000) (hbd : ∀ l ∈ ls, isL 8 0 l = true) (hi : ∀ i ∈ hs, 0 ≤ i ∧ i < n) :
    Calls Tryz.prog 70 #[.pointer (some ⟨g, 0, none⟩), .slice B m d] w fun e w' => e = .returned (.bool (apP ls hs)) ∧ Below w.heap.size w w' := by
  have hmm := hid hs0.len
  have hlen := hid hd.2.1
  have HS := hid hs0
  have HBD := hid hbd
  have HI := hid hi
  obtain ⟨W2, hW2⟩ : ∃ W2, w.alloc (.cells #[.int .i64 0, .int .i64 0, .int .i64 0, .int .i64 0, .int .i64 0, .int .i64 0, .int .i64 0, .int .i64 0] 77) = W2 := ⟨_, rfl⟩
  have b2 : Blk W2 w.heap.size 77 (mkB 0) := by rw [← hW2]; exact Blk.new' rfl
  have hb2 : Below w.heap.size w W2 := by rw [← hW2]; exact (Below.refl _ _).alloc (Nat.le_refl _) _
  have HD := hid hd
  clear hd hs0 hbd hi
  obtain ⟨av, hav⟩ : ∃ av, apP ls hs = av := ⟨_, rfl⟩
  have Hav := hid hav
  rw [hav]
  clear hav
  go_enter Tryz.func70, Tryz.ntmps70
  go_wp2
  refine wp_scope_straight ?_
  go_wp2
  refine wp_label ?_
  go_wp2
  go_loopw [12] (fun i wr => ∃ k : Nat, k ≤ m ∧ i = .int .i64 k ∧ Hid (apK ls hs k = true) ∧ Hid (Blk wr w.heap.size 77 (mkB (sB ls (hs.take k)))) ∧ Below w.heap.size w wr) (fun i _ => m - (intOf i).toNat)
  case atStart => exact ⟨0, by omega, rfl, hid rfl, hid b2, hb2⟩
  case round =>
    clear hb2 b2 hW2
    obtain ⟨k, hk, rfl, hok, hB, hbw⟩ := hrel
    have hszw := hbw.size
    by_cases hlt : k < m
    · obtain ⟨b1, o1, hi, rfl, hb1, hm1, c1⟩ := (HS.out.below hbw hszw).at_ hlt
      obtain ⟨i0, in1⟩ := HI.out hi (List.mem_of_getElem? hm1)
      obtain ⟨i, rfl⟩ : ∃ i : Nat, hi = i := ⟨hi.toNat, by omega⟩
      have hin : i < n := by omega
      have hltk : (k : Int) < m := by omega
      have hdw := HD.out.below hbw
      obtain ⟨b2, o2, h, A2, m2, c2, hAe, hb2, hm2, q2w, hin2⟩ := HD.out.2.at_ hin
      subst hAe
      have q2 : wr.cell? ⟨b2, o2 + i, none⟩ = some (.slice A2 m2 c2) := (hbw.cell (p := ⟨b2, o2 + i, none⟩) hb2).trans q2w
      have hb2r : b2 < wr.heap.size := by omega
      have e0 : wr.cell? ⟨g, 1, none⟩ = some (.slice (some ⟨b2, o2, none⟩) n c) := hdw.1.cell 1
      have lg := hdw.1.lt
      have hhv := HBD.out h (List.mem_of_getElem? hm2)
      have hhb := hid (isL_bd hhv)
      have hhn := hid (isL_nodup hhv)
      have hm28 : m2 ≤ 8 := by have := isL_len8 hhv (by omega); have := hin2.len; omega
      have hh2 := hid hin2.len
      have hhire : hire ls (i : Int) = h := by unfold hire; rw [Int.toNat_natCast, List.getD_eq_getElem?_getD, hm2]; rfl
      obtain ⟨S, hS⟩ : ∃ S, sB ls (hs.take k) = S := ⟨_, rfl⟩
      have hap := hid (ap1_at (ls := ls) hm1)
      have hsn := hid (sB_take (ls := ls) hm1)
      rw [hhire, hS] at hap hsn
      rw [hS] at hB
      have hkl : k < hs.length := by rw [hmm.out]; exact hlt
      have Hkl := hid hkl
      clear hm1 hm2 hhv hhire hS hdw hkl q2w
      by_cases hz : m2 = 0
      · subst hz
        have hh0 : h = [] := List.eq_nil_of_length_eq_zero hh2.out
        have hf : Hid (apP ls hs = false) := hid (apP_off Hkl.out (by rw [hap.out, hh0]; rfl))
        clear hin2
        go_wp2
        (try simp only [Exit.noGoto, Exit.inBlock, Exit.then])
        refine bodyPost_ret (v := .bool false) (by first | (simp [results, Tryz.results70, go_sem]; done) | (simp [results, Tryz.results70, go_sem, *]; done) | (simp [results, Tryz.results70, go_sem, World.cell?_setCell_same', *]; done) | (simp [results, Tryz.results70, go_sem]; first | exact ⟨rfl, rfl⟩ | rfl)) rfl ⟨by rw [← Hav.out, hf.out], hbw⟩
      · have hzi : ((m2 : Int) == 0) = false := by simpa using hz
        have hzi2 : ¬ (m2 : Int) = 0 := by omega
        have hne : Hid (h.isEmpty = false) := hid (by
          cases h with
          | nil => exact absurd hh2.out.symm (by simpa using hz)
          | cons x l => rfl)
        have HI2 := hid hin2
        have HB0 := hid hB.out
        clear hin2 hB
        go_wp2
        clear c1 e0 q2
        go_loopw [35] (fun i wr => ∃ q : Nat, q ≤ m2 ∧ i = .int .i64 q ∧ Hid (h.any (fun x => S.testBit x.toNat) = (h.drop q).any (fun x => S.testBit x.toNat)) ∧ Hid (Blk wr w.heap.size 77 (mkB (S ||| bitsL (h.take q)))) ∧ Below w.heap.size w wr) (fun i _ => m2 - (intOf i).toNat)
        case atStart => exact ⟨0, by omega, rfl, hid (by simp), hid (by simpa [bitsL] using HB0.out), hbw⟩
        case round =>
          clear HB0 hbw hszw
          obtain ⟨q, hq, rfl, hno, hBq, hbq⟩ := hrel
          have lT := hBq.out.lt
          have hszq := hbq.size
          by_cases hltq : q < m2
          · have hltqi : (q : Int) < m2 := by omega
            obtain ⟨bx, ox, z, hAz, hbx, hz', qz⟩ := (HI2.out.below hbq hszq).at_ hltq
            subst hAz
            obtain ⟨z0, z8⟩ := hhb.out z (List.mem_of_getElem? hz')
            obtain ⟨zn, rfl⟩ : ∃ zn : Nat, z = zn := ⟨z.toNat, by omega⟩
            have hz8 : zn < 8 := by omega
            have hz8i : (zn : Int) < 8 := by omega
            have hdr := drop_at hz'
            have k0 := (hBq.out.cell zn).trans (mkB_at hz8)
            have f0 := hBq.out.frozen zn
            have hnt : (bitsL (h.take q)).testBit zn = false := by
              rw [bitsL_test fun x hx => (hhb.out x (List.mem_of_mem_take hx)).1, has_not]
              intro hmem
              obtain ⟨j, hj, hje⟩ := List.getElem_of_mem hmem
              rw [List.getElem_take] at hje
              have hjq : j < q := by
                have := List.length_take_le q h
                omega
              have hjl : j < h.length := by
                rw [List.length_take] at hj; omega
              obtain ⟨hql, hqe⟩ := List.getElem?_eq_some_iff.1 hz'
              have := List.pairwise_iff_getElem.1 hhn.out j q hjl hql hjq
              exact this (hje.trans hqe.symm)
            have hor : (S ||| bitsL (h.take q)).testBit zn = S.testBit zn := by rw [Nat.testBit_or, hnt, Bool.or_false]
            cases ht : S.testBit zn
            · rw [ht] at hor
              rw [bv_f hor] at k0
              have hno2 : Hid (h.any (fun x => S.testBit x.toNat) = (h.drop (q + 1)).any (fun x => S.testBit x.toNat)) := hid (by
                rw [hno.out, hdr, List.any_cons, Int.toNat_natCast, ht, Bool.false_or])
              have hB2 : Hid (Blk (wr.setCell ⟨w.heap.size, zn, none⟩ (.int .i64 1)) w.heap.size 77 (mkB (S ||| bitsL (h.take (q + 1))))) := hid (by
                rw [bitsL_take hz', Int.toNat_natCast, ← Nat.or_assoc, ← mkB_on hz8]
                exact hBq.out.set_ zn _)
              have hb2' : Below w.heap.size w (wr.setCell ⟨w.heap.size, zn, none⟩ (.int .i64 1)) := hbq.setCell (by simp) _
              clear hnt hor ht hdr hz'
              go_wp2
              exact ⟨⟨q + 1, by omega, by go_num, hno2, hB2, hb2'⟩, by simp [intOf]; omega⟩
            · rw [ht] at hor
              rw [bv_t hor] at k0
              have hf : Hid (apP ls hs = false) := hid (apP_off Hkl.out (by
                rw [hap.out, hne.out, hno.out, hdr, List.any_cons, Int.toNat_natCast, ht]; rfl))
              clear hnt hor ht hdr hz'
              go_wp2
              (try simp only [Exit.noGoto, Exit.inBlock, Exit.then])
              refine bodyPost_ret (v := .bool false) (by first | (simp [results, Tryz.results70, go_sem]; done) | (simp [results, Tryz.results70, go_sem, *]; done) | (simp [results, Tryz.results70, go_sem, World.cell?_setCell_same', *]; done) | (simp [results, Tryz.results70, go_sem]; first | exact ⟨rfl, rfl⟩ | rfl)) rfl ⟨by rw [← Hav.out, hf.out], hbq⟩
          · obtain rfl : m2 = q := by omega
            have hht : h.take m2 = h := List.take_of_length_le (by rw [hh2.out]; exact Nat.le_refl _)
            rw [hht] at hBq
            have hok2 : Hid (apK ls hs (k + 1) = true) := hid (by
              rw [apK_succ, hok.out, hap.out, hne.out, hno.out, List.drop_of_length_le (by rw [hh2.out]; exact Nat.le_refl _)]; rfl)
            rw [← hsn.out] at hBq
            obtain ⟨U, hU⟩ : ∃ U, sB ls (hs.take (k + 1)) = U := ⟨_, rfl⟩
            have hnz : sameB U 0 = false := by
              cases hs0 : sameB U 0
              · rfl
              · exfalso
                unfold sameB at hs0
                cases h with
                | nil => exact absurd hh2.out.symm (by simpa using hz)
                | cons x l =>
                  obtain ⟨x0, x8⟩ := hhb.out x (List.mem_cons_self)
                  have h1 := List.all_eq_true.1 hs0 x.toNat (List.mem_range.2 (by omega))
                  have h2 : U.testBit x.toNat = true := by
                    rw [← hU, hsn.out, Nat.testBit_or, bitsL_test fun y hy => (hhb.out y hy).1, has_iff.2 (by rw [show ((x.toNat : Nat) : Int) = x by omega]; exact List.mem_cons_self), Bool.or_true]
                  rw [h2] at h1
                  simp at h1
            have hZ := eqZ (b := U)
            rw [hnz] at hZ
            obtain ⟨d0, d1, d2, d3, d4, d5, d6, d7⟩ := load8 hBq.out
            rw [hU] at d0 d1 d2 d3 d4 d5 d6 d7
            clear hU hnz hht hno hsn hap
            go_wp2
            exact ⟨⟨k + 1, by omega, by go_num, hok2, hBq, hbq⟩, by simp [intOf]; omega⟩
    · obtain rfl : k = m := by omega
      have hf : Hid (apP ls hs = true) := hid (by have := hok.out; unfold apP; rw [hmm.out]; exact this)
      go_wp2
      (try simp only [Exit.noGoto, Exit.inBlock, Exit.then])
      refine bodyPost_ret (v := .bool true) (by first | (simp [results, Tryz.results70, go_sem]; done) | (simp [results, Tryz.results70, go_sem, *]; done) | (simp [results, Tryz.results70, go_sem, World.cell?_setCell_same', *]; done) | (simp [results, Tryz.results70, go_sem]; first | exact ⟨rfl, rfl⟩ | rfl)) rfl ⟨by rw [← Hav.out, hf.out], hbw⟩
end Go.Proofs.YtnpilfpackdimaaGreat
