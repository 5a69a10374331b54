/- Texts of the proof, laid together by program. -/
import Derived.Test.YtdcglphekafpdaaMm
import Derived.Test.YtdcglphekafpdaaMq
import Derived.Lib.MinMax
import Derived.Maps.AppendAt
import Derived.Test.YtdcglphekafpdaaMl
namespace Go.Proofs.Ytdcglphekafpdaa
open Go.RowKit Go.Shelf
/-- An append to an own slice as one step of a region that draws. -/
theorem lupon_append_own {P : Program} (w : World) {o : Oper} {a : Act} {K : Act → World → Prop} (s x : Operand) (t : TypeId)
    (ho : o.op = .call { callee := .builtin .append, args := #[s, x], argTypes := #[t, t] })
    (base : Nat) (e : TypeId) (i : TypeInfo) (z : Value) (size bytes : Nat) (ht : P.underlying t = some (.slice e)) (hi : P.info? e = some i) (hz : i.zero = some z)
    (hsize : i.size = size) (hby : i.bytes = bytes) (hzs : z.cells.size = size) (hsz : 0 < size)
    (v : Value) (n : Nat) (xs : List Value) (hs : a.eval s = v) (hown : w.ownsRow base e size v n xs)
    (ad : Addr) (m c : Nat) (news : List Value) (hx : a.eval x = .slice (some ad) m c) (hl : news.length = m * size) (hnews : ∀ j u, news[j]? = some u → w.cell? (ad.add j) = some u) (h1 : ∀ u ∈ news, u.oneCell' = true)
    (h63 : n + m ≤ maxLen) (hbytes : (n + m) * bytes ≤ 140737488355328) (hbase : base ≤ w.heap.size)
    (h : ∀ v' w', w'.ownsRow base e size v' (n + m) (xs ++ news) → w.grownBy w' v.ownBlock → K (a.put o.dst v') w') : LUpon P o a K ((execOp a.eval o).run P w) := by
  obtain ⟨v', w', hr, h2, h3, h4⟩ := run_append_own (P := P) w base t o.type e i z size bytes ht hi hz hsize hby hzs hsz v n xs hown ad m c news hl hnews h1 h63 hbytes hbase
  unfold execOp
  simp only [ho, resolve, invoke, builtin, Sem.run_bind, Sem.run_pure, Result.andThen_ok, List.map_toArray, List.map_cons, List.map_nil, hs, hx, hr]
  exact h v' w' h2 h3
/-- Small numbers of a kind. -/
def SmS (k : IntKind) (w : World) (B : Nat) (A : Option Addr) (n : Nat) (l : List Int) : Prop := Sl w B 1 A n (l.flatMap fun x => [.int k x])
theorem SmS.len {k : IntKind} {w : World} {B n : Nat} {A : Option Addr} {l : List Int} (h : SmS k w B A n l) : l.length = n := by
  have := h.1; rw [flat_len (s := 1) (fun _ => rfl)] at this; omega
theorem SmS.below {k : IntKind} {w w' : World} {B B' n : Nat} {A : Option Addr} {l : List Int} (h : SmS k w B A n l) (hb : Below B w w') (hB : B ≤ B') : SmS k w' B' A n l := Sl.below' h hb hB
theorem SmS.at_ {kd : IntKind} {w : World} {B n : Nat} {A : Option Addr} {l : List Int} (h : SmS kd w B A n l) {k : Nat} (hk : k < n) : ∃ b off x, A = some ⟨b, off, none⟩ ∧ b < B ∧ l[k]? = some x ∧
    w.cell? ⟨b, off + k, none⟩ = some (.int kd x) := by
  obtain ⟨b, off, hA, hb, hc⟩ := h.2 (by omega)
  have hl : k < l.length := by rw [h.len]; exact hk
  have hm : l[k]? = some l[k] := List.getElem?_eq_getElem hl
  refine ⟨b, off, l[k], hA, hb, hm, ?_⟩
  have := hc (k * 1 + 0) _ (by rw [flat_at (s := 1) (f := fun x => [Value.int kd x]) (fun _ => rfl) l k 0 _ hm (by omega)]; rfl)
  simpa using this
theorem flatI_succ {F : Nat → Int} {k : Nat} : ((List.range (k + 1)).map F).flatMap cI = ((List.range k).map F).flatMap cI ++ [.int .i64 (F k)] := by
  rw [List.range_succ, List.map_append, List.flatMap_append]; simp [cI]
theorem own_full {e : TypeId} {size base n : Nat} {xs : List Value} (w : World) {cur : Array Value} (hb : base ≤ w.heap.size) (hm : n ≤ maxLen) (hs : cur.size = n * size) (hx : cur.toList = xs) :
    (w.alloc (.cells cur e)).ownsRow base e size (.slice (some ⟨w.heap.size, 0, none⟩) n n) n xs := by
  subst hx
  refine ⟨by simpa using hs, .inr ⟨w.heap.size, n, cur, rfl, hb, heap_alloc_new w _, Nat.le_refl _, hm, hs, ?_⟩⟩
  rw [List.take_of_length_le (by simp; omega)]
theorem own_form2 {w : World} {base : Nat} {e : TypeId} {size : Nat} {v : Value} {n : Nat} {xs : List Value} (h : w.ownsRow base e size v n xs) (hn : 0 < n) : ∃ g cap, v = .slice (some ⟨g, 0, none⟩) n cap ∧ base ≤ g ∧ g < w.heap.size := by
  obtain ⟨g, cap, h1, h2, h3⟩ := h.form hn
  exact ⟨g, cap, h1, h2, h3⟩
theorem own_cell {w : World} {base : Nat} {e : TypeId} {size g n cap : Nat} {xs : List Value} (h : w.ownsRow base e size (.slice (some ⟨g, 0, none⟩) n cap) n xs) {j : Nat} {u : Value} (hj : xs[j]? = some u) : w.cell? ⟨g, j, none⟩ = some u := by
  have := h.cells (g := g) rfl j u hj
  rwa [Addr.add_lit, Nat.zero_add] at this
theorem flatI_len {F : Nat → Int} {k : Nat} : (((List.range k).map F).flatMap cI).length = k := by
  rw [flat_len (s := 1) (fun _ => rfl)]; simp
theorem info35 : (Try.prog.info? 2).map (fun i => (i.zero, i.size, i.bytes)) = some (some (.int .i64 0), 1, 8) := by kernel_rfl
set_option maxRecDepth 100000 in
set_option maxHeartbeats 1000000 in
theorem weighed_any (w : World) (A A2 : Option Addr) (n c n2 c2 : Nat) (row : List Mt) (first : Int) (by_ : List Int) (hr : MtS w w.heap.size A n row) (h0 : checkRow row = 0) (f0 : 0 ≤ first) (f1 : first ≤ 1000000)
    (hb : SmS .u16 w w.heap.size A2 n2 by_) (hby : ∀ x ∈ by_, 0 ≤ x ∧ x ≤ 65535) (hn2 : n2 ≤ 20) :
    Calls Try.prog 50 #[.slice A n c, .int .i64 first, .slice A2 n2 c2] w fun e w' => ∃ A3 c3, e = .returned (.slice A3 (n + 1) c3) ∧ InS w' w'.heap.size A3 (n + 1) (wghL row first by_) ∧ Below w.heap.size w w' := by
  obtain ⟨k4, k5, k6⟩ := checkRow_ok h0
  have hN : Hid (row.length = n) := hid hr.len
  have hn7 : n ≤ 7 := by have := hr.len; omega
  have hlb := hid hb.len
  have hby' := hid hby
  have hW := hid (wgh_bd (n := row.length) (N := byN by_) (fun i hi => mAt_ok k6 hi) f0 f1)
  have hok := hid k6
  have HR := hid (fun V (h : Below w.heap.size w V) => hr.below h h.size)
  have HB := hid (fun V (h : Below w.heap.size w V) => hb.below h h.size)
  clear hr hb hby h0 k4 k5 k6
  obtain ⟨i0, hi, hz0, hz1, hz2⟩ := info_parts info35
  obtain ⟨F, hF⟩ : ∃ F, F = wgh (mAt row) first (byN by_) := ⟨_, rfl⟩
  rw [← hF] at hW
  have hF0 : Hid (F 0 = first) := hid (by rw [hF]; rfl)
  have HF := hid hF
  clear hF
  go_enter Try.func50, Try.ntmps50
  go_wp2_with (fail)
  refine (longs_any _ _).mono ?_
  rintro e W1 ⟨rfl, hw1⟩
  subst hw1
  have ho1 : (w.alloc (.cells #[.int .i64 first] 2)).ownsRow w.heap.size 2 1 (.slice (some ⟨w.heap.size, 0, none⟩) 1 1) 1 (((List.range 1).map F).flatMap cI) := own_full w (Nat.le_refl _) (by unfold maxLen; omega) rfl (by simp [cI, hF0.out])
  go_wp2_with (fail)
  go_loopw [7, 8] (fun v i wr => ∃ k : Nat, k ≤ n ∧ i = .int .i64 k ∧ wr.ownsRow w.heap.size 2 1 v (k + 1) (((List.range (k + 1)).map F).flatMap cI) ∧ Below w.heap.size w wr) (fun _ i _ => n - (intOf i).toNat)
  case atStart => exact ⟨0, by omega, rfl, ho1, (Below.refl _ _).alloc (Nat.le_refl _) _⟩
  case round =>
    obtain ⟨k, hk, rfl, hown, hbel⟩ := hrel
    have hsz := hbel.size
    by_cases hlt : k < n
    · obtain ⟨g, cap, rfl, hg1, hg2⟩ := own_form2 hown (by omega)
      obtain ⟨b, off, m, rfl, hb, hm, c0, c1, c2, c3⟩ := (HR.out wr hbel).at_ hlt
      have Hm : Hid (mAt row k = m) := hid (mAt_of hm)
      have Hok : Hid (okM m = true) := hid (by rw [← Hm.out]; exact mAt_ok hok.out (by rw [hN.out]; exact hlt))
      have hx : wr.cell? ⟨g, k, none⟩ = some (.int .i64 (F k)) := own_cell hown (by rw [flatI_succ, List.getElem?_append_right (by rw [flatI_len]; exact Nat.le_refl _), flatI_len, Nat.sub_self]; rfl)
      have hxb := hW.out k (by rw [hN.out]; omega)
      have HX1 : Hid (0 ≤ F k ∧ F k ≤ 1000000) := hid hxb
      have hnx := HF.out
      obtain ⟨x, hxe⟩ : ∃ x, x = F k := ⟨_, rfl⟩
      rw [← hxe] at hx hxb
      have o0 := one_bd Hok.out true hxb.1 hxb.2
      have o1 := one_bd Hok.out false hxb.1 hxb.2
      have o2 := one_le Hok.out hxb.1
      have HNX : Hid (F (k + 1) = one m true x + byN by_ k % (one m false x - one m true x + 1)) := hid (by rw [hxe, HF.out, ← Hm.out]; rfl)
      clear hnx hm hxe
      have hg3 : g < wr.heap.size := hg2
      have hown' := hid hown
      clear hown
      have hlti : (k : Int) < n := by omega
      have hk1 : (k : Int) < (k : Int) + 1 := by omega
      have l0 : b < wr.heap.size := by omega
      go_wp2_with (fail)
      refine wp_region_el [0, 1, 2, 3, 4, 5, 6, 7, 8, 9, 10, 11, 12, 13] 2 (by kernel_rfl) (by kernel_rfl) (fun Y hY => ?_)
      have hYX : Below wr.heap.size wr Y := by rw [hY]; exact (Below.refl _ _).drew
      have hsY := hYX.size
      obtain ⟨hcY, hfY⟩ := bcell hYX
      replace c0 := (hcY _ _ l0).trans c0
      replace c1 := (hcY _ _ l0).trans c1
      replace c2 := (hcY _ _ l0).trans c2
      replace c3 := (hcY _ _ l0).trans c3
      replace hx := (hcY _ _ hg2).trans hx
      have l1 : b < Y.heap.size := by omega
      have l2 : g < Y.heap.size := by omega
      clear hY hcY hfY
      simp only [pick, List.getElem?_toArray, List.getElem?_cons_zero, List.getElem?_cons_succ]
      iterate 12 (refine wpE_val (v := ?_) (by rfl) (fun W hW => ?_) ?_; rotate_left; (· obtain ⟨hcW, hfW⟩ := bcell hW; go_simp; with_reducible rfl); simp only [Act.put, List.setIfInBounds_toArray, List.set_cons_zero, List.set_cons_succ])
      (refine wpE_call (by rfl) (fun W hW => to_any x x W) (fun W hW => ?_) ?_; (· obtain ⟨hcW, hfW⟩ := bcell hW; go_simp); simp only [Act.put, List.setIfInBounds_toArray, List.set_cons_zero, List.set_cons_succ])
      (refine wpE_call (by rfl) (fun W hW => refMelted_any m ⟨x, x⟩ W Hok.out hxb.1 hxb.2 hxb.1 (by show x ≤ 1000001; omega)) (fun W hW => ?_) ?_; (· obtain ⟨hcW, hfW⟩ := bcell hW; go_simp); simp only [Act.put, List.setIfInBounds_toArray, List.set_cons_zero, List.set_cons_succ])
      simp only [wpE]
      (refine wpM_one 14 _ (by simp only [List.getElem?_toArray, List.getElem?_cons_zero, List.getElem?_cons_succ]; rfl) (by kernel_rfl) (by rfl) ?_)
      intro X1 hX1 hX1'
      (go_simp; simp only [LUpon, Act.put]; try simp only [List.setIfInBounds_toArray, List.set_cons_zero, List.set_cons_succ])
      refine ⟨hX1'.alloc hX1'.size _, ?_⟩
      have b9 : Blk (X1.alloc (.cells #[.int .i64 0, .int .i64 0] 24)) X1.heap.size 24 #[.int .i64 0, .int .i64 0] := Blk.new _ _ _
      have hB9 : Y.heap.size ≤ X1.heap.size := hX1'.size
      generalize X1.heap.size = B9 at *
      generalize X1.alloc (.cells #[.int .i64 0, .int .i64 0] 24) = X1b at *
      (refine wpM_one 15 _ (by simp only [List.getElem?_toArray, List.getElem?_cons_zero, List.getElem?_cons_succ]; rfl) (by kernel_rfl) (by rfl) ?_)
      intro X2 hX2 hX2'
      replace b9 := b9.below hX2 b9.lt
      have q0 := b9.frozen 0
      have q1 := b9.frozen 1
      have r0 := b9.cell 0
      have r1 := b9.cell 1
      have hlt2 := b9.lt
      (go_simp; simp only [LUpon, Act.put]; try simp only [List.setIfInBounds_toArray, List.set_cons_zero, List.set_cons_succ])
      refine ⟨(hX2'.setCell hB9 _).setCell hB9 _, ?_⟩
      simp only [melted_lo, melted_hi]
      replace b9 := b9.set2 (a := .int .i64 (one m true x)) (b := .int .i64 (one m false x))
      clear q0 q1 r0 r1
      generalize (X2.setCell ⟨B9, 0, none⟩ (.int .i64 (one m true x))).setCell ⟨B9, 1, none⟩ (.int .i64 (one m false x)) = X2b at *
      refine wpM_end (by kernel_rfl) ?_
      intro X3 hX3 hX3'
      replace b9 := b9.below hX3 b9.lt
      have hB9w : wr.heap.size ≤ B9 := by omega
      have hX : Below wr.heap.size wr X3 := hYX.trans (hX3'.mono hsY)
      clear hX3 hX3' hX2 hX2' hX1 hX1' hlt2 hYX hsY c0 c1 c2 c3 hx l1 l2 hB9
      replace hown' := hid (owns_below hown'.out hX)
      replace hbel := hbel.trans (hX.mono hsz)
      have HX9 := hid hX
      have hs3 := hX.size
      replace hg2 : g < X3.heap.size := by omega
      clear hX
      generalize hlo : one m true x = lo at *
      generalize hhi : one m false x = hh at *
      clear hlo hhi
      obtain ⟨N, hN1⟩ : ∃ N, N = byN by_ k := ⟨_, rfl⟩
      rw [← hN1] at HNX
      have hNb : 0 ≤ N ∧ N ≤ 65535 := by rw [hN1]; exact byN_bd (b := 65535) (by omega) hby'.out k
      have HN1 := hid hN1
      clear hN1
      have gne : g ≠ B9 := by omega
      have B4 := hid b9
      clear b9
      clear l0
      have key : ∀ N' : Value, N' = .int .i64 N → True := fun _ _ => trivial
      clear key
      rcases Nat.eq_zero_or_pos n2 with hz | hpos
      · subst hz
        have hN0 : N = 0 := by rw [HN1.out]; unfold byN; rw [if_pos hlb.out]
        subst hN0
        go_wp2_with (fail)
        have z1 : IntKind.i64.wrap (hh - lo) = hh - lo := IntWalk.i64_in _ (by omega)
        have z2 : IntKind.i64.wrap (hh - lo + 1) = hh - lo + 1 := IntWalk.i64_in _ (by omega)
        have z5 : ¬ (hh - lo + 1 = 0) := by omega
        have z8 : IntKind.i64.wrap lo = lo := IntWalk.i64_in _ (by omega)
        have z9 := trivial
        have z4 := trivial
        have HV : Hid (F (k + 1) = lo) := hid (by rw [HNX.out]; simp)
        clear HNX
        refine Sx.wp_region_el (fun W => Below w.heap.size w W ∧ Blk W B9 24 #[.int .i64 lo, .int .i64 hh]) (fun W W' h h' => ⟨h.1.trans (h'.mono h.1.size), h.2.below h' h.2.lt⟩) [0, 1, 2, 3, 4, 5, 6, 7, 8, 9, 10, 11] 3 (by kernel_rfl) (by kernel_rfl) ⟨hbel.drew, B4.out.drew⟩ ?_
        simp only [pick, List.getElem?_toArray, List.getElem?_cons_zero, List.getElem?_cons_succ]
        iterate 12 (refine Sx.wpE_val (v := ?_) (by rfl) (fun W hW => ?_) ?_; rotate_left; (· have q0 := hW.2.cell 0; have q1 := hW.2.cell 1; go_simp; with_reducible rfl); simp only [Act.put, List.setIfInBounds_toArray, List.set_cons_zero, List.set_cons_succ])
        simp only [Sx.wpE]
        clear z1 z2 z5 z8 z9 z4
        refine Sx.wpM_one 12 _ (by simp only [List.getElem?_toArray, List.getElem?_cons_zero, List.getElem?_cons_succ]; rfl) (by kernel_rfl) (by rfl) ?_
        intro X4 hX4 hS4
        (go_simp; simp only [LUpon, Act.put]; try simp only [List.setIfInBounds_toArray, List.set_cons_zero, List.set_cons_succ])
        refine ⟨⟨hS4.1.alloc (hS4.1.size) _, hS4.2.alloc _⟩, ?_⟩
        refine Sx.wpM_one 13 _ (by simp only [List.getElem?_toArray, List.getElem?_cons_zero, List.getElem?_cons_succ]; rfl) (by kernel_rfl) (by rfl) ?_
        intro X5 hX5 hS5
        have own5 := owns_below ((owns_below (owns_below hown'.out ((Below.refl _ _).drew)) hX4).alloc (.cells #[.int .i64 lo] 2)) hX5
        have bV := (Blk.new X4 2 #[.int .i64 lo]).below hX5 (by simp)
        refine lupon_append_own _ _ _ 35 rfl w.heap.size 2 i0 _ 1 8 under35 hi hz0 hz1 hz2 rfl (by decide) _ _ _ (by rfl) own5 ⟨X4.heap.size, 0, none⟩ 1 1 [.int .i64 lo] (by rfl) rfl (fun j u hj => by rw [add_at, Nat.zero_add]; exact (bV.cell j).trans (by simpa using hj)) (fun u hu => by simp at hu; subst hu; rfl) (by unfold maxLen; omega) (by omega) hS5.1.size ?_
        intro v6 w6 hown6 hgr6
        refine ⟨⟨below_own (R := fun _ => True) hS5.1 (fun q hq => by simp [Value.ownBlock] at hq; subst hq; exact ⟨hg1, trivial⟩) hgr6 (Nat.le_refl _), hS5.2.grown hgr6 (by simp [Value.ownBlock]; omega)⟩, ?_⟩
        simp only [Act.put, List.setIfInBounds_toArray, List.set_cons_zero, List.set_cons_succ]
        refine Sx.wpM_one 14 _ (by simp only [List.getElem?_toArray, List.getElem?_cons_zero, List.getElem?_cons_succ]; rfl) (by kernel_rfl) (by rfl) ?_
        intro X7 hX7 hS7
        (go_simp; simp only [LUpon, Act.put]; try simp only [List.setIfInBounds_toArray, List.set_cons_zero, List.set_cons_succ])
        refine ⟨hS7, ?_⟩
        refine Sx.wpM_end (by kernel_rfl) ?_
        intro X8 hX8 hS8
        have own8 : X8.ownsRow w.heap.size 2 1 v6 (k + 1 + 1) (((List.range (k + 1 + 1)).map F).flatMap cI) := by rw [flatI_succ, HV.out]; exact owns_below (owns_below hown6 hX7) hX8
        go_wp2
        exact ⟨⟨k + 1, by omega, by go_num, own8, hS8.1⟩, by simp [intOf]; omega⟩
      · obtain ⟨j, hj⟩ : ∃ j, j = k % n2 := ⟨_, rfl⟩
        have hj1 : j < n2 := by rw [hj]; exact Nat.mod_lt _ (by omega)
        have hj2 : (k : Int) % (n2 : Int) = j := by rw [hj]; simp
        obtain ⟨b2, o2', y, rfl, hb2, hy, d0⟩ := (HB.out X3 hbel).at_ hj1
        have hyN : y = N := by rw [HN1.out]; unfold byN; rw [if_neg (by rw [hlb.out]; omega), hlb.out, ← hj, hy]; rfl
        subst hyN
        have hj3 := hid hj
        clear hj hy
        have j0 : (0 : Int) < n2 := by omega
        have j1 : (0 : Int) ≤ j := by omega
        have j2 : (j : Int) < (n2 : Int) := by omega
        go_wp2_with (fail)
        clear d0
        have z1 : IntKind.i64.wrap (hh - lo) = hh - lo := IntWalk.i64_in _ (by omega)
        have z2 : IntKind.i64.wrap (hh - lo + 1) = hh - lo + 1 := IntWalk.i64_in _ (by omega)
        have z5 : ¬ (hh - lo + 1 = 0) := by omega
        have z6 := Int.emod_nonneg y (b := hh - lo + 1) (by omega)
        have z7 := Int.emod_lt_of_pos y (b := hh - lo + 1) (by omega)
        have z8 : y.tmod (hh - lo + 1) = y % (hh - lo + 1) := Int.tmod_eq_emod_of_nonneg (by omega)
        have z9 : IntKind.i64.wrap (y % (hh - lo + 1)) = y % (hh - lo + 1) := IntWalk.i64_in _ (by omega)
        obtain ⟨V, hV⟩ : ∃ V, V = lo + y % (hh - lo + 1) := ⟨_, rfl⟩
        have z4 : IntKind.i64.wrap (lo + y % (hh - lo + 1)) = V := by rw [hV]; exact IntWalk.i64_in _ (by omega)
        have HV : Hid (F (k + 1) = V) := hid (by rw [HNX.out, hV])
        clear hV z6 z7 HNX
        refine Sx.wp_region_el (fun W => Below w.heap.size w W ∧ Blk W B9 24 #[.int .i64 lo, .int .i64 hh]) (fun W W' h h' => ⟨h.1.trans (h'.mono h.1.size), h.2.below h' h.2.lt⟩) [0, 1, 2, 3, 4, 5, 6, 7, 8, 9, 10, 11] 3 (by kernel_rfl) (by kernel_rfl) ⟨hbel.drew, B4.out.drew⟩ ?_
        simp only [pick, List.getElem?_toArray, List.getElem?_cons_zero, List.getElem?_cons_succ]
        iterate 12 (refine Sx.wpE_val (v := ?_) (by rfl) (fun W hW => ?_) ?_; rotate_left; (· have q0 := hW.2.cell 0; have q1 := hW.2.cell 1; go_simp; with_reducible rfl); simp only [Act.put, List.setIfInBounds_toArray, List.set_cons_zero, List.set_cons_succ])
        simp only [Sx.wpE]
        clear z1 z2 z5 z8 z9 z4
        refine Sx.wpM_one 12 _ (by simp only [List.getElem?_toArray, List.getElem?_cons_zero, List.getElem?_cons_succ]; rfl) (by kernel_rfl) (by rfl) ?_
        intro X4 hX4 hS4
        (go_simp; simp only [LUpon, Act.put]; try simp only [List.setIfInBounds_toArray, List.set_cons_zero, List.set_cons_succ])
        refine ⟨⟨hS4.1.alloc (hS4.1.size) _, hS4.2.alloc _⟩, ?_⟩
        refine Sx.wpM_one 13 _ (by simp only [List.getElem?_toArray, List.getElem?_cons_zero, List.getElem?_cons_succ]; rfl) (by kernel_rfl) (by rfl) ?_
        intro X5 hX5 hS5
        have own5 := owns_below ((owns_below (owns_below hown'.out ((Below.refl _ _).drew)) hX4).alloc (.cells #[.int .i64 V] 2)) hX5
        have bV := (Blk.new X4 2 #[.int .i64 V]).below hX5 (by simp)
        refine lupon_append_own _ _ _ 35 rfl w.heap.size 2 i0 _ 1 8 under35 hi hz0 hz1 hz2 rfl (by decide) _ _ _ (by rfl) own5 ⟨X4.heap.size, 0, none⟩ 1 1 [.int .i64 V] (by rfl) rfl (fun j u hj => by rw [add_at, Nat.zero_add]; exact (bV.cell j).trans (by simpa using hj)) (fun u hu => by simp at hu; subst hu; rfl) (by unfold maxLen; omega) (by omega) hS5.1.size ?_
        intro v6 w6 hown6 hgr6
        refine ⟨⟨below_own (R := fun _ => True) hS5.1 (fun q hq => by simp [Value.ownBlock] at hq; subst hq; exact ⟨hg1, trivial⟩) hgr6 (Nat.le_refl _), hS5.2.grown hgr6 (by simp [Value.ownBlock]; omega)⟩, ?_⟩
        simp only [Act.put, List.setIfInBounds_toArray, List.set_cons_zero, List.set_cons_succ]
        refine Sx.wpM_one 14 _ (by simp only [List.getElem?_toArray, List.getElem?_cons_zero, List.getElem?_cons_succ]; rfl) (by kernel_rfl) (by rfl) ?_
        intro X7 hX7 hS7
        (go_simp; simp only [LUpon, Act.put]; try simp only [List.setIfInBounds_toArray, List.set_cons_zero, List.set_cons_succ])
        refine ⟨hS7, ?_⟩
        refine Sx.wpM_end (by kernel_rfl) ?_
        intro X8 hX8 hS8
        have own8 : X8.ownsRow w.heap.size 2 1 v6 (k + 1 + 1) (((List.range (k + 1 + 1)).map F).flatMap cI) := by rw [flatI_succ, HV.out]; exact owns_below (owns_below hown6 hX7) hX8
        go_wp2
        exact ⟨⟨k + 1, by omega, by go_num, own8, hS8.1⟩, by simp [intOf]; omega⟩
    · obtain rfl : k = n := by omega
      obtain ⟨Ao, co, rfl, hSl⟩ := sl_of_owns hown
      go_wp2
      go_ret
      exact ⟨_, _, rfl, by unfold wghL; rw [hN.out, ← HF.out]; exact hSl, hbel⟩
end Go.Proofs.Ytdcglphekafpdaa
namespace Go.Proofs.Ytdcglphekafpdaa
open Go.RowKit Go.Shelf
theorem rgs_of_own {w : World} {base n : Nat} {v : Value} {l : List Rg} (h : w.ownsRow base 24 2 v n (l.flatMap cR)) : ∃ A c, v = .slice A n c ∧ n ≤ c ∧ RgS w w.heap.size A n l := by
  rcases h.2 with ⟨rfl, rfl⟩ | ⟨g, cap, cur, rfl, hb, hg, hn, _⟩
  · exact ⟨none, 0, rfl, Nat.le_refl _, by obtain ⟨A, c, e, hs⟩ := sl_of_owns h; cases e; exact hs⟩
  · exact ⟨some ⟨g, 0, none⟩, cap, rfl, hn, by obtain ⟨A, c, e, hs⟩ := sl_of_owns h; cases e; exact hs⟩
set_option maxRecDepth 100000 in
set_option maxHeartbeats 1000000 in
theorem around_any (w : World) (A A2 : Option Addr) (n c n2 c2 : Nat) (t wide : List Int) (hr : InS w w.heap.size A n t) (hn : n ≤ 8) (ht : ∀ x ∈ t, 0 ≤ x ∧ x ≤ 1000000)
    (hb : SmS .u8 w w.heap.size A2 n2 wide) (hby : ∀ x ∈ wide, 0 ≤ x ∧ x ≤ 255) (hn2 : n2 ≤ 20) :
    Calls Try.prog 58 #[.slice A n c, .slice A2 n2 c2] w fun e w' => ∃ A3 c3, e = .returned (.slice A3 n c3) ∧ n ≤ c3 ∧ RgS w' w'.heap.size A3 n (arndL t wide) ∧ Below w.heap.size w w' := by
  have hN : Hid (t.length = n) := hid hr.len
  have hlb := hid hb.len
  have hby' := hid hby
  have ht' := hid ht
  have HR := hid hr
  have HB := hid hb
  clear hr hb hby ht
  obtain ⟨i0, hi, hz0, hz1, hz2⟩ := info_parts info24
  obtain ⟨F, hF⟩ : ∃ F, F = fun i => arnd (wAt t i) (byN wide i) := ⟨_, rfl⟩
  have HF := hid hF
  clear hF
  go_enter Try.func58, Try.ntmps58
  go_wp2_with (fail)
  go_loopw [5, 6] (fun v i wr => ∃ k : Nat, k ≤ n ∧ i = .int .i64 k ∧ wr.ownsRow w.heap.size 24 2 v k (((List.range k).map F).flatMap cR) ∧ Below w.heap.size w wr) (fun _ i _ => n - (intOf i).toNat)
  case atStart => exact ⟨0, by omega, rfl, World.ownsRow_nil _ _ _ _, Below.refl _ _⟩
  case round =>
    obtain ⟨k, hk, rfl, hown, hbel⟩ := hrel
    have hsz := hbel.size
    by_cases hlt : k < n
    · obtain ⟨b, off, x, rfl, hb, hm, c0⟩ := HR.out.at_ hlt
      have hxb := ht'.out x (List.mem_of_getElem? hm)
      obtain ⟨N, hN1⟩ : ∃ N, N = byN wide k := ⟨_, rfl⟩
      have hNb : 0 ≤ N ∧ N ≤ 255 := by rw [hN1]; exact byN_bd (b := 255) (by omega) hby'.out k
      obtain ⟨r, hrr⟩ : ∃ r, r = arnd x N := ⟨_, rfl⟩
      have HFk : Hid (F k = r) := hid (by rw [HF.out, hrr, hN1]; show arnd (wAt t k) _ = _; rw [wAt_of hm])
      have HN1 := hid hN1
      have zlo : max 0 (x - N % 16) = r.lo := by rw [hrr]; rfl
      have zhi : min 1000000 (x + N / 16) = r.hi := by rw [hrr]; rfl
      clear hm hN1 hrr
      have hown' := hid hown
      clear hown
      have hlti : (k : Int) < n := by omega
      rcases Nat.eq_zero_or_pos n2 with hz | hpos
      · subst hz
        have hN0 : N = 0 := by rw [HN1.out]; unfold byN; rw [if_pos hlb.out]
        subst hN0
        have zlo' : max 0 x = r.lo := by rw [← zlo]; simp
        have zhi' : min 1000000 x = r.hi := by rw [← zhi]; simp
        have z1 : IntKind.i64.wrap x = x := IntWalk.i64_in _ (by omega)
        have z0 : IntKind.i64.wrap 0 = 0 := IntWalk.i64_in _ (by omega)
        clear zlo zhi
        go_wp2_with (fail)
        refine Sx.wp_region_el (fun W => Below w.heap.size w W) (fun W W' h h' => h.trans (h'.mono h.size)) [0, 1, 2, 3, 4, 5, 6, 7, 8, 9, 10, 11, 12, 13, 14, 15, 16, 17] 3 (by kernel_rfl) (by kernel_rfl) hbel.drew ?_
        simp only [pick, List.getElem?_toArray, List.getElem?_cons_zero, List.getElem?_cons_succ]
        have l0 : ∀ W : World, Below w.heap.size w W → b < W.heap.size := fun W h => Nat.lt_of_lt_of_le hb h.size
        iterate 17 (refine Sx.wpE_val (v := ?_) (by rfl) (fun W hW => ?_) ?_; rotate_left; (· obtain ⟨hcW, hfW⟩ := bcell hW; go_simp; with_reducible rfl); simp only [Act.put, List.setIfInBounds_toArray, List.set_cons_zero, List.set_cons_succ])
        (refine Sx.wpE_call (by rfl) (fun W hW => to_any r.lo r.hi W) (fun W hW => ?_) ?_; (· obtain ⟨hcW, hfW⟩ := bcell hW; go_simp); simp only [Act.put, List.setIfInBounds_toArray, List.set_cons_zero, List.set_cons_succ])
        simp only [Sx.wpE]
        (refine Sx.wpM_one 18 _ (by simp only [List.getElem?_toArray, List.getElem?_cons_zero, List.getElem?_cons_succ]; rfl) (by kernel_rfl) (by rfl) ?_)
        intro X4 hX4 hS4
        (go_simp; simp only [LUpon, Act.put]; try simp only [List.setIfInBounds_toArray, List.set_cons_zero, List.set_cons_succ])
        refine ⟨hS4.alloc hS4.size _, ?_⟩
        (refine Sx.wpM_one 19 _ (by simp only [List.getElem?_toArray, List.getElem?_cons_zero, List.getElem?_cons_succ]; rfl) (by kernel_rfl) (by rfl) ?_)
        intro X5 hX5 hS5
        have own5 := owns_below ((owns_below (owns_below hown'.out ((Below.refl _ _).drew)) hX4).alloc (.cells #[.int .i64 r.lo, .int .i64 r.hi] 24)) hX5
        have bV := (Blk.new X4 24 #[.int .i64 r.lo, .int .i64 r.hi]).below hX5 (by simp)
        refine lupon_append_own _ _ _ 34 rfl w.heap.size 24 i0 _ 2 16 under34 hi hz0 hz1 hz2 rfl (by decide) _ _ _ (by rfl) own5 ⟨X4.heap.size, 0, none⟩ 1 1 [.int .i64 r.lo, .int .i64 r.hi] (by rfl) rfl (fun j u hj => by rw [add_at, Nat.zero_add]; exact (bV.cell j).trans (by simpa using hj)) (two_one _ _) (by unfold maxLen; omega) (by omega) hS5.size ?_
        intro v6 w6 hown6 hgr6
        refine ⟨below_own (R := fun _ => True) hS5 (fun q hq => ⟨(own5.lt q hq).1, trivial⟩) hgr6 (Nat.le_refl _), ?_⟩
        simp only [Act.put, List.setIfInBounds_toArray, List.set_cons_zero, List.set_cons_succ]
        (refine Sx.wpM_one 20 _ (by simp only [List.getElem?_toArray, List.getElem?_cons_zero, List.getElem?_cons_succ]; rfl) (by kernel_rfl) (by rfl) ?_)
        intro X7 hX7 hS7
        (go_simp; simp only [LUpon, Act.put]; try simp only [List.setIfInBounds_toArray, List.set_cons_zero, List.set_cons_succ])
        refine ⟨hS7, ?_⟩
        refine Sx.wpM_end (by kernel_rfl) ?_
        intro X8 hX8 hS8
        have own8 : X8.ownsRow w.heap.size 24 2 v6 (k + 1) (((List.range (k + 1)).map F).flatMap cR) := by rw [flat_succ HFk.out]; exact owns_below (owns_below hown6 hX7) hX8
        go_wp2
        exact ⟨⟨k + 1, by omega, by go_num, own8, hS8⟩, by simp [intOf]; omega⟩
      · obtain ⟨j, hj⟩ : ∃ j, j = k % n2 := ⟨_, rfl⟩
        have hj1 : j < n2 := by rw [hj]; exact Nat.mod_lt _ (by omega)
        have hj2 : (k : Int) % (n2 : Int) = j := by rw [hj]; simp
        obtain ⟨b2, o2', y, rfl, hb2, hy, d0⟩ := HB.out.at_ hj1
        have hyN : y = N := by rw [HN1.out]; unfold byN; rw [if_neg (by rw [hlb.out]; omega), hlb.out, ← hj, hy]; rfl
        subst hyN
        have hj3 := hid hj
        clear hj hy
        have j0 : (0 : Int) < n2 := by omega
        have j1 : (0 : Int) ≤ j := by omega
        have j2 : (j : Int) < (n2 : Int) := by omega
        have l2 : b2 < wr.heap.size := by omega
        obtain ⟨hcr, hfr⟩ := bcell hbel
        replace d0 := (hcr _ _ hb2).trans d0
        clear hcr hfr
        go_wp2_with (fail)
        clear d0
        have z8 : y.tmod 16 = y % 16 := Int.tmod_eq_emod_of_nonneg (by omega)
        have z9 : y.tdiv 16 = y / 16 := Int.tdiv_eq_ediv_of_nonneg (by omega)
        have z1 : IntKind.i64.wrap (y % 16) = y % 16 := IntWalk.i64_in _ (by omega)
        have z2 : IntKind.i64.wrap (y / 16) = y / 16 := IntWalk.i64_in _ (by omega)
        have z3 : IntKind.i64.wrap (x - y % 16) = x - y % 16 := IntWalk.i64_in _ (by omega)
        have z4 : IntKind.i64.wrap (x + y / 16) = x + y / 16 := IntWalk.i64_in _ (by omega)
        refine Sx.wp_region_el (fun W => Below w.heap.size w W) (fun W W' h h' => h.trans (h'.mono h.size)) [0, 1, 2, 3, 4, 5, 6, 7, 8, 9, 10, 11, 12, 13, 14, 15, 16, 17] 3 (by kernel_rfl) (by kernel_rfl) hbel.drew ?_
        simp only [pick, List.getElem?_toArray, List.getElem?_cons_zero, List.getElem?_cons_succ]
        have l0 : ∀ W : World, Below w.heap.size w W → b < W.heap.size := fun W h => Nat.lt_of_lt_of_le hb h.size
        iterate 17 (refine Sx.wpE_val (v := ?_) (by rfl) (fun W hW => ?_) ?_; rotate_left; (· obtain ⟨hcW, hfW⟩ := bcell hW; go_simp; with_reducible rfl); simp only [Act.put, List.setIfInBounds_toArray, List.set_cons_zero, List.set_cons_succ])
        (refine Sx.wpE_call (by rfl) (fun W hW => to_any r.lo r.hi W) (fun W hW => ?_) ?_; (· obtain ⟨hcW, hfW⟩ := bcell hW; go_simp); simp only [Act.put, List.setIfInBounds_toArray, List.set_cons_zero, List.set_cons_succ])
        simp only [Sx.wpE]
        (refine Sx.wpM_one 18 _ (by simp only [List.getElem?_toArray, List.getElem?_cons_zero, List.getElem?_cons_succ]; rfl) (by kernel_rfl) (by rfl) ?_)
        intro X4 hX4 hS4
        (go_simp; simp only [LUpon, Act.put]; try simp only [List.setIfInBounds_toArray, List.set_cons_zero, List.set_cons_succ])
        refine ⟨hS4.alloc hS4.size _, ?_⟩
        (refine Sx.wpM_one 19 _ (by simp only [List.getElem?_toArray, List.getElem?_cons_zero, List.getElem?_cons_succ]; rfl) (by kernel_rfl) (by rfl) ?_)
        intro X5 hX5 hS5
        have own5 := owns_below ((owns_below (owns_below hown'.out ((Below.refl _ _).drew)) hX4).alloc (.cells #[.int .i64 r.lo, .int .i64 r.hi] 24)) hX5
        have bV := (Blk.new X4 24 #[.int .i64 r.lo, .int .i64 r.hi]).below hX5 (by simp)
        refine lupon_append_own _ _ _ 34 rfl w.heap.size 24 i0 _ 2 16 under34 hi hz0 hz1 hz2 rfl (by decide) _ _ _ (by rfl) own5 ⟨X4.heap.size, 0, none⟩ 1 1 [.int .i64 r.lo, .int .i64 r.hi] (by rfl) rfl (fun j u hj => by rw [add_at, Nat.zero_add]; exact (bV.cell j).trans (by simpa using hj)) (two_one _ _) (by unfold maxLen; omega) (by omega) hS5.size ?_
        intro v6 w6 hown6 hgr6
        refine ⟨below_own (R := fun _ => True) hS5 (fun q hq => ⟨(own5.lt q hq).1, trivial⟩) hgr6 (Nat.le_refl _), ?_⟩
        simp only [Act.put, List.setIfInBounds_toArray, List.set_cons_zero, List.set_cons_succ]
        (refine Sx.wpM_one 20 _ (by simp only [List.getElem?_toArray, List.getElem?_cons_zero, List.getElem?_cons_succ]; rfl) (by kernel_rfl) (by rfl) ?_)
        intro X7 hX7 hS7
        (go_simp; simp only [LUpon, Act.put]; try simp only [List.setIfInBounds_toArray, List.set_cons_zero, List.set_cons_succ])
        refine ⟨hS7, ?_⟩
        refine Sx.wpM_end (by kernel_rfl) ?_
        intro X8 hX8 hS8
        have own8 : X8.ownsRow w.heap.size 24 2 v6 (k + 1) (((List.range (k + 1)).map F).flatMap cR) := by rw [flat_succ HFk.out]; exact owns_below (owns_below hown6 hX7) hX8
        go_wp2
        exact ⟨⟨k + 1, by omega, by go_num, own8, hS8⟩, by simp [intOf]; omega⟩
    · obtain rfl : k = n := by omega
      obtain ⟨Ao, co, rfl, hnc, hSl⟩ := rgs_of_own hown
      go_wp2
      go_ret
      exact ⟨_, _, rfl, hnc, by unfold arndL; rw [hN.out, ← HF.out]; exact hSl, hbel⟩
end Go.Proofs.Ytdcglphekafpdaa
namespace Go.Proofs.Ytdcglphekafpdaa
open Go.RowKit Go.Shelf
def filN (p : Nat → Bool) (k : Nat) : List Int := ((List.range k).filter p).map fun (i : Nat) => (i : Int)
theorem filN_succ {p : Nat → Bool} {k : Nat} : filN p (k + 1) = filN p k ++ (if p k then [(k : Int)] else []) := filt_succ
theorem filN_len (p : Nat → Bool) (k : Nat) : (filN p k).length ≤ k := by unfold filN; rw [List.length_map]; have := List.length_filter_le p (List.range k); simpa using this
theorem bit8_all : ((List.range 256).all fun b => (List.range 8).all fun k => (Go.bits BinOp.and IntKind.u8 ((b : Int) / 2 ^ k) 1 == 1) == b.testBit k) = true := by kernel_rfl
theorem bit8 {b k : Nat} (hb : b < 256) (hk : k < 8) : (Go.bits BinOp.and IntKind.u8 ((b : Int) / 2 ^ k) 1 == 1) = b.testBit k := by
  have h1 := List.all_eq_true.1 bit8_all b (List.mem_range.2 hb)
  have h2 := List.all_eq_true.1 h1 k (List.mem_range.2 hk)
  exact beq_iff_eq.1 h2
/-- Two own slices lie apart. -/
def Apart (v u : Value) : Prop := ∀ q, v.ownBlock = some q → u.ownBlock ≠ some q
theorem Apart.symm {v u : Value} (h : Apart v u) : Apart u v := fun q h1 h2 => h q h2 h1
theorem app_step {wr w6 : World} {o : Obj} {v v6 u : Value} {B e s m : Nat} {ys : List Value} (hD : Apart v u) (hu : wr.ownsRow B e s u m ys) (hgr : (wr.alloc o).grownBy w6 v.ownBlock) (hob : v6.ownBlock = v.ownBlock ∨ v6.ownBlock = some (wr.heap.size + 1)) : w6.ownsRow B e s u m ys ∧ Apart v6 u := by
  refine ⟨(hu.alloc o).kept hgr ?_, fun q h1 h2 => ?_⟩
  · cases h : u.ownBlock with
    | none => exact .inl rfl
    | some q => exact .inr fun e => hD q e.symm h
  · rcases hob with e | e
    · exact hD q (e.symm.trans h1) h2
    · rw [e] at h1
      have := (hu.lt q h2).2
      simp at h1
      omega
theorem one1 (x : Int) : ∀ u ∈ [Value.int .i64 x], u.oneCell' = true := by
  intro u hu
  simp only [List.mem_cons, List.not_mem_nil, or_false] at hu
  subst hu; rfl
theorem ins_of_own {w : World} {base n : Nat} {v : Value} {l : List Int} (h : w.ownsRow base 3 1 v n (l.flatMap cI)) : ∃ A c, v = .slice A n c ∧ n ≤ c ∧ InS w w.heap.size A n l := by
  rcases h.2 with ⟨rfl, rfl⟩ | ⟨g, cap, cur, rfl, hb, hg, hn, _⟩
  · exact ⟨none, 0, rfl, Nat.le_refl _, by obtain ⟨A, c, e, hs⟩ := sl_of_owns h; cases e; exact hs⟩
  · exact ⟨some ⟨g, 0, none⟩, cap, rfl, hn, by obtain ⟨A, c, e, hs⟩ := sl_of_owns h; cases e; exact hs⟩
theorem filN_yes {w : World} {B : Nat} {v : Value} {p : Nat → Bool} {k : Nat} (hp : p k = true) (h : w.ownsRow B 3 1 v ((filN p k).length + 1) ((filN p k).flatMap cI ++ [.int .i64 (k : Int)])) : w.ownsRow B 3 1 v (filN p (k + 1)).length ((filN p (k + 1)).flatMap cI) := by
  rw [filN_succ, if_pos hp, List.length_append, List.flatMap_append]; exact h
theorem filN_no {p : Nat → Bool} {k : Nat} (hp : p k = false) : filN p (k + 1) = filN p k := by rw [filN_succ, hp]; simp
theorem maxLen_of8 {p : Nat → Bool} {k : Nat} (n : Nat) (h : n = (filN p k).length) (hk : k < 8) : n + 1 ≤ maxLen := by have := filN_len p k; unfold maxLen; omega
theorem eight_of8 {p : Nat → Bool} {k : Nat} (n : Nat) (h : n = (filN p k).length) (hk : k < 8) : (n + 1) * 8 ≤ 140737488355328 := by have := filN_len p k; omega
set_option maxRecDepth 100000 in
set_option maxHeartbeats 1000000 in
theorem chosen62_any (w : World) (b : Nat) (more : Int) (n : Nat) (hb : b < 256) (hn : n ≤ 8) :
    Calls Try.prog 62 #[.int .u8 b, .int .i64 more, .int .i64 n] w fun e w' => ∃ A c A2 c2, e = .returned (.tuple #[.slice A (ownN b n).length c, .slice A2 (withN b more n).length c2]) ∧ InS w' w'.heap.size A (ownN b n).length (ownN b n) ∧ InS w' w'.heap.size A2 (withN b more n).length (withN b more n) ∧ Below w.heap.size w w' := by
  obtain ⟨i0, hi, hz0, hz1, hz2⟩ := info_parts info3
  obtain ⟨p1, hp1⟩ : ∃ p : Nat → Bool, p = fun i => b.testBit i := ⟨_, rfl⟩
  obtain ⟨p2, hp2⟩ : ∃ p : Nat → Bool, p = fun i => b.testBit i || decide ((i : Int) = more) := ⟨_, rfl⟩
  have HP1 := hid hp1
  have HP2 := hid hp2
  clear hp1 hp2
  go_enter Try.func62, Try.ntmps62
  go_wp2_with (fail)
  go_loopw [8, 9, 10] (fun v u i wr => ∃ k : Nat, k ≤ n ∧ i = .int .i64 k ∧ wr.ownsRow w.heap.size 3 1 v (filN p1 k).length ((filN p1 k).flatMap cI) ∧ wr.ownsRow w.heap.size 3 1 u (filN p2 k).length ((filN p2 k).flatMap cI) ∧ Apart v u ∧ Below w.heap.size w wr) (fun _ _ i _ => n - (intOf i).toNat)
  case atStart => exact ⟨0, by omega, rfl, World.ownsRow_nil _ _ _ _, World.ownsRow_nil _ _ _ _, (fun q h => by simp [Value.ownBlock] at h), Below.refl _ _⟩
  case round =>
    obtain ⟨k, hk, rfl, hown, hwith, hap, hbel⟩ := hrel
    have hsz := hbel.size
    by_cases hlt : k < n
    · have hk0 : (0 : Int) ≤ k := by omega
      have hlti : (k : Int) < n := by omega
      have hk8 : k < 8 := by omega
      have hbit := bit8 hb hk8
      cases ht : b.testBit k
      · rw [ht] at hbit
        have e1 : p1 k = false := by rw [HP1.out]; exact ht
        by_cases hm : (k : Int) = more
        · have e2 : p2 k = true := by rw [HP2.out]; simp [hm]
          have hm' : ((k : Int) == more) = true := by simp [hm]
          have HM := hid hm
          clear hm ht
          go_wp2_with (at_builtin; refine wpList_append_own_at _ rfl (.tmp 35) (.tmp 37) 49 rfl w.heap.size 3 i0 _ 1 8 under49 hi hz0 hz1 hz2 rfl (by decide) _ _ _ rfl (hwith.alloc _) ⟨wr.heap.size, 0, none⟩ 1 1 [.int .i64 k] rfl rfl (cell_one_new _ _ _) (one1 _) (maxLen_of8 _ rfl hk8) (eight_of8 _ rfl hk8) (by simp; omega) ?_)
          intro v6 w6 hown6 hgr6 _ hob6
          obtain ⟨s1, s2⟩ := app_step hap.symm hown hgr6 hob6
          have hz6 := hwith.lt
          have hb6 : Below w.heap.size w w6 := below_own (R := fun _ => True) (hbel.alloc hsz (.cells #[.int .i64 k] 3)) (fun q hq => ⟨(hz6 q hq).1, trivial⟩) hgr6 (Nat.le_refl _)
          have g1 := filN_yes e2 hown6
          have g0 := filN_no e1
          clear hown hwith hap hgr6 hob6 hown6 hz6 e1 e2 hbel
          go_wp2
          exact ⟨⟨k + 1, by omega, by go_num, by rw [g0]; exact s1, g1, s2.symm, hb6⟩, by simp [intOf]; omega⟩
        · have e2 : p2 k = false := by rw [HP2.out]; simp [hm, ht]
          have hm' : ((k : Int) == more) = false := by simp [hm]
          have g0 := filN_no e1
          have g1 := filN_no e2
          clear hm ht
          go_wp2
          exact ⟨⟨k + 1, by omega, by go_num, by rw [g0]; exact hown, by rw [g1]; exact hwith, hap, hbel⟩, by simp [intOf]; omega⟩
      · rw [ht] at hbit
        have e1 : p1 k = true := by rw [HP1.out]; exact ht
        have e2 : p2 k = true := by rw [HP2.out]; simp [ht]
        clear ht
        go_wp2_with (at_builtin; refine wpList_append_own_at _ rfl (.tmp 21) (.tmp 23) 49 rfl w.heap.size 3 i0 _ 1 8 under49 hi hz0 hz1 hz2 rfl (by decide) _ _ _ rfl (hown.alloc _) ⟨wr.heap.size, 0, none⟩ 1 1 [.int .i64 k] rfl rfl (cell_one_new _ _ _) (one1 _) (maxLen_of8 _ rfl hk8) (eight_of8 _ rfl hk8) (by simp; omega) ?_)
        intro v6 w6 hown6 hgr6 _ hob6
        obtain ⟨s1, s2⟩ := app_step hap hwith hgr6 hob6
        have hz6 := hown.lt
        have hb6 : Below w.heap.size w w6 := below_own (R := fun _ => True) (hbel.alloc hsz (.cells #[.int .i64 k] 3)) (fun q hq => ⟨(hz6 q hq).1, trivial⟩) hgr6 (Nat.le_refl _)
        have g1 := filN_yes e1 hown6
        have hs6 := hb6.size
        clear hown hwith hap hgr6 hob6 hown6 hz6 hbel
        go_wp2_with (at_builtin; refine wpList_append_own_at _ rfl (.tmp 35) (.tmp 37) 49 rfl w.heap.size 3 i0 _ 1 8 under49 hi hz0 hz1 hz2 rfl (by decide) _ _ _ rfl (s1.alloc _) ⟨w6.heap.size, 0, none⟩ 1 1 [.int .i64 k] rfl rfl (cell_one_new _ _ _) (one1 _) (maxLen_of8 _ rfl hk8) (eight_of8 _ rfl hk8) (by simp; omega) ?_)
        intro v7 w7 hown7 hgr7 _ hob7
        obtain ⟨s3, s4⟩ := app_step s2.symm g1 hgr7 hob7
        have hz7 := s1.lt
        have hb7 : Below w.heap.size w w7 := below_own (R := fun _ => True) (hb6.alloc hs6 (.cells #[.int .i64 k] 3)) (fun q hq => ⟨(hz7 q hq).1, trivial⟩) hgr7 (Nat.le_refl _)
        have g2 := filN_yes e2 hown7
        clear s1 s2 g1 hgr7 hob7 hown7 hz7 hb6 hs6
        go_wp2
        exact ⟨⟨k + 1, by omega, by go_num, s3, g2, s4.symm, hb7⟩, by simp [intOf]; omega⟩
    · obtain rfl : k = n := by omega
      have E1 : Hid (filN p1 k = ownN b k) := hid (by unfold filN ownN; rw [HP1.out]; simp)
      have E2 : Hid (filN p2 k = withN b more k) := hid (by unfold filN withN; rw [HP2.out]; simp)
      rw [E1.out] at hown
      rw [E2.out] at hwith
      obtain ⟨A1, c1, rfl, _, h1⟩ := ins_of_own hown
      obtain ⟨A2, c2, rfl, _, h2⟩ := ins_of_own hwith
      clear hown hwith hap
      go_wp2
      refine bodyPost_ret (v := .tuple #[.slice A1 (ownN b k).length c1, .slice A2 (withN b more k).length c2]) (by first | (simp [results, Try.results62, go_sem]; done) | (simp [results, Try.results62, go_sem, World.cell?_setCell_same', *]; done) | (simp [results, Try.results62, go_sem]; first | exact ⟨rfl, rfl⟩ | rfl)) rfl ⟨_, _, _, _, rfl, h1, h2, hbel⟩
end Go.Proofs.Ytdcglphekafpdaa
/- Five and six parameters of a law; small numbers of a kind; bounds of kinds. -/
namespace Go.Proofs.Ytdcglphekafpdaa
open Go.ChangeShapes Go.WideShapes Go.ChangeAt Go.RowKit Go.Deep
section
variable {H : Type} {enc : TypeId × Value → H} {P : Program} {w : World} {base : Nat} {spare : Nat → Bool} {held : Bool}
theorem trodAll_five {t0 t1 t2 t3 t4 : TypeId} {args : Array Value} {ds : List (DataW H)} {ps : List MemPlace} (h : DataW.TrodAll enc P w base spare held [t0, t1, t2, t3, t4] args.toList ds ps) :
    ∃ v0 v1 v2 v3 v4 d0 d1 d2 d3 d4 p0 p1 p2 p3 p4, args = #[v0, v1, v2, v3, v4] ∧ ds = [d0, d1, d2, d3, d4] ∧ ps = p0 ++ p1 ++ p2 ++ p3 ++ p4 ∧ DataW.Trod enc P w base spare held t0 v0 d0 p0 ∧ DataW.Trod enc P w base spare held t1 v1 d1 p1 ∧ DataW.Trod enc P w base spare held t2 v2 d2 p2 ∧ DataW.Trod enc P w base spare held t3 v3 d3 p3 ∧ DataW.Trod enc P w base spare held t4 v4 d4 p4 := by
  obtain ⟨v0, vs0, d0, ds0, p0, q0, hargs, rfl, rfl, h0, r0⟩ := trodAll_cons h
  obtain ⟨v1, vs1, d1, ds1, p1, q1, rfl, rfl, rfl, h1, r1⟩ := trodAll_cons r0
  obtain ⟨v2, vs2, d2, ds2, p2, q2, rfl, rfl, rfl, h2, r2⟩ := trodAll_cons r1
  obtain ⟨v3, vs3, d3, ds3, p3, q3, rfl, rfl, rfl, h3, r3⟩ := trodAll_cons r2
  obtain ⟨v4, vs4, d4, ds4, p4, q4, rfl, rfl, rfl, h4, r4⟩ := trodAll_cons r3
  obtain ⟨rfl, rfl, rfl⟩ := trodAll_nil r4
  exact ⟨v0, v1, v2, v3, v4, d0, d1, d2, d3, d4, p0, p1, p2, p3, p4, by cases args; simp_all, rfl, by simp, h0, h1, h2, h3, h4⟩
theorem trodAll_six {t0 t1 t2 t3 t4 t5 : TypeId} {args : Array Value} {ds : List (DataW H)} {ps : List MemPlace} (h : DataW.TrodAll enc P w base spare held [t0, t1, t2, t3, t4, t5] args.toList ds ps) :
    ∃ v0 v1 v2 v3 v4 v5 d0 d1 d2 d3 d4 d5 p0 p1 p2 p3 p4 p5, args = #[v0, v1, v2, v3, v4, v5] ∧ ds = [d0, d1, d2, d3, d4, d5] ∧ ps = p0 ++ p1 ++ p2 ++ p3 ++ p4 ++ p5 ∧ DataW.Trod enc P w base spare held t0 v0 d0 p0 ∧ DataW.Trod enc P w base spare held t1 v1 d1 p1 ∧ DataW.Trod enc P w base spare held t2 v2 d2 p2 ∧ DataW.Trod enc P w base spare held t3 v3 d3 p3 ∧ DataW.Trod enc P w base spare held t4 v4 d4 p4 ∧ DataW.Trod enc P w base spare held t5 v5 d5 p5 := by
  obtain ⟨v0, vs0, d0, ds0, p0, q0, hargs, rfl, rfl, h0, r0⟩ := trodAll_cons h
  obtain ⟨v1, vs1, d1, ds1, p1, q1, rfl, rfl, rfl, h1, r1⟩ := trodAll_cons r0
  obtain ⟨v2, vs2, d2, ds2, p2, q2, rfl, rfl, rfl, h2, r2⟩ := trodAll_cons r1
  obtain ⟨v3, vs3, d3, ds3, p3, q3, rfl, rfl, rfl, h3, r3⟩ := trodAll_cons r2
  obtain ⟨v4, vs4, d4, ds4, p4, q4, rfl, rfl, rfl, h4, r4⟩ := trodAll_cons r3
  obtain ⟨v5, vs5, d5, ds5, p5, q5, rfl, rfl, rfl, h5, r5⟩ := trodAll_cons r4
  obtain ⟨rfl, rfl, rfl⟩ := trodAll_nil r5
  exact ⟨v0, v1, v2, v3, v4, v5, d0, d1, d2, d3, d4, d5, p0, p1, p2, p3, p4, p5, by cases args; simp_all, rfl, by simp, h0, h1, h2, h3, h4, h5⟩
end
theorem sm_of {k : IntKind} {w : World} {B n : Nat} {A : Option Addr} {l : List { z : Int // (Lit.int k z).wf = true }} (h : Sl w B 1 A n (l.flatMap fun x => [.int k x.1])) : SmS k w B A n (l.map (·.1)) := by
  unfold SmS
  rw [List.flatMap_map]
  exact h
theorem sm16_bd {l : List { z : Int // (Lit.int .u16 z).wf = true }} : ∀ x ∈ l.map (·.1), 0 ≤ x ∧ x ≤ 65535 := by
  intro x hx
  obtain ⟨⟨y, hy⟩, _, rfl⟩ := List.mem_map.1 hx
  simp [Lit.wf, IntKind.min, IntKind.max, IntKind.signed, IntKind.bits] at hy
  show 0 ≤ y ∧ y ≤ 65535
  omega
theorem sm8_bd {l : List { z : Int // (Lit.int .u8 z).wf = true }} : ∀ x ∈ l.map (·.1), 0 ≤ x ∧ x ≤ 255 := by
  intro x hx
  obtain ⟨⟨y, hy⟩, _, rfl⟩ := List.mem_map.1 hx
  simp [Lit.wf, IntKind.min, IntKind.max, IntKind.signed, IntKind.bits] at hy
  show 0 ≤ y ∧ y ≤ 255
  omega
theorem ownKx : ownKnob Try.prog.godebug = none := by kernel_rfl
theorem u8_bdx {x : Int} (h : (Lit.int .u8 x).wf = true) : 0 ≤ x ∧ x ≤ 255 := by
  simp [Lit.wf, IntKind.min, IntKind.max, IntKind.signed, IntKind.bits] at h
  omega
theorem u16_bdx {x : Int} (h : (Lit.int .u16 x).wf = true) : 0 ≤ x ∧ x ≤ 65535 := by
  simp [Lit.wf, IntKind.min, IntKind.max, IntKind.signed, IntKind.bits] at h
  omega
theorem u32_bdx {x : Int} (h : (Lit.int .u32 x).wf = true) : 0 ≤ x ∧ x ≤ 4294967295 := by
  simp [Lit.wf, IntKind.min, IntKind.max, IntKind.signed, IntKind.bits] at h
  omega
end Go.Proofs.Ytdcglphekafpdaa
