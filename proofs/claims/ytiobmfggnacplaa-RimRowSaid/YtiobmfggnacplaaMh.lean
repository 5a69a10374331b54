/- Texts of the proof, laid together by program. -/
import Derived.Test.YtiobmfggnacplaaMg
import Derived.Test.YtiobmfggnacplaaMb
import Derived.Test.YtiobmfggnacplaaMe
set_option linter.unusedSimpArgs false
set_option linter.unusedVariables false
/- The law of drawn regions under a condition on worlds, in a round. -/
namespace Go.Proofs.Ytiobmfggnacplaa
open Go.RowKit
theorem lupon_append_own_at {P : Program} (w : World) {o : Oper} {a : Act} {K : Act → World → Prop} (s x : Operand) (t : TypeId)
    (ho : o.op = .call { callee := .builtin .append, args := #[s, x], argTypes := #[t, t] })
    (base : Nat) (e : TypeId) (i : TypeInfo) (z : Value) (size bytes : Nat) (ht : P.underlying t = some (.slice e)) (hi : P.info? e = some i) (hz : i.zero = some z)
    (hsize : i.size = size) (hby : i.bytes = bytes) (hzs : z.cells.size = size) (hsz : 0 < size)
    (v : Value) (n : Nat) (xs : List Value) (hs : a.eval s = v) (hown : w.ownsRow base e size v n xs)
    (ad : Addr) (m c : Nat) (news : List Value) (hx : a.eval x = .slice (some ad) m c) (hl : news.length = m * size) (hnews : ∀ j u, news[j]? = some u → w.cell? (ad.add j) = some u) (h1 : ∀ u ∈ news, u.oneCell' = true)
    (h63 : n + m ≤ maxLen) (hbytes : (n + m) * bytes ≤ 140737488355328) (hbase : base ≤ w.heap.size)
    (h : ∀ v' w', w'.ownsRow base e size v' (n + m) (xs ++ news) → w.grownBy w' v.ownBlock → (v'.ownBlock = v.ownBlock ∨ v'.ownBlock = some w.heap.size) → K (a.put o.dst v') w') : LUpon P o a K ((execOp a.eval o).run P w) := by
  obtain ⟨v', w', hr, h2, h3, h4, h5⟩ := run_append_own_at (P := P) w base t o.type e i z size bytes ht hi hz hsize hby hzs hsz v n xs hown ad m c news hl hnews h1 h63 hbytes hbase
  unfold execOp
  simp only [ho, resolve, invoke, builtin, Sem.run_bind, Sem.run_pure, Result.andThen_ok, List.map_toArray, List.map_cons, List.map_nil, hs, hx, hr]
  exact h v' w' h2 h3 h5
end Go.Proofs.Ytiobmfggnacplaa
namespace Go.Proofs.Ytiobmfggnacplaa.Sx
open Go
section
variable {P : Program} {ops : Array Oper} {md : Region.Mode} {S : World → Prop} {ro : Option Nat} {n : Nat}
theorem wpAnyIn_of_M {Q : Act → World → Prop} {Q' : Exit → Act → World → Prop} (hd : noDefer ops = true) (hQ : ∀ a w, Q a w → Q' .normal a w) : ∀ (f : Nat) (listed : Array Bool) (a : Act) (w : World), S w → wpM P md ops S Q f listed a w → wpAnyIn (Wd ro) n P md ops Q' f listed a w
  | 0, _, _, _, hX, h => ⟨h.1, hQ _ _ (h.2 _ (RowKit.Below.refl _ _) hX)⟩
  | f + 1, _, _, w, hX, h =>
    have h' := h w (RowKit.Below.refl _ _) hX
    ⟨fun h0 => hQ _ _ (h'.1 h0), fun i hi => wpOpIn_of_lOp hd (fun _ _ hk => wpAnyIn_of_M hd hQ f _ _ _ hk.1 hk.2) (h'.2 i hi)⟩
theorem wpIn_region_el (S : World → Prop) (hS : ∀ W W', S W → Ext W W' → S W') {id : Nat} {Q : Exit → Act → World → Prop} {a : Act} {w : World} {l : List Oper} (E : List Nat) (g : Nat) (hm : P.follows .mixedOrders = true)
    (hB : (noDefer l.toArray && Region.noSelect l.toArray && decide (E.length + g = l.length) && earlyB .any l.toArray E (Array.replicate l.length false)) = true) (h0 : S w.drew)
    (h : wpE P l.toArray S (fun a' => wpM P .any l.toArray S (fun a w => wpListIn (Wd ro) n P l.toArray Q [] a w) g (setAll (Array.replicate l.length false) E) a' w.drew) (pick l.toArray E) a) : (Code.region id l.toArray true).wpIn (Wd ro) n P Q a w := by
  simp only [Bool.and_eq_true, decide_eq_true_eq] at hB
  obtain ⟨⟨⟨hd, hsel⟩, hn⟩, hE⟩ := hB
  refine wpIn_region_any hm ?_
  have := wpM_early (w := w.drew) hS hsel E g _ a hE h
  rw [hn] at this
  have := wpAnyIn_of_M (ro := ro) (n := n) (Q' := Q) hd (fun _ _ hk => hk) _ _ _ _ h0 this
  simpa using this
/-- The region law of late operations of which something is said, in a round. -/
theorem wpIn_region_rel (S : World → Prop) (hS : ∀ W W', S W → Ext W W' → S W') {id : Nat} {Q : Exit → Act → World → Prop} {a : Act} {w : World} {l : List Oper} (E : List Nat) (L : List (Nat × List Nat)) (hm : P.follows .mixedOrders = true)
    (hB : (noDefer l.toArray && Region.noSelect l.toArray && decide (E.length + L.length = l.length) && earlyB .any l.toArray E (Array.replicate l.length false)) = true) (hR : relB .any l.toArray (setAll (Array.replicate l.length false) E) L = true) (h0 : S w.drew)
    (h : wpE P l.toArray S (fun a' => Rel P l.toArray S (fun a W => wpListIn (Wd ro) n P l.toArray Q [] a W) a' [] (pickD l.toArray L)) (pick l.toArray E) a) : (Code.region id l.toArray true).wpIn (Wd ro) n P Q a w :=
  wpIn_region_el S hS E L.length hm hB h0 (wpE_mono (fun _ hk => wpM_rel L hR h0 hk) _ _ h)
end
end Go.Proofs.Ytiobmfggnacplaa.Sx
/- Walks: All. -/
namespace Go.Proofs.Ytiobmfggnacplaa
open Go.RowKit Go.Shelf
attribute [local go_sem] Oper.semAt_some
/-- What has been gathered. -/
def AllI (t T8 Bo : Nat) (L : List (List Int)) (ow : Foot) (V : World) : Prop :=
  ∃ (vs : List Value) (A : Option Addr) (c : Nat), Blk V T8 42 #[.slice A vs.length c] ∧ ow T8 ∧ V.ownsRow Bo 22 1 (.slice A vs.length c) vs.length vs ∧ (∀ q, (Value.slice A vs.length c).ownBlock = some q → ow q) ∧ vs.length = (perF t L).length ∧
    ∀ (k : Nat) (x : List Int), (perF t L)[k]? = some x → ∃ (q m c' : Nat), vs[k]? = some (.slice (some ⟨q, 0, none⟩) m c') ∧ V.ownsRow Bo 3 1 (.slice (some ⟨q, 0, none⟩) m c') m (x.flatMap cI) ∧ ow q
theorem AllI.stab {t T8 Bo : Nat} {L : List (List Int)} {ow : Foot} {V V' : World} (h : AllI t T8 Bo L ow V) (sm : ∀ q, q < V.heap.size → ow q → V'.heap[q]? = V.heap[q]?) : AllI t T8 Bo L ow V' := by
  obtain ⟨vs, A, c, h2, h3, h4, h5, h1, h6⟩ := h
  refine ⟨vs, A, c, (sm _ h2.lt h3).trans h2, h3, owns_same h4 (fun q hq => sm q (h4.lt q hq).2 (h5 q hq)), h5, h1, fun k x hx => ?_⟩
  obtain ⟨q, m, c', q1, q2, q3⟩ := h6 k x hx
  exact ⟨q, m, c', q1, owns_same q2 (fun r hr => by cases hr; exact sm q (q2.lt q rfl).2 q3), q3⟩
theorem AllI.lis {t T8 Bo : Nat} {L : List (List Int)} {ow : Foot} {V : World} (h : AllI t T8 Bo L ow V) : ∃ v, V.cell? ⟨T8, 0, none⟩ = some v ∧ NewLi V Bo v (perF t L) := by
  obtain ⟨vs, A, c, h2, h3, h4, h5, h1, h6⟩ := h
  refine ⟨_, h2.cell 0, vs, by rw [← h1]; exact h4, h1, fun k l hl => ?_⟩
  obtain ⟨q, m, c', q1, q2, q3⟩ := h6 k l hl
  refine ⟨some ⟨q, 0, none⟩, m, c', q1, Sl.of_own q2, fun b off e => ?_⟩
  cases e
  refine ⟨(q2.lt q rfl).2, fun e => ?_⟩
  rcases own_ne_own q2 h4 (by decide) with h | h
  · cases h
  · exact h (e.symm)
theorem own_setO {A : World} {base e size n g t o : Nat} {v : Value} {xs : List Value} {cs : Array Value} (h : A.ownsRow base e size v n xs) (hb : Blk A g t cs) (u : Value) (ht : t ≠ e) : (A.setCell ⟨g, o, none⟩ u).ownsRow base e size v n xs :=
  owns_same h (fun q hq => Below.heap_setCell _ _ _ _ (fun e2 => own_ne_blk h hb ht (by simp only at e2; rw [hq, e2])))
theorem newLi_off {W W' : World} {base : Nat} {v : Value} {ls : List (List Int)} {Ds : List Nat} (h : NewLi W base v ls) (ho : Off Ds W W') : NewLi W' base v ls := by
  obtain ⟨vs, h1, h2, h3⟩ := h
  refine ⟨vs, own_off h1 ho, h2, fun k l hl => ?_⟩
  obtain ⟨A, m, c, q1, q2, q3⟩ := h3 k l hl
  refine ⟨A, m, c, q1, ?_, fun b off e => ?_⟩
  · rw [ho.size]; exact Sl.keep q2 (fun p _ => ho.cell p)
  · rw [ho.size]; exact q3 b off e
set_option maxRecDepth 100000 in
set_option maxHeartbeats 4000000 in
theorem all_bad (K t : Int) (w : World) (hbad : allE K t ≠ 0) : Calls Try.prog 40 #[.int .i64 K, .int .i64 t] w fun e w' => ∃ v, e = .returned (.tuple #[v, .int .i64 (allE K t)]) ∧ NewLi w' w.heap.size v (allV K t) ∧ Below w.heap.size w w' := by
  have hv : Hid (allV K t = []) := hid (if_neg hbad)
  obtain ⟨W1, hW1⟩ : ∃ W1, w.alloc (.cells #[.int .i64 t] 3) = W1 := ⟨_, rfl⟩
  have hb1 : Below w.heap.size w W1 := by rw [← hW1]; exact (by repeat' (first | with_reducible assumption | with_reducible exact Below.refl _ _ | refine Below.alloc ?_ ?_ _ | refine Below.setCell ?_ ?_ _ | refine Below.drew ?_ | refine below_drewN ?_ _ | (simp; done) | (simp; omega) | omega))
  have B3 : Blk W1 w.heap.size 3 #[.int .i64 t] := by rw [← hW1]; exact Blk.new' rfl
  have c3 := B3.cell 0
  have l3 := B3.lt
  by_cases hc : cntE K t ≠ 0
  · obtain ⟨E, hE⟩ : ∃ E, cntE K t = E := ⟨_, rfl⟩
    have HE := hid hE
    have he : Hid (allE K t = E) := hid (by unfold allE; rw [if_pos hc, hE])
    rw [hE] at hc
    have t1 : (E != 0) = true := by simpa using hc
    clear hE hc hbad
    go_enter Try.func40, Try.ntmps40
    go_wp2_with (go_at_call 36; refine (count_any K t _).mono ?_; rw [HE.out]; rintro e W2 ⟨rfl, hb2⟩)
    refine bodyPost_ret (v := .tuple #[.slice none 0 0, .int .i64 E]) (by first | (simp [results, Try.results40, go_sem]; done) | (simp [results, Try.results40, go_sem, *]; done) | (simp [results, Try.results40, go_sem, World.cell?_setCell_same', *]; done) | (simp [results, Try.results40, go_sem]; first | exact ⟨rfl, rfl⟩ | rfl)) rfl ⟨_, by rw [he.out], by rw [hv.out]; exact NewLi.nil _ _, hb1.trans (hb2.mono hb1.size)⟩
  · have hE : cntE K t = 0 := by omega
    have HE := hid hE
    have he : Hid (allE K t = 6) := hid (by unfold allE at hbad ⊢; rw [if_neg hc] at hbad ⊢; split; rfl; rename_i h; rw [if_neg h] at hbad; exact absurd rfl hbad)
    have hcv : (400 : Int) < countV K t := by unfold allE at hbad; rw [if_neg hc] at hbad; split at hbad; assumption; exact absurd rfl hbad
    clear hE hc hbad
    obtain ⟨cv, hcve⟩ : ∃ cv, countV K t = cv := ⟨_, rfl⟩
    have HC := hid hcve
    rw [hcve] at hcv
    clear hcve
    go_enter Try.func40, Try.ntmps40
    go_wp2_with (go_at_call 36; refine (count_any K t _).mono ?_; rw [HE.out, HC.out]; rintro e W2 ⟨rfl, hb2⟩)
    refine bodyPost_ret (v := .tuple #[.slice none 0 0, .int .i64 6]) (by first | (simp [results, Try.results40, go_sem]; done) | (simp [results, Try.results40, go_sem, *]; done) | (simp [results, Try.results40, go_sem, World.cell?_setCell_same', *]; done) | (simp [results, Try.results40, go_sem]; first | exact ⟨rfl, rfl⟩ | rfl)) rfl ⟨_, by rw [he.out], by rw [hv.out]; exact NewLi.nil _ _, hb1.trans (hb2.mono hb1.size)⟩
end Go.Proofs.Ytiobmfggnacplaa
/- Walks: All: all are gathered. -/
namespace Go.Proofs.Ytiobmfggnacplaa
open Go.RowKit Go.Shelf
attribute [local go_sem] Oper.semAt_some
set_option maxRecDepth 100000 in
set_option maxHeartbeats 4000000 in
theorem all_ok (K t : Nat) (w : World) (hK1 : 1 ≤ K) (hK4 : K ≤ 4) (ht1 : 1 ≤ t) (ht2 : t ≤ 12) (he : allE K t = 0) : Calls Try.prog 40 #[.int .i64 (K : Int), .int .i64 (t : Int)] w fun e w' => ∃ v, e = .returned (.tuple #[v, .int .i64 (allE K t)]) ∧ NewLi w' w.heap.size v (allV K t) ∧ Below w.heap.size w w' := by
  have hcE : cntE K t = 0 := by
    unfold allE at he
    by_cases h : cntE (K : Int) t = 0
    · exact h
    · rw [if_pos h] at he; exact absurd he h
  have hcv : ¬ (400 : Int) < countV K t := by
    unfold allE at he
    rw [if_neg (by omega)] at he
    intro h; rw [if_pos h] at he; cases he
  have hcT : cntT K t (t + 1) ≤ 400 := by
    unfold countV at hcv
    rw [if_pos hcE] at hcv
    simpa using hcv
  have hfew := few_cnt ⟨K, by omega⟩ ⟨t, by omega⟩ ht1 hK1 hcT
  have hlen := wdsL_few ⟨K, by omega⟩ ⟨t, by omega⟩ hfew
  simp only at hfew hlen
  have hV : Hid (allV K t = perF t (wdsL K t)) := hid (by
    unfold allV; rw [if_pos he, perF_all hK1 hK4 ht1 ht2 hfew]; rfl)
  have HE := hid he
  have HC := hid hcE
  have Hlen := hid hlen
  obtain ⟨cv, hcve⟩ : ∃ cv, countV (K : Int) t = cv := ⟨_, rfl⟩
  have HCV := hid hcve
  rw [hcve] at hcv
  clear he hcE hcT hfew hlen hcve
  obtain ⟨i0, hi0, hi1, hi2, hi3⟩ := info_parts' info22
  have I0 := hid hi0; have I1 := hid hi1; have I2 := hid hi2; have I3 := hid hi3
  clear hi0 hi1 hi2 hi3
  obtain ⟨W1, hW1⟩ : ∃ W1, w.alloc (.cells #[.int .i64 (t : Int)] 3) = W1 := ⟨_, rfl⟩
  have hb1 : Below w.heap.size w W1 := by rw [← hW1]; exact (by repeat' (first | with_reducible assumption | with_reducible exact Below.refl _ _ | refine Below.alloc ?_ ?_ _ | refine Below.setCell ?_ ?_ _ | refine Below.drew ?_ | refine below_drewN ?_ _ | (simp; done) | (simp; omega) | omega))
  have B3 : Blk W1 w.heap.size 3 #[.int .i64 (t : Int)] := by rw [← hW1]; exact Blk.new' rfl
  have c3 := B3.cell 0
  have l3 := B3.lt
  (refine (callsIn_wide (n := 9)).1 ?_; refine callsIn_of_wp_marks (F := Wd none) Try.func40 rfl trivial ?_ rfl; simp only [Try.ntmps40, List.size_toArray, List.length_cons, List.length_nil, Nat.reduceAdd, Nat.reduceSub, Array.replicate_succ, Array.replicate_zero, List.push_toArray, List.append_toArray, List.nil_append, List.cons_append])
  gi_wp2_with (first | (gi_at_call 36; refine (calls_wd (count_any K t _)).mono ?_; rw [HC.out, HCV.out]; rintro e W2 ⟨rfl, hb2⟩; have hz2 := hb2.size; replace B3 := B3.below hb2 l3; have hbw : Below w.heap.size w W2 := hb1.trans (hb2.mono hb1.size); have c3 := B3.cell 0; have l3 := B3.lt; have l3' : w.heap.size < W2.heap.size + 1 := Nat.lt_succ_of_lt l3) | (gi_at_call 80; refine (calls_wd (wordsIt_any _ _ _)).mono ?_; rintro e W5 ⟨rfl, hW5⟩))
  have hz5 : W5.heap.size = W2.heap.size + 3 := by rw [← hW5]; simp
  have hb5 : Below W2.heap.size W2 W5 := by rw [← hW5]; exact (by repeat' (first | with_reducible assumption | with_reducible exact Below.refl _ _ | refine Below.alloc ?_ ?_ _ | refine Below.setCell ?_ ?_ _ | refine Below.drew ?_ | refine below_drewN ?_ _ | (simp; done) | (simp; omega) | omega))
  have X8 : Blk W5 W2.heap.size 42 #[.slice none 0 0] := by rw [← hW5]; exact ((Blk.new' rfl).alloc _).alloc _
  have Xk : Blk W5 (W2.heap.size + 1) 3 #[.int .i64 (K : Int)] := by rw [← hW5]; exact (Blk.new' (by first | (simp; done) | (simp; omega) | omega)).alloc _
  have Xm : Blk W5 (W2.heap.size + 1 + 1) 3 #[.int .i64 (t : Int)] := by rw [← hW5]; exact Blk.new' (by first | (simp; done) | (simp; omega) | omega)
  replace B3 := B3.below hb5 l3
  replace hbw : Below w.heap.size w W5 := hbw.trans (hb5.mono hbw.size)
  obtain ⟨T8, hT8⟩ : ∃ T8, W2.heap.size = T8 := ⟨_, rfl⟩
  obtain ⟨T3, hT3⟩ : ∃ T3, w.heap.size = T3 := ⟨_, rfl⟩
  have hT38 : T3 < T8 := by omega
  rw [hT8] at X8 Xk Xm hz5
  rw [hT3] at B3
  rw [hT8, hT3]
  have Hz5 := hid hz5
  have HT3 := hid hT3
  clear hW5 hb5 hb2 hz2 c3 l3 l3' hT8 hz5 hb1 hW1
  refine with_frame fun TT hTT => ?_
  refine wpIn_rangeFunc_footW (F := Wd none) (α := WE) W5.heap.size rfl rfl rfl (gf := 96) (lb := #[.pointer (some ⟨T8 + 1 + 1, 0, none⟩), .pointer (some ⟨T8 + 1, 0, none⟩)]) (by rw [hTT]; rfl) trivial (enters_of Try.func96 (by kernel_rfl) rfl)
    (encs := encW) (Rd := RdWd K t) (Nb := (wdsL K t).length) (S := fun xs => xs.map WE.l = wdsL K t) (Sp := fun _ => True) (fun j => j = T8) (fun j hj => by have := Hz5.out; omega) ?hseq rdWd_keep (fun _ => rfl)
    (fun ys ow V => AllI t T8 T3 (ys.map WE.l) ow V ∧ Blk V T3 3 #[.int .i64 (t : Int)] ∧ Below w.heap.size w V ∧ ∀ j, ow j → T3 < j) (fun c ys ow V => False) ?hI (fun c x ow V V' h => h.elim) ?h0
    (fun x a' V => a' = { tmps := (TT.setIfInBounds 26 x.v).setIfInBounds 9 x.v, defers := [] }) ?assign (fun x a' V o h => h) ?body ?done ?stop
  case hseq =>
    intro W' hW'
    have hz := hW'.size
    have hzz := Hz5.out
    refine words_give W' _ (T8 + 1 + 1) (T8 + 1) K t hK1 hK4 ht1 ht2 Hlen.out ⟨(Xm.below hW' (by omega)).cell 0, (Xk.below hW' (by omega)).cell 0, by omega, by omega, ?_, ?_⟩
    all_goals
      rintro (h | h | h) <;> omega
  case hI =>
    rintro ys ow V V' ⟨h1, h2, h3, h4⟩ hk hz e1 e2 e3
    have hzz := Hz5.out
    have hT := HT3.out
    exact ⟨h1.stab (fun q hq ho => hk q (.inr ho) hq), (hk _ (.inl (by omega)) h2.lt).trans h2, h3.trans ⟨e1, e2, e3, hz, fun j hj => hk j (.inl (by omega)) (by have := h3.size; omega)⟩, h4⟩
  case h0 =>
    exact ⟨⟨[], none, 0, X8, rfl, World.ownsRow_nil _ _ _ _, (fun q hq => by cases hq), rfl, (fun k x hx => by simp [perF] at hx)⟩, B3, hbw, fun j hj => by omega⟩
  case assign =>
    rintro l x V Kk hrd hV hK
    simp only [encW, hTT]
    gi_wp2
    exact hK _ _ (Below.refl _ _) (by rw [hTT]; rfl)
  case stop =>
    rintro Dm c pre own' V _ _ h
    exact h.elim
  case body =>
    rintro l pre ow x a' V ⟨h1, h2, h3, hoB⟩ hNb hlt hnB hrd rfl hV
    obtain ⟨xv, xl⟩ := x
    obtain ⟨qx, cx, hxv, hxin, hxc, hx0, hxok, hxq, -⟩ := hrd
    have hxv' : xv = .slice (some ⟨qx, 0, none⟩) xl.length cx := hxv
    subst hxv'
    have hx1 : 1 ≤ xl.length := List.length_pos_iff.2 hx0
    have hxt : xl.length ≤ t := hxok.1
    have HX : Hid (InS V V.heap.size (some ⟨qx, 0, none⟩) xl.length xl) := hid hxin
    have H1 := hid h1
    have H2 := hid h2
    have c3 := h2.cell 0
    have l3 := h2.lt
    obtain ⟨n, hn⟩ : ∃ n, xl.length = n := ⟨_, rfl⟩
    rw [hn] at hx1 hxt HX hxc ⊢
    have Hn := hid hn
    have hn0 : ¬ (n : Int) = 0 := by omega
    have hn00 : ¬ n = 0 := by omega
    have hpl : (perF t (pre.map WE.l)).length < 800 := by
      have e1 := perF_len t (pre.map WE.l)
      have e2 := Hlen.out
      rw [List.length_map] at e1; omega
    clear hxin hxv hxok hx0 h1 h2 hn
    simp only [hTT, List.setIfInBounds_toArray, List.set_cons_zero, List.set_cons_succ]
    have hmod : (t : Int) % (n : Int) = ((t % n : Nat) : Int) := (Int.natCast_emod t n).symm
    by_cases hr : t % n = 0
    · have t1 : (((t : Int) % (n : Int)) == 0) = true := by rw [hmod, hr]; rfl
      clear hmod
      obtain ⟨q, hq⟩ : ∃ q, t / n = q := ⟨_, rfl⟩
      have hnq : n * q = t := by rw [← hq]; exact Nat.mul_div_cancel' (Nat.dvd_of_mod_eq_zero hr)
      have hq1 : 1 ≤ q := by rw [← hq]; exact Nat.div_pos hxt (by omega)
      have hq2 : q ≤ 12 := by rw [← hq]; exact Nat.le_trans (Nat.div_le_self t n) ht2
      have hdiv : (t : Int) / (n : Int) = (q : Int) := by rw [← hq]; exact (Int.natCast_ediv t n).symm
      have zq : IntKind.i64.wrap (q : Int) = q := IntWalk.i64_in _ (by omega)
      obtain ⟨vs, A, c, h8, h8o, h84, h85, hvl, h86⟩ := H1.out
      have p8 := h8.lt
      have H8 := hid h8
      have H4 := hid h84
      have H5 := hid h85
      have H6 := hid h86
      have Hvl := hid hvl
      have hvsl : vs.length ≤ 800 := by rw [hvl]; omega
      clear hq h8 h84 h85 h86 hvl hpl
      gi_wp2
      refine Sx.wpIn_region_el (fun X => Blk X T3 3 #[.int .i64 (t : Int)] ∧ V.heap.size ≤ X.heap.size) (fun W W' h he => ⟨h.1.below he h.1.lt, Nat.le_trans h.2 he.size⟩) [1, 2, 3, 4, 5] 5 (by kernel_rfl) (by kernel_rfl) ⟨H2.out, Nat.le_refl _⟩ ?_
      clear c3 l3 t1
      simp only [pick, List.getElem?_toArray, List.getElem?_cons_zero, List.getElem?_cons_succ]
      iterate 5 (refine Sx.wpE_val (v := ?_) (by rfl) (fun W hW => ?_) ?_; rotate_left; (· have e5 := hW.1.cell 0; have f5 := hW.1.lt; have hzW := hW.2; go_simp; with_reducible rfl); simp only [Act.put, List.setIfInBounds_toArray, List.set_cons_zero, List.set_cons_succ])
      simp only [Sx.wpE]
      (refine Sx.wpM_two 0 6 _ _ (by simp only [List.getElem?_toArray, List.getElem?_cons_zero, List.getElem?_cons_succ]; rfl) (by simp only [List.getElem?_toArray, List.getElem?_cons_zero, List.getElem?_cons_succ]; rfl) (by kernel_rfl) (by rfl) (by rfl) ?_ ?_)
      · intro X hX hS
        have hbX : Below V.heap.size V X := (Below.refl _ V).drew.trans hX
        have d8 := (H8.out.below hbX p8).cell 0
        have lX := Nat.lt_of_lt_of_le p8 hbX.size
        (go_simp; simp only [LUpon, Act.put]; try simp only [List.setIfInBounds_toArray, List.set_cons_zero, List.set_cons_succ])
        refine ⟨hS, ?_⟩
        (refine Sx.wpM_one 6 _ (by simp only [List.getElem?_toArray, List.getElem?_cons_zero, List.getElem?_cons_succ]; rfl) (by kernel_rfl) (by rfl) ?_)
        intro Y hY hSY
        have hbY0 : Below V.heap.size V Y := hbX.trans (hY.mono hbX.size)
        clear d8 lX
        (go_simp; simp only [LUpon, Act.put]; try simp only [List.setIfInBounds_toArray, List.set_cons_zero, List.set_cons_succ])
        have HRP := repeat_any ⟨qx, 0, none⟩ n cx q xl Y (HX.out.below hbY0 hbY0.size) hx1 hq1 (by omega) hq2
        rw [hnq] at HRP
        refine HRP.mono ?_
        rintro e Z ⟨q7, rfl, hr7, hb7⟩
        have hbZ : Below V.heap.size V Z := hbY0.trans (hb7.mono hbY0.size)
        have hSZ : Blk Z T3 3 #[.int .i64 (t : Int)] ∧ V.heap.size ≤ Z.heap.size := ⟨hSY.1.below hb7 hSY.1.lt, hbZ.size⟩
        have hrZ : Z.ownsRow V.heap.size 3 1 (.slice (some ⟨q7, 0, none⟩) t t) t ((repW t xl).flatMap cI) := ⟨hr7.1, hr7.2.imp id (fun ⟨g', cap', cur', e1, e2, e3⟩ => ⟨g', cap', cur', e1, Nat.le_trans hbY0.size e2, e3⟩)⟩
        refine ⟨_, rfl, hSZ, ?_⟩
        (refine Sx.wpM_one 7 _ (by simp only [List.getElem?_toArray, List.getElem?_cons_zero, List.getElem?_cons_succ]; rfl) (by kernel_rfl) (by rfl) ?_)
        intro Z1 hZ1 hSZ1
        replace hrZ := owns_below hrZ hZ1
        replace hbZ := hbZ.trans (hZ1.mono hbZ.size)
        replace hSZ := hSZ1
        clear hZ1 hSZ1 hb7 hr7
        obtain ⟨Z2, hZ2⟩ : ∃ Z2 : World, Z2 = Z1 := ⟨_, rfl⟩
        rw [← hZ2] at hrZ hbZ hSZ ⊢
        clear hZ2
        have hzZ := hbZ.size
        (go_simp; simp only [LUpon, Act.put]; try simp only [List.setIfInBounds_toArray, List.set_cons_zero, List.set_cons_succ])
        obtain ⟨LB, hLB⟩ : ∃ LB, Z2.heap.size = LB := ⟨_, rfl⟩
        rw [hLB]
        obtain ⟨Y1, hY1⟩ : ∃ Y1, Z2.alloc (.cells #[.slice (some ⟨q7, 0, none⟩) t t] 22) = Y1 := ⟨_, rfl⟩
        have BL : Blk Y1 LB 22 #[.slice (some ⟨q7, 0, none⟩) t t] := by rw [← hY1]; exact Blk.new' hLB
        have hbY : Below V.heap.size V Y1 := by rw [← hY1]; exact hbZ.alloc hbZ.size _
        have hbZY : Below Z2.heap.size Z2 Y1 := by rw [← hY1]; exact (by repeat' (first | with_reducible assumption | with_reducible exact Below.refl _ _ | refine Below.alloc ?_ ?_ _ | refine Below.setCell ?_ ?_ _ | refine Below.drew ?_ | refine below_drewN ?_ _ | (simp; done) | (simp; omega) | omega))
        have hSY1 : Blk Y1 T3 3 #[.int .i64 (t : Int)] ∧ V.heap.size ≤ Y1.heap.size := ⟨by rw [← hY1]; exact hSZ.1.alloc _, hbY.size⟩
        have hzY := hbY.size
        rw [hY1]
        clear hY1
        refine ⟨hSY1, ?_⟩
        (refine Sx.wpM_one 8 _ (by simp only [List.getElem?_toArray, List.getElem?_cons_zero, List.getElem?_cons_succ]; rfl) (by kernel_rfl) (by rfl) ?_)
        intro X2 hX2 hS2
        have hb2 : Below V.heap.size V X2 := hbY.trans (hX2.mono hzY)
        have hbZ2 : Below Z2.heap.size Z2 X2 := hbZY.trans (hX2.mono hbZY.size)
        have BL2 := BL.below hX2 BL.lt
        refine lupon_append_own_at _ _ _ 42 rfl T3 22 i0 _ 1 24 under42 I0.out I1.out I2.out I3.out rfl (by decide) _ vs.length vs (by rfl) (owns_below H4.out hb2) ⟨LB, 0, none⟩ 1 1 [.slice (some ⟨q7, 0, none⟩) t t] (by rfl) rfl (fun j u hj => World.news_of_block BL2 j u hj) (fun u hu => by rw [List.mem_singleton.1 hu]; rfl) (by unfold maxLen; omega) (by omega) (by have := hb2.size; omega) ?_
        intro v3 X3 ho3 hg3 hat3
        obtain ⟨g3, c3', hv3, -, hlt3⟩ := World.ownsRow.form ho3 (Nat.succ_pos _)
        subst hv3
        have BT3 := hS2.1.grown hg3 (own_ne_blk (owns_below H4.out hb2) hS2.1 (by decide)).symm
        have B82 := H8.out.below hb2 p8
        have B83 := B82.grown hg3 (own_ne_blk (owns_below H4.out hb2) B82 (by decide)).symm
        refine ⟨⟨BT3, Nat.le_trans hS2.2 hg3.size⟩, ?_⟩
        simp only [Act.put, List.setIfInBounds_toArray, List.set_cons_zero, List.set_cons_succ]
        (refine Sx.wpM_one 9 _ (by simp only [List.getElem?_toArray, List.getElem?_cons_zero, List.getElem?_cons_succ]; rfl) (by kernel_rfl) (by rfl) ?_)
        intro X6 hX6 hS6
        have BG6 := B83.below hX6 B83.lt
        have d6 := BG6.cell 0
        have f6 := BG6.frozen 0
        have l6 := BG6.lt
        have ho6 := owns_below ho3 hX6
        clear B83 BT3
        (go_simp; simp only [LUpon, Act.put]; try simp only [List.setIfInBounds_toArray, List.set_cons_zero, List.set_cons_succ])
        refine ⟨⟨hS6.1.far (by simp; omega) _, by simp; exact hS6.2⟩, Sx.wpM_end (by kernel_rfl) ?_⟩
        intro X7 hX7 hS7
        obtain ⟨Xs, hXs⟩ : ∃ Xs, X6.setCell ⟨T8, 0, none⟩ (.slice (some ⟨g3, 0, none⟩) (vs.length + 1) c3') = Xs := ⟨_, rfl⟩
        rw [hXs] at hX7
        have hzs : Xs.heap.size = X6.heap.size := by rw [← hXs]; simp
        have z2 := hb2.size
        have z3 := hg3.size
        have z6 := hX6.size
        have z7 := hX7.size
        have hrow2 := owns_below H4.out hb2
        have hkeep : ∀ q, q < V.heap.size → ¬ ow q → X7.heap[q]? = V.heap[q]? := fun q hq hn => by
          refine (hX7.block q (by omega)).trans ?_
          rw [← hXs]
          refine (Below.heap_setCell _ _ _ _ (fun e => hn (by simp only at e; subst e; exact h8o))).trans ?_
          exact (hX6.block q (by omega)).trans ((hg3.block q (by omega) (fun e => hn (H5.out q e.symm))).trans (hb2.block q hq))
        have hold : ∀ q, q < X2.heap.size → q ≠ T8 → (Value.slice A vs.length c).ownBlock ≠ some q → X7.heap[q]? = X2.heap[q]? := fun q hq h8 hr => by
          refine (hX7.block q (by omega)).trans ?_
          rw [← hXs]
          refine (Below.heap_setCell _ _ _ _ h8).trans ((hX6.block q (by omega)).trans (hg3.block q hq (fun e => hr e.symm)))
        have hos : X7.os = V.os ∧ X7.tape = V.tape ∧ X7.output = V.output := by
          refine ⟨hX7.os.trans ?_, hX7.tape.trans ?_, hX7.output.trans ?_⟩ <;> rw [← hXs]
          · exact hX6.os.trans (hg3.os.trans hb2.os)
          · exact hX6.tape.trans (hg3.tape.trans hb2.tape)
          · exact hX6.output.trans (hg3.output.trans hb2.output)
        have hVz : V.heap.size ≤ X7.heap.size := by omega
        have hB37 : Blk X7 T3 3 #[.int .i64 (t : Int)] := hS7.1
        have B8s : Blk Xs T8 42 #[.slice (some ⟨g3, 0, none⟩) (vs.length + 1) c3'] := by rw [← hXs]; exact BG6.set_ 0 _
        have B87 := B8s.below hX7 B8s.lt
        have ho7 : X7.ownsRow T3 22 1 (.slice (some ⟨g3, 0, none⟩) (vs.length + 1) c3') (vs.length + 1) (vs ++ [.slice (some ⟨q7, 0, none⟩) t t]) := by
          refine owns_below ?_ hX7
          rw [← hXs]
          exact own_setO ho6 BG6 _ (by decide)
        have hne3 : ∀ q m c' xs', X2.ownsRow T3 3 1 (.slice (some ⟨q, 0, none⟩) m c') m xs' → X7.ownsRow T3 3 1 (.slice (some ⟨q, 0, none⟩) m c') m xs' := fun q m c' xs' hq => by
          refine owns_same hq (fun r hr => ?_)
          cases hr
          have hq2 := (hq.lt q rfl).2
          refine hold q hq2 (fun e => own_ne_blk hq B82 (by decide) (by rw [← e]; rfl)) (fun e => ?_)
          rcases own_ne_own hq hrow2 (by decide) with h | h
          · cases h
          · exact h e.symm
        have h6' := H6.out
        have hT3V : T3 ≤ V.heap.size := by have := h3.size; have := HT3.out; omega
        have hfin : AllI t T8 T3 ((pre ++ [(⟨.slice (some ⟨qx, 0, none⟩) n cx, xl⟩ : WE)]).map WE.l) (fun q => (ow q ∨ V.heap.size ≤ q) ∧ q < X7.heap.size) X7 := by
          have hps : perF t ((pre ++ [(⟨.slice (some ⟨qx, 0, none⟩) n cx, xl⟩ : WE)]).map WE.l) = perF t (pre.map WE.l) ++ [repW t xl] := by
            rw [List.map_append]
            show perF t (pre.map WE.l ++ [xl]) = _
            rw [perF_snoc, if_pos (by rw [Hn.out]; exact hr)]
          refine ⟨vs ++ [.slice (some ⟨q7, 0, none⟩) t t], some ⟨g3, 0, none⟩, c3', ?_, ⟨.inl h8o, by have := B87.lt; omega⟩, ?_, ?_, ?_, ?_⟩
          · rw [List.length_append]; exact B87
          · rw [List.length_append]; exact ho7
          · intro q hq
            have e3 : some g3 = some q := hq
            cases e3
            refine ⟨?_, (ho7.lt g3 rfl).2⟩
            rcases hat3 with h | h
            · exact .inl (H5.out g3 h.symm)
            · have e4 : some g3 = some X2.heap.size := h
              cases e4
              exact .inr (by omega)
          · rw [hps, List.length_append, List.length_append, Hvl.out]; rfl
          · intro k y hk
            rw [hps] at hk
            rcases Nat.lt_or_ge k (perF t (pre.map WE.l)).length with h | h
            · rw [List.getElem?_append_left h] at hk
              obtain ⟨q, m, c', s1, s2, s3⟩ := h6' k y hk
              refine ⟨q, m, c', by rw [List.getElem?_append_left (by rw [Hvl.out]; exact h)]; exact s1, hne3 q m c' _ (owns_below s2 hb2), .inl s3, by have := (s2.lt q rfl).2; omega⟩
            · rw [List.getElem?_append_right h] at hk
              have hk0 : k - (perF t (pre.map WE.l)).length = 0 := by
                have := (List.getElem?_eq_some_iff.1 hk).1
                simp at this; omega
              rw [hk0] at hk
              obtain rfl : repW t xl = y := by simpa using hk
              have hrZ2 := owns_below hrZ hbZ2
              have hq7 := hrZ2.lt q7 rfl
              refine ⟨q7, t, t, by rw [List.getElem?_append_right (by rw [Hvl.out]; exact h), Hvl.out, hk0]; rfl, hne3 q7 t t _ ⟨hrZ2.1, .inr ?_⟩, .inr hq7.1, by omega⟩
              rcases hrZ2.2 with ⟨h, -⟩ | ⟨g', cap', cur', e1, e2, e3⟩
              · cases h
              · exact ⟨g', cap', cur', e1, by omega, e3⟩
        have hbw7 : Below w.heap.size w X7 := h3.trans ⟨hos.1, hos.2.1, hos.2.2, hVz, fun j hj => hkeep j (by have := h3.size; omega) (fun ho => by have := hoB j ho; have := HT3.out; omega)⟩
        have HFIN := hid hfin
        have HKEEP := hid hkeep
        clear hfin hkeep hold hne3 h6' hX7 hXs B8s ho7 ho6 d6 f6 l6 BG6 B82 BL2 BL hrow2
        gi_wp2
        exact ⟨fun q => (ow q ∨ V.heap.size ≤ q) ∧ q < X7.heap.size, ⟨HFIN.out, hB37, hbw7, fun j hj => by rcases hj.1 with h | h; exact hoB j h; have := H2.out.lt; omega⟩, ⟨hos.1, hos.2.1, hos.2.2, hVz, fun q hq => hq.1, fun q hq => hq.2, HKEEP.out⟩⟩
      · intro X hX hS
        have hbY0 : Below V.heap.size V X := (Below.refl _ V).drew.trans hX
        (go_simp; simp only [LUpon, Act.put]; try simp only [List.setIfInBounds_toArray, List.set_cons_zero, List.set_cons_succ])
        have HRP := repeat_any ⟨qx, 0, none⟩ n cx q xl X (HX.out.below hbY0 hbY0.size) hx1 hq1 (by omega) hq2
        rw [hnq] at HRP
        refine HRP.mono ?_
        rintro e Z0 ⟨q7, rfl, hr7, hb7⟩
        have hbZ0 : Below V.heap.size V Z0 := hbY0.trans (hb7.mono hbY0.size)
        have hSZ0 : Blk Z0 T3 3 #[.int .i64 (t : Int)] ∧ V.heap.size ≤ Z0.heap.size := ⟨hS.1.below hb7 hS.1.lt, hbZ0.size⟩
        have hrZ0 : Z0.ownsRow V.heap.size 3 1 (.slice (some ⟨q7, 0, none⟩) t t) t ((repW t xl).flatMap cI) := ⟨hr7.1, hr7.2.imp id (fun ⟨g', cap', cur', e1, e2, e3⟩ => ⟨g', cap', cur', e1, Nat.le_trans hbY0.size e2, e3⟩)⟩
        refine ⟨_, rfl, hSZ0, ?_⟩
        (refine Sx.wpM_two 0 7 _ _ (by simp only [List.getElem?_toArray, List.getElem?_cons_zero, List.getElem?_cons_succ]; rfl) (by simp only [List.getElem?_toArray, List.getElem?_cons_zero, List.getElem?_cons_succ]; rfl) (by kernel_rfl) (by rfl) (by rfl) ?_ ?_)
        · intro Z1 hZ1 hSZ1
          have hbZ1 := hbZ0.trans (hZ1.mono hbZ0.size)
          have d8 := (H8.out.below hbZ1 p8).cell 0
          have lX := Nat.lt_of_lt_of_le p8 hbZ1.size
          have hrZ1 := owns_below hrZ0 hZ1
          (go_simp; simp only [LUpon, Act.put]; try simp only [List.setIfInBounds_toArray, List.set_cons_zero, List.set_cons_succ])
          refine ⟨hSZ1, ?_⟩
          (refine Sx.wpM_one 7 _ (by simp only [List.getElem?_toArray, List.getElem?_cons_zero, List.getElem?_cons_succ]; rfl) (by kernel_rfl) (by rfl) ?_)
          intro Z hZ hSZ
          have hrZ := owns_below hrZ1 hZ
          have hbZ := hbZ1.trans (hZ.mono hbZ1.size)
          clear hZ hZ1 hSZ1 hrZ1 hbZ1 hrZ0 hbZ0 hSZ0 hb7 hr7 d8 lX
          have hzZ := hbZ.size
          (go_simp; simp only [LUpon, Act.put]; try simp only [List.setIfInBounds_toArray, List.set_cons_zero, List.set_cons_succ])
          obtain ⟨LB, hLB⟩ : ∃ LB, Z.heap.size = LB := ⟨_, rfl⟩
          rw [hLB]
          obtain ⟨Y1, hY1⟩ : ∃ Y1, Z.alloc (.cells #[.slice (some ⟨q7, 0, none⟩) t t] 22) = Y1 := ⟨_, rfl⟩
          have BL : Blk Y1 LB 22 #[.slice (some ⟨q7, 0, none⟩) t t] := by rw [← hY1]; exact Blk.new' hLB
          have hbY : Below V.heap.size V Y1 := by rw [← hY1]; exact hbZ.alloc hbZ.size _
          have hbZY : Below Z.heap.size Z Y1 := by rw [← hY1]; exact (by repeat' (first | with_reducible assumption | with_reducible exact Below.refl _ _ | refine Below.alloc ?_ ?_ _ | refine Below.setCell ?_ ?_ _ | refine Below.drew ?_ | refine below_drewN ?_ _ | (simp; done) | (simp; omega) | omega))
          have hSY1 : Blk Y1 T3 3 #[.int .i64 (t : Int)] ∧ V.heap.size ≤ Y1.heap.size := ⟨by rw [← hY1]; exact hSZ.1.alloc _, hbY.size⟩
          have hzY := hbY.size
          rw [hY1]
          clear hY1
          refine ⟨hSY1, ?_⟩
          (refine Sx.wpM_one 8 _ (by simp only [List.getElem?_toArray, List.getElem?_cons_zero, List.getElem?_cons_succ]; rfl) (by kernel_rfl) (by rfl) ?_)
          intro X2 hX2 hS2
          have hb2 : Below V.heap.size V X2 := hbY.trans (hX2.mono hzY)
          have hbZ2 : Below Z.heap.size Z X2 := hbZY.trans (hX2.mono hbZY.size)
          have BL2 := BL.below hX2 BL.lt
          refine lupon_append_own_at _ _ _ 42 rfl T3 22 i0 _ 1 24 under42 I0.out I1.out I2.out I3.out rfl (by decide) _ vs.length vs (by rfl) (owns_below H4.out hb2) ⟨LB, 0, none⟩ 1 1 [.slice (some ⟨q7, 0, none⟩) t t] (by rfl) rfl (fun j u hj => World.news_of_block BL2 j u hj) (fun u hu => by rw [List.mem_singleton.1 hu]; rfl) (by unfold maxLen; omega) (by omega) (by have := hb2.size; omega) ?_
          intro v3 X3 ho3 hg3 hat3
          obtain ⟨g3, c3', hv3, -, hlt3⟩ := World.ownsRow.form ho3 (Nat.succ_pos _)
          subst hv3
          have BT3 := hS2.1.grown hg3 (own_ne_blk (owns_below H4.out hb2) hS2.1 (by decide)).symm
          have B82 := H8.out.below hb2 p8
          have B83 := B82.grown hg3 (own_ne_blk (owns_below H4.out hb2) B82 (by decide)).symm
          refine ⟨⟨BT3, Nat.le_trans hS2.2 hg3.size⟩, ?_⟩
          simp only [Act.put, List.setIfInBounds_toArray, List.set_cons_zero, List.set_cons_succ]
          (refine Sx.wpM_one 9 _ (by simp only [List.getElem?_toArray, List.getElem?_cons_zero, List.getElem?_cons_succ]; rfl) (by kernel_rfl) (by rfl) ?_)
          intro X6 hX6 hS6
          have BG6 := B83.below hX6 B83.lt
          have d6 := BG6.cell 0
          have f6 := BG6.frozen 0
          have l6 := BG6.lt
          have ho6 := owns_below ho3 hX6
          clear B83 BT3
          (go_simp; simp only [LUpon, Act.put]; try simp only [List.setIfInBounds_toArray, List.set_cons_zero, List.set_cons_succ])
          refine ⟨⟨hS6.1.far (by simp; omega) _, by simp; exact hS6.2⟩, Sx.wpM_end (by kernel_rfl) ?_⟩
          intro X7 hX7 hS7
          obtain ⟨Xs, hXs⟩ : ∃ Xs, X6.setCell ⟨T8, 0, none⟩ (.slice (some ⟨g3, 0, none⟩) (vs.length + 1) c3') = Xs := ⟨_, rfl⟩
          rw [hXs] at hX7
          have hzs : Xs.heap.size = X6.heap.size := by rw [← hXs]; simp
          have z2 := hb2.size
          have z3 := hg3.size
          have z6 := hX6.size
          have z7 := hX7.size
          have hrow2 := owns_below H4.out hb2
          have hkeep : ∀ q, q < V.heap.size → ¬ ow q → X7.heap[q]? = V.heap[q]? := fun q hq hn => by
            refine (hX7.block q (by omega)).trans ?_
            rw [← hXs]
            refine (Below.heap_setCell _ _ _ _ (fun e => hn (by simp only at e; subst e; exact h8o))).trans ?_
            exact (hX6.block q (by omega)).trans ((hg3.block q (by omega) (fun e => hn (H5.out q e.symm))).trans (hb2.block q hq))
          have hold : ∀ q, q < X2.heap.size → q ≠ T8 → (Value.slice A vs.length c).ownBlock ≠ some q → X7.heap[q]? = X2.heap[q]? := fun q hq h8 hr => by
            refine (hX7.block q (by omega)).trans ?_
            rw [← hXs]
            refine (Below.heap_setCell _ _ _ _ h8).trans ((hX6.block q (by omega)).trans (hg3.block q hq (fun e => hr e.symm)))
          have hos : X7.os = V.os ∧ X7.tape = V.tape ∧ X7.output = V.output := by
            refine ⟨hX7.os.trans ?_, hX7.tape.trans ?_, hX7.output.trans ?_⟩ <;> rw [← hXs]
            · exact hX6.os.trans (hg3.os.trans hb2.os)
            · exact hX6.tape.trans (hg3.tape.trans hb2.tape)
            · exact hX6.output.trans (hg3.output.trans hb2.output)
          have hVz : V.heap.size ≤ X7.heap.size := by omega
          have hB37 : Blk X7 T3 3 #[.int .i64 (t : Int)] := hS7.1
          have B8s : Blk Xs T8 42 #[.slice (some ⟨g3, 0, none⟩) (vs.length + 1) c3'] := by rw [← hXs]; exact BG6.set_ 0 _
          have B87 := B8s.below hX7 B8s.lt
          have ho7 : X7.ownsRow T3 22 1 (.slice (some ⟨g3, 0, none⟩) (vs.length + 1) c3') (vs.length + 1) (vs ++ [.slice (some ⟨q7, 0, none⟩) t t]) := by
            refine owns_below ?_ hX7
            rw [← hXs]
            exact own_setO ho6 BG6 _ (by decide)
          have hne3 : ∀ q m c' xs', X2.ownsRow T3 3 1 (.slice (some ⟨q, 0, none⟩) m c') m xs' → X7.ownsRow T3 3 1 (.slice (some ⟨q, 0, none⟩) m c') m xs' := fun q m c' xs' hq => by
            refine owns_same hq (fun r hr => ?_)
            cases hr
            have hq2 := (hq.lt q rfl).2
            refine hold q hq2 (fun e => own_ne_blk hq B82 (by decide) (by rw [← e]; rfl)) (fun e => ?_)
            rcases own_ne_own hq hrow2 (by decide) with h | h
            · cases h
            · exact h e.symm
          have h6' := H6.out
          have hT3V : T3 ≤ V.heap.size := by have := h3.size; have := HT3.out; omega
          have hfin : AllI t T8 T3 ((pre ++ [(⟨.slice (some ⟨qx, 0, none⟩) n cx, xl⟩ : WE)]).map WE.l) (fun q => (ow q ∨ V.heap.size ≤ q) ∧ q < X7.heap.size) X7 := by
            have hps : perF t ((pre ++ [(⟨.slice (some ⟨qx, 0, none⟩) n cx, xl⟩ : WE)]).map WE.l) = perF t (pre.map WE.l) ++ [repW t xl] := by
              rw [List.map_append]
              show perF t (pre.map WE.l ++ [xl]) = _
              rw [perF_snoc, if_pos (by rw [Hn.out]; exact hr)]
            refine ⟨vs ++ [.slice (some ⟨q7, 0, none⟩) t t], some ⟨g3, 0, none⟩, c3', ?_, ⟨.inl h8o, by have := B87.lt; omega⟩, ?_, ?_, ?_, ?_⟩
            · rw [List.length_append]; exact B87
            · rw [List.length_append]; exact ho7
            · intro q hq
              have e3 : some g3 = some q := hq
              cases e3
              refine ⟨?_, (ho7.lt g3 rfl).2⟩
              rcases hat3 with h | h
              · exact .inl (H5.out g3 h.symm)
              · have e4 : some g3 = some X2.heap.size := h
                cases e4
                exact .inr (by omega)
            · rw [hps, List.length_append, List.length_append, Hvl.out]; rfl
            · intro k y hk
              rw [hps] at hk
              rcases Nat.lt_or_ge k (perF t (pre.map WE.l)).length with h | h
              · rw [List.getElem?_append_left h] at hk
                obtain ⟨q, m, c', s1, s2, s3⟩ := h6' k y hk
                refine ⟨q, m, c', by rw [List.getElem?_append_left (by rw [Hvl.out]; exact h)]; exact s1, hne3 q m c' _ (owns_below s2 hb2), .inl s3, by have := (s2.lt q rfl).2; omega⟩
              · rw [List.getElem?_append_right h] at hk
                have hk0 : k - (perF t (pre.map WE.l)).length = 0 := by
                  have := (List.getElem?_eq_some_iff.1 hk).1
                  simp at this; omega
                rw [hk0] at hk
                obtain rfl : repW t xl = y := by simpa using hk
                have hrZ2 := owns_below hrZ hbZ2
                have hq7 := hrZ2.lt q7 rfl
                refine ⟨q7, t, t, by rw [List.getElem?_append_right (by rw [Hvl.out]; exact h), Hvl.out, hk0]; rfl, hne3 q7 t t _ ⟨hrZ2.1, .inr ?_⟩, .inr hq7.1, by omega⟩
                rcases hrZ2.2 with ⟨h, -⟩ | ⟨g', cap', cur', e1, e2, e3⟩
                · cases h
                · exact ⟨g', cap', cur', e1, by omega, e3⟩
          have hbw7 : Below w.heap.size w X7 := h3.trans ⟨hos.1, hos.2.1, hos.2.2, hVz, fun j hj => hkeep j (by have := h3.size; omega) (fun ho => by have := hoB j ho; have := HT3.out; omega)⟩
          have HFIN := hid hfin
          have HKEEP := hid hkeep
          clear hfin hkeep hold hne3 h6' hX7 hXs B8s ho7 ho6 d6 f6 l6 BG6 B82 BL2 BL hrow2
          gi_wp2
          exact ⟨fun q => (ow q ∨ V.heap.size ≤ q) ∧ q < X7.heap.size, ⟨HFIN.out, hB37, hbw7, fun j hj => by rcases hj.1 with h | h; exact hoB j h; have := H2.out.lt; omega⟩, ⟨hos.1, hos.2.1, hos.2.2, hVz, fun q hq => hq.1, fun q hq => hq.2, HKEEP.out⟩⟩
        · intro Z hZ hSZ
          have hrZ := owns_below hrZ0 hZ
          have hbZ := hbZ0.trans (hZ.mono hbZ0.size)
          clear hZ hrZ0 hbZ0 hSZ0 hb7 hr7
          have hzZ := hbZ.size
          (go_simp; simp only [LUpon, Act.put]; try simp only [List.setIfInBounds_toArray, List.set_cons_zero, List.set_cons_succ])
          obtain ⟨LB, hLB⟩ : ∃ LB, Z.heap.size = LB := ⟨_, rfl⟩
          rw [hLB]
          obtain ⟨Y1, hY1⟩ : ∃ Y1, Z.alloc (.cells #[.slice (some ⟨q7, 0, none⟩) t t] 22) = Y1 := ⟨_, rfl⟩
          have BL : Blk Y1 LB 22 #[.slice (some ⟨q7, 0, none⟩) t t] := by rw [← hY1]; exact Blk.new' hLB
          have hbY : Below V.heap.size V Y1 := by rw [← hY1]; exact hbZ.alloc hbZ.size _
          have hbZY : Below Z.heap.size Z Y1 := by rw [← hY1]; exact (by repeat' (first | with_reducible assumption | with_reducible exact Below.refl _ _ | refine Below.alloc ?_ ?_ _ | refine Below.setCell ?_ ?_ _ | refine Below.drew ?_ | refine below_drewN ?_ _ | (simp; done) | (simp; omega) | omega))
          have hSY1 : Blk Y1 T3 3 #[.int .i64 (t : Int)] ∧ V.heap.size ≤ Y1.heap.size := ⟨by rw [← hY1]; exact hSZ.1.alloc _, hbY.size⟩
          have hzY := hbY.size
          rw [hY1]
          clear hY1
          refine ⟨hSY1, ?_⟩
          (refine Sx.wpM_one 0 _ (by simp only [List.getElem?_toArray, List.getElem?_cons_zero, List.getElem?_cons_succ]; rfl) (by kernel_rfl) (by rfl) ?_)
          intro Z1 hZ1 hSZ1
          have hbZ1 := hbY.trans (hZ1.mono hbY.size)
          have d8 := (H8.out.below hbZ1 p8).cell 0
          have lX := Nat.lt_of_lt_of_le p8 hbZ1.size
          (go_simp; simp only [LUpon, Act.put]; try simp only [List.setIfInBounds_toArray, List.set_cons_zero, List.set_cons_succ])
          refine ⟨hSZ1, ?_⟩
          replace BL := BL.below hZ1 BL.lt
          replace hbZY := hbZY.trans (hZ1.mono hbZY.size)
          replace hbY := hbZ1
          replace hzY := hbY.size
          clear d8 lX hZ1 hSZ1 hSY1
          (refine Sx.wpM_one 8 _ (by simp only [List.getElem?_toArray, List.getElem?_cons_zero, List.getElem?_cons_succ]; rfl) (by kernel_rfl) (by rfl) ?_)
          intro X2 hX2 hS2
          have hb2 : Below V.heap.size V X2 := hbY.trans (hX2.mono hzY)
          have hbZ2 : Below Z.heap.size Z X2 := hbZY.trans (hX2.mono hbZY.size)
          have BL2 := BL.below hX2 BL.lt
          refine lupon_append_own_at _ _ _ 42 rfl T3 22 i0 _ 1 24 under42 I0.out I1.out I2.out I3.out rfl (by decide) _ vs.length vs (by rfl) (owns_below H4.out hb2) ⟨LB, 0, none⟩ 1 1 [.slice (some ⟨q7, 0, none⟩) t t] (by rfl) rfl (fun j u hj => World.news_of_block BL2 j u hj) (fun u hu => by rw [List.mem_singleton.1 hu]; rfl) (by unfold maxLen; omega) (by omega) (by have := hb2.size; omega) ?_
          intro v3 X3 ho3 hg3 hat3
          obtain ⟨g3, c3', hv3, -, hlt3⟩ := World.ownsRow.form ho3 (Nat.succ_pos _)
          subst hv3
          have BT3 := hS2.1.grown hg3 (own_ne_blk (owns_below H4.out hb2) hS2.1 (by decide)).symm
          have B82 := H8.out.below hb2 p8
          have B83 := B82.grown hg3 (own_ne_blk (owns_below H4.out hb2) B82 (by decide)).symm
          refine ⟨⟨BT3, Nat.le_trans hS2.2 hg3.size⟩, ?_⟩
          simp only [Act.put, List.setIfInBounds_toArray, List.set_cons_zero, List.set_cons_succ]
          (refine Sx.wpM_one 9 _ (by simp only [List.getElem?_toArray, List.getElem?_cons_zero, List.getElem?_cons_succ]; rfl) (by kernel_rfl) (by rfl) ?_)
          intro X6 hX6 hS6
          have BG6 := B83.below hX6 B83.lt
          have d6 := BG6.cell 0
          have f6 := BG6.frozen 0
          have l6 := BG6.lt
          have ho6 := owns_below ho3 hX6
          clear B83 BT3
          (go_simp; simp only [LUpon, Act.put]; try simp only [List.setIfInBounds_toArray, List.set_cons_zero, List.set_cons_succ])
          refine ⟨⟨hS6.1.far (by simp; omega) _, by simp; exact hS6.2⟩, Sx.wpM_end (by kernel_rfl) ?_⟩
          intro X7 hX7 hS7
          obtain ⟨Xs, hXs⟩ : ∃ Xs, X6.setCell ⟨T8, 0, none⟩ (.slice (some ⟨g3, 0, none⟩) (vs.length + 1) c3') = Xs := ⟨_, rfl⟩
          rw [hXs] at hX7
          have hzs : Xs.heap.size = X6.heap.size := by rw [← hXs]; simp
          have z2 := hb2.size
          have z3 := hg3.size
          have z6 := hX6.size
          have z7 := hX7.size
          have hrow2 := owns_below H4.out hb2
          have hkeep : ∀ q, q < V.heap.size → ¬ ow q → X7.heap[q]? = V.heap[q]? := fun q hq hn => by
            refine (hX7.block q (by omega)).trans ?_
            rw [← hXs]
            refine (Below.heap_setCell _ _ _ _ (fun e => hn (by simp only at e; subst e; exact h8o))).trans ?_
            exact (hX6.block q (by omega)).trans ((hg3.block q (by omega) (fun e => hn (H5.out q e.symm))).trans (hb2.block q hq))
          have hold : ∀ q, q < X2.heap.size → q ≠ T8 → (Value.slice A vs.length c).ownBlock ≠ some q → X7.heap[q]? = X2.heap[q]? := fun q hq h8 hr => by
            refine (hX7.block q (by omega)).trans ?_
            rw [← hXs]
            refine (Below.heap_setCell _ _ _ _ h8).trans ((hX6.block q (by omega)).trans (hg3.block q hq (fun e => hr e.symm)))
          have hos : X7.os = V.os ∧ X7.tape = V.tape ∧ X7.output = V.output := by
            refine ⟨hX7.os.trans ?_, hX7.tape.trans ?_, hX7.output.trans ?_⟩ <;> rw [← hXs]
            · exact hX6.os.trans (hg3.os.trans hb2.os)
            · exact hX6.tape.trans (hg3.tape.trans hb2.tape)
            · exact hX6.output.trans (hg3.output.trans hb2.output)
          have hVz : V.heap.size ≤ X7.heap.size := by omega
          have hB37 : Blk X7 T3 3 #[.int .i64 (t : Int)] := hS7.1
          have B8s : Blk Xs T8 42 #[.slice (some ⟨g3, 0, none⟩) (vs.length + 1) c3'] := by rw [← hXs]; exact BG6.set_ 0 _
          have B87 := B8s.below hX7 B8s.lt
          have ho7 : X7.ownsRow T3 22 1 (.slice (some ⟨g3, 0, none⟩) (vs.length + 1) c3') (vs.length + 1) (vs ++ [.slice (some ⟨q7, 0, none⟩) t t]) := by
            refine owns_below ?_ hX7
            rw [← hXs]
            exact own_setO ho6 BG6 _ (by decide)
          have hne3 : ∀ q m c' xs', X2.ownsRow T3 3 1 (.slice (some ⟨q, 0, none⟩) m c') m xs' → X7.ownsRow T3 3 1 (.slice (some ⟨q, 0, none⟩) m c') m xs' := fun q m c' xs' hq => by
            refine owns_same hq (fun r hr => ?_)
            cases hr
            have hq2 := (hq.lt q rfl).2
            refine hold q hq2 (fun e => own_ne_blk hq B82 (by decide) (by rw [← e]; rfl)) (fun e => ?_)
            rcases own_ne_own hq hrow2 (by decide) with h | h
            · cases h
            · exact h e.symm
          have h6' := H6.out
          have hT3V : T3 ≤ V.heap.size := by have := h3.size; have := HT3.out; omega
          have hfin : AllI t T8 T3 ((pre ++ [(⟨.slice (some ⟨qx, 0, none⟩) n cx, xl⟩ : WE)]).map WE.l) (fun q => (ow q ∨ V.heap.size ≤ q) ∧ q < X7.heap.size) X7 := by
            have hps : perF t ((pre ++ [(⟨.slice (some ⟨qx, 0, none⟩) n cx, xl⟩ : WE)]).map WE.l) = perF t (pre.map WE.l) ++ [repW t xl] := by
              rw [List.map_append]
              show perF t (pre.map WE.l ++ [xl]) = _
              rw [perF_snoc, if_pos (by rw [Hn.out]; exact hr)]
            refine ⟨vs ++ [.slice (some ⟨q7, 0, none⟩) t t], some ⟨g3, 0, none⟩, c3', ?_, ⟨.inl h8o, by have := B87.lt; omega⟩, ?_, ?_, ?_, ?_⟩
            · rw [List.length_append]; exact B87
            · rw [List.length_append]; exact ho7
            · intro q hq
              have e3 : some g3 = some q := hq
              cases e3
              refine ⟨?_, (ho7.lt g3 rfl).2⟩
              rcases hat3 with h | h
              · exact .inl (H5.out g3 h.symm)
              · have e4 : some g3 = some X2.heap.size := h
                cases e4
                exact .inr (by omega)
            · rw [hps, List.length_append, List.length_append, Hvl.out]; rfl
            · intro k y hk
              rw [hps] at hk
              rcases Nat.lt_or_ge k (perF t (pre.map WE.l)).length with h | h
              · rw [List.getElem?_append_left h] at hk
                obtain ⟨q, m, c', s1, s2, s3⟩ := h6' k y hk
                refine ⟨q, m, c', by rw [List.getElem?_append_left (by rw [Hvl.out]; exact h)]; exact s1, hne3 q m c' _ (owns_below s2 hb2), .inl s3, by have := (s2.lt q rfl).2; omega⟩
              · rw [List.getElem?_append_right h] at hk
                have hk0 : k - (perF t (pre.map WE.l)).length = 0 := by
                  have := (List.getElem?_eq_some_iff.1 hk).1
                  simp at this; omega
                rw [hk0] at hk
                obtain rfl : repW t xl = y := by simpa using hk
                have hrZ2 := owns_below hrZ hbZ2
                have hq7 := hrZ2.lt q7 rfl
                refine ⟨q7, t, t, by rw [List.getElem?_append_right (by rw [Hvl.out]; exact h), Hvl.out, hk0]; rfl, hne3 q7 t t _ ⟨hrZ2.1, .inr ?_⟩, .inr hq7.1, by omega⟩
                rcases hrZ2.2 with ⟨h, -⟩ | ⟨g', cap', cur', e1, e2, e3⟩
                · cases h
                · exact ⟨g', cap', cur', e1, by omega, e3⟩
          have hbw7 : Below w.heap.size w X7 := h3.trans ⟨hos.1, hos.2.1, hos.2.2, hVz, fun j hj => hkeep j (by have := h3.size; omega) (fun ho => by have := hoB j ho; have := HT3.out; omega)⟩
          have HFIN := hid hfin
          have HKEEP := hid hkeep
          clear hfin hkeep hold hne3 h6' hX7 hXs B8s ho7 ho6 d6 f6 l6 BG6 B82 BL2 BL hrow2
          gi_wp2
          exact ⟨fun q => (ow q ∨ V.heap.size ≤ q) ∧ q < X7.heap.size, ⟨HFIN.out, hB37, hbw7, fun j hj => by rcases hj.1 with h | h; exact hoB j h; have := H2.out.lt; omega⟩, ⟨hos.1, hos.2.1, hos.2.2, hVz, fun q hq => hq.1, fun q hq => hq.2, HKEEP.out⟩⟩
    · have t1 : (((t : Int) % (n : Int)) == 0) = false := by rw [hmod]; simp; omega
      clear hmod
      gi_wp2
      have hps : perF t ((pre ++ [(⟨.slice (some ⟨qx, 0, none⟩) n cx, xl⟩ : WE)]).map WE.l) = perF t (pre.map WE.l) := by
        rw [List.map_append]
        show perF t (pre.map WE.l ++ [xl]) = _
        rw [perF_snoc, if_neg (by rw [Hn.out]; exact hr)]
      refine ⟨ow, ⟨?_, H2.out, h3, hoB⟩, Grow.refl hlt⟩
      obtain ⟨vs, A, c, h8⟩ := H1.out
      unfold AllI
      rw [hps]
      exact ⟨vs, A, c, h8⟩
  case done =>
    rintro Dm ys ow V hDm hys ⟨h1, h2, h3, h4⟩ hg hnB rfl hK
    rw [hys] at h1
    obtain ⟨v, hv8, hN⟩ := h1.lis
    have l8 : T8 < V.heap.size := by obtain ⟨vs, A, c, h8, -⟩ := h1; exact h8.lt
    have HN := hid hN
    have hT := HT3.out
    have hzz := Hz5.out
    simp only [hTT]
    clear h1 h2 hys hN
    gi_wp2
    refine leavesM_marks [W5.heap.size] _ (by simp) (by simpa using hK) (fun w' ho => ⟨.tuple #[v, .int .i64 0], by simp [results, Try.results40, go_sem, *], ⟨v, by rw [HE.out], ?_, ho.below h3 (by simp; omega)⟩⟩)
    rw [hV.out]
    rw [hT]
    exact newLi_off HN.out ho
end Go.Proofs.Ytiobmfggnacplaa
/- Walks: All, whole; Row. -/
namespace Go.Proofs.Ytiobmfggnacplaa
open Go.RowKit Go.Shelf
attribute [local go_sem] Oper.semAt_some
theorem all_any (K t : Int) (w : World) : Calls Try.prog 40 #[.int .i64 K, .int .i64 t] w fun e w' => ∃ v, e = .returned (.tuple #[v, .int .i64 (allE K t)]) ∧ NewLi w' w.heap.size v (allV K t) ∧ Below w.heap.size w w' := by
  by_cases he : allE K t = 0
  · have hcE : cntE K t = 0 := by
      unfold allE at he
      by_cases h : cntE K t = 0
      · exact h
      · rw [if_pos h] at he; exact absurd he h
    obtain ⟨h1, h2⟩ := cntE_ok hcE
    have := all_ok K.toNat t.toNat w (by omega) (by omega) (by omega) (by omega) (by rw [Int.toNat_of_nonneg (by omega), Int.toNat_of_nonneg (by omega)]; exact he)
    rwa [Int.toNat_of_nonneg (by omega), Int.toNat_of_nonneg (by omega)] at this
  · exact all_bad K t w he
def rowF (L : Nat) (W : List (List Int)) : List Int := (W.filter fun w => L % w.length == 0).flatten
theorem rowF_snoc (L : Nat) (W : List (List Int)) (w : List Int) : rowF L (W ++ [w]) = if L % w.length = 0 then rowF L W ++ w else rowF L W := by
  unfold rowF
  rw [List.filter_append, List.flatten_append]
  by_cases h : L % w.length = 0
  · rw [if_pos h]; simp [h]
  · rw [if_neg h]; simp [h]
def rowV (K L : Int) : List Int := if rowE K L = 0 then rowF L.toNat (wdsL K.toNat L.toNat) else []
theorem rowE_ok {K L : Int} (h : rowE K L = 0) : (1 ≤ K ∧ K ≤ 4) ∧ (1 ≤ L ∧ L ≤ 6) ∧ K.toNat ^ L.toNat ≤ 64 := by
  unfold rowE at h
  split at h
  · cases h
  · split at h
    · cases h
    · refine ⟨by omega, by omega, ?_⟩
      have h3 : K ^ L.toNat ≤ 64 := by omega
      have h4 : ((K.toNat ^ L.toNat : Nat) : Int) = K ^ L.toNat := by rw [Int.natCast_pow, Int.toNat_of_nonneg (by omega)]
      omega
/-- What has been joined. -/
def RowI (L T7 Bo : Nat) (P : List (List Int)) (ow : Foot) (V : World) : Prop :=
  ∃ (A : Option Addr) (n c : Nat), Blk V T7 22 #[.slice A n c] ∧ ow T7 ∧ V.ownsRow Bo 3 1 (.slice A n c) n ((rowF L P).flatMap cI) ∧ (∀ q, (Value.slice A n c).ownBlock = some q → ow q) ∧ (n = 0 → A = none) ∧ n ≤ 12 * P.length
theorem RowI.stab {L T7 Bo : Nat} {P : List (List Int)} {ow : Foot} {V V' : World} (h : RowI L T7 Bo P ow V) (sm : ∀ q, q < V.heap.size → ow q → V'.heap[q]? = V.heap[q]?) : RowI L T7 Bo P ow V' := by
  obtain ⟨A, n, c, h2, h3, h4, h5, h6, h7⟩ := h
  exact ⟨A, n, c, (sm _ h2.lt h3).trans h2, h3, owns_same h4 (fun q hq => sm q (h4.lt q hq).2 (h5 q hq)), h5, h6, h7⟩
theorem row_bad (K L : Int) (w : World) (hbad : rowE K L ≠ 0) : Calls Try.prog 43 #[.int .i64 K, .int .i64 L] w fun e w' => ∃ A c, e = .returned (.tuple #[.slice A (rowV K L).length c, .int .i64 (rowE K L)]) ∧ Ret w' A (rowV K L).length c (rowV K L) ∧ Below w.heap.size w w' := by
  have hv : Hid (rowV K L = []) := hid (if_neg hbad)
  obtain ⟨W1, hW1⟩ : ∃ W1, w.alloc (.cells #[.int .i64 L] 3) = W1 := ⟨_, rfl⟩
  have hb1 : Below w.heap.size w W1 := by rw [← hW1]; exact (by repeat' (first | with_reducible assumption | with_reducible exact Below.refl _ _ | refine Below.alloc ?_ ?_ _ | refine Below.setCell ?_ ?_ _ | refine Below.drew ?_ | refine below_drewN ?_ _ | (simp; done) | (simp; omega) | omega))
  have B3 : Blk W1 w.heap.size 3 #[.int .i64 L] := by rw [← hW1]; exact Blk.new' rfl
  have c3 := B3.cell 0
  have l3 := B3.lt
  obtain ⟨E, hE⟩ : ∃ E, rowE K L = E := ⟨_, rfl⟩
  have HE := hid hE
  rw [hE] at hbad
  have t1 : (E != 0) = true := by simpa using hbad
  clear hE hbad
  go_enter Try.func43, Try.ntmps43
  go_wp2_with (go_at_call 84; refine (rowed_any K L _).mono ?_; rw [HE.out]; rintro e W2 ⟨rfl, hb2⟩)
  refine bodyPost_ret (v := .tuple #[.slice none 0 0, .int .i64 E]) (by first | (simp [results, Try.results43, go_sem]; done) | (simp [results, Try.results43, go_sem, *]; done) | (simp [results, Try.results43, go_sem, World.cell?_setCell_same', *]; done) | (simp [results, Try.results43, go_sem]; first | exact ⟨rfl, rfl⟩ | rfl)) rfl ⟨none, 0, by rw [hv.out, HE.out]; rfl, by rw [hv.out]; exact Ret.nil _, hb1.trans (hb2.mono hb1.size)⟩
set_option maxRecDepth 100000 in
set_option maxHeartbeats 4000000 in
theorem row_ok (K L : Nat) (w : World) (hK1 : 1 ≤ K) (hK4 : K ≤ 4) (hL1 : 1 ≤ L) (hL2 : L ≤ 6) (he : rowE K L = 0) (hfew : fewB K L = true) : Calls Try.prog 43 #[.int .i64 (K : Int), .int .i64 (L : Int)] w fun e w' => ∃ A c, e = .returned (.tuple #[.slice A (rowV K L).length c, .int .i64 (rowE K L)]) ∧ Ret w' A (rowV K L).length c (rowV K L) ∧ Below w.heap.size w w' := by
  have hlen := wdsL_few ⟨K, by omega⟩ ⟨L, by omega⟩ hfew
  simp only at hlen
  have hV : Hid (rowV K L = rowF L (wdsL K L)) := hid (by unfold rowV; rw [if_pos he]; rfl)
  have HE := hid he
  have Hlen := hid hlen
  clear he hlen hfew
  obtain ⟨i0, hi0, hi1, hi2, hi3⟩ := info_parts' info3
  have I0 := hid hi0; have I1 := hid hi1; have I2 := hid hi2; have I3 := hid hi3
  clear hi0 hi1 hi2 hi3
  obtain ⟨W1, hW1⟩ : ∃ W1, w.alloc (.cells #[.int .i64 (L : Int)] 3) = W1 := ⟨_, rfl⟩
  have hb1 : Below w.heap.size w W1 := by rw [← hW1]; exact (by repeat' (first | with_reducible assumption | with_reducible exact Below.refl _ _ | refine Below.alloc ?_ ?_ _ | refine Below.setCell ?_ ?_ _ | refine Below.drew ?_ | refine below_drewN ?_ _ | (simp; done) | (simp; omega) | omega))
  have B3 : Blk W1 w.heap.size 3 #[.int .i64 (L : Int)] := by rw [← hW1]; exact Blk.new' rfl
  have c3 := B3.cell 0
  have l3 := B3.lt
  (refine (callsIn_wide (n := 9)).1 ?_; refine callsIn_of_wp_marks (F := Wd none) Try.func43 rfl trivial ?_ rfl; simp only [Try.ntmps43, List.size_toArray, List.length_cons, List.length_nil, Nat.reduceAdd, Nat.reduceSub, Array.replicate_succ, Array.replicate_zero, List.push_toArray, List.append_toArray, List.nil_append, List.cons_append])
  gi_wp2_with (first | (gi_at_call 84; refine (calls_wd (rowed_any K L _)).mono ?_; rw [HE.out]; rintro e W2 ⟨rfl, hb2⟩; have hz2 := hb2.size; replace B3 := B3.below hb2 l3; have hbw : Below w.heap.size w W2 := hb1.trans (hb2.mono hb1.size); have c3 := B3.cell 0; have l3 := B3.lt; have l3' : w.heap.size < W2.heap.size + 1 := Nat.lt_succ_of_lt l3) | (gi_at_call 80; refine (calls_wd (wordsIt_any _ _ _)).mono ?_; rintro e W5 ⟨rfl, hW5⟩))
  have hz5 : W5.heap.size = W2.heap.size + 3 := by rw [← hW5]; simp
  have hb5 : Below W2.heap.size W2 W5 := by rw [← hW5]; exact (by repeat' (first | with_reducible assumption | with_reducible exact Below.refl _ _ | refine Below.alloc ?_ ?_ _ | refine Below.setCell ?_ ?_ _ | refine Below.drew ?_ | refine below_drewN ?_ _ | (simp; done) | (simp; omega) | omega))
  have X7 : Blk W5 W2.heap.size 22 #[.slice none 0 0] := by rw [← hW5]; exact ((Blk.new' rfl).alloc _).alloc _
  have Xk : Blk W5 (W2.heap.size + 1) 3 #[.int .i64 (K : Int)] := by rw [← hW5]; exact (Blk.new' (by first | (simp; done) | (simp; omega) | omega)).alloc _
  have Xm : Blk W5 (W2.heap.size + 1 + 1) 3 #[.int .i64 (L : Int)] := by rw [← hW5]; exact Blk.new' (by first | (simp; done) | (simp; omega) | omega)
  replace B3 := B3.below hb5 l3
  replace hbw : Below w.heap.size w W5 := hbw.trans (hb5.mono hbw.size)
  obtain ⟨T7, hT7⟩ : ∃ T7, W2.heap.size = T7 := ⟨_, rfl⟩
  obtain ⟨T3, hT3⟩ : ∃ T3, w.heap.size = T3 := ⟨_, rfl⟩
  have hT37 : T3 < T7 := by omega
  rw [hT7] at X7 Xk Xm hz5
  rw [hT3] at B3
  rw [hT7, hT3]
  have Hz5 := hid hz5
  have HT3 := hid hT3
  clear hW5 hb5 hb2 hz2 c3 l3 l3' hT7 hz5 hb1 hW1
  refine with_frame fun TT hTT => ?_
  refine wpIn_rangeFunc_footW (F := Wd none) (α := WE) W5.heap.size rfl rfl rfl (gf := 96) (lb := #[.pointer (some ⟨T7 + 1 + 1, 0, none⟩), .pointer (some ⟨T7 + 1, 0, none⟩)]) (by rw [hTT]; rfl) trivial (enters_of Try.func96 (by kernel_rfl) rfl)
    (encs := encW) (Rd := RdWd K L) (Nb := (wdsL K L).length) (S := fun xs => xs.map WE.l = wdsL K L) (Sp := fun _ => True) (fun j => j = T7) (fun j hj => by have := Hz5.out; omega) ?hseq rdWd_keep (fun _ => rfl)
    (fun ys ow V => RowI L T7 T3 (ys.map WE.l) ow V ∧ Blk V T3 3 #[.int .i64 (L : Int)] ∧ Below w.heap.size w V ∧ ∀ j, ow j → T3 < j) (fun c ys ow V => False) ?hI (fun c x ow V V' h => h.elim) ?h0
    (fun x a' V => a' = { tmps := (TT.setIfInBounds 18 x.v).setIfInBounds 8 x.v, defers := [] }) ?assign (fun x a' V o h => h) ?body ?done ?stop
  case hseq =>
    intro W' hW'
    have hz := hW'.size
    have hzz := Hz5.out
    refine words_give W' _ (T7 + 1 + 1) (T7 + 1) K L hK1 hK4 hL1 (by omega) Hlen.out ⟨(Xm.below hW' (by omega)).cell 0, (Xk.below hW' (by omega)).cell 0, by omega, by omega, ?_, ?_⟩
    all_goals
      rintro (h | h | h) <;> omega
  case hI =>
    rintro ys ow V V' ⟨h1, h2, h3, h4⟩ hk hz e1 e2 e3
    have hzz := Hz5.out
    have hT := HT3.out
    exact ⟨h1.stab (fun q hq ho => hk q (.inr ho) hq), (hk _ (.inl (by omega)) h2.lt).trans h2, h3.trans ⟨e1, e2, e3, hz, fun j hj => hk j (.inl (by omega)) (by have := h3.size; omega)⟩, h4⟩
  case h0 =>
    exact ⟨⟨none, 0, 0, X7, rfl, World.ownsRow_nil _ _ _ _, (fun q hq => by cases hq), fun _ => rfl, Nat.zero_le _⟩, B3, hbw, fun j hj => by omega⟩
  case assign =>
    rintro l x V Kk hrd hV hK
    simp only [encW, hTT]
    gi_wp2
    exact hK _ _ (Below.refl _ _) (by rw [hTT]; rfl)
  case stop =>
    rintro Dm c pre own' V _ _ h
    exact h.elim
  case body =>
    rintro l pre ow x a' V ⟨h1, h2, h3, hoB⟩ hNb hlt hnB hrd rfl hV
    obtain ⟨xv, xl⟩ := x
    obtain ⟨qx, cx, hxv, hxin, hxc, hx0, hxok, hxq, -⟩ := hrd
    have hxv' : xv = .slice (some ⟨qx, 0, none⟩) xl.length cx := hxv
    subst hxv'
    have hx1 : 1 ≤ xl.length := List.length_pos_iff.2 hx0
    have hxt : xl.length ≤ L := hxok.1
    have HX : Hid (InS V V.heap.size (some ⟨qx, 0, none⟩) xl.length xl) := hid hxin
    have H1 := hid h1
    have H2 := hid h2
    have c3 := h2.cell 0
    have l3 := h2.lt
    obtain ⟨m, hm⟩ : ∃ m, xl.length = m := ⟨_, rfl⟩
    rw [hm] at hx1 hxt HX hxc ⊢
    have Hm := hid hm
    have hm0 : ¬ (m : Int) = 0 := by omega
    have hm00 : ¬ m = 0 := by omega
    have hpl : pre.length < 800 := by have e2 := Hlen.out; omega
    clear hxin hxv hxok hx0 h1 h2 hm
    simp only [hTT, List.setIfInBounds_toArray, List.set_cons_zero, List.set_cons_succ]
    have hmod : (L : Int) % (m : Int) = ((L % m : Nat) : Int) := (Int.natCast_emod L m).symm
    by_cases hr : L % m = 0
    · have t1 : (((L : Int) % (m : Int)) == 0) = true := by rw [hmod, hr]; rfl
      obtain ⟨A, n, c, h7, h7o, h4, h5, h6, hn⟩ := H1.out
      have c7 := h7.cell 0
      have p7 := h7.lt
      have f7 := h7.frozen 0
      have H7 := hid h7
      have H4 := hid h4
      have H5 := hid h5
      have hn8 : n ≤ 12 * 800 := by rw [List.length_map] at hn; omega
      have hHF : Hid (Full V (.slice A n n) n ((rowF L (pre.map WE.l)).flatMap cI)) := hid (full_of_ins (Sl.of_own h4 : InS V V.heap.size A n _) h6)
      have hfl : ((rowF L (pre.map WE.l)).flatMap cI).length = n * 1 := h4.1
      have Hfl := hid hfl
      have hxfl := hid HX.out.1
      have hnl := hid hn
      have hcap : n ≤ c := own_capN h4
      have hAn := hid h6
      clear hmod h7 h4 h5 h6 hn hfl
      have hTV : T3 ≤ V.heap.size := by have := h3.size; have := HT3.out; omega
      have Hxc : Hid (∀ j u, (xl.flatMap cI)[j]? = some u → V.cell? ((⟨qx, 0, none⟩ : Addr).add j) = some u) := hid (fun j u hu => by
        obtain ⟨b, off, e, hb, hc⟩ := HX.out.2 hx1
        cases e
        rw [add_at]; exact hc j u hu)
      have fin : ∀ (w9 : World) (cap : Nat) (v9 : Value), v9 = .slice (some ⟨V.heap.size, 0, none⟩) (n + m) cap → w9.ownsRow T3 3 1 v9 (n + m) ((rowF L (pre.map WE.l)).flatMap cI ++ xl.flatMap cI) → V.grownBy w9 none → V.heap.size < w9.heap.size → ∃ own', (RowI L T7 T3 ((pre ++ [(⟨.slice (some ⟨qx, 0, none⟩) m cx, xl⟩ : WE)]).map WE.l) own' (w9.setCell ⟨T7, 0, none⟩ v9) ∧ Blk (w9.setCell ⟨T7, 0, none⟩ v9) T3 3 #[.int .i64 (L : Int)] ∧ Below w.heap.size w (w9.setCell ⟨T7, 0, none⟩ v9) ∧ ∀ j, own' j → T3 < j) ∧ Grow ow V own' (w9.setCell ⟨T7, 0, none⟩ v9) := fun w9 cap v9 hv9 ho9 hg9 hz9 => by
        have B79 := H7.out.grown hg9 (by simp)
        have hk : ∀ q, q < V.heap.size → q ≠ T7 → (w9.setCell ⟨T7, 0, none⟩ v9).heap[q]? = V.heap[q]? := fun q hq hne => (Below.heap_setCell _ _ _ _ hne).trans (hg9.block q hq (by simp))
        have hzs : (w9.setCell ⟨T7, 0, none⟩ v9).heap.size = w9.heap.size := by simp
        have hps : rowF L ((pre ++ [(⟨.slice (some ⟨qx, 0, none⟩) m cx, xl⟩ : WE)]).map WE.l) = rowF L (pre.map WE.l) ++ xl := by
          rw [List.map_append]
          show rowF L (pre.map WE.l ++ [xl]) = _
          rw [rowF_snoc, if_pos (by rw [Hm.out]; exact hr)]
        have hT37' : T3 ≠ T7 := by omega
        refine ⟨fun q => (ow q ∨ V.heap.size ≤ q) ∧ q < w9.heap.size, ⟨⟨some ⟨V.heap.size, 0, none⟩, n + m, cap, ?_, ⟨.inl h7o, by omega⟩, ?_, ?_, fun h => by omega, ?_⟩, ?_, ?_, ?_⟩, ?_⟩
        · rw [← hv9]; exact B79.set_ 0 _
        · rw [hps, List.flatMap_append, ← hv9]
          exact own_setO ho9 B79 _ (by decide) |> fun h => h
        · intro q hq
          have e3 : some V.heap.size = some q := hq
          cases e3
          exact ⟨.inr (Nat.le_refl _), hz9⟩
        · have h8 := hnl.out
          rw [List.length_map] at h8 ⊢
          rw [List.length_append]
          simp; omega
        · exact (hk T3 H2.out.lt hT37').trans H2.out
        · exact h3.trans ⟨hg9.os, hg9.tape, hg9.output, by rw [hzs]; exact hg9.size, fun j hj => hk j (by have := h3.size; omega) (fun e => by have := HT3.out; omega)⟩
        · intro j hj
          rcases hj.1 with h | h
          · exact hoB j h
          · have := H2.out.lt; omega
        · exact ⟨hg9.os, hg9.tape, hg9.output, by rw [hzs]; exact hg9.size, fun q hq => hq.1, fun q hq => by rw [hzs]; exact hq.2, fun q hq hn => hk q hq (fun e => hn (by rw [e]; exact h7o))⟩
      have FIN := hid fin
      clear fin
      cases A with
      | none =>
        have hn0 : n = 0 := by
          rcases H4.out.2 with ⟨e2, h⟩ | ⟨g', cap', cur', e2, -⟩
          · exact h
          · cases e2
        subst hn0
        have hc0 : c = 0 := by
          rcases H4.out.2 with ⟨e2, h⟩ | ⟨g', cap', cur', e2, -⟩
          · cases e2; rfl
          · cases e2
        subst hc0
        clear hn8 hcap hAn hnl
        gi_wp2_with (gi_at_builtin; refine wpListIn_append_cap rfl _ _ 22 rfl T3 3 i0 _ 1 8 under22 I0.out I1.out I2.out I3.out rfl _ 0 _ rfl Hfl.out hHF.out ⟨qx, 0, none⟩ m cx (xl.flatMap cI) rfl hxfl.out Hxc.out hx1 (by unfold maxLen; omega) (by omega) hTV ?_; intro cap w9 ho9 hg9 hz9; have B79 := H7.out.grown hg9 (by simp); have c79 := B79.cell 0; have p79 := B79.lt; have f79 := B79.frozen 0)
        exact FIN.out w9 cap _ (by rw [Nat.zero_add]) (by rw [Nat.zero_add] at ho9 ⊢; exact ho9) hg9 hz9
      | some a =>
        have hni : (n : Int) ≤ c := by omega
        gi_wp2_with (gi_at_builtin; refine wpListIn_append_cap rfl _ _ 22 rfl T3 3 i0 _ 1 8 under22 I0.out I1.out I2.out I3.out rfl _ n _ rfl Hfl.out hHF.out ⟨qx, 0, none⟩ m cx (xl.flatMap cI) rfl hxfl.out Hxc.out hx1 (by unfold maxLen; omega) (by omega) hTV ?_; intro cap w9 ho9 hg9 hz9; have B79 := H7.out.grown hg9 (by simp); have c79 := B79.cell 0; have p79 := B79.lt; have f79 := B79.frozen 0)
        exact FIN.out w9 cap _ rfl ho9 hg9 hz9
    · have t1 : (((L : Int) % (m : Int)) == 0) = false := by rw [hmod]; simp; omega
      clear hmod
      gi_wp2
      have hps : rowF L ((pre ++ [(⟨.slice (some ⟨qx, 0, none⟩) m cx, xl⟩ : WE)]).map WE.l) = rowF L (pre.map WE.l) := by
        rw [List.map_append]
        show rowF L (pre.map WE.l ++ [xl]) = _
        rw [rowF_snoc, if_neg (by rw [Hm.out]; exact hr)]
      refine ⟨ow, ⟨?_, H2.out, h3, hoB⟩, Grow.refl hlt⟩
      obtain ⟨A, n, c, h8, h9, h10, h11, h12, h13⟩ := H1.out
      unfold RowI
      rw [hps]
      exact ⟨A, n, c, h8, h9, h10, h11, h12, by simp at h13 ⊢; omega⟩
  case done =>
    rintro Dm ys ow V hDm hys ⟨h1, h2, h3, h4⟩ hg hnB rfl hK
    rw [hys] at h1
    obtain ⟨A, n, c, h8, -, h10, -, h12, -⟩ := h1
    have hv8 := h8.cell 0
    have l8 := h8.lt
    have hT := HT3.out
    have hzz := Hz5.out
    have hR : Ret V A n c (rowF L (wdsL K L)) := ⟨Sl.of_own h10, own_capN h10, fun e => by
      subst e
      rcases h10.2 with ⟨e2, -⟩ | ⟨g', cap', cur', e2, -⟩
      · cases e2; exact ⟨rfl, rfl⟩
      · cases e2⟩
    have hnl : n = (rowF L (wdsL K L)).length := by
      have := h10.1; rw [flatI_len'] at this; omega
    have HR := hid hR
    have Hnl := hid hnl
    simp only [hTT]
    clear h8 h10 h2 hys hR hnl h12
    gi_wp2
    refine leavesM_marks [W5.heap.size] _ (by simp) (by simpa using hK) (fun w' ho => ⟨.tuple #[.slice A n c, .int .i64 0], by simp [results, Try.results43, go_sem, *], ⟨A, c, by rw [HE.out, hV.out, ← Hnl.out], ?_, ho.below h3 (by simp; omega)⟩⟩)
    rw [hV.out, ← Hnl.out]
    refine ⟨?_, HR.out.2.1, HR.out.2.2⟩
    have := HR.out.1
    rw [ho.size]
    exact Sl.keep this (fun p _ => ho.cell p)
theorem row_any (K L : Int) (w : World) : Calls Try.prog 43 #[.int .i64 K, .int .i64 L] w fun e w' => ∃ A c, e = .returned (.tuple #[.slice A (rowV K L).length c, .int .i64 (rowE K L)]) ∧ Ret w' A (rowV K L).length c (rowV K L) ∧ Below w.heap.size w w' := by
  by_cases he : rowE K L = 0
  · obtain ⟨h1, h2, h3⟩ := rowE_ok he
    have hf := few_row ⟨K.toNat, by omega⟩ ⟨L.toNat, by omega⟩ (by simp only; omega) (by simp only; omega) h3
    have := row_ok K.toNat L.toNat w (by omega) (by omega) (by omega) (by omega) (by rw [Int.toNat_of_nonneg (by omega), Int.toNat_of_nonneg (by omega)]; exact he) hf
    rwa [Int.toNat_of_nonneg (by omega), Int.toNat_of_nonneg (by omega)] at this
  · exact row_bad K L w he
end Go.Proofs.Ytiobmfggnacplaa
/- The parts of a row by cuts: right cuts are those of its words, plain. -/
namespace Go.Proofs.Ytiobmfggnacplaa
def partsR (l : List Int) : List Nat → List (List Int)
  | [] => []
  | [a] => [l.drop a]
  | a :: b :: r => (l.drop a).take (b - a) :: partsR l (b :: r)
theorem partsR_len (l : List Int) : ∀ cs, (partsR l cs).length = cs.length
  | [] => rfl
  | [a] => rfl
  | a :: b :: r => by rw [partsR, List.length_cons, partsR_len l (b :: r)]; rfl
/-- Increasing, from a on, and below n. -/
def Ups (n : Nat) : List Nat → Prop
  | [] => True
  | [a] => a < n
  | a :: b :: r => a < b ∧ Ups n (b :: r)
theorem ups_lt {n : Nat} : ∀ {a : Nat} {r : List Nat}, Ups n (a :: r) → a < n
  | a, [], h => h
  | a, b :: r, h => by have := ups_lt h.2; have := h.1; omega
theorem partsR_flat {l : List Int} : ∀ {a : Nat} {r : List Nat}, Ups l.length (a :: r) → (partsR l (a :: r)).flatten = l.drop a
  | a, [], h => by simp [partsR]
  | a, b :: r, h => by
    rw [partsR, List.flatten_cons, partsR_flat h.2]
    have h1 : a < b := h.1
    have h2 := ups_lt h.2
    rw [show l.drop b = (l.drop a).drop (b - a) by rw [List.drop_drop]; congr 1; omega, List.take_append_drop]
theorem partsR_starts {l : List Int} : ∀ {a : Nat} {r : List Nat}, Ups l.length (a :: r) → starts a (partsR l (a :: r)) = a :: r
  | a, [], h => by simp [partsR, starts]
  | a, b :: r, h => by
    have h1 : a < b := h.1
    have h2 := ups_lt h.2
    rw [partsR, starts, List.length_take, List.length_drop, show a + min (b - a) (l.length - a) = b by omega, partsR_starts h.2]
theorem parts_of_starts {l : List Int} : ∀ (fs : List (List Int)) (a : Nat), fs.flatten = l.drop a → fs ≠ [] → partsR l (starts a fs) = fs
  | [], a, _, h => absurd rfl h
  | [f], a, h, _ => by simp [starts, partsR] at h ⊢; exact h.symm
  | f :: g :: r, a, h, _ => by
    have h1 : (l.drop a).take f.length = f := by rw [← h, List.flatten_cons, List.take_left]
    have h2 : (g :: r).flatten = l.drop (a + f.length) := by
      rw [← List.drop_drop, ← h]
      exact (List.drop_left (l₁ := f) (l₂ := (g :: r).flatten)).symm
    have ih := parts_of_starts (g :: r) (a + f.length) h2 (by simp)
    show partsR l (a :: (a + f.length) :: starts (a + f.length + g.length) r) = _
    rw [partsR, show a + f.length - a = f.length by omega, h1]
    have : partsR l ((a + f.length) :: starts (a + f.length + g.length) r) = g :: r := ih
    rw [this]
/-- Right cuts are those of the words. -/
theorem right_iff {l : List Int} {r : List Nat} (h : Ups l.length (0 :: r)) : CFL (partsR l (0 :: r)) ↔ 0 :: r = cutsL l := by
  have hf := partsR_flat h
  rw [List.drop_zero] at hf
  constructor
  · intro hc
    unfold cutsL
    have := wordsL_of hc
    rw [hf] at this
    rw [this, partsR_starts h]
  · intro e
    rw [e]
    unfold cutsL
    have hne : wordsL l ≠ [] := fun e2 => by
      have h1 := wordsL_flat l
      rw [e2] at h1
      have := ups_lt h
      rw [← h1] at this
      simp at this
    rw [parts_of_starts (wordsL l) 0 (by rw [wordsL_flat, List.drop_zero]) hne]
    exact wordsL_cfl l
/-- Words, none before the next one, by places. -/
theorem cfl_idx : ∀ {fs : List (List Int)}, CFL fs ↔ ∀ i x, fs[i]? = some x → isW x = true ∧ (0 < i → ∀ y, fs[i - 1]? = some y → bef y x = false)
  | [] => by simp [CFL]
  | f :: fs => by
    rw [CFL, @cfl_idx fs]
    constructor
    · rintro ⟨h1, h2, h3⟩ i x hx
      cases i with
      | zero => simp at hx; subst hx; exact ⟨isW_t.2 h1, fun h => by omega⟩
      | succ i =>
        rw [List.getElem?_cons_succ] at hx
        refine ⟨(h3 i x hx).1, fun _ y hy => ?_⟩
        cases i with
        | zero =>
          simp at hy; subst hy
          exact h2 x (by rw [List.head?_eq_getElem?]; exact hx)
        | succ i =>
          rw [Nat.add_sub_cancel, List.getElem?_cons_succ] at hy
          exact (h3 (i + 1) x hx).2 (by omega) y (by simpa using hy)
    · intro h
      refine ⟨isW_t.1 (h 0 f rfl).1, fun g hg => ?_, fun i x hx => ⟨(h (i + 1) x (by simpa using hx)).1, fun h0 y hy => (h (i + 1) x (by simpa using hx)).2 (by omega) y ?_⟩⟩
      · rw [List.head?_eq_getElem?] at hg
        exact (h 1 g (by simpa using hg)).2 (by omega) f rfl
      · obtain ⟨j, rfl⟩ : ∃ j, i = j + 1 := ⟨i - 1, by omega⟩
        simpa using hy
/-- A part, by its place. -/
def partA (l : List Int) (cs : List Nat) (i : Nat) : List Int := (l.drop (cs.getD i 0)).take (cs.getD (i + 1) l.length - cs.getD i 0)
theorem partsR_at {l : List Int} : ∀ {cs : List Nat} {i : Nat}, i < cs.length → (partsR l cs)[i]? = some (partA l cs i)
  | [], i, h => by simp at h
  | [a], i, h => by
    obtain rfl : i = 0 := by simp at h; omega
    simp [partsR, partA]
    rw [List.take_of_length_le (by simp)]
  | a :: b :: r, i, h => by
    cases i with
    | zero => simp [partsR, partA]
    | succ i =>
      rw [partsR, List.getElem?_cons_succ, partsR_at (by simpa using h)]
      simp [partA]
theorem ups_of {n : Nat} : ∀ {cs : List Nat}, (∀ i, i + 1 < cs.length → cs.getD i 0 < cs.getD (i + 1) 0) → (∀ x ∈ cs, x < n) → Ups n cs
  | [], _, _ => trivial
  | [a], _, h => h a (by simp)
  | a :: b :: r, h1, h2 => by
    refine ⟨by have := h1 0 (by simp); simpa using this, ups_of (fun i hi => by have := h1 (i + 1) (by simpa using hi); simpa using this) (fun x hx => h2 x (List.mem_cons_of_mem _ hx))⟩
end Go.Proofs.Ytiobmfggnacplaa
/- Walks: the parts of a row by cuts (reference). -/
namespace Go.Proofs.Ytiobmfggnacplaa
open Go.RowKit
attribute [local go_sem] Oper.semAt_some
def natI (cs : List Nat) : List Int := cs.map fun y : Nat => (y : Int)
theorem natI_at {cs : List Nat} {k : Nat} {x : Int} (h : (natI cs)[k]? = some x) : ∃ y : Nat, cs[k]? = some y ∧ x = y := by
  unfold natI at h
  rw [List.getElem?_map] at h
  cases hc : cs[k]? with
  | none => rw [hc] at h; cases h
  | some y => rw [hc] at h; cases h; exact ⟨y, rfl, rfl⟩
theorem ups_at {n : Nat} : ∀ {cs : List Nat} {i a b : Nat}, Ups n cs → cs[i]? = some a → cs[i + 1]? = some b → a < b
  | [], i, a, b, _, h, _ => by simp at h
  | [x], i, a, b, _, _, h => by simp at h
  | x :: y :: r, i, a, b, h, h1, h2 => by
    cases i with
    | zero => simp at h1 h2; subst h1; subst h2; exact h.1
    | succ i => exact ups_at (cs := y :: r) h.2 (by simpa using h1) (by simpa using h2)
theorem ups_all {n : Nat} : ∀ {cs : List Nat} {i a : Nat}, Ups n cs → cs[i]? = some a → a < n
  | [], i, a, _, h => by simp at h
  | [x], i, a, h, h1 => by
    cases i with
    | zero => simp at h1; subst h1; exact h
    | succ i => simp at h1
  | x :: y :: r, i, a, h, h1 => by
    cases i with
    | zero => simp at h1; subst h1; have := ups_lt h.2; have := h.1; omega
    | succ i => exact ups_all (cs := y :: r) h.2 (by simpa using h1)
set_option maxRecDepth 10000 in
set_option maxHeartbeats 4000000 in
theorem partsOf_any (b off : Nat) (B : Option Addr) (n c m d : Nat) (l : List Int) (cs : List Nat) (w : World) (hl : InS w w.heap.size (some ⟨b, off, none⟩) n l) (lb : b < w.heap.size) (hcs : InS w w.heap.size B m (natI cs)) (hn : n ≤ 90) (hm : m ≤ 90) (hc : n ≤ c) (hu : Ups n cs) :
    Calls Try.prog 71 #[.slice (some ⟨b, off, none⟩) n c, .slice B m d] w fun e w' => ∃ v, e = .returned v ∧ NewLi w' w.heap.size v (partsR l cs) ∧ Below w.heap.size w w' := by
  have HL := hid hl
  have HC := hid hcs
  have Hu := hid hu
  have hcl : cs.length = m := by have := hcs.len; rwa [natI, List.length_map] at this
  have Hcl := hid hcl
  have Hll := hid hl.len
  clear hl hcs hu hcl
  go_enter Try.func71, Try.ntmps71
  go_wp2_with (fail)
  go_loopw [5, 6] (fun v i wr => ∃ q : Nat, q ≤ m ∧ i = .int .i64 (q : Int) ∧ Below w.heap.size w wr ∧ Hid (NewLi wr w.heap.size v ((partsR l cs).take q))) (fun _ i _ => m - (intOf i).toNat)
  case atStart => exact ⟨0, by omega, rfl, Below.refl _ _, hid (NewLi.nil _ _)⟩
  case round =>
    obtain ⟨q, hq, rfl, hbw, hown⟩ := hrel
    have hszw := hbw.size
    by_cases hlt : q < m
    · have hlti : (q : Int) < m := by omega
      have HLw := hid (HL.out.below hbw hszw)
      obtain ⟨b2, off2, y, hB2, hb2, hy, d2⟩ := (HC.out.below hbw hszw).at_ hlt
      obtain ⟨a, hya, rfl⟩ := natI_at hy
      have han := ups_all Hu.out hya
      have hst : Hid ((partsR l cs).take (q + 1) = (partsR l cs).take q ++ [partA l cs q]) := hid (by
        rw [List.take_add_one, partsR_at (by rw [Hcl.out]; exact hlt)]; rfl)
      have hpl : Hid (((partsR l cs).take q).length ≤ 90) := hid (by rw [List.length_take]; omega)
      have hac : ¬ c = a := by omega
      have ha0 : (0 : Int) ≤ a := by omega
      have hne : Hid (∀ e, u5.ownBlock = some e → w.heap.size ≤ e) := hid (fun e he => (hown.out.own_lt e he).1)
      have hq0 : (0 : Int) ≤ q := by omega
      by_cases hl2 : q + 1 < m
      · have hl2i : (q : Int) + 1 < m := by omega
        have hq3 : (0 : Int) ≤ (q : Int) + 1 := by omega
        obtain ⟨b3, off3, z, hB3, -, hz, d3⟩ := (HC.out.below hbw hszw).at_ hl2
        obtain ⟨e, hze, rfl⟩ := natI_at hz
        rw [hB2] at hB3
        cases hB3
        subst hB2
        have hae := ups_at Hu.out hya hze
        have hen := ups_all Hu.out hze
        have hpa : Hid (partA l cs q = (l.drop a).take (e - a)) := hid (by unfold partA; rw [List.getD_eq_getElem?_getD, List.getD_eq_getElem?_getD, hya, hze]; rfl)
        have haei : (a : Int) ≤ e := by omega
        have heci : (e : Int) ≤ c := by omega
        have HP := hid (ins_cut HLw.out (Nat.le_of_lt hae) (Nat.le_of_lt hen))
        clear hy hz hya hze
        go_wp2_with (at_builtin; refine newLi_append rfl (by rfl) _ _ rfl w.heap.size _ _ rfl (hown.out.below ((Below.refl _ _).alloc (Nat.le_refl _) (.cells #[.slice (some ⟨b, off + a, none⟩) (e - a) (c - a)] 22))) wr.heap.size (some ⟨b, off + a, none⟩) (e - a) (c - a) ((l.drop a).take (e - a)) rfl (Blk.new' rfl) (HP.out.below ((Below.refl _ _).alloc (Nat.le_refl _) _) (by simp)) (fun b' off' e' => ⟨(by cases e'; simp; omega), fun e3 => (by cases e'; have := hne.out _ e3; omega)⟩) (by have := hpl.out; omega) (by simp; omega) ?_; intro v4 w4 hn4 hg4 hat4; have hb6 : Below w.heap.size w w4 := (hbw.alloc hszw _).grown hg4 (by simp; omega) (fun r hr => (hown.out.own_lt r hr).1))
        exact ⟨⟨q + 1, by omega, by go_num, hb6, hid (by rw [hst.out, hpa.out]; exact hn4)⟩, by simp [intOf]; omega⟩
      · have hl2i : ¬ (q : Int) + 1 < m := by omega
        subst hB2
        have hpa : Hid (partA l cs q = (l.drop a).take (n - a)) := hid (by unfold partA; rw [List.getD_eq_getElem?_getD, List.getD_eq_getElem?_getD, hya, List.getElem?_eq_none (by rw [Hcl.out]; omega), Hll.out]; rfl)
        have haei : (a : Int) ≤ n := by omega
        have heci : (n : Int) ≤ c := by omega
        have HP := hid (ins_cut HLw.out (Nat.le_of_lt han) (Nat.le_refl n))
        clear hy hya
        go_wp2_with (at_builtin; refine newLi_append rfl (by rfl) _ _ rfl w.heap.size _ _ rfl (hown.out.below ((Below.refl _ _).alloc (Nat.le_refl _) (.cells #[.slice (some ⟨b, off + a, none⟩) (n - a) (c - a)] 22))) wr.heap.size (some ⟨b, off + a, none⟩) (n - a) (c - a) ((l.drop a).take (n - a)) rfl (Blk.new' rfl) (HP.out.below ((Below.refl _ _).alloc (Nat.le_refl _) _) (by simp)) (fun b' off' e' => ⟨(by cases e'; simp; omega), fun e3 => (by cases e'; have := hne.out _ e3; omega)⟩) (by have := hpl.out; omega) (by simp; omega) ?_; intro v4 w4 hn4 hg4 hat4; have hb6 : Below w.heap.size w w4 := (hbw.alloc hszw _).grown hg4 (by simp; omega) (fun r hr => (hown.out.own_lt r hr).1))
        exact ⟨⟨q + 1, by omega, by go_num, hb6, hid (by rw [hst.out, hpa.out]; exact hn4)⟩, by simp [intOf]; omega⟩
    · obtain rfl : q = m := by omega
      have hf : Hid ((partsR l cs).take q = partsR l cs) := hid (List.take_of_length_le (by rw [partsR_len, Hcl.out]; exact Nat.le_refl _))
      go_wp2
      refine bodyPost_ret (v := u5) (by first | (simp [results, Try.results71, go_sem]; done) | (simp [results, Try.results71, go_sem, *]; done) | (simp [results, Try.results71, go_sem, World.cell?_setCell_same', *]; done) | (simp [results, Try.results71, go_sem]; first | exact ⟨rfl, rfl⟩ | rfl)) rfl ⟨_, rfl, by rw [← hf.out]; exact hown.out, hbw⟩
end Go.Proofs.Ytiobmfggnacplaa
/- Walks: the reference's CheckWords. -/
namespace Go.Proofs.Ytiobmfggnacplaa
open Go.RowKit
attribute [local go_sem] Oper.semAt_some
theorem natI_to {cs : List Int} (h : ∀ x ∈ cs, 0 ≤ x) : natI (cs.map Int.toNat) = cs := by
  unfold natI
  rw [List.map_map]
  refine (List.map_congr_left fun x hx => ?_).trans (List.map_id cs)
  exact Int.toNat_of_nonneg (h x hx)
/-- Good cuts so far: increasing, and below n. -/
def GoodC (n k : Nat) (cs : List Int) : Prop := ∀ j x y, 0 < j → j < k → cs[j - 1]? = some x → cs[j]? = some y → x < y ∧ y < n
theorem good_inc {n : Nat} {cs : List Int} (h : GoodC n cs.length cs) : incB cs = true := incB_yes fun i hi => by
  have h1 : i < cs.length := by omega
  have h2 : i + 1 < cs.length := by omega
  have := h (i + 1) cs[i] cs[i + 1] (by omega) h2 (List.getElem?_eq_getElem h1) (List.getElem?_eq_getElem h2)
  rw [List.getD_eq_getElem?_getD, List.getD_eq_getElem?_getD, List.getElem?_eq_getElem h1, List.getElem?_eq_getElem h2]
  exact this.1
theorem good_nn {n : Nat} {cs : List Int} (h0 : cs[0]? = some 0) (h : GoodC n cs.length cs) : ∀ (i : Nat) (x : Int), cs[i]? = some x → 0 ≤ x
  | 0, x, hx => by rw [h0] at hx; cases hx; omega
  | i + 1, x, hx => by
    have hl := (List.getElem?_eq_some_iff.1 hx).1
    have h1 : i < cs.length := by omega
    have := h (i + 1) cs[i] x (by omega) hl (List.getElem?_eq_getElem h1) hx
    have := good_nn h0 h i cs[i] (List.getElem?_eq_getElem h1)
    omega
theorem good_lt {n : Nat} {cs : List Int} (hn : 1 ≤ n) (h0 : cs[0]? = some 0) (h : GoodC n cs.length cs) : ∀ x ∈ cs, x < n := fun x hx => by
  obtain ⟨i, hi⟩ := List.getElem?_of_mem hx
  cases i with
  | zero => rw [h0] at hi; cases hi; omega
  | succ i =>
    have hl := (List.getElem?_eq_some_iff.1 hi).1
    have h1 : i < cs.length := by omega
    exact (h (i + 1) cs[i] x (by omega) hl (List.getElem?_eq_getElem h1) hi).2
theorem good_ups {n : Nat} {cs : List Int} (hn : 1 ≤ n) (h0 : cs[0]? = some 0) (h : GoodC n cs.length cs) : ∃ r, cs.map Int.toNat = 0 :: r ∧ Ups n (0 :: r) := by
  have hnn : ∀ x ∈ cs, 0 ≤ x := fun x hx => by obtain ⟨i, hi⟩ := List.getElem?_of_mem hx; exact good_nn h0 h i x hi
  have hu : Ups n (cs.map Int.toNat) := ups_of (fun i hi => by
    rw [List.length_map] at hi
    have h1 : i < cs.length := by omega
    have := h (i + 1) cs[i] cs[i + 1] (by omega) hi (List.getElem?_eq_getElem h1) (List.getElem?_eq_getElem hi)
    have h3 := hnn _ (List.getElem_mem h1)
    rw [List.getD_eq_getElem?_getD, List.getD_eq_getElem?_getD, List.getElem?_map, List.getElem?_map, List.getElem?_eq_getElem h1, List.getElem?_eq_getElem hi]
    simp; omega) (fun x hx => by
    obtain ⟨y, hy, rfl⟩ := List.mem_map.1 hx
    have := good_lt hn h0 h y hy
    have := hnn y hy
    omega)
  cases cs with
  | nil => simp at h0
  | cons a r =>
    simp at h0; subst h0
    exact ⟨r.map Int.toNat, rfl, hu⟩
theorem good_in {n : Nat} {cs : List Int} (hn : 1 ≤ n) (h0 : cs[0]? = some 0) (h : GoodC n cs.length cs) : cs.all (inR 0 ((n : Int) - 1)) = true := by
  rw [List.all_eq_true]
  intro x hx
  obtain ⟨i, hi⟩ := List.getElem?_of_mem hx
  exact inR_t.2 ⟨good_nn h0 h i x hi, by have := good_lt hn h0 h x hx; omega⟩
theorem cutsI_nat (l : List Int) : cutsI l = natI (cutsL l) := rfl
theorem natI_inj {a b : List Nat} (h : natI a = natI b) : a = b := by
  have : (natI a).map Int.toNat = (natI b).map Int.toNat := by rw [h]
  unfold natI at this
  rw [List.map_map, List.map_map] at this
  simpa [Function.comp_def] using this
/-- The error, when the cuts are good. -/
theorem cutE_good {K : Int} {l cs : List Int} {r : List Nat} (h : checkRim K l = 0) (h0 : cs[0]? = some 0) (hg : GoodC l.length cs.length cs) (hr : cs.map Int.toNat = 0 :: r) (hu : Ups l.length (0 :: r)) :
    (CFL (partsR l (0 :: r)) → cutE K l cs = 0) ∧ (¬ CFL (partsR l (0 :: r)) → cutE K l cs = 14) := by
  have hn : 1 ≤ l.length := (rim_good h).2.1.1
  have hnn : ∀ x ∈ cs, 0 ≤ x := fun x hx => by obtain ⟨i, hi⟩ := List.getElem?_of_mem hx; exact good_nn h0 hg i x hi
  have e1 : natI (0 :: r) = cs := by rw [← hr]; exact natI_to hnn
  have e2 : cs = cutsI l ↔ CFL (partsR l (0 :: r)) := by
    rw [right_iff hu, cutsI_nat, ← e1]
    exact ⟨fun h => natI_inj h, fun h => by rw [h]⟩
  have e3 : ¬ (cs.getD 0 1 ≠ 0 ∨ cs.all (inR 0 ((l.length : Int) - 1)) = false ∨ incB cs = false) := by
    rw [good_in hn h0 hg, good_inc hg, List.getD_eq_getElem?_getD, h0]
    simp
  unfold cutE
  rw [if_neg (by omega), if_neg e3]
  exact ⟨fun hc => by rw [if_neg (by simpa using e2.2 hc)], fun hc => by rw [if_pos (fun e => hc (e2.1 e))]⟩
end Go.Proofs.Ytiobmfggnacplaa
