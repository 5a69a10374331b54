/- Texts of the proof, laid together by program. -/
import Derived.Test.YtdcglphekafpdaaMh
import Derived.Maps.OwnIn
import Derived.Maps.OwnSet
import Derived.DeepKeys4
import Derived.Test.YtdcglphekafpdaaMf
import Derived.Maps.OwnOps
import Derived.Deep.QuietTactic
import Derived.BigQuiet
namespace Go.Proofs.Ytdcglphekafpdaa
open Go.RowKit Go.WideMaps
open Go.Maps (Keyed)
theorem laidOut : laidOutB Try.prog = true := by kernel_rfl
theorem size_types : Try.prog.types.size = 162 := by kernel_rfl
theorem row117 : (117 : TypeId) < Try.prog.types.size := by rw [size_types]; decide
set_option maxRecDepth 100000 in
theorem wide117 : (match Try.prog.underlying 117 with | some (.array _ _) | some (.struct _) => true | _ => false) = true := by kernel_rfl
set_option maxRecDepth 100000 in
theorem law117 : KeyLaw Try.prog 117 := deep_law_laid laidOut (m := 2) (by omega) row117 (by kernel_rfl) wide117
theorem K117 : Keyed Try.prog 117 := Maps.Keyed.of_law law117
theorem under114 : Try.prog.underlying 114 = some (.map 117 3) := by kernel_rfl
theorem under3 : Try.prog.underlying 3 = some (.int .i64) := by kernel_rfl
def klP (p : Nat × Nat) : Lit := .string (keyBytes [.int .i64 (p.1 : Int), .int .i64 (p.2 : Int)])
set_option maxRecDepth 100000 in
theorem key_some : ((List.range 8).map fun i => (List.range 8).map fun k => keyOf Try.prog 117 (.agg #[.int .i64 ((i : Nat) : Int), .int .i64 ((k : Nat) : Int)])) = ((List.range 8).map fun i => (List.range 8).map fun k => some (klP (i, k))) := by kernel_rfl
theorem key_klP {p : Nat × Nat} (h1 : p.1 < 8) (h2 : p.2 < 8) : keyOf Try.prog 117 (.agg #[.int .i64 (p.1 : Int), .int .i64 (p.2 : Int)]) = some (klP p) := by
  have h := congrArg (fun l => l[p.1]?) key_some
  simp only [List.getElem?_map, List.getElem?_range h1, Option.map_some] at h
  have h' := congrArg (fun l => l[p.2]?) (Option.some.inj h)
  simp only [List.getElem?_map, List.getElem?_range h2, Option.map_some] at h'
  exact Option.some.inj h'
theorem klP_ne {p q : Nat × Nat} (h1 : p.1 < 8) (h2 : p.2 < 8) (h3 : q.1 < 8) (h4 : q.2 < 8) (hne : p ≠ q) : klP p ≠ klP q := by
  intro e
  have a := key_klP h1 h2
  have b := key_klP h3 h4
  rw [e] at a
  have := K117.inj a b
  injection this with this
  simp only [Array.mk.injEq, List.cons.injEq, Value.int.injEq, true_and, and_true] at this
  exact hne (Prod.ext (by omega) (by omega))
def Ok8 (p : Nat × Nat) : Prop := p.1 < 8 ∧ p.2 < 8
/-- The map has just some keys, each with its number. -/
structure MapOf (f : Nat × Nat → Int) (pre : List (Nat × Nat)) (D : DataW Unit) : Prop where
  inn : ∀ p ∈ pre, Maps.has D (klP p) = true ∧ ∀ z, D.atKey (klP p) z = .lit (.int .i64 (f p))
  only : ∀ kl, Maps.has D kl = true → ∃ p ∈ pre, kl = klP p
theorem MapOf.nil (f : Nat × Nat → Int) : MapOf f [] (.map []) := ⟨fun p h => by simp at h, fun kl h => by simp [Maps.has] at h⟩
theorem MapOf.put {f : Nat × Nat → Int} {pre : List (Nat × Nat)} {D : DataW Unit} (h : MapOf f pre D) (hD : Maps.IsMap D) (hpre : ∀ p ∈ pre, Ok8 p) {x : Nat × Nat} (hx : Ok8 x) : MapOf f (pre ++ [x]) (D.put (klP x) (.lit (.int .i64 (f x)))) := by
  have hk := K117.key (key_klP hx.1 hx.2)
  refine ⟨fun p hp => ?_, fun kl hkl => ?_⟩
  · by_cases e : p = x
    · subst e
      exact ⟨Maps.has_put_same hD hk _, fun z => Maps.atKey_put_same hD hk _ z⟩
    · have hp' : p ∈ pre := by
        rcases List.mem_append.1 hp with hp | hp
        · exact hp
        · simp at hp; exact absurd hp e
      have o := hpre p hp'
      have hne := klP_ne o.1 o.2 hx.1 hx.2 e
      exact ⟨by rw [Maps.has_put_other hne]; exact (h.inn p hp').1, fun z => by rw [Maps.atKey_put_other hne]; exact (h.inn p hp').2 z⟩
  · by_cases e : kl = klP x
    · exact ⟨x, by simp, e⟩
    · rw [Maps.has_put_other e] at hkl
      obtain ⟨p, hp, e2⟩ := h.only kl hkl
      exact ⟨p, by simp [hp], e2⟩
/-- What is left to look at, and what stays. -/
structure DelR (f : Nat × Nat → Int) (ps : List (Nat × Nat)) (D : DataW Unit) (left : Lit → Bool) : Prop where
  yet : ∀ p ∈ ps, left (klP p) = true → Maps.has D (klP p) = true ∧ ∀ z, D.atKey (klP p) z = .lit (.int .i64 (f p))
  done : ∀ p ∈ ps, left (klP p) = false → (f p = 0 → Maps.has D (klP p) = false) ∧ (f p ≠ 0 → Maps.has D (klP p) = true ∧ ∀ z, D.atKey (klP p) z = .lit (.int .i64 (f p)))
  only : ∀ kl, left kl = true → ∃ p ∈ ps, kl = klP p
theorem DelR.start {f : Nat × Nat → Int} {ps : List (Nat × Nat)} {D : DataW Unit} (h : MapOf f ps D) : DelR f ps D (Maps.has D) :=
  ⟨fun p hp _ => h.inn p hp, (fun p hp hf => absurd ((h.inn p hp).1.symm.trans hf) (by simp)), h.only⟩
theorem same_iff {p q : Nat × Nat} (hp : Ok8 p) (hq : Ok8 q) : (klP q).sameKey (klP p) = decide (q = p) := by
  by_cases e : q = p
  · subst e
    rw [decide_eq_true rfl]
    have hk := K117.key (key_klP hp.1 hp.2)
    obtain ⟨s, hs⟩ := law117.str (key_klP hp.1 hp.2)
    rw [hs]
    simp [Lit.sameKey]
  · rw [decide_eq_false e]
    exact Maps.sameKey_ne (klP_ne hq.1 hq.2 hp.1 hp.2 e)
theorem DelR.keep {f : Nat × Nat → Int} {ps : List (Nat × Nat)} {D : DataW Unit} {left : Lit → Bool} (h : DelR f ps D left) (hok : ∀ p ∈ ps, Ok8 p) {p : Nat × Nat} (hp : p ∈ ps) (hl : left (klP p) = true) (hf : f p ≠ 0) :
    DelR f ps D (fun z => left z && !z.sameKey (klP p)) := by
  refine ⟨fun q hq hlq => ?_, fun q hq hlq => ?_, fun kl hkl => ?_⟩
  · simp only [Bool.and_eq_true] at hlq
    exact h.yet q hq hlq.1
  · by_cases e : q = p
    · subst e
      exact ⟨fun h0 => absurd h0 hf, fun _ => h.yet q hq hl⟩
    · refine h.done q hq ?_
      rw [same_iff (hok p hp) (hok q hq), decide_eq_false e] at hlq
      simpa using hlq
  · simp only [Bool.and_eq_true] at hkl
    exact h.only kl hkl.1
theorem DelR.del {f : Nat × Nat → Int} {ps : List (Nat × Nat)} {D : DataW Unit} {left : Lit → Bool} (h : DelR f ps D left) (hok : ∀ p ∈ ps, Ok8 p) {p : Nat × Nat} (hp : p ∈ ps) (hf : f p = 0) :
    DelR f ps (D.del (klP p)) (fun z => (left z && !z.sameKey (klP p)) && !z.sameKey (klP p)) := by
  rw [Maps.strike_twice]
  refine ⟨fun q hq hlq => ?_, fun q hq hlq => ?_, fun kl hkl => ?_⟩
  · simp only [Bool.and_eq_true] at hlq
    have e : q ≠ p := by
      intro e; subst e
      rw [same_iff (hok q hq) (hok q hq), decide_eq_true rfl] at hlq
      simp at hlq
    have hne := klP_ne (hok q hq).1 (hok q hq).2 (hok p hp).1 (hok p hp).2 e
    have := h.yet q hq hlq.1
    exact ⟨by rw [Maps.has_del_other hne]; exact this.1, fun z => by rw [Maps.atKey_del_other hne]; exact this.2 z⟩
  · by_cases e : q = p
    · subst e
      exact ⟨fun _ => Maps.has_del_same, fun h0 => absurd hf h0⟩
    · rw [same_iff (hok p hp) (hok q hq), decide_eq_false e] at hlq
      have hne := klP_ne (hok q hq).1 (hok q hq).2 (hok p hp).1 (hok p hp).2 e
      have := h.done q hq (by simpa using hlq)
      exact ⟨fun h0 => by rw [Maps.has_del_other hne]; exact this.1 h0, fun h0 => ⟨by rw [Maps.has_del_other hne]; exact (this.2 h0).1, fun z => by rw [Maps.atKey_del_other hne]; exact (this.2 h0).2 z⟩⟩
  · simp only [Bool.and_eq_true] at hkl
    exact h.only kl hkl.1
/-- The map that is returned. -/
def ClMap (w : World) (b : Nat) (f : Nat × Nat → Int) (ps : List (Nat × Nat)) : Prop :=
  ∃ m D, w.ownsMap Try.prog 117 (plainElem (H := Unit) Try.prog 3) b m D ∧ ∀ p ∈ ps, (f p = 0 → Maps.has D (klP p) = false) ∧ (f p ≠ 0 → Maps.has D (klP p) = true ∧ ∀ z, D.atKey (klP p) z = .lit (.int .i64 (f p)))
theorem isMap_owns {w : World} {b m : Nat} {D : DataW Unit} (h : w.ownsMap Try.prog 117 (plainElem (H := Unit) Try.prog 3) b m D) : Maps.IsMap D := by
  obtain ⟨es, clock, _, _, _, e⟩ := h
  exact ⟨_, e⟩

section
variable {H : Type} {F : Fence} {n : Nat} {P : Program} (w : World) {ops : Array Oper} {rest : List Oper} {o : Oper} {a : Act} {Q : Exit → Act → World → Prop}
theorem wpListIn_next_key {α β : Type} (hg : o.guard = none) (it : Operand) (hop : o.op = Op.next it false) (k : TypeId) (K : Keyed P k) (R : Value → Option (DataW H × List MemPlace)) (mkK : α → Value) (mkV : β → Value)
    (b r nn : Nat) (D : DataW H) (left : Lit → Bool) (cnt : Nat) (invK : ∀ key kl, keyOf P k key = some kl → left kl = true → ∃ x, key = mkK x) (invV : ∀ v y, R v = some y → ∃ c, v = mkV c)
    (hit : a.eval it = .pointer (some ⟨r, 0, none⟩)) (h : w.ranges P k R b r nn D left cnt)
    (hDone : cnt = 0 → (∀ kl, left kl = false) → wpListIn F n P ops Q rest (a.put o.dst (.tuple #[.bool false])) w)
    (hMore : ∀ (x : α) (c : β) (kl : Lit) (y : DataW H × List MemPlace) (w' : World) (cnt' : Nat), keyOf P k (mkK x) = some kl → left kl = true → R (mkV c) = some y → (∀ zd, D.atKey kl zd = y.1) → w'.ranges P k R b r nn D (fun z => left z && !z.sameKey kl) cnt' → cnt' < cnt →
      w.grownBy w' (some r) → w'.heap.size = w.heap.size → (Instr.entry (.pointer (some ⟨r, 0, none⟩))).run P w' = .ok (.tuple #[mkK x, mkV c]) w' → wpListIn F n P ops Q rest (a.put o.dst (.tuple #[.bool true, mkK x, mkV c])) w') :
    wpListIn F n P ops Q (o :: rest) a w := by
  refine wpListIn_plain hg fun K' hK' => ?_
  unfold Oper.wpIn
  refine ⟨by simp [Oper.about, hop], ?_⟩
  rw [Oper.semAt_plain F _ _ (by rw [hop]; intro c hc'; cases hc')]
  rcases h.next K o.type with ⟨h0, hl, hrun⟩ | ⟨key, v, kl, y, w', cnt', hkey, hlk, hv, hat, hrun, hrg, hlt, hgr, hsz, hen⟩
  · simp [execOp, hop, hit, hrun, Result.andThen]
    exact hK' _ _ (hDone h0 hl)
  · obtain ⟨x, rfl⟩ := invK key kl hkey hlk
    obtain ⟨c, rfl⟩ := invV v y hv
    simp [execOp, hop, hit, hrun, Result.andThen]
    exact hK' _ _ (hMore x c kl y w' cnt' hkey hlk hv hat hrg hlt hgr hsz hen)
end
theorem prs_ok : ∀ n, n ≤ 7 → ∀ p ∈ prs n, p.1 < p.2 ∧ p.2 ≤ n := by
  intro n _ p hp
  simp only [prs, pfx, rowP, List.mem_flatMap, List.mem_map, List.mem_range] at hp
  obtain ⟨i, hi, j, hj, rfl⟩ := hp
  exact ⟨by simp; omega, by simp; omega⟩
theorem mem_prs {n a b : Nat} (h : a < b) (hb : b ≤ n) : (a, b) ∈ prs n := by
  simp only [prs, pfx, rowP, List.mem_flatMap, List.mem_map, List.mem_range]
  exact ⟨a, by omega, b - (a + 1), by omega, by rw [show a + 1 + (b - (a + 1)) = b by omega]⟩
end Go.Proofs.Ytdcglphekafpdaa
namespace Go.Proofs.Ytdcglphekafpdaa
open Go.RowKit Go.Shelf
attribute [local go_sem] Oper.semAt_some
theorem map_below {w w' : World} {b m : Nat} {D : DataW Unit} (h : w.ownsMap Try.prog 117 (plainElem (H := Unit) Try.prog 3) b m D) (hb : Below w.heap.size w w') : w'.ownsMap Try.prog 117 (plainElem (H := Unit) Try.prog 3) b m D := by
  obtain ⟨es, clock, h1, h2⟩ := h
  exact ⟨es, clock, (hb.block b (Array.getElem?_eq_some_iff.1 h1).1).trans h1, h2⟩
theorem map_off {w w' : World} {Ds : List Nat} {b m : Nat} {D : DataW Unit} (h : w.ownsMap Try.prog 117 (plainElem (H := Unit) Try.prog 3) b m D) (ho : Off Ds w w') (hb : b ∉ Ds) : w'.ownsMap Try.prog 117 (plainElem (H := Unit) Try.prog 3) b m D := by
  obtain ⟨es, clock, h1, h2⟩ := h
  exact ⟨es, clock, (ho.block b hb).trans h1, h2⟩
def clF (row : List Mt) (sc : List Rg) (p : Nat × Nat) : Int := sideV row sc p.1 p.2
theorem elem3 {a : Int} (h : (Lit.int .i64 a).wf = true) : plainElem (H := Unit) Try.prog 3 (.int .i64 a) = some (.lit (.int .i64 a), []) := plainElem_int under3 h
def ClPost (row : List Mt) (sc : List Rg) (n : Nat) (w : World) (e : Ending) (w' : World) : Prop := ∃ b, e = .returned (.map (some b)) ∧ w.heap.size ≤ b ∧ ClMap w' b (clF row sc) (prs n) ∧ Below w.heap.size w w'

theorem wpM_two {P : Program} {md : Region.Mode} {ops : Array Oper} {X : World} {Q : Act → World → Prop} {f : Nat} {listed : Array Bool} {a : Act} {w : World} (i j : Nat) (o o' : Oper) (ho : ops[i]? = some o) (ho' : ops[j]? = some o') (hr : decide (Region.ready md ops listed = [i, j]) = true) (hw : Region.wanted o (yielded ops a.tmps) = true) (hw' : Region.wanted o' (yielded ops a.tmps) = true)
    (h : ∀ W, Ext w W → Ext X W → LUpon P o a (fun a' W' => Ext X W' ∧ wpM P md ops X Q f (listed.setIfInBounds i true) a' W') ((execOp a.eval o).run P W))
    (h' : ∀ W, Ext w W → Ext X W → LUpon P o' a (fun a' W' => Ext X W' ∧ wpM P md ops X Q f (listed.setIfInBounds j true) a' W') ((execOp a.eval o').run P W)) : wpM P md ops X Q (f + 1) listed a w := by
  intro W h1 h2
  rw [of_decide_eq_true hr]
  refine ⟨fun h => (by cases h), fun q hq => ?_⟩
  rcases List.mem_cons.1 hq with rfl | hq
  · unfold lOp
    simp only [ho, hw, if_true]
    exact h W h1 h2
  · obtain rfl : q = j := by simpa using hq
    unfold lOp
    simp only [ho', hw', if_true]
    exact h' W h1 h2
set_option maxRecDepth 100000 in
theorem entry_of {f : Nat × Nat → Int} {ps : List (Nat × Nat)} {D : DataW Unit} {left : Lit → Bool} (h : DelR f ps D left) (hok : ∀ p ∈ ps, Ok8 p) {x : Nat × Nat} {c : Int} {kl : Lit} {y : DataW Unit × List MemPlace}
    (hkey : keyOf Try.prog 117 (.agg #[.int .i64 (x.1 : Int), .int .i64 (x.2 : Int)]) = some kl) (hlk : left kl = true) (hv : plainElem (H := Unit) Try.prog 3 (.int .i64 c) = some y) (hat : ∀ zd, D.atKey kl zd = y.1) : x ∈ ps ∧ kl = klP x ∧ c = f x := by
  obtain ⟨p, hp, rfl⟩ := h.only kl hlk
  have o := hok p hp
  have e := K117.inj hkey (key_klP o.1 o.2)
  injection e with e
  simp only [Array.mk.injEq, List.cons.injEq, Value.int.injEq, true_and, and_true] at e
  obtain rfl : x = p := Prod.ext (by omega) (by omega)
  obtain ⟨c', e1, e2, _⟩ := plainElem_int_inv under3 hv
  injection e1 with _ e1
  subst e1
  have := hat .nil
  rw [(h.yet x hp hlk).2, e2] at this
  exact ⟨hp, rfl, (DataW.lit.inj this |> Lit.int.inj).2.symm⟩
open Go.ChangeMaps Go.MapKept in
theorem turned_grown {w w' : World} {b : Nat} (h : w.mapTurned w' b) : w.grownBy w' (some b) := by
  obtain ⟨es, clock, es', clock', hb, rfl⟩ := h
  exact ⟨rfl, rfl, rfl, by simp [setBlock], fun i _ hi => heap_setBlock_other hb _ (fun e => hi (by rw [e]))⟩
set_option maxRecDepth 100000 in
set_option maxHeartbeats 4000000 in
theorem clashes_any (w : World) (g : Nat) (A : Option Addr) (n c : Nat) (row : List Mt) (sc : List Rg) (hbk : Book w g (.slice A n c) (sAt sc)) (hr : MtS w w.heap.size A n row) (hn : n ≤ 7) (hn1 : 1 ≤ n) (hc : n ≤ c) (hok : row.all okM = true) (hsc : sc.all okW = true) :
    Calls Try.prog 89 #[.pointer (some ⟨g, 0, none⟩)] w (ClPost row sc n w) := by
  obtain ⟨b0, off, rfl, hb0, _⟩ := hr.2 hn1
  have hmm := @run_makeMap Try.prog
  have HO := hid hok
  have HSc := hid hsc
  have HBK := hid hbk
  have hg := Blk.lt hbk
  have HR := hid hr
  clear hok hsc hbk hr
  (refine (callsIn_wide (n := 9)).1 ?_; refine callsIn_of_wp_marks (F := Wd none) Try.func89 rfl trivial ?_ rfl; simp only [Try.ntmps89, List.size_toArray, List.length_cons, List.length_nil, Nat.reduceAdd, Nat.reduceSub, Array.replicate_succ, Array.replicate_zero, List.push_toArray, List.append_toArray, List.nil_append, List.cons_append])
  gi_wp2_with (first | (gi_at_call 92; refine (calls_wd (pairs_any g _)).mono ?_; rintro e w2 ⟨rfl, hw2⟩))
  have B1 : Blk w2 w.heap.size 102 #[.pointer (some ⟨g, 0, none⟩)] := by rw [← hw2]; exact (((Blk.new' rfl).alloc _).alloc _).alloc _
  have B3 : Blk w2 (w.heap.size + 1 + 1) 114 #[.map (some (w.heap.size + 1))] := by rw [← hw2]; exact (Blk.new' (by simp)).alloc _
  have B4 : Blk w2 (w.heap.size + 1 + 1 + 1) 102 #[.pointer (some ⟨g, 0, none⟩)] := by rw [← hw2]; exact Blk.new' (by simp)
  have hbel : Below w.heap.size w w2 := by rw [← hw2]; exact (by repeat' (first | with_reducible assumption | with_reducible exact Below.refl _ _ | refine Below.alloc ?_ ?_ _ | refine Below.setCell ?_ ?_ _ | refine Below.drew ?_ | refine below_drewN ?_ _ | (simp; done) | (simp; omega) | omega))
  have hM0 : w2.ownsMap Try.prog 117 (plainElem (H := Unit) Try.prog 3) (w.heap.size + 1) 0 (.map []) := by
    rw [← hw2]
    have := (World.ownsMap_made (H := Unit) (w.alloc (.cells #[.pointer (some ⟨g, 0, none⟩)] 102)) Try.prog 117 (plainElem Try.prog 3))
    rw [World.size_alloc] at this
    exact (this.alloc _).alloc _
  have hsz : w2.heap.size = w.heap.size + 4 := by rw [← hw2]; simp
  have HSZ := hid hsz
  have HM0 := hid hM0
  have hz2 : w.heap.size + 4 ≤ w2.heap.size := by omega
  have hgb := hid ((hbel.cell (p := ⟨g, 0, none⟩) hg).trans (Blk.cell HBK.out 0))
  clear hw2 hsz hM0
  refine with_frame fun T hT => ?_
  have hPL := prs_len n hn
  refine wpIn_rangeFunc_ownH (F := Wd none) (n := 9) rfl (by omega) (gf := 111) (lb := #[.pointer (some ⟨w.heap.size + 1 + 1 + 1, 0, none⟩)]) (by rw [hT]; rfl) trivial (enters_of Try.func111 (by kernel_rfl) rfl)
    (pairs_stops 8 (w.heap.size + 1 + 1 + 1) (w.heap.size + 4) g (fun k => k = w.heap.size + 1) _ n c hn (by omega) (by omega) (by omega) (by omega) w2 (by omega) (B4.cell 0) hgb.out)
    (fun h k => h.trans k) (KpG.putObj (by omega)) (Below.refl _ _) (fun _ => rfl)
    (fun pre W => (∃ m D, Hid (W.ownsMap Try.prog 117 (plainElem (H := Unit) Try.prog 3) (w.heap.size + 1) m D) ∧ m ≤ pre.length ∧ Hid (MapOf (clF row sc) (pre.map (·.1)) D)) ∧ Blk W w.heap.size 102 #[.pointer (some ⟨g, 0, none⟩)] ∧ Blk W (w.heap.size + 1 + 1) 114 #[.map (some (w.heap.size + 1))] ∧ Below w.heap.size w W ∧ w.heap.size + 4 ≤ W.heap.size)
    (fun c pre W => False)
    (fun s X Y rw_ hs hg hrow => ?hI) (fun c s X Y rw_ hs hg hrow => hs.elim) ⟨⟨0, _, HM0, by simp, MapOf.nil _⟩, B1, B3, hbel, by omega⟩
    (fun x a' W => ∃ Bx, w.heap.size + 4 ≤ Bx ∧ Blk W Bx 117 #[.int .i64 x.1.1, .int .i64 x.1.2] ∧
      a' = { tmps := (T.setIfInBounds 12 (.agg #[.int .i64 x.1.1, .int .i64 x.1.2])).setIfInBounds 4 (.pointer (some ⟨Bx, 0, none⟩)), defers := [] })
    (fun x a' s X Y rw_ hs hg hrow => ?hAx) ?assign ?body ?done ?stop
  case hI =>
    obtain ⟨⟨m, D, hm, hmn, hmo⟩, b1, b3, hb, hz⟩ := hs
    have hr' : ∀ r, rw_ = some r → ∃ o : Obj, X.heap[r]? = some o ∧ o.isCells = false := fun r e => (hrow r e).2
    exact ⟨⟨m, D, hid (hm.out.kept hg (by intro e; have := (hrow _ e.symm).1; omega)), hmn, hmo⟩, b1.ownk hg hr', b3.ownk hg hr', Below.ownk hb hg hb.size (fun r e => by have := (hrow r e).1; omega), by have := hg.size; omega⟩
  case hAx =>
    obtain ⟨Bx, hx, hX, e⟩ := hs
    exact ⟨Bx, hx, hX.ownk hg (fun r e => (hrow r e).2), e⟩
  case assign =>
    rintro l pre x W K ⟨⟨m, D, hm, hmn, hmo⟩, b1, b3, hb, hz⟩ hK
    simp only [encP, hT]
    clear B1 B3 B4 hbel hmm
    gi_wp2
    exact hK _ _ ((KeepsOthers.alloc _ _).from _) (KpG.alloc _ (by omega) _) ⟨⟨m, D, hid (hm.out.alloc _), hmn, hmo⟩, b1.alloc _, b3.alloc _, hb.alloc hb.size _, by simp; omega⟩ ⟨W.heap.size, hz, Blk.new _ _ _, by rw [hT]; rfl⟩
  case body =>
    rintro l pre x a' W hl _ ⟨⟨m, D, HM, hmn, hmo⟩, b1, b3, hb, hz⟩ ⟨Bx, hBx, bX, rfl⟩ hlt
    simp only [hT, List.setIfInBounds_toArray, List.set_cons_zero, List.set_cons_succ]
    clear B1 B3 B4 hbel hT
    have HBX := hid bX
    have HB1 := hid b1
    have HB3 := hid b3
    have q0 := b1.cell 0
    have q1 := bX.cell 0
    have q2 := bX.cell 1
    have l1 := b1.lt
    have l3 := b3.lt
    have lX := bX.lt
    clear b1 b3 bX
    obtain ⟨⟨xa, xb⟩, hx1, hx2⟩ := x
    simp only at hx1 hx2 q1 q2 HBX ⊢
    have HX := hid (show Ok8 (xa, xb) from ⟨by show xa < 8; omega, by show xb < 8; omega⟩)
    have hkey := hid (key_klP HX.out.1 HX.out.2)
    have hbkW : Book W g (.slice (some ⟨b0, off, none⟩) n c) (sAt sc) := Blk.below HBK.out hb hg
    have hgW : g < W.heap.size := by omega
    have e0 : W.cell? ⟨g, 0, none⟩ = some (.slice (some ⟨b0, off, none⟩) n c) := Blk.cell hbkW 0
    have ea1 := hbkW.lo (i := xa) (by omega)
    have ea2 := hbkW.hi (i := xa) (by omega)
    have eb1 := hbkW.lo (i := xb) (by omega)
    have eb2 := hbkW.hi (i := xb) (by omega)
    have HBW := hid hbkW
    clear hbkW
    have y1 : (xa : Int) ≤ xb := by omega
    have y2 : (xb : Int) ≤ c := by omega
    have y3 : (xa : Int) < 8 := by omega
    have y4 : (xb : Int) < 8 := by omega
    have y5 : ¬ c = xa := by omega
    have y6 : xa < 8 := by omega
    have y7 : xb < 8 := by omega
    have hrW := hid (mts_sub (HR.out.below hb hb.size) (x := xa) (y := xb) (by omega) hx2 (by omega))
    have hsok := hid (List.all_eq_true.2 fun m hm => List.all_eq_true.1 HO.out m (List.mem_of_mem_drop (List.mem_of_mem_take hm)) : (sub row xa xb).all okM = true)
    have hr1 := hid (okS_sAt HSc.out xa)
    have hr2 := hid (sAt_ne HSc.out xa)
    have hlt28 : pre.length < 28 := by omega
    have hfx : Hid (clF row sc (xa, xb) = if (sAt sc xb).hi < (leftOf (sub row xa xb) (sAt sc xa)).lo then 1 else if (leftOf (sub row xa xb) (sAt sc xa)).hi < (sAt sc xb).lo then 2 else 0) := rfl
    have HMO := hid (hmo.out.put (isMap_owns HM.out) (fun p hp => by obtain ⟨q, _, rfl⟩ := List.mem_map.1 hp; exact ⟨by have := q.2; omega, by have := q.2; omega⟩) HX.out)
    clear hmo
    gi_wp2
    refine wpIn_region_el [0, 1, 2, 3, 4, 5, 6, 7, 8, 9, 10, 11, 12, 13, 14, 15, 16, 17, 18, 19, 20, 21, 22, 23, 24, 25] 4 (by kernel_rfl) (by kernel_rfl) (fun Y hY => ?_)
    have hYX : Below W.heap.size W Y := by rw [hY]; exact (Below.refl _ _).drew
    clear hY
    obtain ⟨hcY, hfY⟩ := bcell hYX
    have hsY := hYX.size
    replace q0 := (hcY _ _ l1).trans q0
    replace q1 := (hcY _ _ lX).trans q1
    replace q2 := (hcY _ _ lX).trans q2
    replace e0 := (hcY _ _ hgW).trans e0
    replace ea1 := (hcY _ _ hgW).trans ea1
    replace ea2 := (hcY _ _ hgW).trans ea2
    replace eb1 := (hcY _ _ hgW).trans eb1
    replace eb2 := (hcY _ _ hgW).trans eb2
    have l1 : w.heap.size < Y.heap.size := by omega
    have lX : Bx < Y.heap.size := by omega
    have hgW : g < Y.heap.size := by omega
    clear hcY hfY
    simp only [pick, List.getElem?_toArray, List.getElem?_cons_zero, List.getElem?_cons_succ]
    iterate 18 (refine wpE_val (v := ?_) (by rfl) (fun W hW => ?_) ?_; rotate_left; (· obtain ⟨hcW, hfW⟩ := bcell hW; go_simp; with_reducible rfl); simp only [Act.put, List.setIfInBounds_toArray, List.set_cons_zero, List.set_cons_succ])
    (refine wpE_call (by rfl) (fun W hW => left_any W _ (xb - xa) (c - xa) (sub row xa xb) (sAt sc xa) ((hrW.out.below hYX hsY).below hW hW.size) (by omega) hsok.out hr1.out.1 hr2.out (hr1.out.2.2.2)) (fun W hW => ?_) ?_; (· obtain ⟨hcW, hfW⟩ := bcell hW; go_simp); simp only [Act.put, List.setIfInBounds_toArray, List.set_cons_zero, List.set_cons_succ])
    iterate 7 (refine wpE_val (v := ?_) (by rfl) (fun W hW => ?_) ?_; rotate_left; (· obtain ⟨hcW, hfW⟩ := bcell hW; go_simp; with_reducible rfl); simp only [Act.put, List.setIfInBounds_toArray, List.set_cons_zero, List.set_cons_succ])
    simp only [wpE]
    refine wpM_two 26 27 _ _ (by simp only [List.getElem?_toArray, List.getElem?_cons_zero, List.getElem?_cons_succ]; rfl) (by simp only [List.getElem?_toArray, List.getElem?_cons_zero, List.getElem?_cons_succ]; rfl) (by kernel_rfl) (by rfl) (by rfl) ?_ ?_
    · intro Xa hXa hXa'
      (go_simp; simp only [LUpon, Act.put]; try simp only [List.setIfInBounds_toArray, List.set_cons_zero, List.set_cons_succ])
      refine ⟨hXa'.alloc hXa'.size _, ?_⟩
      have b5 : Blk (Xa.alloc (.cells #[.int .i64 0, .int .i64 0] 24)) Xa.heap.size 24 #[.int .i64 0, .int .i64 0] := Blk.new _ _ _
      have hB5 : Y.heap.size ≤ Xa.heap.size := hXa'.size
      clear hXa hXa'
      generalize Xa.heap.size = B5 at *
      generalize Xa.alloc (.cells #[.int .i64 0, .int .i64 0] 24) = Xc at *
      clear Xa
      (refine wpM_one 27 _ (by simp only [List.getElem?_toArray, List.getElem?_cons_zero, List.getElem?_cons_succ]; rfl) (by kernel_rfl) (by rfl) ?_)
      intro Xa hXa hXa'
      replace b5 := b5.below hXa b5.lt
      (go_simp; simp only [LUpon, Act.put]; try simp only [List.setIfInBounds_toArray, List.set_cons_zero, List.set_cons_succ])
      refine ⟨hXa'.alloc hXa'.size _, ?_⟩
      have b6 : Blk (Xa.alloc (.cells #[.int .i64 0, .int .i64 0] 24)) Xa.heap.size 24 #[.int .i64 0, .int .i64 0] := Blk.new _ _ _
      have hB6 : Y.heap.size ≤ Xa.heap.size := hXa'.size
      have hne5 := b5.lt
      replace b5 := b5.alloc (.cells #[.int .i64 0, .int .i64 0] 24)
      clear hXa hXa'
      generalize Xa.heap.size = B6 at *
      generalize Xa.alloc (.cells #[.int .i64 0, .int .i64 0] 24) = Xc at *
      clear Xa
      (refine wpM_one 28 _ (by simp only [List.getElem?_toArray, List.getElem?_cons_zero, List.getElem?_cons_succ]; rfl) (by kernel_rfl) (by rfl) ?_)
      intro Xa hXa hXa'
      replace b5 := b5.below hXa b5.lt
      replace b6 := b6.below hXa b6.lt
      have f0 := b5.frozen 0
      have r0 := b5.cell 0
      have f1 := b5.frozen 1
      have r1 := b5.cell 1
      have hlt := b5.lt
      (go_simp; simp only [LUpon, Act.put]; try simp only [List.setIfInBounds_toArray, List.set_cons_zero, List.set_cons_succ])
      refine ⟨(hXa'.setCell hB5 _).setCell hB5 _, ?_⟩
      replace b5 := b5.set2 (a := .int .i64 (leftOf (sub row xa xb) (sAt sc xa)).lo) (b := .int .i64 (leftOf (sub row xa xb) (sAt sc xa)).hi)
      replace b6 := (b6.far (p := ⟨B5, 0, none⟩) (by simp; omega) (.int .i64 (leftOf (sub row xa xb) (sAt sc xa)).lo)).far (p := ⟨B5, 1, none⟩) (by simp; omega) (.int .i64 (leftOf (sub row xa xb) (sAt sc xa)).hi)
      clear f0 f1 r0 r1 hlt hXa hXa'
      generalize (Xa.setCell ⟨B5, 0, none⟩ (.int .i64 (leftOf (sub row xa xb) (sAt sc xa)).lo)).setCell ⟨B5, 1, none⟩ (.int .i64 (leftOf (sub row xa xb) (sAt sc xa)).hi) = Xc at *
      clear Xa
      (refine wpM_one 29 _ (by simp only [List.getElem?_toArray, List.getElem?_cons_zero, List.getElem?_cons_succ]; rfl) (by kernel_rfl) (by rfl) ?_)
      intro Xa hXa hXa'
      replace b5 := b5.below hXa b5.lt
      replace b6 := b6.below hXa b6.lt
      have f0 := b6.frozen 0
      have r0 := b6.cell 0
      have f1 := b6.frozen 1
      have r1 := b6.cell 1
      have hlt := b6.lt
      (go_simp; simp only [LUpon, Act.put]; try simp only [List.setIfInBounds_toArray, List.set_cons_zero, List.set_cons_succ])
      refine ⟨(hXa'.setCell hB6 _).setCell hB6 _, ?_⟩
      replace b6 := b6.set2 (a := .int .i64 (sAt sc xb).lo) (b := .int .i64 (sAt sc xb).hi)
      replace b5 := (b5.far (p := ⟨B6, 0, none⟩) (by simp; omega) (.int .i64 (sAt sc xb).lo)).far (p := ⟨B6, 1, none⟩) (by simp; omega) (.int .i64 (sAt sc xb).hi)
      clear f0 f1 r0 r1 hlt hXa hXa'
      generalize (Xa.setCell ⟨B6, 0, none⟩ (.int .i64 (sAt sc xb).lo)).setCell ⟨B6, 1, none⟩ (.int .i64 (sAt sc xb).hi) = Xc at *
      clear Xa
      refine wpM_end (by kernel_rfl) ?_
      intro X3 hX3 hX3'
      replace b5 := b5.below hX3 b5.lt
      replace b6 := b6.below hX3 b6.lt
      clear hX3
      have hX : Below W.heap.size W X3 := hYX.trans (hX3'.mono hsY)
      have hs3 := hX.size
      have hb5 := b5.lt
      have hb6 := b6.lt
      have r0 := b5.cell 0
      have r1 := b5.cell 1
      have r2 := b6.cell 0
      have r3 := b6.cell 1
      have c3 := (HB3.out.below hX l3).cell 0
      have cx0 := (HBX.out.below hX (by omega)).cell 0
      have cx1 := (HBX.out.below hX (by omega)).cell 1
      clear b5 b6 hX3' q0 q1 q2 e0 ea1 ea2 eb1 eb2 hYX hsY l1 lX hgW hB5 hB6
      by_cases h1 : (sAt sc xb).hi < (leftOf (sub row xa xb) (sAt sc xa)).lo
      · have hf1 := hid (hfx.out.trans (if_pos h1))
        gi_wp2_with (first | (gi_at_mapUpdate; refine wpListIn_mapUpdate_own _ rfl _ _ _ 114 rfl 117 3 K117 under114 _ (w.heap.size + 1) m D rfl (map_below HM.out hX) (by unfold maxLen; omega) _ _ (klP (xa, xb)) rfl rfl hkey.out (.lit (.int .i64 1)) [] (elem3 (by decide)) ?_; intro w3 hown3 hgr3))
        exact ⟨(keepsFrom_below hX).trans (KeepsFrom.of_grownBy hgr3 (by intro j hj; injection hj with hj; subst hj; omega)), (KpG.of_below (hX.mono hz)).trans ⟨hgr3.size, fun k hk hG => hgr3.block k (by omega) (by intro e; injection e with e; exact hG e)⟩, ⟨⟨m + 1, _, hid hown3, (by rw [List.length_append]; exact Nat.succ_le_succ hmn), hid (by have h := HMO.out; rw [hf1.out] at h; rw [List.map_append]; exact h)⟩, (HB1.out.below hX (by omega)).grown hgr3 (by simp), (HB3.out.below hX (by omega)).grown hgr3 (by simp), (hb.trans (hX.mono hb.size)).grown hgr3 (by omega) (by intro k hk; injection hk with hk; subst hk; omega), by have := hgr3.size; omega⟩⟩
      · by_cases h2 : (leftOf (sub row xa xb) (sAt sc xa)).hi < (sAt sc xb).lo
        · have hf1 := hid (hfx.out.trans ((if_neg h1).trans (if_pos h2)))
          gi_wp2_with (first | (gi_at_mapUpdate; refine wpListIn_mapUpdate_own _ rfl _ _ _ 114 rfl 117 3 K117 under114 _ (w.heap.size + 1) m D rfl (map_below HM.out hX) (by unfold maxLen; omega) _ _ (klP (xa, xb)) rfl rfl hkey.out (.lit (.int .i64 2)) [] (elem3 (by decide)) ?_; intro w3 hown3 hgr3))
          exact ⟨(keepsFrom_below hX).trans (KeepsFrom.of_grownBy hgr3 (by intro j hj; injection hj with hj; subst hj; omega)), (KpG.of_below (hX.mono hz)).trans ⟨hgr3.size, fun k hk hG => hgr3.block k (by omega) (by intro e; injection e with e; exact hG e)⟩, ⟨⟨m + 1, _, hid hown3, (by rw [List.length_append]; exact Nat.succ_le_succ hmn), hid (by have h := HMO.out; rw [hf1.out] at h; rw [List.map_append]; exact h)⟩, (HB1.out.below hX (by omega)).grown hgr3 (by simp), (HB3.out.below hX (by omega)).grown hgr3 (by simp), (hb.trans (hX.mono hb.size)).grown hgr3 (by omega) (by intro k hk; injection hk with hk; subst hk; omega), by have := hgr3.size; omega⟩⟩
        · have hf1 := hid (hfx.out.trans ((if_neg h1).trans (if_neg h2)))
          gi_wp2_with (first | (gi_at_mapUpdate; refine wpListIn_mapUpdate_own _ rfl _ _ _ 114 rfl 117 3 K117 under114 _ (w.heap.size + 1) m D rfl (map_below HM.out hX) (by unfold maxLen; omega) _ _ (klP (xa, xb)) rfl rfl hkey.out (.lit (.int .i64 0)) [] (elem3 (by decide)) ?_; intro w3 hown3 hgr3))
          exact ⟨(keepsFrom_below hX).trans (KeepsFrom.of_grownBy hgr3 (by intro j hj; injection hj with hj; subst hj; omega)), (KpG.of_below (hX.mono hz)).trans ⟨hgr3.size, fun k hk hG => hgr3.block k (by omega) (by intro e; injection e with e; exact hG e)⟩, ⟨⟨m + 1, _, hid hown3, (by rw [List.length_append]; exact Nat.succ_le_succ hmn), hid (by have h := HMO.out; rw [hf1.out] at h; rw [List.map_append]; exact h)⟩, (HB1.out.below hX (by omega)).grown hgr3 (by simp), (HB3.out.below hX (by omega)).grown hgr3 (by simp), (hb.trans (hX.mono hb.size)).grown hgr3 (by omega) (by intro k hk; injection hk with hk; subst hk; omega), by have := hgr3.size; omega⟩⟩
    · intro Xa hXa hXa'
      (go_simp; simp only [LUpon, Act.put]; try simp only [List.setIfInBounds_toArray, List.set_cons_zero, List.set_cons_succ])
      refine ⟨hXa'.alloc hXa'.size _, ?_⟩
      have b6 : Blk (Xa.alloc (.cells #[.int .i64 0, .int .i64 0] 24)) Xa.heap.size 24 #[.int .i64 0, .int .i64 0] := Blk.new _ _ _
      have hB6 : Y.heap.size ≤ Xa.heap.size := hXa'.size
      clear hXa hXa'
      generalize Xa.heap.size = B6 at *
      generalize Xa.alloc (.cells #[.int .i64 0, .int .i64 0] 24) = Xc at *
      clear Xa
      (refine wpM_one 26 _ (by simp only [List.getElem?_toArray, List.getElem?_cons_zero, List.getElem?_cons_succ]; rfl) (by kernel_rfl) (by rfl) ?_)
      intro Xa hXa hXa'
      replace b6 := b6.below hXa b6.lt
      (go_simp; simp only [LUpon, Act.put]; try simp only [List.setIfInBounds_toArray, List.set_cons_zero, List.set_cons_succ])
      refine ⟨hXa'.alloc hXa'.size _, ?_⟩
      have b5 : Blk (Xa.alloc (.cells #[.int .i64 0, .int .i64 0] 24)) Xa.heap.size 24 #[.int .i64 0, .int .i64 0] := Blk.new _ _ _
      have hB5 : Y.heap.size ≤ Xa.heap.size := hXa'.size
      have hne6 := b6.lt
      replace b6 := b6.alloc (.cells #[.int .i64 0, .int .i64 0] 24)
      clear hXa hXa'
      generalize Xa.heap.size = B5 at *
      generalize Xa.alloc (.cells #[.int .i64 0, .int .i64 0] 24) = Xc at *
      clear Xa
      (refine wpM_one 28 _ (by simp only [List.getElem?_toArray, List.getElem?_cons_zero, List.getElem?_cons_succ]; rfl) (by kernel_rfl) (by rfl) ?_)
      intro Xa hXa hXa'
      replace b6 := b6.below hXa b6.lt
      replace b5 := b5.below hXa b5.lt
      have f0 := b5.frozen 0
      have r0 := b5.cell 0
      have f1 := b5.frozen 1
      have r1 := b5.cell 1
      have hlt := b5.lt
      (go_simp; simp only [LUpon, Act.put]; try simp only [List.setIfInBounds_toArray, List.set_cons_zero, List.set_cons_succ])
      refine ⟨(hXa'.setCell hB5 _).setCell hB5 _, ?_⟩
      replace b5 := b5.set2 (a := .int .i64 (leftOf (sub row xa xb) (sAt sc xa)).lo) (b := .int .i64 (leftOf (sub row xa xb) (sAt sc xa)).hi)
      replace b6 := (b6.far (p := ⟨B5, 0, none⟩) (by simp; omega) (.int .i64 (leftOf (sub row xa xb) (sAt sc xa)).lo)).far (p := ⟨B5, 1, none⟩) (by simp; omega) (.int .i64 (leftOf (sub row xa xb) (sAt sc xa)).hi)
      clear f0 f1 r0 r1 hlt hXa hXa'
      generalize (Xa.setCell ⟨B5, 0, none⟩ (.int .i64 (leftOf (sub row xa xb) (sAt sc xa)).lo)).setCell ⟨B5, 1, none⟩ (.int .i64 (leftOf (sub row xa xb) (sAt sc xa)).hi) = Xc at *
      clear Xa
      (refine wpM_one 29 _ (by simp only [List.getElem?_toArray, List.getElem?_cons_zero, List.getElem?_cons_succ]; rfl) (by kernel_rfl) (by rfl) ?_)
      intro Xa hXa hXa'
      replace b6 := b6.below hXa b6.lt
      replace b5 := b5.below hXa b5.lt
      have f0 := b6.frozen 0
      have r0 := b6.cell 0
      have f1 := b6.frozen 1
      have r1 := b6.cell 1
      have hlt := b6.lt
      (go_simp; simp only [LUpon, Act.put]; try simp only [List.setIfInBounds_toArray, List.set_cons_zero, List.set_cons_succ])
      refine ⟨(hXa'.setCell hB6 _).setCell hB6 _, ?_⟩
      replace b6 := b6.set2 (a := .int .i64 (sAt sc xb).lo) (b := .int .i64 (sAt sc xb).hi)
      replace b5 := (b5.far (p := ⟨B6, 0, none⟩) (by simp; omega) (.int .i64 (sAt sc xb).lo)).far (p := ⟨B6, 1, none⟩) (by simp; omega) (.int .i64 (sAt sc xb).hi)
      clear f0 f1 r0 r1 hlt hXa hXa'
      generalize (Xa.setCell ⟨B6, 0, none⟩ (.int .i64 (sAt sc xb).lo)).setCell ⟨B6, 1, none⟩ (.int .i64 (sAt sc xb).hi) = Xc at *
      clear Xa
      refine wpM_end (by kernel_rfl) ?_
      intro X3 hX3 hX3'
      replace b5 := b5.below hX3 b5.lt
      replace b6 := b6.below hX3 b6.lt
      clear hX3
      have hX : Below W.heap.size W X3 := hYX.trans (hX3'.mono hsY)
      have hs3 := hX.size
      have hb5 := b5.lt
      have hb6 := b6.lt
      have r0 := b5.cell 0
      have r1 := b5.cell 1
      have r2 := b6.cell 0
      have r3 := b6.cell 1
      have c3 := (HB3.out.below hX l3).cell 0
      have cx0 := (HBX.out.below hX (by omega)).cell 0
      have cx1 := (HBX.out.below hX (by omega)).cell 1
      clear b5 b6 hX3' q0 q1 q2 e0 ea1 ea2 eb1 eb2 hYX hsY l1 lX hgW hB5 hB6
      by_cases h1 : (sAt sc xb).hi < (leftOf (sub row xa xb) (sAt sc xa)).lo
      · have hf1 := hid (hfx.out.trans (if_pos h1))
        gi_wp2_with (first | (gi_at_mapUpdate; refine wpListIn_mapUpdate_own _ rfl _ _ _ 114 rfl 117 3 K117 under114 _ (w.heap.size + 1) m D rfl (map_below HM.out hX) (by unfold maxLen; omega) _ _ (klP (xa, xb)) rfl rfl hkey.out (.lit (.int .i64 1)) [] (elem3 (by decide)) ?_; intro w3 hown3 hgr3))
        exact ⟨(keepsFrom_below hX).trans (KeepsFrom.of_grownBy hgr3 (by intro j hj; injection hj with hj; subst hj; omega)), (KpG.of_below (hX.mono hz)).trans ⟨hgr3.size, fun k hk hG => hgr3.block k (by omega) (by intro e; injection e with e; exact hG e)⟩, ⟨⟨m + 1, _, hid hown3, (by rw [List.length_append]; exact Nat.succ_le_succ hmn), hid (by have h := HMO.out; rw [hf1.out] at h; rw [List.map_append]; exact h)⟩, (HB1.out.below hX (by omega)).grown hgr3 (by simp), (HB3.out.below hX (by omega)).grown hgr3 (by simp), (hb.trans (hX.mono hb.size)).grown hgr3 (by omega) (by intro k hk; injection hk with hk; subst hk; omega), by have := hgr3.size; omega⟩⟩
      · by_cases h2 : (leftOf (sub row xa xb) (sAt sc xa)).hi < (sAt sc xb).lo
        · have hf1 := hid (hfx.out.trans ((if_neg h1).trans (if_pos h2)))
          gi_wp2_with (first | (gi_at_mapUpdate; refine wpListIn_mapUpdate_own _ rfl _ _ _ 114 rfl 117 3 K117 under114 _ (w.heap.size + 1) m D rfl (map_below HM.out hX) (by unfold maxLen; omega) _ _ (klP (xa, xb)) rfl rfl hkey.out (.lit (.int .i64 2)) [] (elem3 (by decide)) ?_; intro w3 hown3 hgr3))
          exact ⟨(keepsFrom_below hX).trans (KeepsFrom.of_grownBy hgr3 (by intro j hj; injection hj with hj; subst hj; omega)), (KpG.of_below (hX.mono hz)).trans ⟨hgr3.size, fun k hk hG => hgr3.block k (by omega) (by intro e; injection e with e; exact hG e)⟩, ⟨⟨m + 1, _, hid hown3, (by rw [List.length_append]; exact Nat.succ_le_succ hmn), hid (by have h := HMO.out; rw [hf1.out] at h; rw [List.map_append]; exact h)⟩, (HB1.out.below hX (by omega)).grown hgr3 (by simp), (HB3.out.below hX (by omega)).grown hgr3 (by simp), (hb.trans (hX.mono hb.size)).grown hgr3 (by omega) (by intro k hk; injection hk with hk; subst hk; omega), by have := hgr3.size; omega⟩⟩
        · have hf1 := hid (hfx.out.trans ((if_neg h1).trans (if_neg h2)))
          gi_wp2_with (first | (gi_at_mapUpdate; refine wpListIn_mapUpdate_own _ rfl _ _ _ 114 rfl 117 3 K117 under114 _ (w.heap.size + 1) m D rfl (map_below HM.out hX) (by unfold maxLen; omega) _ _ (klP (xa, xb)) rfl rfl hkey.out (.lit (.int .i64 0)) [] (elem3 (by decide)) ?_; intro w3 hown3 hgr3))
          exact ⟨(keepsFrom_below hX).trans (KeepsFrom.of_grownBy hgr3 (by intro j hj; injection hj with hj; subst hj; omega)), (KpG.of_below (hX.mono hz)).trans ⟨hgr3.size, fun k hk hG => hgr3.block k (by omega) (by intro e; injection e with e; exact hG e)⟩, ⟨⟨m + 1, _, hid hown3, (by rw [List.length_append]; exact Nat.succ_le_succ hmn), hid (by have h := HMO.out; rw [hf1.out] at h; rw [List.map_append]; exact h)⟩, (HB1.out.below hX (by omega)).grown hgr3 (by simp), (HB3.out.below hX (by omega)).grown hgr3 (by simp), (hb.trans (hX.mono hb.size)).grown hgr3 (by omega) (by intro k hk; injection hk with hk; subst hk; omega), by have := hgr3.size; omega⟩⟩
  case done =>
    rintro D0 ys W hD hys ⟨⟨m, D, HM, hmn, hmo⟩, b1, b3, hb, hz⟩ hK
    have hst := hid (DelR.start (by have := hmo.out; rw [hys] at this; exact this))
    have HB3 := hid b3
    have HKd := hid hK
    have q0 := b3.cell 0
    have l3 := b3.lt
    have hD4 : w.heap.size + 4 ≤ D0 := by omega
    have hDW : D0 < W.heap.size := (Array.getElem?_eq_some_iff.1 hK).1
    simp only [hT]
    clear B1 B3 B4 hbel b1 b3 hys hmo hK
    gi_wp2_with (first | (gi_at_range; refine wpListIn_range_own _ rfl _ 114 rfl 117 3 K117 under114 _ (w.heap.size + 1) m D rfl HM.out ?_; intro w5 hrg hgr5 hsz5; have hrg5 := hid hrg; have hb5 := hid (below_grown' hb hgr5 (Nat.le_refl _)); have HB35 := hid (HB3.out.grown hgr5 (by simp)); have HKd5 := hid ((hgr5.block D0 hDW (by simp)).trans HKd.out); have hz5 : W.heap.size ≤ w5.heap.size := hgr5.size; clear hrg hsz5))
    simp only [Act.put, List.setIfInBounds_toArray, List.set_cons_zero, List.set_cons_succ]
    gi_loopw [] (fun wr => ∃ m D left cnt, Hid (wr.ranges Try.prog 117 (plainElem (H := Unit) Try.prog 3) (w.heap.size + 1) W.heap.size m D left cnt) ∧ Hid (DelR (clF row sc) (prs n) D left) ∧ Hid (Blk wr (w.heap.size + 1 + 1) 114 #[.map (some (w.heap.size + 1))]) ∧ Hid (wr.heap[D0]? = some (.deferred (some []))) ∧ Hid (Below w.heap.size w wr) ∧ W.heap.size ≤ wr.heap.size) (fun wr => wr.rangeLeft (w.heap.size + 1) W.heap.size)
    case atStart => exact ⟨m, D, _, _, hrg5, hst, HB35, HKd5, hb5, hz5⟩
    case round =>
      obtain ⟨m1, D1, left, cnt, hrg, hdel, hb3, hk0, hbel, hzr⟩ := hrel
      have hokp := hid (fun p hp => by have := prs_ok n hn p hp; exact ⟨by omega, by omega⟩ : ∀ p ∈ prs n, Ok8 p)
      have hinvK := hid (fun (key : Value) (kl : Lit) (hkey : keyOf Try.prog 117 key = some kl) (hl : left kl = true) => (by
        obtain ⟨p, hp, rfl⟩ := hdel.out.only kl hl
        have o := hokp.out p hp
        exact ⟨p, K117.inj hkey (key_klP o.1 o.2)⟩ : ∃ x : Nat × Nat, key = .agg #[.int .i64 (x.1 : Int), .int .i64 (x.2 : Int)]))
      have hinvV := hid (fun (v : Value) (y : DataW Unit × List MemPlace) (h : plainElem (H := Unit) Try.prog 3 v = some y) => (by obtain ⟨c, rfl, _⟩ := plainElem_int_inv under3 h; exact ⟨c, rfl⟩ : ∃ c : Int, v = .int .i64 c))
      have l3 := hb3.out.lt
      have q0 := hb3.out.cell 0
      have hcnt := hid (World.ranges.left_eq hrg.out)
      gi_wp2_with (first | (gi_at_next; refine wpListIn_next_key _ rfl _ rfl 117 K117 _ (fun x : Nat × Nat => .agg #[.int .i64 (x.1 : Int), .int .i64 (x.2 : Int)]) (Value.int .i64) _ _ _ _ left cnt hinvK.out hinvV.out rfl hrg.out (fun h0 hl => ?_) (fun x c' kl y w6 cnt6 hkey hlk hv hat hrg6 hlt6 hgr6 hsz6 hen => ?_); all_goals first | (have hl' := hid hl; clear hl h0) | (have Hkey := hid hkey; have Hlk := hid hlk; have Hv := hid hv; have Hat := hid hat; have Hrg6 := hid hrg6; have Hgr6 := hid hgr6; have Hz6 := hid hsz6; have hz6 := Nat.le_of_eq hsz6.symm; have l6 : w.heap.size + 1 + 1 < w6.heap.size := Nat.lt_of_lt_of_le l3 hz6; obtain ⟨hxp, hxk, hxc⟩ := entry_of hdel.out hokp.out hkey hlk hv hat; subst hxk; have Hxp := hid hxp; have Hxc := hid hxc; have q6 := (hb3.out.grown hgr6 (fun e => by injection e with e; omega)).cell 0; clear hkey hlk hv hat hrg6 hgr6 hsz6 hxp hxc; cases hc0 : (c' == (0 : Int)))) | (gi_at_delete; refine wpListIn_delete_ranges _ rfl _ _ 114 117 rfl 3 K117 under114 _ (w.heap.size + 1) W.heap.size m1 D1 _ cnt6 rfl (Hrg6.out.alloc _) _ (klP x) rfl Hkey.out ?_; intro w7 cnt7 hrg7 hle7 hmt7; have Hrg7 := hid hrg7; have Hgr7 := hid (turned_grown hmt7); clear hrg7 hmt7))
      all_goals have hDr : D0 < wr.heap.size := Nat.lt_of_lt_of_le hDW hzr
      · refine leavesM_marks [D0] _ (by simp) (by simpa using hk0.out) (fun w' ho => ⟨.map (some (w.heap.size + 1)), ?_, ⟨_, rfl, Nat.le_succ _, ⟨m1, D1, map_off hrg.out.owns ho (by simp; omega), fun p hp => hdel.out.done p hp (hl'.out _)⟩, ho.below hbel.out (by simp; omega)⟩⟩)
        simp [results, Try.results89, go_sem]
      · have hfx : clF row sc x ≠ 0 := fun e => by rw [Hxc.out, e] at hc0; simp at hc0
        exact ⟨⟨m1, _, _, cnt6, hid (Hrg6.out.alloc _), hid (hdel.out.keep hokp.out Hxp.out Hlk.out hfx), hid ((hb3.out.grown Hgr6.out (fun e => by injection e with e; omega)).alloc _), hid ((Below.heap_alloc w6 _ D0 (Nat.lt_of_lt_of_le hDr hz6)).trans ((Hgr6.out.block D0 hDr (fun e => by injection e with e; omega)).trans hk0.out)), hid ((hbel.out.grown Hgr6.out (by omega) (fun k hk => by injection hk with hk; omega)).alloc (by omega) _), by rw [World.size_alloc]; omega⟩, by rw [hcnt.out, World.ranges.left_eq (Hrg6.out.alloc _)]; exact hlt6⟩
      · have hfx : clF row sc x = 0 := Hxc.out.symm.trans (by simpa using hc0)
        have g6 := hid ((hb3.out.grown Hgr6.out (fun e => by injection e with e; omega)).alloc (.cells #[.int .i64 (x.1 : Int), .int .i64 (x.2 : Int)] 117))
        have d6 := hid ((Below.heap_alloc w6 (.cells #[.int .i64 (x.1 : Int), .int .i64 (x.2 : Int)] 117) D0 (Nat.lt_of_lt_of_le hDr hz6)).trans ((Hgr6.out.block D0 hDr (fun e => by injection e with e; omega)).trans hk0.out))
        have be6 := hid ((hbel.out.grown Hgr6.out (by omega) (fun k hk => by injection hk with hk; omega)).alloc (by omega) (.cells #[.int .i64 (x.1 : Int), .int .i64 (x.2 : Int)] 117))
        have z7 := Hgr7.out.size
        rw [World.size_alloc] at z7
        go_frame
        refine ⟨?_, ?_⟩
        · repeat apply Exists.intro
          exact ⟨⟨m1, _, _, cnt7, Hrg7, hid (hdel.out.del hokp.out Hxp.out hfx), hid (g6.out.grown Hgr7.out (fun e => by injection e with e; omega)), hid ((Hgr7.out.block D0 (by rw [World.size_alloc]; omega) (fun e => by injection e with e; omega)).trans d6.out), hid (be6.out.grown Hgr7.out (by rw [World.size_alloc]; omega) (fun k hk => by injection hk with hk; omega)), by omega⟩, rfl⟩
        · rw [hcnt.out, World.ranges.left_eq Hrg7.out]; omega
  case stop =>
    rintro D c pre W hD _ h
    exact h.elim
end Go.Proofs.Ytdcglphekafpdaa
namespace Go.Proofs.Ytdcglphekafpdaa
open Go.RowKit Go.Shelf
theorem zero3 (w : World) : (zeroValue 3).run Try.prog w = .ok (.int .i64 0) w := by kernel_rfl
theorem prs_sorted : ∀ n, n ≤ 7 → (prs n).Pairwise (fun p q => p.1 < q.1 ∨ p.1 = q.1 ∧ p.2 < q.2) := by decide +kernel
def clP (row : List Mt) (sc : List Rg) (p : Nat × Nat) : Bool := decide (0 < clF row sc p)
theorem clP_opp {row : List Mt} {sc : List Rg} {a b : Nat} (h : a < b) : clP row sc (a, b) = opp row sc a b := by
  unfold clP opp clF
  rw [decide_eq_true h, Bool.true_and, Bool.eq_iff_iff, decide_eq_true_eq, bne_iff_ne]
  exact side_pos
theorem find_prs {row : List Mt} {sc : List Rg} {n : Nat} (hn : n ≤ 7) (hl : row.length = n) : (prs n).find? (clP row sc) = firstC row sc := by
  subst hl
  cases h : (prs row.length).find? (clP row sc) with
  | none =>
    refine (firstC_none (fun a b hb => ?_)).symm
    by_cases hab : a < b
    · rw [← clP_opp hab]
      simpa using List.find?_eq_none.1 h (a, b) (mem_prs hab hb)
    · unfold opp; rw [decide_eq_false hab]; rfl
  | some p =>
    obtain ⟨i, k⟩ := p
    obtain ⟨hp, ps, bs, he, has⟩ := List.find?_eq_some_iff_append.1 h
    have hm : (i, k) ∈ prs row.length := by rw [he]; simp
    have ho := prs_ok _ hn _ hm
    have hs := prs_sorted _ hn
    rw [he, List.pairwise_append] at hs
    have early : ∀ a b, (a < i ∨ a = i ∧ b < k) → b ≤ row.length → opp row sc a b = false := by
      intro a b hlt hb
      by_cases hab : a < b
      · rw [← clP_opp hab]
        have hm2 := mem_prs hab hb
        rw [he] at hm2
        rcases List.mem_append.1 hm2 with h1 | h1
        · simpa using has _ h1
        · rcases List.mem_cons.1 h1 with h1 | h1
          · injection h1 with e1 e2; omega
          · have := (List.pairwise_cons.1 hs.2.1).1 _ h1
            simp only at this; omega
      · unfold opp; rw [decide_eq_false hab]; rfl
    refine (firstC_some (k := k) ho.2 (by rw [← clP_opp ho.1]; exact hp) (fun a ha b hb => early a b (.inl ha) hb) (fun b hb => early i b (.inr ⟨rfl, hb⟩) (by have := ho.2; omega))).symm

theorem look_cl {f : Nat × Nat → Int} {ps : List (Nat × Nat)} {D : DataW Unit} (h : ∀ p ∈ ps, (f p = 0 → Maps.has D (klP p) = false) ∧ (f p ≠ 0 → Maps.has D (klP p) = true ∧ ∀ z, D.atKey (klP p) z = .lit (.int .i64 (f p)))) {p : Nat × Nat} (hp : p ∈ ps) {c : Int}
    (hc : D.atKey (klP p) (.lit (.int .i64 0)) = .lit (.int .i64 c)) : c = f p := by
  by_cases h0 : f p = 0
  · rw [Maps.atKey_of_not_has ((h p hp).1 h0)] at hc
    rw [h0]; exact (Lit.int.inj (DataW.lit.inj hc)).2.symm
  · rw [((h p hp).2 h0).2] at hc
    exact (Lit.int.inj (DataW.lit.inj hc)).2.symm

set_option maxHeartbeats 1000000 in
theorem clclo_any (w : World) (Bm b : Nat) (f : Nat × Nat → Int) (ps : List (Nat × Nat)) (p : Nat × Nat) (hp : p ∈ ps) (hok : Ok8 p) (hB : w.cell? ⟨Bm, 0, none⟩ = some (.map (some b))) (hcl : ClMap w b f ps) (hBl : Bm < w.heap.size) :
    Calls Try.prog 93 #[.agg #[.int .i64 p.1, .int .i64 p.2], .pointer (some ⟨Bm, 0, none⟩)] w fun e w' => e = .returned (.bool (decide (0 < f p))) ∧ Below w.heap.size w w' := by
  obtain ⟨m, D, hown, hD⟩ := hcl
  have HO := hid hown
  have HD := hid hD
  have HP := hid hp
  have hkey := hid (key_klP hok.1 hok.2)
  clear hown hD hp
  go_enter Try.func93, Try.ntmps93
  go_wp2_with (first | (at_lookup; refine wpList_lookup_own_int _ rfl _ _ 114 rfl 117 3 .i64 K117 under114 under3 (zero3 _) b m D rfl (map_below HO.out ((Below.refl _ _).alloc (Nat.le_refl _) _)) _ (klP p) rfl hkey.out ?_; intro c hc _; have Hc := hid (look_cl HD.out HP.out hc); clear hc))
  go_ret
  exact ⟨by rw [← Hc.out]; rfl, (Below.refl _ _).alloc (Nat.le_refl _) _⟩
def FindP (o : Option (Nat × Nat)) : Value := match o with | none => .tuple #[.agg #[.int .i64 0, .int .i64 0], .bool false] | some p => .tuple #[.agg #[.int .i64 p.1, .int .i64 p.2], .bool true]
theorem findp_take {ls : List (Nat × Nat)} {G : Nat × Nat → Bool} {k : Nat} {l : Nat × Nat} (h : (ls.take k).find? G = none) (hl : ls[k]? = some l) : (ls.take (k + 1)).find? G = if G l then some l else none := by
  rw [List.take_add_one, hl, List.find?_append, h]
  simp
theorem findp_of {ls : List (Nat × Nat)} {G : Nat × Nat → Bool} {k : Nat} {l : Nat × Nat} (h : (ls.take k).find? G = some l) : ls.find? G = some l := by
  conv => lhs; rw [← List.take_append_drop k ls, List.find?_append, h]
  rfl
theorem own_pair {w : World} {base : Nat} {ls : List (Nat × Nat)} {A : Option Addr} {c : Nat} (h : w.ownsRow base 117 2 (.slice A ls.length c) ls.length (ls.flatMap cP)) {k : Nat} {p : Nat × Nat} (hk : ls[k]? = some p) :
    ∃ b off, A = some ⟨b, off, none⟩ ∧ b < w.heap.size ∧ w.cell? ⟨b, off + k * 2, none⟩ = some (.int .i64 p.1) ∧ w.cell? ⟨b, off + k * 2 + 1, none⟩ = some (.int .i64 p.2) := by
  have hs := Sl.of_own h
  obtain ⟨b, off, hA, hb, hc⟩ := hs.2 (by have := (List.getElem?_eq_some_iff.1 hk).1; omega)
  refine ⟨b, off, hA, hb, ?_, ?_⟩
  · exact hc (k * 2 + 0) _ (by rw [flat_at (s := 2) (f := cP) (fun _ => rfl) ls k 0 _ hk (by omega)]; rfl)
  · exact hc (k * 2 + 1) _ (by rw [flat_at (s := 2) (f := cP) (fun _ => rfl) ls k 1 _ hk (by omega)]; rfl)

set_option maxRecDepth 100000 in
set_option maxHeartbeats 1000000 in
theorem findp_any (w : World) (Bm b : Nat) (f : Nat × Nat → Int) (ls : List (Nat × Nat)) (base : Nat) (v : Value) (hls : w.ownsRow base 117 2 v ls.length (ls.flatMap cP)) (hok : ∀ p ∈ ls, Ok8 p) (hB : w.cell? ⟨Bm, 0, none⟩ = some (.map (some b))) (hcl : ClMap w b f ls) (hBl : Bm < w.heap.size) (hn : ls.length ≤ 100) :
    Calls Try.prog 90 #[v, .func (.func 93) #[] #[.pointer (some ⟨Bm, 0, none⟩)]] w fun e w' => e = .returned (FindP (ls.find? fun p => decide (0 < f p))) ∧ Below w.heap.size w w' := by
  obtain ⟨A, c, rfl, hs⟩ := sl_of_owns hls
  have HL := hid hls
  have HO := hid hok
  have HB := hid hB
  have HC := hid hcl
  clear hls hok hB hcl hs
  go_enter Try.func90, Try.ntmps90
  go_wp2
  go_loopw [11] (fun i wr => ∃ k : Nat, k ≤ ls.length ∧ i = .int .i64 k ∧ Hid ((ls.take k).find? (fun p => decide (0 < f p)) = none) ∧ Blk wr w.heap.size 117 #[.int .i64 0, .int .i64 0] ∧ Below w.heap.size w wr) (fun i _ => ls.length - (intOf i).toNat)
  case atStart => exact ⟨0, by omega, rfl, rfl, Blk.new' rfl, (Below.refl _ _).alloc (Nat.le_refl _) _⟩
  case round =>
    obtain ⟨k, hk, rfl, hf, b4, hbel⟩ := hrel
    have hsz := hbel.size
    have l4 := b4.lt
    by_cases hlt : k < ls.length
    · have hg := List.getElem?_eq_getElem hlt
      obtain ⟨bb, off, rfl, hbb, c0, c1⟩ := own_pair (owns_below HL.out hbel) hg
      have hft := findp_take hf.out hg
      have hm := List.getElem_mem hlt
      generalize ls[k] = p at *
      have HM := hid hm
      have H8 := hid (HO.out p hm)
      have hbm := hid ((hbel.cell (p := ⟨Bm, 0, none⟩) hBl).trans HB.out)
      have hcm : Hid (ClMap wr b f ls) := hid (by obtain ⟨m, D, h1, h2⟩ := HC.out; exact ⟨m, D, map_below h1 hbel, h2⟩)
      have hBr : Bm < wr.heap.size := by omega
      clear hm hg hf
      cases hG : decide (0 < f p)
      · rw [hG] at hft
        have hft' := hid hft
        have HG := hid hG
        clear hft hG
        go_wp2_with (first | (go_at_call 93; refine (clclo_any _ Bm b f ls p HM.out H8.out (((((Below.refl wr.heap.size wr).alloc (Nat.le_refl _) _)).cell (p := ⟨Bm, 0, none⟩) hBr).trans hbm.out) (by obtain ⟨m, D, h1, h2⟩ := hcm.out; exact ⟨m, D, map_below h1 ((Below.refl _ _).alloc (Nat.le_refl _) _), h2⟩) (by simp; omega)).mono ?_; rw [HG.out]; rintro e w1 ⟨rfl, hb1⟩; have hbx : Below wr.heap.size wr w1 := Below.trans ((Below.refl _ _).alloc (Nat.le_refl _) _) (hb1.mono (by simp))))
        exact ⟨⟨k + 1, by omega, by go_num, hft'.out, b4.below hbx l4, hbel.trans (hbx.mono hsz)⟩, by simp [intOf]; omega⟩
      · rw [hG] at hft
        have hft' := hid (findp_of hft)
        have HG := hid hG
        clear hft hG
        go_wp2_with (first | (go_at_call 93; refine (clclo_any _ Bm b f ls p HM.out H8.out (((((Below.refl wr.heap.size wr).alloc (Nat.le_refl _) _)).cell (p := ⟨Bm, 0, none⟩) hBr).trans hbm.out) (by obtain ⟨m, D, h1, h2⟩ := hcm.out; exact ⟨m, D, map_below h1 ((Below.refl _ _).alloc (Nat.le_refl _) _), h2⟩) (by simp; omega)).mono ?_; rw [HG.out]; rintro e w1 ⟨rfl, hb1⟩; have hbx : Below wr.heap.size wr w1 := Below.trans ((Below.refl _ _).alloc (Nat.le_refl _) _) (hb1.mono (by simp)); have b4' := b4.below hbx l4; have f0 := b4'.frozen 0; have f1 := b4'.frozen 1; have r0 := b4'.cell 0; have r1 := b4'.cell 1; have bx := (Blk.new wr 117 #[.int .i64 (p.1 : Int), .int .i64 (p.2 : Int)]).below hb1 (by simp); have s0 := bx.cell 0; have s1 := bx.cell 1))
        have b5 := b4'.set2 (a := .int .i64 (p.1 : Int)) (b := .int .i64 (p.2 : Int))
        have t0 := b5.cell 0
        have t1 := b5.cell 1
        refine bodyPost_ret (v := .tuple #[.agg #[.int .i64 (p.1 : Int), .int .i64 (p.2 : Int)], .bool true]) (by simp [results, Try.results90, go_sem, *]) rfl ⟨by rw [hft'.out]; rfl, ((hbel.trans (hbx.mono hsz)).setCell (Nat.le_refl _) _).setCell (Nat.le_refl _) _⟩
    · have hft := hf.out
      rw [List.take_of_length_le (by omega)] at hft
      have hft' := hid hft
      have f0 := b4.frozen 0; have f1 := b4.frozen 1; have r0 := b4.cell 0; have r1 := b4.cell 1
      clear hft hf
      go_wp2
      have b5 := (b4.set2 (a := .int .i64 0) (b := .int .i64 0)).alloc (.cells #[.int .i64 0, .int .i64 0] 117)
      have t0 := b5.cell 0
      have t1 := b5.cell 1
      clear f0 f1 r0 r1
      refine bodyPost_ret (v := .tuple #[.agg #[.int .i64 0, .int .i64 0], .bool false]) (by simp [results, Try.results90, go_sem, *]) rfl ⟨by rw [hft'.out]; rfl, ((hbel.setCell (Nat.le_refl _) _).setCell (Nat.le_refl _) _).alloc (by simp; exact hsz) _⟩

theorem pairs_facts {w2 w3 : World} {g b : Nat} (h : (w2.alloc (.cells #[.map (some b)] 114)).alloc (.cells #[.pointer (some ⟨g, 0, none⟩)] 102) = w3) :
    Below w2.heap.size w2 w3 ∧ w2.heap.size + 2 ≤ w3.heap.size ∧ Blk w3 w2.heap.size 114 #[.map (some b)] ∧ Blk w3 (w2.heap.size + 1) 102 #[.pointer (some ⟨g, 0, none⟩)] := by
  subst h
  exact ⟨(by repeat' (first | with_reducible assumption | with_reducible exact Below.refl _ _ | refine Below.alloc ?_ ?_ _ | refine Below.setCell ?_ ?_ _ | refine Below.drew ?_ | refine below_drewN ?_ _ | (simp; done) | (simp; omega) | omega)), by simp only [World.size_alloc]; omega, (Blk.new' rfl).alloc _, Blk.new' (by simp)⟩
set_option maxRecDepth 100000 in
set_option maxHeartbeats 1000000 in
theorem dClash_any (w : World) (A A' : Option Addr) (n c n' c' : Nat) (row : List Mt) (sc : List Rg) (hr : MtS w w.heap.size A n row) (hn : n ≤ 12) (hc : n ≤ c) (hr' : RgS w w.heap.size A' n' sc) (hn' : n' ≤ 12) :
    Calls Try.prog 37 #[.slice A n c, .slice A' n' c'] w fun e w' => e = .returned (clashR row sc) ∧ Below w.heap.size w w' := by
  by_cases h0 : checkScales row sc = 0
  · obtain ⟨k1, k2, k3⟩ := checkScales_ok h0
    obtain ⟨k4, k5, k6⟩ := checkRow_ok k1
    have hlen := hr.len
    have hlen' := hr'.len
    have H0 := hid h0
    have H6 := hid k6
    have H3 := hid k3
    have hn7 : n ≤ 7 := by omega
    have hn1 : 1 ≤ n := by omega
    have hnn : Hid (n' = n + 1) := hid (by omega)
    have hF : Hid ((prs n).find? (fun p => decide (0 < clF row sc p)) = firstC row sc) := hid (find_prs hn7 hlen)
    have HOK := hid (fun p hp => by have := prs_ok n hn7 p hp; exact ⟨by omega, by omega⟩ : ∀ p ∈ prs n, Ok8 p)
    have hpl : (prs n).length ≤ 100 := by have := prs_len n hn7; omega
    cases hfc : firstC row sc with
    | none =>
      have HC := hid hfc
      have he : Hid (clashR row sc = .tuple #[.int .i64 0, .int .i64 0, .int .i64 5]) := hid (by unfold clashR; rw [if_neg (by simp [h0]), hfc])
      clear h0 k1 k2 k3 k4 k5 k6 hlen hlen' hfc
      go_enter Try.func37, Try.ntmps37
      go_wp2_with (first | (go_at_call 80; refine (open_ok _ A A' n c n' c' row sc hr hn hr' hn' H0.out).mono ?_; rintro e w1 ⟨g, rfl, hg, hbk, hb1⟩; have hgl := Blk.lt hbk; have HBK := hid hbk; clear hbk) | (go_at_call 89; refine (clashes_any w1 g A n c row sc HBK.out (hr.below hb1 hb1.size) hn7 hn1 hc H6.out H3.out).mono ?_; rintro e w2 ⟨b, rfl, hb, hcl, hb2⟩; have HCL := hid hcl; clear hcl) | (go_at_call 92; refine (pairs_any g _).mono ?_; rintro e w3 ⟨rfl, hw3⟩; obtain ⟨hb3, hz3, bm0, bb0⟩ := pairs_facts hw3; have bm := hid bm0; have bb := hid bb0; clear bm0 bb0; have hz2 := hb2.size; have hg3 := hid ((hb3.cell (p := ⟨g, 0, none⟩) (Nat.lt_of_lt_of_le hgl hz2)).trans ((hb2.cell (p := ⟨g, 0, none⟩) hgl).trans (Blk.cell HBK.out 0))); clear hw3) | (go_at_call 91; refine (collect2_any w3 (w2.heap.size + 1) g A n c hn7 (by omega) (by omega) (bb.out.cell 0) hg3.out).mono ?_; rintro e w4 ⟨v, rfl, hown, hb4⟩; have HOW := hid hown; have hz4 := hb4.size; have bm4 := hid (bm.out.below hb4 (by omega)); have hcl4 : Hid (ClMap w4 b (clF row sc) (prs n)) := hid (by obtain ⟨m, D, h1, h2⟩ := HCL.out; exact ⟨m, D, map_below (map_below h1 hb3) hb4, h2⟩); clear hown) | (go_at_call 90; refine (findp_any w4 w2.heap.size b (clF row sc) (prs n) _ v HOW.out HOK.out (bm4.out.cell 0) hcl4.out (by omega) hpl).mono ?_; rw [hF.out, HC.out]; rintro e w5 ⟨rfl, hb5⟩; have hfin := hid (hb1.trans (((hb2.trans (hb3.mono hz2)).trans (hb4.mono (by omega))).trans (hb5.mono (by omega)) |>.mono hb1.size)); simp only [FindP]))
      refine bodyPost_ret (v := .tuple #[.int .i64 0, .int .i64 0, .int .i64 5]) (by first | (simp [results, Try.results37, go_sem]; done) | (simp [results, Try.results37, go_sem, World.cell?_setCell_same', *]; done) | (simp [results, Try.results37, go_sem]; first | exact ⟨rfl, rfl⟩ | rfl)) rfl ⟨by rw [he.out], hfin.out.alloc (by have := hfin.out.size; omega) _⟩
    | some p =>
      have HC := hid hfc
      have he : Hid (clashR row sc = .tuple #[.int .i64 p.1, .int .i64 p.2, .int .i64 0]) := hid (by unfold clashR; rw [if_neg (by simp [h0]), hfc])
      clear h0 k1 k2 k3 k4 k5 k6 hlen hlen' hfc
      go_enter Try.func37, Try.ntmps37
      go_wp2_with (first | (go_at_call 80; refine (open_ok _ A A' n c n' c' row sc hr hn hr' hn' H0.out).mono ?_; rintro e w1 ⟨g, rfl, hg, hbk, hb1⟩; have hgl := Blk.lt hbk; have HBK := hid hbk; clear hbk) | (go_at_call 89; refine (clashes_any w1 g A n c row sc HBK.out (hr.below hb1 hb1.size) hn7 hn1 hc H6.out H3.out).mono ?_; rintro e w2 ⟨b, rfl, hb, hcl, hb2⟩; have HCL := hid hcl; clear hcl) | (go_at_call 92; refine (pairs_any g _).mono ?_; rintro e w3 ⟨rfl, hw3⟩; obtain ⟨hb3, hz3, bm0, bb0⟩ := pairs_facts hw3; have bm := hid bm0; have bb := hid bb0; clear bm0 bb0; have hz2 := hb2.size; have hg3 := hid ((hb3.cell (p := ⟨g, 0, none⟩) (Nat.lt_of_lt_of_le hgl hz2)).trans ((hb2.cell (p := ⟨g, 0, none⟩) hgl).trans (Blk.cell HBK.out 0))); clear hw3) | (go_at_call 91; refine (collect2_any w3 (w2.heap.size + 1) g A n c hn7 (by omega) (by omega) (bb.out.cell 0) hg3.out).mono ?_; rintro e w4 ⟨v, rfl, hown, hb4⟩; have HOW := hid hown; have hz4 := hb4.size; have bm4 := hid (bm.out.below hb4 (by omega)); have hcl4 : Hid (ClMap w4 b (clF row sc) (prs n)) := hid (by obtain ⟨m, D, h1, h2⟩ := HCL.out; exact ⟨m, D, map_below (map_below h1 hb3) hb4, h2⟩); clear hown) | (go_at_call 90; refine (findp_any w4 w2.heap.size b (clF row sc) (prs n) _ v HOW.out HOK.out (bm4.out.cell 0) hcl4.out (by omega) hpl).mono ?_; rw [hF.out, HC.out]; rintro e w5 ⟨rfl, hb5⟩; have hfin := hid (hb1.trans (((hb2.trans (hb3.mono hz2)).trans (hb4.mono (by omega))).trans (hb5.mono (by omega)) |>.mono hb1.size)); simp only [FindP]))
      go_quiet (fail)
      go_wp2
      refine bodyPost_ret (v := .tuple #[.int .i64 p.1, .int .i64 p.2, .int .i64 0]) (by first | (simp [results, Try.results37, go_sem]; done) | (simp [results, Try.results37, go_sem, World.cell?_setCell_same', *]; done) | (simp [results, Try.results37, go_sem]; first | exact ⟨rfl, rfl⟩ | rfl)) rfl ⟨by rw [he.out], below_drewN (hfin.out.alloc (by have := hfin.out.size; omega) _) _⟩
  · have he : Hid (clashR row sc = .tuple #[.int .i64 0, .int .i64 0, .int .i64 (checkScales row sc)]) := by unfold clashR; rw [if_pos h0]; trivial
    have hc : (checkScales row sc != 0) = true := by simp [h0]
    have H0 := hid h0
    clear h0
    go_enter Try.func37, Try.ntmps37
    go_wp2_with (first | (go_at_call 80; refine (open_bad _ A A' n c n' c' row sc hr hn hr' hn' H0.out).mono ?_; rintro e w1 ⟨rfl, hb1⟩))
    refine bodyPost_ret (v := .tuple #[.int .i64 0, .int .i64 0, .int .i64 (checkScales row sc)]) (by first | (simp [results, Try.results37, go_sem]; done) | (simp [results, Try.results37, go_sem, World.cell?_setCell_same', *]; done) | (simp [results, Try.results37, go_sem]; first | exact ⟨rfl, rfl⟩ | rfl)) rfl ⟨by rw [he.out], hb1⟩
end Go.Proofs.Ytdcglphekafpdaa
namespace Go.Proofs.Ytdcglphekafpdaa
open Go.RowKit Go.Shelf
theorem all_one {x lo hi : Int} : [x].all (inR ⟨lo, hi⟩) = inR ⟨lo, hi⟩ x := by simp
theorem inR_iff {x lo hi : Int} : inR ⟨lo, hi⟩ x = true ↔ lo ≤ x ∧ x ≤ hi := inR_t
set_option maxRecDepth 100000 in
set_option maxHeartbeats 1000000 in
theorem dCheckClash_any (w : World) (A A' : Option Addr) (n c n' c' : Nat) (row : List Mt) (sc : List Rg) (x y : Int) (hr : MtS w w.heap.size A n row) (hn : n ≤ 12) (hc : n ≤ c) (hr' : RgS w w.heap.size A' n' sc) (hn' : n' ≤ 12) :
    Calls Try.prog 35 #[.slice A n c, .slice A' n' c', .int .i64 x, .int .i64 y] w fun e w' => e = .returned (.tuple #[.int .i64 (clashV row sc x y), .int .i64 (clashE row sc x y)]) ∧ Below w.heap.size w w' := by
  by_cases h0 : checkScales row sc = 0
  · obtain ⟨k1, k2, k3⟩ := checkScales_ok h0
    obtain ⟨k4, k5, k6⟩ := checkRow_ok k1
    have hlen := hr.len
    have hlen' := hr'.len
    have H0 := hid h0
    have H6 := hid k6
    have H3 := hid k3
    have hn7 : n ≤ 7 := by omega
    have hn1 : 1 ≤ n := by omega
    have hnn : Hid (n' = n + 1) := hid (by omega)
    cases hB : [y].all (inR ⟨0, n⟩)
    · have hy : y < 0 ∨ n < y := by
        rw [all_one] at hB
        by_cases h : 0 ≤ y ∧ y ≤ n
        · rw [inR_iff.2 h] at hB; cases hB
        · omega
      have hv : Hid (clashV row sc x y = 0) := hid (by unfold clashV; rw [if_neg (by simp [h0]), if_pos (by omega)])
      have he : Hid (clashE row sc x y = 2) := hid (by unfold clashE; rw [if_neg (by simp [h0]), if_pos (by omega)])
      have HBB := hid hB
      clear h0 k1 k2 k3 k4 k5 k6 hlen hlen' hy hB
      cases hA : [x].all (inR ⟨0, wrap64 (y - 1)⟩)
      all_goals
        have HA := hid hA
        clear hA
        go_enter Try.func35, Try.ntmps35
        go_wp2_with (first | (go_at_call 80; refine (open_ok _ A A' n c n' c' row sc hr hn hr' hn' H0.out).mono ?_; rintro e w1 ⟨g, rfl, hg, hbk, hb1⟩; have hgl := Blk.lt hbk; have HBK := hid hbk; clear hbk; have hz1 := hb1.size) | (go_at_call 74; refine (within_any _ _ _ [_] 0 _ _ (inS_lit1 _ (by first | (simp; done) | (simp; omega) | omega) (by first | (simp; done) | (simp; omega) | omega)) (by omega)).mono ?_; (first | rw [HA.out] | rw [HBB.out]); rintro e w2 ⟨rfl, hb2⟩; have hbx : Below w.heap.size w w2 := Below.trans (by repeat' (first | with_reducible assumption | with_reducible exact Below.refl _ _ | refine Below.alloc ?_ ?_ _ | refine Below.setCell ?_ ?_ _ | refine Below.drew ?_ | refine below_drewN ?_ _ | (simp; done) | (simp; omega) | omega)) (hb2.mono (by first | (simp; done) | (simp; omega) | omega)); have hzx := hbx.size; have hbg : Below w1.heap.size w1 w2 := Below.trans (by repeat' (first | with_reducible assumption | with_reducible exact Below.refl _ _ | refine Below.alloc ?_ ?_ _ | refine Below.setCell ?_ ?_ _ | refine Below.drew ?_ | refine below_drewN ?_ _ | (simp; done) | (simp; omega) | omega)) (hb2.mono (by first | (simp; done) | (simp; omega) | omega)); have hzg := hbg.size))
        refine bodyPost_ret (v := .tuple #[.int .i64 0, .int .i64 2]) (by first | (simp [results, Try.results35, go_sem]; done) | (simp [results, Try.results35, go_sem, World.cell?_setCell_same', *]; done) | (simp [results, Try.results35, go_sem]; first | exact ⟨rfl, rfl⟩ | rfl)) rfl ⟨by rw [hv.out, he.out], (by repeat' (first | with_reducible assumption | with_reducible exact Below.refl _ _ | refine Below.alloc ?_ ?_ _ | refine Below.setCell ?_ ?_ _ | refine Below.drew ?_ | refine below_drewN ?_ _ | (simp; done) | (simp; omega) | omega))⟩
    · have hy : 0 ≤ y ∧ y ≤ n := by rw [all_one] at hB; exact inR_iff.1 hB
      obtain ⟨hy0, hyn⟩ := hy
      obtain ⟨b, rfl⟩ : ∃ b : Nat, y = b := ⟨y.toNat, by omega⟩
      have HBB := hid hB
      cases hA : [x].all (inR ⟨0, (b : Int) - 1⟩)
      · have hx : x < 0 ∨ (b : Int) ≤ x := by
          rw [all_one] at hA
          by_cases h : 0 ≤ x ∧ x ≤ (b : Int) - 1
          · rw [inR_iff.2 h] at hA; cases hA
          · omega
        have hv : Hid (clashV row sc x b = 0) := hid (by unfold clashV; rw [if_neg (by simp [h0]), if_pos (by omega)])
        have he : Hid (clashE row sc x b = 2) := hid (by unfold clashE; rw [if_neg (by simp [h0]), if_pos (by omega)])
        have HA := hid hA
        clear h0 k1 k2 k3 k4 k5 k6 hlen hlen' hA hB hx
        go_enter Try.func35, Try.ntmps35
        go_wp2_with (first | (go_at_call 80; refine (open_ok _ A A' n c n' c' row sc hr hn hr' hn' H0.out).mono ?_; rintro e w1 ⟨g, rfl, hg, hbk, hb1⟩; have hgl := Blk.lt hbk; have HBK := hid hbk; clear hbk; have hz1 := hb1.size) | (go_at_call 74; refine (within_any _ _ _ [_] 0 _ _ (inS_lit1 _ (by first | (simp; done) | (simp; omega) | omega) (by first | (simp; done) | (simp; omega) | omega)) (by omega)).mono ?_; (first | rw [HA.out] | rw [HBB.out]); rintro e w2 ⟨rfl, hb2⟩; have hbx : Below w.heap.size w w2 := Below.trans (by repeat' (first | with_reducible assumption | with_reducible exact Below.refl _ _ | refine Below.alloc ?_ ?_ _ | refine Below.setCell ?_ ?_ _ | refine Below.drew ?_ | refine below_drewN ?_ _ | (simp; done) | (simp; omega) | omega)) (hb2.mono (by first | (simp; done) | (simp; omega) | omega)); have hzx := hbx.size; have hbg : Below w1.heap.size w1 w2 := Below.trans (by repeat' (first | with_reducible assumption | with_reducible exact Below.refl _ _ | refine Below.alloc ?_ ?_ _ | refine Below.setCell ?_ ?_ _ | refine Below.drew ?_ | refine below_drewN ?_ _ | (simp; done) | (simp; omega) | omega)) (hb2.mono (by first | (simp; done) | (simp; omega) | omega)); have hzg := hbg.size))
        refine bodyPost_ret (v := .tuple #[.int .i64 0, .int .i64 2]) (by first | (simp [results, Try.results35, go_sem]; done) | (simp [results, Try.results35, go_sem, World.cell?_setCell_same', *]; done) | (simp [results, Try.results35, go_sem]; first | exact ⟨rfl, rfl⟩ | rfl)) rfl ⟨by rw [hv.out, he.out], (by repeat' (first | with_reducible assumption | with_reducible exact Below.refl _ _ | refine Below.alloc ?_ ?_ _ | refine Below.setCell ?_ ?_ _ | refine Below.drew ?_ | refine below_drewN ?_ _ | (simp; done) | (simp; omega) | omega))⟩
      · have hx : 0 ≤ x ∧ x ≤ (b : Int) - 1 := by rw [all_one] at hA; exact inR_iff.1 hA
        obtain ⟨hx0, hxb⟩ := hx
        obtain ⟨a, rfl⟩ : ∃ a : Nat, x = a := ⟨x.toNat, by omega⟩
        have HA := hid hA
        have hab : a < b := by omega
        have hbn : b ≤ n := by omega
        have hm := hid (mem_prs hab hbn)
        have hkey := hid (key_klP (p := (a, b)) (show a < 8 by omega) (show b < 8 by omega))
        have hv1 : Hid (clashV row sc a b = sideV row sc a b) := hid (by unfold clashV; rw [if_neg (by simp [h0]), if_neg (by omega)]; rfl)
        have he1 : clashE row sc a b = if sideV row sc a b = 0 then 5 else 0 := by unfold clashE; rw [if_neg (by simp [h0]), if_neg (by omega)]; rfl
        by_cases hs : sideV row sc a b = 0
        · have hv : Hid (clashV row sc a b = 0) := hid (hv1.out.trans hs)
          have he : Hid (clashE row sc a b = 5) := hid (he1.trans (if_pos hs))
          have HS := hid hs
          clear h0 k1 k2 k3 k4 k5 k6 hlen hlen' hA hB he1 hs
          go_enter Try.func35, Try.ntmps35
          go_wp2_with (first | (go_at_call 80; refine (open_ok _ A A' n c n' c' row sc hr hn hr' hn' H0.out).mono ?_; rintro e w1 ⟨g, rfl, hg, hbk, hb1⟩; have hgl := Blk.lt hbk; have HBK := hid hbk; clear hbk; have hz1 := hb1.size) | (go_at_call 74; refine (within_any _ _ _ [_] 0 _ _ (inS_lit1 _ (by first | (simp; done) | (simp; omega) | omega) (by first | (simp; done) | (simp; omega) | omega)) (by omega)).mono ?_; (first | rw [HA.out] | rw [HBB.out]); rintro e w2 ⟨rfl, hb2⟩; have hbx : Below w.heap.size w w2 := Below.trans (by repeat' (first | with_reducible assumption | with_reducible exact Below.refl _ _ | refine Below.alloc ?_ ?_ _ | refine Below.setCell ?_ ?_ _ | refine Below.drew ?_ | refine below_drewN ?_ _ | (simp; done) | (simp; omega) | omega)) (hb2.mono (by first | (simp; done) | (simp; omega) | omega)); have hzx := hbx.size; have hbg : Below w1.heap.size w1 w2 := Below.trans (by repeat' (first | with_reducible assumption | with_reducible exact Below.refl _ _ | refine Below.alloc ?_ ?_ _ | refine Below.setCell ?_ ?_ _ | refine Below.drew ?_ | refine below_drewN ?_ _ | (simp; done) | (simp; omega) | omega)) (hb2.mono (by first | (simp; done) | (simp; omega) | omega)); have hzg := hbg.size) | (go_at_call 89; refine (clashes_any _ g A n c row sc (Blk.below HBK.out hbg hgl) (hr.below hbx hzx) hn7 hn1 hc H6.out H3.out).mono ?_; rintro e w4 ⟨m, rfl, hm4, hcl, hb4⟩; obtain ⟨m1, D, hown, hD⟩ := hcl; have HOW := hid hown; have HD := hid hD; have hfin := hid (hbx.trans (hb4.mono hzx)); clear hown hD) | (at_lookup; refine wpList_lookup_own_ok_int _ rfl _ _ 114 rfl 117 3 .i64 K117 under114 under3 (zero3 _) m m1 D rfl HOW.out _ (klP (a, b)) rfl hkey.out ?_; intro cc hcc _; obtain rfl : cc = sideV row sc a b := look_cl HD.out hm.out hcc; clear hcc; (first | rw [(HD.out _ hm.out).1 HS.out] | rw [((HD.out _ hm.out).2 HS.out).1])))
          refine bodyPost_ret (v := .tuple #[.int .i64 0, .int .i64 5]) (by first | (simp [results, Try.results35, go_sem]; done) | (simp [results, Try.results35, go_sem, World.cell?_setCell_same', *]; done) | (simp [results, Try.results35, go_sem]; first | exact ⟨rfl, rfl⟩ | rfl)) rfl ⟨by rw [hv.out, he.out], hfin.out⟩
        · have he : Hid (clashE row sc a b = 0) := hid (he1.trans (if_neg hs))
          have HS := hid hs
          clear h0 k1 k2 k3 k4 k5 k6 hlen hlen' hA hB he1 hs
          go_enter Try.func35, Try.ntmps35
          go_wp2_with (first | (go_at_call 80; refine (open_ok _ A A' n c n' c' row sc hr hn hr' hn' H0.out).mono ?_; rintro e w1 ⟨g, rfl, hg, hbk, hb1⟩; have hgl := Blk.lt hbk; have HBK := hid hbk; clear hbk; have hz1 := hb1.size) | (go_at_call 74; refine (within_any _ _ _ [_] 0 _ _ (inS_lit1 _ (by first | (simp; done) | (simp; omega) | omega) (by first | (simp; done) | (simp; omega) | omega)) (by omega)).mono ?_; (first | rw [HA.out] | rw [HBB.out]); rintro e w2 ⟨rfl, hb2⟩; have hbx : Below w.heap.size w w2 := Below.trans (by repeat' (first | with_reducible assumption | with_reducible exact Below.refl _ _ | refine Below.alloc ?_ ?_ _ | refine Below.setCell ?_ ?_ _ | refine Below.drew ?_ | refine below_drewN ?_ _ | (simp; done) | (simp; omega) | omega)) (hb2.mono (by first | (simp; done) | (simp; omega) | omega)); have hzx := hbx.size; have hbg : Below w1.heap.size w1 w2 := Below.trans (by repeat' (first | with_reducible assumption | with_reducible exact Below.refl _ _ | refine Below.alloc ?_ ?_ _ | refine Below.setCell ?_ ?_ _ | refine Below.drew ?_ | refine below_drewN ?_ _ | (simp; done) | (simp; omega) | omega)) (hb2.mono (by first | (simp; done) | (simp; omega) | omega)); have hzg := hbg.size) | (go_at_call 89; refine (clashes_any _ g A n c row sc (Blk.below HBK.out hbg hgl) (hr.below hbx hzx) hn7 hn1 hc H6.out H3.out).mono ?_; rintro e w4 ⟨m, rfl, hm4, hcl, hb4⟩; obtain ⟨m1, D, hown, hD⟩ := hcl; have HOW := hid hown; have HD := hid hD; have hfin := hid (hbx.trans (hb4.mono hzx)); clear hown hD) | (at_lookup; refine wpList_lookup_own_ok_int _ rfl _ _ 114 rfl 117 3 .i64 K117 under114 under3 (zero3 _) m m1 D rfl HOW.out _ (klP (a, b)) rfl hkey.out ?_; intro cc hcc _; obtain rfl : cc = sideV row sc a b := look_cl HD.out hm.out hcc; clear hcc; (first | rw [(HD.out _ hm.out).1 HS.out] | rw [((HD.out _ hm.out).2 HS.out).1])))
          refine bodyPost_ret (v := .tuple #[.int .i64 (sideV row sc a b), .int .i64 0]) (by first | (simp [results, Try.results35, go_sem]; done) | (simp [results, Try.results35, go_sem, World.cell?_setCell_same', *]; done) | (simp [results, Try.results35, go_sem]; first | exact ⟨rfl, rfl⟩ | rfl)) rfl ⟨by rw [hv1.out, he.out], hfin.out⟩
  · have hv : Hid (clashV row sc x y = 0) := hid (by unfold clashV; rw [if_pos h0])
    have he : Hid (clashE row sc x y = checkScales row sc) := hid (by unfold clashE; rw [if_pos h0])
    have hc : (checkScales row sc != 0) = true := by simp [h0]
    have H0 := hid h0
    clear h0
    go_enter Try.func35, Try.ntmps35
    go_wp2_with (first | (go_at_call 80; refine (open_bad _ A A' n c n' c' row sc hr hn hr' hn' H0.out).mono ?_; rintro e w1 ⟨rfl, hb1⟩))
    refine bodyPost_ret (v := .tuple #[.int .i64 0, .int .i64 (checkScales row sc)]) (by first | (simp [results, Try.results35, go_sem]; done) | (simp [results, Try.results35, go_sem, World.cell?_setCell_same', *]; done) | (simp [results, Try.results35, go_sem]; first | exact ⟨rfl, rfl⟩ | rfl)) rfl ⟨by rw [hv.out, he.out], hb1⟩
end Go.Proofs.Ytdcglphekafpdaa
