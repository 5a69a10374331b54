/- Texts of the proof, laid together by program. -/
import Derived.Test.YtdgllpcfmkjfhaaGreatMg
import Derived.ChangeKeysEq
import Derived.Laws.StructEq
import Derived.Test.YtdgllpcfmkjfhaaGreatMf
set_option linter.unusedSimpArgs false
set_option linter.unusedVariables false
/- Walks: lists of sets are sorted. -/
namespace Go.Proofs.YtdgllpcfmkjfhaaGreat.Bl
open Go.RowKit Go.Shelf Go.Sort
attribute [local go_sem] Oper.semAt_some
def OkE (w : World) (lo blk : Nat) (x : Value × List Int) : Prop := ∃ (A : Option Addr) (m c : Nat), x.1 = .slice A m c ∧ m ≤ 1000000 ∧ InS w w.heap.size A m x.2 ∧ (∀ b off, A = some ⟨b, off, none⟩ → b ≠ blk ∧ b < w.heap.size ∧ lo ≤ b) ∧ w.ownsRow lo 3 1 x.1 x.2.length (x.2.flatMap cI)
abbrev SE (w : World) (lo blk : Nat) : Type := { x : Value × List Int // OkE w lo blk x }
instance (w : World) (lo blk : Nat) : Inhabited (SE w lo blk) := ⟨⟨(.slice none 0 0, []), none, 0, 0, rfl, by omega, Sl.none_, (fun _ _ h => by cases h), World.ownsRow_nil _ _ _ _⟩⟩
def encE {w : World} {lo blk : Nat} (x : SE w lo blk) : Value := x.1.1
def lstE {w : World} {lo blk : Nat} (x : SE w lo blk) : List Int := x.1.2
def cfE {w : World} {lo blk : Nat} (x y : SE w lo blk) : Int := cmpL x.1.2 y.1.2
theorem se_list {w : World} {lo blk : Nat} : ∀ (vs : List Value) (ls : List (List Int)), vs.length = ls.length → (∀ (k : Nat) (l : List Int), ls[k]? = some l → ∃ v, vs[k]? = some v ∧ OkE w lo blk (v, l)) → ∃ d : List (SE w lo blk), d.map encE = vs ∧ d.map lstE = ls
  | [], [], _, _ => ⟨[], rfl, rfl⟩
  | [], _ :: _, h, _ => by simp at h
  | _ :: _, [], h, _ => by simp at h
  | v :: vs, l :: ls, h, hk => by
    obtain ⟨d, h1, h2⟩ := se_list vs ls (by simpa using h) fun k l' hl => by simpa using hk (k + 1) l' (by simpa using hl)
    obtain ⟨v', hv, hok⟩ := hk 0 l rfl
    obtain rfl : v = v' := by simpa using hv
    exact ⟨⟨(v, l), hok⟩ :: d, by simp [encE, ← h1], by simp [lstE, ← h2]⟩
theorem oneE (w : World) (lo blk : Nat) : OneCell (encE (w := w) (lo := lo) (blk := blk)) := fun x => by
  obtain ⟨⟨v, l⟩, A, m, c, h, -⟩ := x
  have : v = .slice A m c := h
  show v.oneCell' = true
  rw [this]; rfl
theorem cmpL_neg {a b : List Int} : cmpL a b < 0 ↔ before a b = true := by
  unfold cmpL
  cases before a b
  · by_cases e : a = b <;> simp [e]
  · simp
theorem ltE {w : World} {lo blk : Nat} (x y : SE w lo blk) : ltOf cfE x y = before x.1.2 y.1.2 := by
  unfold ltOf cfE
  rw [Bool.eq_iff_iff, decide_eq_true_eq, cmpL_neg]
theorem swoE (w : World) (lo blk : Nat) : SWO (ltOf (cfE (w := w) (lo := lo) (blk := blk))) where
  irrefl x := by rw [ltE]; exact before_irr _
  trans x y z h1 h2 := by rw [ltE] at *; exact before_trans h1 h2
  ntrans x y z h1 h2 := by
    rw [ltE] at *
    cases h : before x.1.2 z.1.2
    · rfl
    · exfalso
      by_cases e : x.1.2 = y.1.2
      · rw [e, h2] at h; cases h
      · have := before_trans (before_tot e h1) h
        rw [h2] at this; cases this
section
variable {w : World} {lo blk off m : Nat} {dk : Array (SE w lo blk)} {os : Array Obj}
theorem sw_grown (hb : blk < w.heap.size) : w.grownBy (sortWorld encE w blk off m dk os) (some blk) := by
  refine ⟨rfl, rfl, rfl, ?_, fun k hk hne => ?_⟩
  · simp [sortWorld, grow, putRow, mapBlock, ahead]
  · have hne' : blk ≠ k := fun e => hne (by rw [e])
    show (w.heap.modify blk (onCells (putCells encE off dk)) ++ os)[k]? = _
    rw [Array.getElem?_append_left (by simpa using hk), Array.getElem?_modify, if_neg hne']
theorem sw_ins (hb : blk < w.heap.size) {A : Option Addr} {n : Nat} {l : List Int} (h : InS w w.heap.size A n l) (hA : ∀ b off, A = some ⟨b, off, none⟩ → b ≠ blk) : InS (sortWorld encE w blk off m dk os) (sortWorld encE w blk off m dk os).heap.size A n l :=
  h.grown (sw_grown hb) (fun b off e e' => hA b off e (Option.some.inj e').symm) (sw_grown (off := off) (m := m) (dk := dk) (os := os) hb).size
end
theorem enLeast1 : ∀ args w, (callFunc 136 args).run Tryz.prog w = .ok (.enter 136 args) w := enters_of Tryz.func136 (by kernel_rfl) rfl
theorem cmpLays (w : World) (lo blk size : Nat) (hb : blk < w.heap.size) : CmpLays1 Tryz.prog 136 #[] (encE (w := w) (lo := lo) (blk := blk)) cfE blk 0 size w := CmpReads.lays fun m os dk _ x y => by
  obtain ⟨⟨v, l⟩, A, n, c, h1, h2, h3, h4, -⟩ := x
  obtain ⟨⟨v', l'⟩, A', n', c', h1', h2', h3', h4', -⟩ := y
  obtain rfl : v = .slice A n c := h1
  obtain rfl : v' = .slice A' n' c' := h1'
  refine (least1_any A A' n c n' c' l l' _ (sw_ins hb h3 fun b off e => (h4 b off e).1) (sw_ins hb h3' fun b off e => (h4' b off e).1) h2 h2').mono ?_
  rintro e w1 ⟨rfl, rfl⟩
  exact ⟨rfl, 0, rfl⟩
theorem sort_some (w : World) (lo g n c base : Nat) (vs : List Value) (ls : List (List Int)) (ho : w.ownsRow base 34 1 (.slice (some ⟨g, 0, none⟩) n c) n vs) (hl : LiAt w vs ls (some g)) (hn : n = ls.length) (hn2 : n ≤ 1000000) (hw : ∀ l ∈ ls, l.length ≤ 1000000) (hlv : OwnV w lo w.heap.size vs ls) (hlg : base ≤ g) :
    Calls Tryz.prog 135 #[.slice (some ⟨g, 0, none⟩) n c, .func (.func 136) #[] #[]] w fun e w' => e = .returned (.tuple #[]) ∧ ∃ ls' : List (List Int), ls'.Perm ls ∧ ls'.Pairwise (fun a b => before b a = false) ∧ NewLiF w' lo base (.slice (some ⟨g, 0, none⟩) n c) ls' ∧ w.grownBy w' (some g) := by
  obtain ⟨hg, cur, fr⟩ : g < w.heap.size ∧ (∀ j u, vs[j]? = some u → w.cell? ⟨g, j, none⟩ = some u) ∧ ∀ j, w.frozen? ⟨g, j, none⟩ = false := by
    refine ⟨?_, fun j u hu => own_cell ho hu, ?_⟩
    · rcases ho.2 with ⟨h1, -⟩ | ⟨g', cap, cur, h1, hb, hg, -⟩
      · cases h1
      · cases h1; exact (Array.getElem?_eq_some_iff.1 hg).1
    · intro j
      rcases ho.2 with ⟨h1, -⟩ | ⟨g', cap, cur, h1, hb, hg, -⟩
      · cases h1
      · cases h1; simp [World.frozen?, hg]
  obtain ⟨d, hd1, hd2⟩ := se_list (w := w) (lo := lo) (blk := g) vs ls hl.1 fun k l hk => by
    obtain ⟨A, m, c', h1, h2, h3⟩ := hl.2 k l hk
    obtain ⟨v, h4, h5⟩ := hlv.1 k l hk
    rw [h1] at h4
    obtain rfl := Option.some.inj h4
    refine ⟨_, h1, A, m, c', rfl, by have := hw l (List.mem_of_getElem? hk); have := h2.len; omega, h2, fun b off e => ?_, h5⟩
    obtain ⟨c2, e2, h6, h7⟩ := own_blk h5 (b := b) (by rw [e]; rfl)
    exact ⟨fun e' => (h3 b off e).2 (by rw [e']), h7, h6⟩
  have hdl : d.length = n := by rw [hn, ← hd2, List.length_map]
  have hH : Holds encE w g 0 d.toArray := fun j hj => by
    have hj' : j < d.length := by simpa using hj
    refine ⟨?_, fr _⟩
    rw [Nat.zero_add]
    refine cur j _ ?_
    rw [← hd1, List.getElem?_map, List.getElem?_eq_getElem hj', getElem!_pos d.toArray j (by simpa using hj')]
    rfl
  have hc := Any.slices_SortFunc Tryz.sortL encE (oneE w lo g) cfE (swoE w lo g) 136 #[] g 0 c d.toArray w enLeast1 (cmpLays w lo g _ hg) hH hg (by simp; omega)
  change Calls Tryz.prog 135 _ _ _ at hc
  rw [show d.toArray.size = n by simpa using hdl] at hc
  refine hc.mono ?_
  rintro e w' ⟨rfl, d', q, os, ⟨hp1, -, hp3⟩, hs, rfl⟩
  refine ⟨rfl, d'.toList.map lstE, ?_, ?_, ?_, sw_grown hg⟩
  · rw [← hd2]
    refine List.Perm.map _ ?_
    have e1 : d'.extract 0 n = d' := by rw [show n = d'.size by rw [hp1]; simp [hdl]]; exact Array.extract_size
    have e2 : d.toArray.extract 0 n = d.toArray := by rw [show n = d.toArray.size by simp [hdl]]; exact Array.extract_size
    rw [e1, e2] at hp3
    simpa using hp3
  · rw [List.pairwise_map, List.pairwise_iff_getElem]
    intro i j hi hj hij
    have hsz : d'.size = n := by rw [hp1]; simp [hdl]
    have hi' : i < d'.size := by simpa using hi
    have hj' : j < d'.size := by simpa using hj
    have := hs i j (Nat.zero_le _) hij (by omega)
    rw [ltE, getElem!_pos d' i hi', getElem!_pos d' j hj'] at this
    simpa [lstE] using this
  · have hsz : d'.size = n := by rw [hp1]; simp [hdl]
    have hG := sw_grown (off := 0) (m := q) (dk := d') (os := os) hg
    have hsize := hG.size
    have hHo := SW.holds (enc := encE) (w0 := w) (blk := g) (off := 0) (dk := d') (W := sortWorld encE w g 0 q d' os) ⟨q, os, rfl⟩ hg hH (by rw [hp1])
    have hpm : (d'.toList).Perm d := by
      have e1 : d'.extract 0 n = d' := by rw [show n = d'.size by rw [hp1]; simp [hdl]]; exact Array.extract_size
      have e2 : d.toArray.extract 0 n = d.toArray := by rw [show n = d.toArray.size by simp [hdl]]; exact Array.extract_size
      rw [e1, e2] at hp3
      simpa using hp3
    have hpv : (d'.toList.map encE).Perm vs := by rw [← hd1]; exact hpm.map _
    have hat : ∀ (k : Nat) (l : List Int), (d'.toList.map lstE)[k]? = some l → ∃ x : SE w lo g, (d'.toList.map encE)[k]? = some x.1.1 ∧ l = x.1.2 := fun k l hk => by
      rw [List.getElem?_map] at hk
      cases hd : d'.toList[k]? with
      | none => rw [hd] at hk; cases hk
      | some x =>
        rw [hd] at hk
        refine ⟨x, by rw [List.getElem?_map, hd]; rfl, ?_⟩
        simpa [lstE] using hk.symm
    refine ⟨d'.toList.map encE, ?_, ⟨by simp, fun k l hk => ?_⟩, fun k l hk => ?_, ?_, fun b hb => ?_⟩
    · rw [show (d'.toList.map lstE).length = n by simp [hsz]]
      rcases ho.2 with ⟨h1, -⟩ | ⟨g', cap, cur', h1, hb, hg', hnc, hcm, hcs, hct⟩
      · cases h1
      · cases h1
        obtain ⟨cur2, hcur2, hsz2⟩ : ∃ cur2, (sortWorld encE w g 0 q d' os).heap[g]? = some (.cells cur2 34 (0, 0)) ∧ cur2.size = cur'.size := by
          refine ⟨putCells encE 0 d' cur', ?_, by simp [putCells]⟩
          show (w.heap.modify g (onCells (putCells encE 0 d')) ++ os)[g]? = _
          rw [Array.getElem?_append_left (by simpa using hg), Array.getElem?_modify, if_pos rfl, hg']
          rfl
        refine ⟨by simp [hsz], .inr ⟨g, c, cur2, rfl, hlg, hcur2, hnc, hcm, by rw [hsz2, hcs], ?_⟩⟩
        refine List.ext_getElem? fun j => ?_
        rcases Nat.lt_or_ge j n with hj | hj
        · have hj' : j < d'.size := by omega
          have h3 := (hHo j hj').1
          rw [Nat.zero_add] at h3
          have h4 : cur2.toList[j]? = some (encE d'[j]!) := by
            simp only [World.cell?, hcur2] at h3
            simpa using h3
          rw [List.getElem?_take, if_pos (by omega), h4, List.getElem?_map, List.getElem?_eq_getElem (by simpa using hj'), getElem!_pos d' j hj']
          simp
        · rw [List.getElem?_eq_none (by simp; omega), List.getElem?_eq_none (by simp; omega)]
    · obtain ⟨⟨⟨v, l'⟩, A, m, c', h1, h2, h3, h4, h5⟩, hx, rfl⟩ := hat k l hk
      obtain rfl : v = .slice A m c' := h1
      exact ⟨A, m, c', hx, sw_ins hg h3 (fun b off e => (h4 b off e).1), fun b off e => ⟨Nat.lt_of_lt_of_le (h4 b off e).2.1 hsize, fun e' => (h4 b off e).1 (by simpa [Value.ownBlock] using e'.symm)⟩⟩
    · obtain ⟨⟨⟨v, l'⟩, A, m, c', h1, h2, h3, h4, h5⟩, hx, rfl⟩ := hat k l hk
      refine ⟨_, hx, h5.kept hG ?_⟩
      obtain rfl : v = .slice A m c' := h1
      cases hb : (Value.slice A m c').ownBlock with
      | none => exact .inl rfl
      | some b =>
        obtain ⟨c2, e2, h6, h7⟩ := own_blk h5 hb
        have hA : A = some ⟨b, 0, none⟩ := by injection e2
        exact .inr (fun e => (h4 b 0 hA).1 (Option.some.inj e))
    · exact ((hpv.filterMap _).nodup_iff).2 hlv.2.1
    · exact Nat.lt_of_lt_of_le (hlv.2.2 b ((hpv.filterMap _).mem_iff.1 hb)) hsize
theorem sort_none (w : World) (A : Option Addr) (c : Nat) : Calls Tryz.prog 135 #[.slice A 0 c, .func (.func 136) #[] #[]] w fun e w' => e = .returned (.tuple #[]) ∧ w' = w := by
  have h := AnyF.slices_SortFunc_none (P := Tryz.prog) (ρ := Tryz.sortL_ren) { Tryz.sortL with } A c (.func (.func 136) #[] #[]) w
  change Calls Tryz.prog 135 _ _ _ at h
  exact h
end Go.Proofs.YtdgllpcfmkjfhaaGreat.Bl
/- Marks compared; what a map of sets holds; a step of a range over it. -/
namespace Go.Proofs.YtdgllpcfmkjfhaaGreat.Bl
open Go.RowKit Go.WideMaps Go.Shelf
open Go.Maps (Keyed)
attribute [local go_sem] Oper.semAt_some
theorem cellsI : Tryz.prog.cellsOf 3 = 1 := by kernel_rfl
theorem eqItem1 (W : World) (d i : Nat) (xs ys : Array Value) (is : List Nat) (a b : Int) (hx : xs[i]? = some (.int .i64 a)) (hy : ys[i]? = some (.int .i64 b)) (r : Bool) (hr : (Op.eqItems (d + 1) 3 1 xs ys is).run Tryz.prog W = .ok r W) : (Op.eqItems (d + 1) 3 1 xs ys (i :: is)).run Tryz.prog W = .ok (a == b && r) W := by
  simp only [Op.eqItems, Nat.mul_one]
  have e1 : (part 3 xs i).run Tryz.prog W = .ok (.int .i64 a) W := by go_simp
  have e2 : (part 3 ys i).run Tryz.prog W = .ok (.int .i64 b) W := by go_simp
  have e3 : (Op.equalIn (d + 1) 3 (.int .i64 a) (.int .i64 b)).run Tryz.prog W = .ok (a == b) W := by go_simp
  simp only [Sem.run_bind, e1, e2, e3, Result.andThen_ok]
  cases h : (a == b)
  · simp
  · simpa using hr
def sameB (a b : Nat) : Bool := (List.range 8).all fun i => a.testBit i == b.testBit i
theorem sameB_eq {a b : Nat} (ha : a < 256) (hb : b < 256) : sameB a b = decide (a = b) := by
  rw [Bool.eq_iff_iff, decide_eq_true_eq]
  unfold sameB
  rw [List.all_eq_true]
  constructor
  · intro h
    exact bits8_ext ha hb fun i hi => by simpa using h i (List.mem_range.2 hi)
  · rintro rfl i _
    simp
def aggB (b : Nat) : Value := .agg #[bv b 0, bv b 1, bv b 2, bv b 3, bv b 4, bv b 5, bv b 6, bv b 7]
theorem eqMarks (W : World) (d : Nat) (a b : Nat) : (Op.equalIn (d + 2) 74 (aggB a) (aggB b)).run Tryz.prog W = .ok (sameB a b) W := by
  obtain ⟨i0, hi0, hi1, hi2, hi3⟩ := info_parts' infoI
  unfold aggB bv
  rw [run_equalIn_array W (d + 1) (t := 74) (e := 3) (n := 8) (i := i0) _ _ (by kernel_rfl) hi0, cellsI]
  rw [show List.range 8 = [0, 1, 2, 3, 4, 5, 6, 7] from rfl]
  refine (eqItem1 W d 0 _ _ _ _ _ rfl rfl _ (eqItem1 W d 1 _ _ _ _ _ rfl rfl _ (eqItem1 W d 2 _ _ _ _ _ rfl rfl _ (eqItem1 W d 3 _ _ _ _ _ rfl rfl _ (eqItem1 W d 4 _ _ _ _ _ rfl rfl _ (eqItem1 W d 5 _ _ _ _ _ rfl rfl _ (eqItem1 W d 6 _ _ _ _ _ rfl rfl _ (eqItem1 W d 7 _ _ _ _ _ rfl rfl true ?_)))))))).trans ?_
  · simp [Op.eqItems]
  · have e : ∀ i : Nat, (((if a.testBit i = true then (1 : Int) else 0) == (if b.testBit i = true then (1 : Int) else 0))) = (a.testBit i == b.testBit i) := fun i => by cases a.testBit i <;> cases b.testBit i <;> rfl
    simp only [sameB, e]
    simp [List.range, List.range.loop]
set_option maxRecDepth 10000 in
theorem neqF (W : World) (a b : Nat) : (binOp .neq 179 (aggB a) (aggB b)).run Tryz.prog W = .ok (.bool (!sameB a b)) W := by
  have hm : (Op.equalIn 9999 74 (aggB a) (aggB b)).run Tryz.prog W = .ok (sameB a b) W := eqMarks W 9997 a b
  have hf : (match Tryz.prog.underlying 179 with | some (.struct fs) => fs.toList.map (fun f => (f.type, f.offset, f.name != "_")) | _ => []) = [(74, 0, true)] := by kernel_rfl
  have hp : Tryz.prog.stoodInHeld 179 = false := by kernel_rfl
  have hcm : (Tryz.prog.info? 74).map (·.size) = some 8 := by kernel_rfl
  have h : (Op.equalIn 10000 179 (aggB a) (aggB b)).run Tryz.prog W = .ok (sameB a b) W := by
    cases hu : Tryz.prog.underlying 179 with
    | none => rw [hu] at hf; cases hf
    | some T =>
      cases T with
      | struct fs =>
        rw [hu] at hf
        have hfo : Tryz.prog.fieldsOf 179 = fs := by unfold Program.fieldsOf; rw [hu]
        unfold aggB at hm ⊢
        rw [run_equalIn_struct W 9999 179 _ _ (by rw [hfo]; exact hu) hp, hfo]
        obtain ⟨fl⟩ := fs
        rcases fl with _ | ⟨f1, _ | ⟨f2, r⟩⟩
        · simp at hf
        · simp only [List.map_cons, List.map_nil, List.cons.injEq, Prod.mk.injEq, and_true] at hf
          obtain ⟨a1, a2, a3⟩ := hf
          have a3' : f1.name ≠ "_" := by simpa using a3
          have p1 : ∀ z : Nat, (part f1.type #[bv z 0, bv z 1, bv z 2, bv z 3, bv z 4, bv z 5, bv z 6, bv z 7] f1.offset).run Tryz.prog W = .ok (.agg #[bv z 0, bv z 1, bv z 2, bv z 3, bv z 4, bv z 5, bv z 6, bv z 7]) W := fun z => by
            rw [a1, a2]; go_simp
          simp only [Op.eqFields, if_pos a3', Sem.run_bind, p1, Result.andThen_ok]
          rw [a1, hm]
          simp only [Result.andThen_ok]
          cases sameB a b <;> simp
        · simp at hf
      | _ => rw [hu] at hf; cases hf
  unfold aggB at h ⊢
  go_simp
/-! What a map of sets holds. -/
abbrev MF (w : World) (mp n : Nat) (D : DataW Unit) : Prop := w.ownsMap Tryz.prog 179 (plainElem (H := Unit) Tryz.prog 3) mp n D
abbrev RF (w : World) (mp r n : Nat) (D : DataW Unit) (left : Lit → Bool) (cnt : Nat) : Prop := w.ranges Tryz.prog 179 (plainElem (H := Unit) Tryz.prog 3) mp r n D left cnt
structure SetM (D : DataW Unit) (S : Nat → Bool) : Prop where
  has : ∀ x, x < 256 → Maps.has D (klB x) = S x
  keys : ∀ kl, Maps.has D kl = true → ∃ x, x < 256 ∧ klB x = kl
theorem SetM.nil : SetM (.map []) fun _ => false := ⟨fun _ _ => rfl, fun kl h => by simp [Maps.has] at h⟩
theorem SetM.put {D : DataW Unit} {S : Nat → Bool} (h : SetM D S) (hD : Maps.IsMap D) {x : Nat} (hx : x < 256) (d : DataW Unit) : SetM (D.put (klB x) d) fun y => S y || y == x := by
  refine ⟨fun y hy => ?_, fun kl hk => ?_⟩
  · by_cases e : y = x
    · subst e
      rw [Maps.has_put_same hD (klB_is hx)]; simp
    · rw [Maps.has_put_other fun e' => e (klB_inj hy hx e'), h.has y hy]
      simp [e]
  · by_cases e : kl = klB x
    · exact ⟨x, hx, e.symm⟩
    · rw [Maps.has_put_other e] at hk
      exact h.keys kl hk
theorem SetM.del {D : DataW Unit} {S : Nat → Bool} (h : SetM D S) {x : Nat} (hx : x < 256) : SetM (D.del (klB x)) fun y => S y && y != x := by
  refine ⟨fun y hy => ?_, fun kl hk => ?_⟩
  · by_cases e : y = x
    · subst e
      rw [Maps.has_del_same]; simp
    · rw [Maps.has_del_other fun e' => e (klB_inj hy hx e'), h.has y hy]
      simp [e]
  · by_cases e : kl = klB x
    · rw [e, Maps.has_del_same] at hk; cases hk
    · rw [Maps.has_del_other e] at hk
      exact h.keys kl hk
theorem SetM.congr {D : DataW Unit} {S S' : Nat → Bool} (h : SetM D S) (hS : ∀ x, x < 256 → S' x = S x) : SetM D S' := ⟨fun x hx => by rw [h.has x hx, hS x hx], h.keys⟩
theorem sameKey_klB {x y : Nat} (hx : x < 256) (hy : y < 256) : (klB x).sameKey (klB y) = decide (x = y) := by
  by_cases e : x = y
  · subst e
    rw [WideAt.sameKey_self (klB_is hx)]; simp
  · rw [Maps.sameKey_ne fun e' => e (klB_inj hx hy e')]; simp [e]
theorem rf_below {w w' : World} {mp r n : Nat} {D : DataW Unit} {left : Lit → Bool} {cnt : Nat} (h : RF w mp r n D left cnt) (hb : Below w.heap.size w w') : RF w' mp r n D left cnt :=
  h.kept (row := none) ⟨hb.os, hb.tape, hb.output, hb.size, fun k hk _ => hb.block k hk⟩ (by simp) (by simp)
theorem rf_has {w : World} {mp r n : Nat} {D : DataW Unit} {left : Lit → Bool} {cnt : Nat} (h : RF w mp r n D left cnt) {x : Nat} (hx : x < 256) (hl : left (klB x) = true) : Maps.has D (klB x) = true := by
  obtain ⟨es, clock, since, seen, c0, -, -, -, hD, -, -, -, -, h2, -⟩ := h
  obtain ⟨e, he, hek⟩ := h2 _ hl
  rw [hD]
  exact List.any_eq_true.2 ⟨_, mem_sorted.2 (List.mem_map.2 ⟨e, he, rfl⟩), by rw [hek]; exact WideAt.sameKey_self (klB_is hx)⟩
def Lf (left : Lit → Bool) (T : Nat → Bool) : Prop := (∀ x, x < 256 → left (klB x) = T x) ∧ ∀ kl, left kl = true → ∃ x, x < 256 ∧ klB x = kl
theorem Lf.start {D : DataW Unit} {S : Nat → Bool} (h : SetM D S) : Lf (Maps.has D) S := ⟨h.has, h.keys⟩
theorem Lf.next {left : Lit → Bool} {T : Nat → Bool} (h : Lf left T) {x : Nat} (hx : x < 256) : Lf (fun z => left z && !z.sameKey (klB x)) fun y => T y && y != x := by
  refine ⟨fun y hy => ?_, fun kl hk => ?_⟩
  · show (left (klB y) && !(klB y).sameKey (klB x)) = _
    rw [h.1 y hy, sameKey_klB hy hx]
    by_cases e : y = x <;> simp [e]
  · simp only [Bool.and_eq_true] at hk
    exact h.2 kl hk.1
theorem Lf.done {left : Lit → Bool} {T : Nat → Bool} (h : Lf left T) (h0 : ∀ kl, left kl = false) : ∀ x, x < 256 → T x = false := fun x hx => by rw [← h.1 x hx, h0]
section
variable {w : World} {ops : Array Oper} {rest : List Oper} {o : Oper} {a : Act} {Q : Exit → Act → World → Prop}
theorem wpList_next_found (hg : o.guard = none) (it : Operand) (hop : o.op = Op.next it false) (b r n : Nat) (D : DataW Unit) (left : Lit → Bool) (cnt : Nat) (T : Nat → Bool)
    (hit : a.eval it = .pointer (some ⟨r, 0, none⟩)) (h : RF w b r n D left cnt) (hT : Lf left T)
    (hDone : (∀ x, x < 256 → T x = false) → wpList Tryz.prog ops Q rest (a.put o.dst (.tuple #[.bool false])) w)
    (hMore : ∀ (x : Nat) (c : Int) (left' : Lit → Bool) (w' : World) (cnt' : Nat), x < 256 → T x = true → RF w' b r n D left' cnt' → Lf left' (fun y => T y && y != x) → cnt' < cnt →
      w.grownBy w' (some r) → w'.heap.size = w.heap.size → (Instr.entry (.pointer (some ⟨r, 0, none⟩))).run Tryz.prog w' = .ok (.tuple #[aggB x, .int .i64 c]) w' → wpList Tryz.prog ops Q rest (a.put o.dst (.tuple #[.bool true, aggB x, .int .i64 c])) w') :
    wpList Tryz.prog ops Q (o :: rest) a w := by
  refine wpList_plain hg fun K' hK' => ?_
  unfold Oper.wp
  rcases h.next KF o.type with ⟨h0, hl, hrun⟩ | ⟨key, v, kl, y, w', cnt', hkey, hlk, hv, hat, hrun, hrg, hlt, hgr, hsz, hen⟩
  · simp [execOp, hop, hit, hrun, Result.andThen]
    exact hK' _ _ (hDone (hT.done hl))
  · obtain ⟨x, hx, rfl⟩ := hT.2 kl hlk
    obtain ⟨c, rfl, -⟩ := plainElem_int_inv underI hv
    have hk : key = aggB x := KF.inj hkey (key_klB hx)
    subst hk
    have hTx : T x = true := by rw [← hT.1 x hx]; exact hlk
    have hrest := hMore x c _ w' cnt' hx hTx hrg (hT.next hx) hlt hgr hsz hen
    simp [execOp, hop, hit, hrun, Result.andThen]
    exact hK' _ _ hrest
end
end Go.Proofs.YtdgllpcfmkjfhaaGreat.Bl
/- Walks: least: sets in a map, those with another one in them struck out. -/
namespace Go.Proofs.YtdgllpcfmkjfhaaGreat.Bl
open Go.RowKit Go.WideMaps Go.Shelf
open Go.Maps (Keyed)
attribute [local go_sem] Oper.semAt_some
theorem S0_take {ls : List (List Int)} {k : Nat} {l : List Int} (h : ls[k]? = some l) (y : Nat) : S0 (ls.take (k + 1)) y = (S0 (ls.take k) y || y == bitsL l) := by
  unfold S0
  rw [List.take_add_one, h, List.any_append]
  have : (bitsL l == y) = (y == bitsL l) := Bool.beq_comm
  simp [this]
theorem cells_of_cell {W : World} {p : Addr} {u : Value} (h : W.cell? p = some u) : ∃ o : Obj, W.heap[p.block]? = some o ∧ o.isCells = true := by
  unfold World.cell? at h
  cases ho : W.heap[p.block]? with
  | none => simp [ho] at h
  | some o => cases o <;> first | exact ⟨_, rfl, rfl⟩ | simp [ho] at h
theorem owns_same {V V' : World} {base e s n : Nat} {v : Value} {xs : List Value} (h : V.ownsRow base e s v n xs) (hk : ∀ q, v.ownBlock = some q → V'.heap[q]? = V.heap[q]?) : V'.ownsRow base e s v n xs := by
  refine ⟨h.1, h.2.imp id ?_⟩
  rintro ⟨g', cap, cur, e1, h1, h2, h3⟩
  exact ⟨g', cap, cur, e1, h1, (hk g' (by rw [e1]; rfl)).trans h2, h3⟩
theorem listed_bd (b : Nat) : ∀ x ∈ listed b 8, 0 ≤ x ∧ x < 8 := fun x hx => by
  obtain ⟨i, rfl, h, -⟩ := mem_listed.1 hx
  omega
theorem newLi_other {w w' : World} {lo base : Nat} {v : Value} {ls : List (List Int)} {r : Nat} (h : NewLiF w lo base v ls) (hg : w.grownBy w' (some r)) (hr : ∀ o : Obj, w.heap[r]? = some o → o.isCells = false) : NewLiF w' lo base v ls := by
  obtain ⟨vs, ho, hl, hlv⟩ := h
  have hne := ownV_ne hl hlv
  have hcell : ∀ b ∈ vs.filterMap Value.ownBlock, some r ≠ some b := fun b hb e => by
    have e := Option.some.inj e
    subst e
    obtain ⟨v', hv, hvb⟩ := List.mem_filterMap.1 hb
    obtain ⟨k, hk, hkv⟩ := List.getElem_of_mem hv
    have hkl : k < ls.length := by rw [← hl.1]; exact hk
    have hlk : ls[k]? = some ls[k] := List.getElem?_eq_getElem hkl
    obtain ⟨u, hu, how⟩ := hlv.1 k _ hlk
    rw [List.getElem?_eq_getElem hk, hkv] at hu
    obtain rfl := Option.some.inj hu
    rcases how.2 with ⟨h1, -⟩ | ⟨g', cap, cur, h1, -, h3, -⟩
    · subst h1; cases hvb
    · subst h1
      obtain rfl : g' = r := by simpa [Value.ownBlock] using hvb
      have := hr _ h3
      cases this
  refine ⟨vs, ?_, ⟨hl.1, fun k l hk => ?_⟩, (hlv.keep hg hcell).up hg.size⟩
  · exact owns_same ho fun q hq => hg.block q (World.ownsRow.lt ho q hq).2 (fun e => by
      have e := Option.some.inj e
      rcases ho.2 with ⟨h1, -⟩ | ⟨g', cap, cur, h1, -, hb, -⟩
      · subst h1; cases hq
      · subst h1
        have hq' : q = g' := by have := hq; simp [Value.ownBlock] at this; exact this.symm
        rw [← hq', e] at hb
        have := hr _ hb
        cases this)
  · obtain ⟨A, m, c, h1, h2, h3⟩ := hl.2 k l hk
    refine ⟨A, m, c, h1, ⟨h2.1, fun hm => ?_⟩, fun b off e => ⟨Nat.lt_of_lt_of_le (h3 b off e).1 hg.size, (h3 b off e).2⟩⟩
    obtain ⟨b, off, e, hb, hc⟩ := h2.2 hm
    refine ⟨b, off, e, Nat.lt_of_lt_of_le hb hg.size, fun j u hu => ?_⟩
    have hcell := hc j u hu
    refine (World.cell?_of_block (hg.block b hb fun e' => ?_)).trans hcell
    have e' := Option.some.inj e'
    obtain ⟨o, ho', hoc⟩ := cells_of_cell hcell
    have ho2 : w.heap[b]? = some o := ho'
    rw [e'] at ho2
    rw [hr o ho2] at hoc; cases hoc
theorem newLi_ne {w : World} {hi lo base : Nat} {v : Value} {ls : List (List Int)} {r : Nat} {o : Obj} (h : NewLiG w hi lo base v ls) (hr : w.heap[r]? = some o) (ho : o.isCells = false) : some r ≠ v.ownBlock := by
  obtain ⟨vs, hw, -⟩ := h
  rcases hw.2 with ⟨h1, -⟩ | ⟨g', cap, cur, h1, -, hb, -⟩
  · subst h1; exact fun e => by cases e
  · subst h1
    intro e
    have e : r = g' := by simpa [Value.ownBlock] using e
    subst e
    rw [hb] at hr; cases hr; cases ho
structure Coll (S T : Nat → Bool) (xs : List Nat) : Prop where
  nodup : xs.Nodup
  lt : ∀ x ∈ xs, x < 256
  mem : ∀ x, x < 256 → (x ∈ xs ↔ S x = true ∧ T x = false)
theorem Coll.nil (S : Nat → Bool) : Coll S S [] := ⟨List.nodup_nil, (fun _ h => by cases h), (fun x _ => by simp)⟩
theorem Coll.done {S T : Nat → Bool} {xs : List Nat} (h : Coll S T xs) (hT : ∀ x, x < 256 → T x = false) : ∀ x, x < 256 → (x ∈ xs ↔ S x = true) := fun x hx => by
  rw [h.mem x hx, hT x hx]; simp
theorem Coll.len {S T : Nat → Bool} {xs : List Nat} (h : Coll S T xs) : xs.length ≤ 256 := by
  have hp : ∀ (l : List Nat) (n : Nat), l.Nodup → (∀ x ∈ l, x < n) → l.length ≤ n := by
    intro l n
    induction n generalizing l with
    | zero => intro _ h; cases l with
      | nil => simp
      | cons x l => exact absurd (h x (List.mem_cons_self)) (by omega)
    | succ n ih =>
      intro hn h
      have h1 := ih (l.erase n) (hn.erase n) fun x hx => by
        have h2 := h x (List.mem_of_mem_erase hx)
        have h3 : x ≠ n := fun e => hn.not_mem_erase (e ▸ hx)
        omega
      have := List.length_erase_le (a := n) (l := l)
      have h4 : l.length ≤ (l.erase n).length + 1 := by
        by_cases hm : n ∈ l
        · rw [List.length_erase_of_mem hm]; omega
        · rw [List.erase_of_not_mem hm]; omega
      omega
  exact hp xs 256 h.nodup h.lt
theorem Coll.more {S T : Nat → Bool} {xs : List Nat} (h : Coll S T xs) {x : Nat} (hx : x < 256) (hT : T x = true) (hS : S x = true) : Coll S (fun z => T z && z != x) (xs ++ [x]) := by
  refine ⟨List.nodup_append.2 ⟨h.nodup, by simp, fun a ha b hb e => ?_⟩, fun y hy => ?_, fun y hy => ?_⟩
  · rw [List.mem_singleton.1 hb] at e
    subst e
    have := ((h.mem a hx).1 ha).2
    rw [hT] at this; cases this
  · rcases List.mem_append.1 hy with h1 | h1
    · exact h.lt y h1
    · rw [List.mem_singleton.1 h1]; exact hx
  · rw [List.mem_append, h.mem y hy, List.mem_singleton]
    by_cases e : y = x
    · subst e; simp [hS]
    · simp [e]
theorem wf1 : (Lit.int .i64 1).wf = true := by decide
set_option maxRecDepth 100000 in
set_option maxHeartbeats 4000000 in
theorem least_any (A : Option Addr) (n c : Nat) (ls : List (List Int)) (w : World) (hl : LiS w w.heap.size A n ls) (hn : n ≤ 1000000) (hv : ∀ l ∈ ls, isL 8 0 l = true) :
    Calls Tryz.prog 88 #[.slice A n c] w fun e w' => ∃ v', e = .returned v' ∧ NewLiF w' w.heap.size w.heap.size v' (leastL ls) ∧ Below w.heap.size w w' := by
  have hlen := hid hl.1
  have HL := hid hl
  have HV := hid hv
  clear hl hv
  have hMm := World.ownsMap_made (H := Unit) w Tryz.prog 179 (plainElem (H := Unit) Tryz.prog 3)
  obtain ⟨W1, hW1⟩ : ∃ W1, w.alloc (.map #[] 0) = W1 := ⟨_, rfl⟩
  have hb1 : Below w.heap.size w W1 := by rw [← hW1]; exact (Below.refl _ _).alloc (Nat.le_refl _) _
  rw [hW1] at hMm
  have HM0 := hid hMm
  have hmm := @run_makeMap Tryz.prog
  clear hMm
  go_enter Tryz.func88, Tryz.ntmps88
  go_wp2
  go_loopw [13] (fun i wr => ∃ (k : Nat) (D : DataW Unit), k ≤ n ∧ i = .int .i64 k ∧ Hid (MF wr w.heap.size k D) ∧ Hid (SetM D (S0 (ls.take k))) ∧ Below w.heap.size w wr) (fun i _ => n - (intOf i).toNat)
  case atStart => exact ⟨0, .map [], by omega, rfl, HM0, hid SetM.nil, hb1⟩
  case round =>
    clear HM0 hb1 hW1 hmm
    obtain ⟨k, D, hk, rfl, hM, hS, hbw⟩ := hrel
    have hszw := hbw.size
    by_cases hlt : k < n
    · obtain ⟨b, off, x, A', m, c', rfl, hb, hm, c0, hin⟩ := (HL.out.below hbw hszw).at_ hlt
      have Hm := hid hm
      have hlti : (k : Int) < n := by omega
      have hxv := HV.out x (List.mem_of_getElem? hm)
      have hxb := hid (isL_bd hxv)
      have hx256 : Hid (bitsL x < 256) := hid (bitsL_lt (n := 8) hxv)
      have hm8 : m ≤ 1000000 := by have := isL_len8 hxv (by omega); have := hin.len; omega
      have HI := hid hin
      clear hm hin hxv
      go_wp2_with (fail)
      refine (marked_any A' m c' x _ HI.out hm8 hxb.out).mono ?_
      rintro e w2 ⟨rfl, hb2⟩
      have hM2 := hid (map_below hM.out hb2)
      have hbw2 := hbw.trans (hb2.mono hszw)
      clear hb2
      unfold mkB
      go_wp2_with (at_mapUpdate; refine wpList_mapUpdate_own _ rfl _ _ _ 177 rfl 179 3 KF underM _ w.heap.size k D rfl hM2.out (by unfold maxLen; omega) _ _ (klB (bitsL x)) rfl rfl (key_klE hx256.out) _ [] (plainElem_int underI wf1) ?_; intro W3 hmap3 hgr3)
      have hb3 : Below w.heap.size w W3 := hbw2.grown hgr3 hbw2.size (fun r e => by have := Option.some.inj e; have := hbw2.size; omega)
      have hS3 : Hid (SetM (D.put (klB (bitsL x)) (.lit (.int .i64 1))) (S0 (ls.take (k + 1)))) := hid ((hS.out.put hM2.out.isMap hx256.out _).congr fun y _ => S0_take Hm.out y)
      have HM3 := hid hmap3
      clear hmap3 hgr3
      exact ⟨⟨k + 1, _, by omega, by go_num, HM3, hS3, hb3⟩, by simp [intOf]; omega⟩
    · obtain rfl : k = n := by omega
      have hS1 : Hid (SetM D (S0 ls)) := hid (by have := hS.out; rwa [List.take_of_length_le (by rw [hlen.out]; exact Nat.le_refl _)] at this)
      clear hS hlen HL HV
      go_wp2_with (at_range; refine wpList_range_own _ rfl _ _ rfl 179 3 KF underM _ w.heap.size k D rfl hM.out ?_; intro W2 hrg hgr hs2)
      go_frame
      have hb2 : Below w.heap.size w W2 := hbw.grown hgr hszw (fun r e => by cases e)
      have HR0 := hid hrg
      obtain ⟨R1, hR1⟩ : ∃ R, wr.heap.size = R := ⟨_, rfl⟩
      rw [hR1] at HR0 ⊢
      have hwR : w.heap.size ≤ R1 := by omega
      have hR2 : R1 < W2.heap.size := by omega
      have hS0 := hS1
      clear hrg hgr hs2 hM hbw hszw hR1 hlt hS1
      go_loopw [6] (fun _ wr => ∃ (S T : Nat → Bool) (D : DataW Unit) (left : Lit → Bool) (cnt : Nat), Hid (RF wr w.heap.size R1 k D left cnt) ∧ Hid (SetM D S) ∧ Hid (Lf left T) ∧ Hid (Str (S0 ls) S T) ∧ Below w.heap.size w wr) (fun _ wr => wr.rangeLeft w.heap.size R1)
      case atStart => exact ⟨S0 ls, S0 ls, D, _, _, HR0, hS0, hid (Lf.start hS0.out), hid (Str.start _), hb2⟩
      case round =>
        clear hb2 HR0 hS0 hR2
        obtain ⟨S, T, D, left, cnt, hRF, hSM, hLf, hStr, hbw⟩ := hrel
        have hszw := hbw.size
        go_wp2_with (at_next; refine wpList_next_found rfl _ rfl w.heap.size R1 k D left cnt T rfl hRF.out hLf.out ?_ ?_)
        · intro hT0
          have Hmin := hid (hStr.out.done hT0)
          clear hT0
          have HMF := hid hRF.out.owns
          clear hRF hLf hStr
          go_wp2_with (at_range; refine wpList_range_own _ rfl _ _ rfl 179 3 KF underM _ w.heap.size k D rfl HMF.out ?_; intro W3 hrg3 hgr3 hs3)
          go_frame
          have hb3 : Below w.heap.size w W3 := hbw.grown hgr3 hszw (fun r e => by cases e)
          have HR3 := hid hrg3
          obtain ⟨R3, hR3⟩ : ∃ R, wr.heap.size = R := ⟨_, rfl⟩
          have hwR3 : w.heap.size ≤ R3 := by omega
          rw [hR3] at HR3 ⊢
          clear hrg3 hgr3 hs3 hbw hszw hR3 HMF
          go_loopw [8] (fun v wr => ∃ (xs : List Nat) (T : Nat → Bool) (left : Lit → Bool) (cnt : Nat), Hid (RF wr w.heap.size R3 k D left cnt) ∧ Hid (Lf left T) ∧ Hid (NewLiF wr w.heap.size w.heap.size v (xs.map fun x => listed x 8)) ∧ Hid (Coll S T xs) ∧ Hid (xs = [] → v = .slice none 0 0) ∧ Below w.heap.size w wr) (fun _ wr => wr.rangeLeft w.heap.size R3)
          case atStart => exact ⟨[], S, _, _, HR3, hid (Lf.start hSM.out), hid (NewLiF.nil _ _ _), hid (Coll.nil S), hid (fun _ => rfl), hb3⟩
          case round =>
            clear hb3 HR3
            obtain ⟨xs, T, left, cnt, hRF, hLf, hNL, hCo, hnil, hbw⟩ := hrel
            have hszw := hbw.size
            go_wp2_with (at_next; refine wpList_next_found rfl _ rfl w.heap.size R3 k D left cnt T rfl hRF.out hLf.out ?_ ?_)
            · intro hT0
              have hCo1 := hid (hCo.out.done hT0)
              have hxl : Hid (∀ l ∈ xs.map (fun x => listed x 8), l.length ≤ 1000000) := hid (fun l hl => by
                obtain ⟨x, -, rfl⟩ := List.mem_map.1 hl
                have := listed_len x 8; omega)
              have hln := hCo.out.len
              have hord : Hid (∀ L : List (List Int), L.Perm (xs.map fun x => listed x 8) → L.Pairwise (fun a b => before b a = false) → L = leastL ls) := hid (fun L hp hs => by
                have := ordL_of (S := minB (S0 ls)) hCo.out.nodup hCo.out.lt (fun x hx => by rw [hCo1.out x hx, Hmin.out x hx]) hp hs
                exact this)
              obtain ⟨vs, ho, hLi, hLv⟩ := hNL.out
              obtain ⟨L, hL⟩ : ∃ L, xs.map (fun x => listed x 8) = L := ⟨_, rfl⟩
              have hLn : L.length ≤ 256 := by rw [← hL, List.length_map]; exact hln
              rw [hL] at ho hLi hLv hxl hord
              have HxL := hid hL
              clear hL hNL hln hT0 hRF hLf hCo hCo1
              obtain ⟨nL, hnL⟩ : ∃ nL, L.length = nL := ⟨_, rfl⟩
              rw [hnL] at ho hLn
              have HnL := hid hnL
              clear hnL
              rcases Nat.eq_zero_or_pos nL with h0 | h0
              · subst h0
                have hv0 := hnil.out (by have := HnL.out; rw [← HxL.out, List.length_map] at this; exact List.eq_nil_of_length_eq_zero this)
                subst hv0
                have hle : Hid (leastL ls = []) := hid (by
                  have hL0 : L = [] := List.eq_nil_of_length_eq_zero HnL.out
                  rw [← hord.out [] (by rw [hL0]) List.Pairwise.nil])
                clear ho hLi hLv
                go_wp2_with (go_at_call 135; refine (sort_none _ none 0).mono ?_; rintro e w1 ⟨rfl, rfl⟩)
                refine bodyPost_ret (v := .slice none 0 0) (by first | (simp [results, Tryz.results88, go_sem]; done) | (simp [results, Tryz.results88, go_sem, *]; done) | (simp [results, Tryz.results88, go_sem, World.cell?_setCell_same', *]; done) | (simp [results, Tryz.results88, go_sem]; first | exact ⟨rfl, rfl⟩ | rfl)) rfl ⟨_, rfl, ?_, hbw⟩
                rw [hle.out]
                exact NewLiF.nil _ _ _
              · obtain ⟨g, cap, rfl, hg1, hg2⟩ := own_form2 ho h0
                have HS := hid (sort_some wr w.heap.size g nL cap w.heap.size vs L ho hLi HnL.out.symm (by omega) hxl.out hLv hg1)
                clear ho hLi hLv
                go_wp2_with (go_at_call 135; refine HS.out.mono ?_; rintro e w1 ⟨rfl, ls', hp, hs, hli, hgr⟩)
                have hle := hid (hord.out ls' hp hs)
                refine bodyPost_ret (v := .slice (some ⟨g, 0, none⟩) nL cap) (by first | (simp [results, Tryz.results88, go_sem]; done) | (simp [results, Tryz.results88, go_sem, *]; done) | (simp [results, Tryz.results88, go_sem, World.cell?_setCell_same', *]; done) | (simp [results, Tryz.results88, go_sem]; first | exact ⟨rfl, rfl⟩ | rfl)) rfl ⟨_, rfl, ?_, hbw.grown hgr hszw (fun r e => by have := Option.some.inj e; omega)⟩
                rw [← hle.out]
                exact hli
            · intro x c1 left1 w1 cnt1 hx hTx hrg1 hLf1 hlt1 hgr1 hsz1 hen
              have hSx : Hid (S x = true) := hid (by
                have h1 := hLf.out.1 x hx
                rw [hTx] at h1
                rw [← hSM.out.has x hx]
                exact rf_has hRF.out hx h1)
              have hneR := hRF.out.ne
              have Hrd := hid hRF.out.left_eq
              have Hlt1 := hid hlt1
              have hb1 : Below w.heap.size w w1 := hbw.grown hgr1 hszw (fun r e => by have := Option.some.inj e; omega)
              have hCo2 := hid (hCo.out.more hx hTx hSx.out)
              have hln := hCo.out.len
              have HR1 := hid hrg1
              have HL1 := hid hLf1
              have hN1 : Hid (NewLiF w1 w.heap.size w.heap.size u8 (xs.map fun x => listed x 8)) := hid (newLi_other hNL.out hgr1 (fun o ho => by
                obtain ⟨es, clock, since, seen, c0, -, -, -, -, h2, -⟩ := hRF.out
                rw [h2] at ho; cases ho; rfl))
              obtain ⟨W3, hW3⟩ : ∃ W3, w1.alloc (.cells (mkB x) 179) = W3 := ⟨_, rfl⟩
              have hb13 : Below w1.heap.size w1 W3 := by rw [← hW3]; exact (Below.refl _ _).alloc (Nat.le_refl _) _
              have hb3 : Below w.heap.size w W3 := hb1.trans (hb13.mono hb1.size)
              have HR3 := hid (rf_below HR1.out hb13)
              have hN3 := hid (hN1.out.below hb13)
              have B9 : Hid (Blk W3 w1.heap.size 179 (mkB x)) := hid (by rw [← hW3]; exact Blk.new' rfl)
              obtain ⟨q0, q1, q2, q3, q4, q5, q6, q7⟩ := load8 B9.out
              have l9 := B9.out.lt
              have hz3 := hb3.size
              have hLA := @list_any x
              unfold mkB at hLA hW3
              unfold aggB at hen
              have HLA := hid hLA
              clear hLA hrg1 hgr1 hsz1 hlt1 hLf1 hTx hRF hLf hCo hNL HR1 hN1 hb13
              go_wp2_with (fail)
              refine (HLA.out _).mono ?_
              rintro e V1 ⟨A1, n1, c1', rfl, how1, hc1, hn1, hin1, hfr1, hb10⟩
              have hbV1 := hb3.trans (hb10.mono hz3)
              have HR4 := hid (rf_below HR3.out hb10)
              have hN4 := hid (hN3.out.belowG hb10)
              have hzV := hbV1.size
              have hW3V := hb10.size
              have HI1 := hid hin1
              have HOw : Hid ((V1.alloc (.cells #[.slice A1 n1 c1'] 34)).ownsRow w.heap.size 3 1 (.slice A1 n1 c1') n1 ((listed x 8).flatMap cI)) := hid (owns_mono (owns_below how1 ((Below.refl _ _).alloc (Nat.le_refl _) _)) hz3)
              have Hfr := hid hfr1
              have hin2 : ∀ b off, A1 = some ⟨b, off, none⟩ → b < V1.heap.size := fun b off e => by
                rcases Nat.eq_zero_or_pos n1 with h | h
                · rw [(hn1 h).1] at e; cases e
                · obtain ⟨b', o', e', hb'⟩ := ins_some hin1 h
                  rw [e'] at e; cases e; exact hb'
              have Hin2 := hid hin2
              have hown : ∀ r, u8.ownBlock = some r → r < W3.heap.size := fun r hr => by
                obtain ⟨vs, ho, -⟩ := hN3.out
                exact (World.ownsRow.lt ho r hr).2
              have Hown := hid hown
              clear how1 hin1 hfr1 hb10 hn1 hc1 hin2 q0 q1 q2 q3 q4 q5 q6 q7 hen hown
              have hneM : Hid (some w.heap.size ≠ u8.ownBlock ∧ some R3 ≠ u8.ownBlock) := hid (by
                obtain ⟨es, clock, since, seen, c0, h1, -, -, -, h2, -⟩ := HR4.out
                exact ⟨newLi_ne hN4.out h1 rfl, newLi_ne hN4.out h2 rfl⟩)
              have hN5 : Hid (NewLiG (V1.alloc (.cells #[.slice A1 n1 c1'] 34)) W3.heap.size w.heap.size w.heap.size u8 (xs.map fun x => listed x 8)) := hid (hN4.out.belowG ((Below.refl _ _).alloc (Nat.le_refl _) _))
              have hll : (xs.map fun x => listed x 8).length ≤ 1000000 := by rw [List.length_map]; omega
              have Hll := hid hll
              have HR5 : Hid (RF (V1.alloc (.cells #[.slice A1 n1 c1'] 34)) w.heap.size R3 k D left1 cnt1) := hid (HR4.out.alloc _)
              have hb5 : Below w.heap.size w (V1.alloc (.cells #[.slice A1 n1 c1'] 34)) := hbV1.alloc hzV _
              clear hll hN4 HR4
              go_wp2_with (at_builtin; refine newLiF_append rfl (by rfl) _ _ rfl W3.heap.size w.heap.size w.heap.size _ _ rfl hN5.out V1.heap.size A1 n1 c1' (listed x 8) rfl (Blk.new' rfl) (HI1.out.below ((Below.refl _ _).alloc (Nat.le_refl _) _) (by simp)) (fun b' off' e' => ⟨by have := Hin2.out b' off' e'; simp; omega, fun e3 => by have h1 := Hfr.out b' off' e'; have h2 := Hown.out b' e3; omega⟩) HOw.out (fun b' off' e' => Hfr.out b' off' e') Hll.out hb5.size ?_; intro v4 w4 hn4 hg4 hat4)
              have hb6 : Below w.heap.size w w4 := hb5.grown hg4 hb5.size (fun r hr => by
                obtain ⟨vs, ho, -⟩ := hN5.out
                exact (World.ownsRow.lt ho r hr).1)
              have HR6 := hid (HR5.out.kept hg4 hneM.out.1 hneM.out.2)
              have hm6 : w4.rangeLeft w.heap.size R3 = cnt1 := HR6.out.left_eq
              have hn6 : NewLiF w4 w.heap.size w.heap.size v4 ((xs ++ [x]).map fun x => listed x 8) := by rw [List.map_append]; exact hn4
              exact ⟨⟨_, _, _, cnt1, HR6, HL1, hid hn6, hCo2, hid (fun e => by simp at e), hb6⟩, by rw [hm6, Hrd.out]; exact Hlt1.out⟩
        · intro x c1 left1 w1 cnt1 hx hTx hrg1 hLf1 hlt1 hgr1 hsz1 hen
          have hb1 : Below w.heap.size w w1 := hbw.grown hgr1 hszw (fun r e => by have := Option.some.inj e; omega)
          have hrd := hRF.out.left_eq
          have Hrd := hid hrd
          have Hlt1 := hid hlt1
          have HR1 := hid hrg1
          have HL1 := hid hLf1
          unfold aggB at hen
          clear hrd hlt1 hrg1 hLf1 hgr1 hsz1 hRF hLf hTx
          have hz1 := hb1.size
          obtain ⟨W3, hW3⟩ : ∃ W3, w1.alloc (.cells (mkB x) 179) = W3 := ⟨_, rfl⟩
          have hb3 : Below w.heap.size w W3 := by rw [← hW3]; exact hb1.alloc hz1 _
          have HR3 : Hid (RF W3 w.heap.size R1 k D left1 cnt1) := hid (by rw [← hW3]; exact HR1.out.alloc _)
          have B6 : Hid (Blk W3 w1.heap.size 179 (mkB x)) := hid (by rw [← hW3]; exact Blk.new' rfl)
          obtain ⟨X6, hX6⟩ : ∃ X, w1.heap.size = X := ⟨_, rfl⟩
          have hX6w : w.heap.size ≤ X6 := by omega
          have hX63 : X6 < W3.heap.size := by have := B6.out.lt; omega
          unfold mkB at hW3
          go_wp2_with (at_range; refine wpList_range_own _ rfl _ _ rfl 179 3 KF underM _ w.heap.size k D rfl HR3.out.owns ?_; intro W4 hrg4 hgr4 hs4)
          go_frame
          rw [hX6] at B6
          have hb4 : Below w.heap.size w W4 := hb3.grown hgr4 hb3.size (fun r e => by cases e)
          have B64 : Hid (Blk W4 X6 179 (mkB x)) := hid (B6.out.grown hgr4 (by simp))
          have HR4 := hid hrg4
          have HR14 : Hid (RF W4 w.heap.size R1 k D left1 cnt1) := hid (HR3.out.kept hgr4 (by simp) (by simp))
          obtain ⟨R2, hR2⟩ : ∃ R, W3.heap.size = R := ⟨_, rfl⟩
          rw [hR2] at HR4 ⊢
          have hwR2 : w.heap.size ≤ R2 := by have := hb3.size; omega
          have hR12 : Hid (R1 ≠ R2) := hid (by have := HR3.out.lt; omega)
          have hX6R : Hid (X6 ≠ R2 ∧ X6 ≠ R1) := hid ⟨by have := B6.out.lt; omega, by have := HR1.out.lt; omega⟩
          clear hrg4 hgr4 hs4 hW3 hX6 hR2 hen HR1 hb1 hb3 hz1 B6 HR3
          go_loopw [7] (fun _ wr => ∃ (T2 : Nat → Bool) (left2 : Lit → Bool) (cnt2 : Nat), Hid (RF wr w.heap.size R2 k D left2 cnt2) ∧ Hid (RF wr w.heap.size R1 k D left1 cnt1) ∧ Hid (Lf left2 T2) ∧ Hid (∀ y, y < 256 → S y = true → T2 y = false → y ≠ x → subB y x = false) ∧ Hid (Blk wr X6 179 (mkB x)) ∧ Below w.heap.size w wr) (fun _ wr => wr.rangeLeft w.heap.size R2)
          case atStart => exact ⟨S, _, _, HR4, HR14, hid (Lf.start hSM.out), hid (fun y _ h h' => by rw [h] at h'; cases h'), B64, hb4⟩
          case round =>
            clear hb4 HR4 HR14 B64 hX63
            obtain ⟨T2, left2, cnt2, hRF2, hRF1, hLf2, hno, hB6, hbw5⟩ := hrel
            have hszw5 := hbw5.size
            go_wp2_with (at_next; refine wpList_next_found rfl _ rfl w.heap.size R2 k D left2 cnt2 T2 rfl hRF2.out hLf2.out ?_ ?_)
            · intro hT0
              have hStr2 : Hid (Str (S0 ls) S fun y => T y && y != x) := hid (hStr.out.keep fun y hy hs hne => hno.out y hy hs (hT0 y hy) hne)
              clear hT0
              go_wp2
              exact ⟨⟨S, _, D, left1, cnt1, hRF1, hSM, HL1, hStr2, hbw5⟩, by rw [hRF1.out.left_eq, Hrd.out]; exact Hlt1.out⟩
            · intro y c2 left3 w2 cnt3 hy hTy hrg2 hLf3 hlt2 hgr2 hsz2 hen
              have hne2 := hRF2.out.ne
              have hSy : Hid (S y = true) := hid (by
                have h1 := hLf2.out.1 y hy
                rw [hTy] at h1
                rw [← hSM.out.has y hy]
                exact rf_has hRF2.out hy h1)
              have Hrd2 := hid hRF2.out.left_eq
              have Hlt2 := hid hlt2
              have hb6 : Below w.heap.size w w2 := hbw5.grown hgr2 hszw5 (fun r e => by have := Option.some.inj e; omega)
              have hz6 := hb6.size
              have HR26 := hid hrg2
              have HR16 : Hid (RF w2 w.heap.size R1 k D left1 cnt1) := hid (hRF1.out.kept hgr2 (by simpa using Ne.symm hne2) (by simpa using hR12.out))
              have HL3 := hid hLf3
              have B66 : Hid (Blk w2 X6 179 (mkB x)) := hid (hB6.out.grown hgr2 (by simpa using hX6R.out.1))
              obtain ⟨W5, hW5⟩ : ∃ W5, w2.alloc (.cells (mkB y) 179) = W5 := ⟨_, rfl⟩
              have hb5 : Below w.heap.size w W5 := by rw [← hW5]; exact hb6.alloc hz6 _
              have hb25 : Below w2.heap.size w2 W5 := by rw [← hW5]; exact (Below.refl _ _).alloc (Nat.le_refl _) _
              have HR25 : Hid (RF W5 w.heap.size R2 k D left3 cnt3) := hid (by rw [← hW5]; exact HR26.out.alloc _)
              have HR15 : Hid (RF W5 w.heap.size R1 k D left1 cnt1) := hid (by rw [← hW5]; exact HR16.out.alloc _)
              have B65 : Hid (Blk W5 X6 179 (mkB x)) := hid (B66.out.below hb25 B66.out.lt)
              have B75 : Hid (Blk W5 w2.heap.size 179 (mkB y)) := hid (by rw [← hW5]; exact Blk.new' rfl)
              obtain ⟨p0, p1, p2, p3, p4, p5, p6, p7⟩ := load8 B65.out
              obtain ⟨q0, q1, q2, q3, q4, q5, q6, q7⟩ := load8 B75.out
              have l6 := B65.out.lt
              have l7 := B75.out.lt
              have hz5 := hb5.size
              have hN := neqF (a := x) (b := y)
              rw [sameB_eq hx hy] at hN
              unfold mkB at hW5
              unfold aggB at hen hN
              clear hrg2 hgr2 hsz2 hlt2 hLf3 hTy hRF2 hLf2 hRF1 hB6 hb25 HR26 HR16 B66
              have Hno := hid hno.out
              by_cases hxy : y = x
              · subst hxy
                have hN' : ∀ W : World, (binOp .neq 179 (.agg #[bv y 0, bv y 1, bv y 2, bv y 3, bv y 4, bv y 5, bv y 6, bv y 7]) (.agg #[bv y 0, bv y 1, bv y 2, bv y 3, bv y 4, bv y 5, bv y 6, bv y 7])).run Tryz.prog W = .ok (.bool false) W := fun W => by rw [hN W]; simp
                clear hN
                go_wp2
                refine wp_region_hd_all (fun W => Below W5.heap.size W5 W) (by kernel_rfl) (by kernel_rfl) ((Below.refl _ _).drew) ?_
                iterate 4 (refine wpHd_val (v := ?_) (by rfl) (fun W hW => ?_) ?_; rotate_left; (· obtain ⟨hcW, hfW⟩ := bcell hW; go_simp; with_reducible rfl); simp only [Act.put, List.setIfInBounds_toArray, List.set_cons_zero, List.set_cons_succ])
                iterate 6 (refine wpHd_not (by rfl) ?_; simp only [Act.put, List.setIfInBounds_toArray, List.set_cons_zero, List.set_cons_succ])
                (refine wpHd_val (v := ?_) (by rfl) (fun W hW => ?_) ?_; rotate_left; (· obtain ⟨hcW, hfW⟩ := bcell hW; go_simp; with_reducible rfl); simp only [Act.put, List.setIfInBounds_toArray, List.set_cons_zero, List.set_cons_succ])
                refine wpHd_nil ?_
                intro W9 hW9
                have hb9 := hb5.trans (hW9.mono hz5)
                have HR29 := hid (rf_below HR25.out hW9)
                have HR19 := hid (rf_below HR15.out hW9)
                have B69 := hid (B65.out.below hW9 B65.out.lt)
                have hno9 : Hid (∀ z, z < 256 → S z = true → (T2 z && z != y) = false → z ≠ y → subB z y = false) := hid (fun z hz hs ht hne => Hno.out z hz hs (by simpa [hne] using ht) hne)
                have hm9 : Hid (W9.rangeLeft w.heap.size R2 = cnt3) := hid HR29.out.left_eq
                clear hW9 p0 p1 p2 p3 p4 p5 p6 p7 q0 q1 q2 q3 q4 q5 q6 q7 hno hen
                go_wp2
                exact ⟨⟨_, left3, cnt3, HR29, HR19, HL3, hno9, B69, hb9⟩, by rw [hm9.out, Hrd2.out]; exact Hlt2.out⟩
              · have hN' : ∀ W : World, (binOp .neq 179 (.agg #[bv x 0, bv x 1, bv x 2, bv x 3, bv x 4, bv x 5, bv x 6, bv x 7]) (.agg #[bv y 0, bv y 1, bv y 2, bv y 3, bv y 4, bv y 5, bv y 6, bv y 7])).run Tryz.prog W = .ok (.bool true) W := fun W => by rw [hN W]; simp [Ne.symm hxy]
                have hsb : Hid ((listed y 8).all (inB x) = subB y x) := rfl
                have hLA := @list_any y
                have hMH := @marksHas_any x
                unfold mkB at hLA hMH
                have HLA := hid hLA
                have HMH := hid hMH
                obtain ⟨sv, hsv⟩ : ∃ sv, subB y x = sv := ⟨_, rfl⟩
                have Hsv := hid hsv
                rw [hsv] at hsb
                clear hN hLA hMH hsv hno
                clear p0 p1 p2 p3 p4 p5 p6 p7 q0 q1 q2 q3 q4 q5 q6 q7
                go_wp2
                refine wp_region_el [0, 1, 2, 3, 4, 5, 6, 7] 3 (by kernel_rfl) (by kernel_rfl) (fun Y hY => ?_)
                have hYX : Below W5.heap.size W5 Y := by rw [hY]; exact (Below.refl _ _).drew
                clear hY
                have B6y := B65.out.below hYX l6
                have B7y := B75.out.below hYX l7
                have hbY := hid (hb5.trans (hYX.mono hz5))
                have HRY2 := hid (rf_below HR25.out hYX)
                have HRY1 := hid (rf_below HR15.out hYX)
                obtain ⟨p0, p1, p2, p3, p4, p5, p6, p7⟩ := load8 B6y
                obtain ⟨q0, q1, q2, q3, q4, q5, q6, q7⟩ := load8 B7y
                have l6y := B6y.lt
                have l7y := B7y.lt
                have HB6y := hid B6y
                clear hYX l6 l7 hen hz5 hb5 B6y B7y
                simp only [pick, List.getElem?_toArray, List.getElem?_cons_zero, List.getElem?_cons_succ]
                iterate 8 (refine wpE_val (v := ?_) (by rfl) (fun W hW => ?_) ?_; rotate_left; (· obtain ⟨hcW, hfW⟩ := bcell hW; go_simp; with_reducible rfl); simp only [Act.put, List.setIfInBounds_toArray, List.set_cons_zero, List.set_cons_succ])
                simp only [wpE]
                clear p0 p1 p2 p3 p4 p5 p6 p7 q0 q1 q2 q3 q4 q5 q6 q7
                (refine wpM_one 8 _ (by simp only [List.getElem?_toArray, List.getElem?_cons_zero, List.getElem?_cons_succ]; rfl) (by kernel_rfl) (by rfl) ?_)
                intro V0 hV0 hV0'
                (go_simp; simp only [LUpon, Act.put]; try simp only [List.setIfInBounds_toArray, List.set_cons_zero, List.set_cons_succ])
                refine (HLA.out V0).mono ?_
                rintro e V1 ⟨A1, n1, c1', rfl, -, hc1, hn1, hin1, hfr1, hb10⟩
                have hbV1 := hV0'.trans' hb10
                have HI1 := hid hin1
                have hn8 : n1 ≤ 1000000 := by have := hin1.len; have := listed_len y 8; omega
                clear hin1 hfr1 hb10 hn1 hc1
                refine ⟨_, rfl, hbV1, ?_⟩
                (refine wpM_one 9 _ (by simp only [List.getElem?_toArray, List.getElem?_cons_zero, List.getElem?_cons_succ]; rfl) (by kernel_rfl) (by rfl) ?_)
                intro V2 hV2 hV2'
                (go_simp; simp only [LUpon, Act.put]; try simp only [List.setIfInBounds_toArray, List.set_cons_zero, List.set_cons_succ])
                refine (HMH.out A1 n1 c1' (listed y 8) _ (HI1.out.below hV2 hV2.size) hn8 (listed_bd y)).mono ?_
                rw [hsb.out]
                rintro e V3 ⟨rfl, hb11⟩
                refine ⟨_, rfl, hV2'.trans' hb11, ?_⟩
                (refine wpM_one 10 _ (by simp only [List.getElem?_toArray, List.getElem?_cons_zero, List.getElem?_cons_succ]; rfl) (by kernel_rfl) (by rfl) ?_)
                intro V4 hV4 hV4'
                (go_simp; simp only [LUpon, Act.put]; try simp only [List.setIfInBounds_toArray, List.set_cons_zero, List.set_cons_succ])
                refine ⟨hV4', ?_⟩
                refine wpM_end (by kernel_rfl) ?_
                intro W9 hW9 hW9'
                have hb9 := hbY.out.trans (hW9'.mono hbY.out.size)
                have HR29 := hid (rf_below HRY2.out hW9')
                have HR19 := hid (rf_below HRY1.out hW9')
                have B69 := hid (HB6y.out.below hW9' l6y)
                have hz9 := hb9.size
                clear hV0 hV0' hV2 hV2' hV4 hV4' hW9 hW9' hbV1 hb11 l6y l7y
                cases sv
                · have hno9 : Hid (∀ z, z < 256 → S z = true → (T2 z && z != y) = false → z ≠ x → subB z x = false) := hid (fun z hz hs ht hne => by
                    by_cases e : z = y
                    · rw [e]; exact Hsv.out
                    · exact Hno.out z hz hs (by simpa [e] using ht) hne)
                  have hm9 : Hid (W9.rangeLeft w.heap.size R2 = cnt3) := hid HR29.out.left_eq
                  go_wp2
                  exact ⟨⟨_, left3, cnt3, HR29, HR19, HL3, hno9, B69, hb9⟩, by rw [hm9.out, Hrd2.out]; exact Hlt2.out⟩
                · obtain ⟨q0, q1, q2, q3, q4, q5, q6, q7⟩ := load8 B69.out
                  have l9 := B69.out.lt
                  go_wp2_with (at_delete; refine wpList_delete_ranges _ rfl _ _ 177 179 rfl 3 KF underM _ w.heap.size R1 k D left1 cnt1 rfl HR19.out _ (klB x) rfl (key_klE hx) ?_; intro V3 cnt4 hrg3 hle3 hturn)
                  have hm3 : V3.rangeLeft w.heap.size R1 = cnt4 := hrg3.left_eq
                  have hlf : Lf (fun z => left1 z && !z.sameKey (klB x)) (fun z => T z && z != x) := by
                    refine ⟨fun z hz => ?_, fun kl hk => ?_⟩
                    · show (left1 (klB z) && !(klB z).sameKey (klB x)) = _
                      rw [HL1.out.1 z hz, sameKey_klB hz hx]
                      by_cases e : z = x <;> simp [e]
                    · simp only [Bool.and_eq_true] at hk
                      exact HL1.out.2 kl hk.1
                  have hb3 : Below w.heap.size w V3 := hb9.grown hturn.grown hz9 (fun r e => by have := Option.some.inj e; omega)
                  refine ⟨?_, ?_⟩
                  · (repeat apply Exists.intro)
                    refine ⟨?_, rfl⟩
                    exact ⟨_, _, _, _, cnt4, hid hrg3, hid (hSM.out.del hx), hid hlf, hid (hStr.out.strike hx hy hSy.out hxy Hsv.out), hb3⟩
                  · rw [hm3, Hrd.out]
                    have := Hlt1.out
                    omega
end Go.Proofs.YtdgllpcfmkjfhaaGreat.Bl
/- The least ones of some sets, as the evaluator takes them. -/
namespace Go.Proofs.YtdgllpcfmkjfhaaGreat
open Go.RowKit
set_option linter.unusedVariables false
theorem least_is : ((Tryz.prog.funcs[(88 : Nat)]?).map fun fn => fn.body.isSome && fn.name != "runtime.NumGoroutine") = some true := by kernel_rfl
theorem leastL_len (ls : List (List Int)) : ∀ l ∈ Bl.leastL ls, l.length ≤ 8 := fun l hl => by
  obtain ⟨x, _, _, rfl⟩ := Bl.mem_ordL.1 hl
  exact Bl.listed_len x 8
theorem natL_ok {args : List Value} {hp : Hp} {nx wm : Nat} {oc : Oc} (h : natL args hp nx wm = some oc) : SimF Tryz.prog (.func 88) args hp nx wm oc := by
  obtain ⟨v, ls, rfl, h1, h0, h2, h3, h4, h5, rfl⟩ := natL_inv h
  refine ⟨?_, fun G E w args' ro n K hr hl hK => ?_⟩
  · have := least_is
    cases hf : Tryz.prog.funcs[(88 : Nat)]? with
    | none => rw [hf] at this; cases this
    | some fn =>
      rw [hf] at this
      simp only [Option.map_some, Option.some.injEq, Bool.and_eq_true, bne_iff_ne] at this
      exact ⟨fn, rfl, this⟩
  · cases hl with
    | cons hv hnil =>
      cases hnil
      obtain ⟨g1, g2, A, m, c, rfl, g3, vs, g4, g5'⟩ := rdL_lis hr h1 hv
      refine (callsIn_wide (n := n)).2 ((Bl.least_any A m c ls w ⟨g3, vs, g4, g5'⟩ (by omega) h2).mono ?_)
      rintro e w' ⟨v', rfl, ⟨us, o1, o2, o3⟩, hb⟩
      have hp0 : Post G E hp nx wm w E hp nx wm w' := (Post.refl hr wm).stay hb.size (fun r hr => hb.block r hr) ⟨hb.os, hb.tape, hb.output⟩
      obtain ⟨k1, k2, k3⟩ := o3
      have hlo : ∀ b ∈ us.filterMap Value.ownBlock, w.heap.size ≤ b ∧ b < w'.heap.size := fun b hb' => ⟨(Bl.ownV_ne o2 ⟨k1, k2, k3⟩ b hb').2.2, k3 b hb'⟩
      obtain ⟨E2, q1, q2, q3, q4⟩ := Post.rows (lo := w.heap.size) (t := 3) (Nat.le_refl _) (Bl.leastL ls) us o2.1 (fun l hl => ⟨h5 l hl, by have := leastL_len ls l hl; unfold OM; omega⟩) (fun k l hk => by
        obtain ⟨u, hu, ho⟩ := k1 k l hk
        exact ⟨u, hu, by rw [← flat_int]; exact ho⟩) k2 (fun b hb' n x q e _ => by have := hr.lt n x e; have := (hlo b hb').1; omega) (by omega) hp0
      obtain ⟨g, cap, rfl, hg1, hg2⟩ := Bl.own_form2 o1 h4
      have hun : Unn E2 (rowsN (Bl.leastL ls) hp nx) g := q4 g (fun n x q e _ => by have := hr.lt n x e; omega) (fun hh => (Bl.ownV_ne o2 ⟨k1, k2, k3⟩ g hh).1 rfl)
      rcases o1.2 with ⟨e0, _⟩ | ⟨g', cap', cur, e1, r1, r2, r3, r4, r5, r6⟩
      · cases e0
      cases e1
      have hx := q1.rel.ext_add (g, 0, cap)
      have hP := q1.name (b := g) (ext := cap) (k := .row (valsN (Bl.leastL ls) nx)) hg1 hg2 hun (by omega) ⟨cur, 34, r2, by omega, by rw [valsN_len]; exact r3, valsN_one _ _, by
        rw [List.drop_zero, valsN_len]
        rw [Nat.mul_one] at r6
        rw [r6]
        exact q2.mono hx⟩ (fun _ _ _ _ _ _ e => by cases e)
      exact hK _ _ _ (by simpa using VR.opn 0 (Bl.leastL ls).length (Bl.leastL ls).length 1 cap (Env.add_self E2 _ (g, 0, cap)) (by unfold OM; omega) (by unfold OM; omega) r3 (by omega)) hP
end Go.Proofs.YtdgllpcfmkjfhaaGreat
/- Calls with the least sets taken from their contract. -/
namespace Go.Proofs.YtdgllpcfmkjfhaaGreat
open Go
noncomputable section
def nt0 : Nat' := fun f => match f with
  | 88 => some natL
  | _ => none
theorem nt0_ok : NatOk Tryz.prog nt0 := fun f h hf args hp nx wm oc ho => by
  unfold nt0 at hf
  split at hf
  · rw [← Option.some.inj hf] at ho; exact natL_ok ho
  · cases hf
def call0 : Call := callB cx1 hts nt0 200
theorem call0_ok : CallOk Tryz.prog call0 := callB_ok cx1_ok nt0_ok 200
def fr189 : Fr := ⟨[.slice (some ⟨1, 0, none⟩) 4 4, .agg ⟨[iv 100, iv 10]⟩, .bool true], [(1, .row [iv 90, iv 0, iv 0, iv 0, iv 0, iv 20, iv 1000, iv 1000, iv 0, iv 0, iv 120, iv 0, iv 0, iv 1000, iv 1000, iv 50, iv 180, iv 220, iv 10, iv 20])], 2, .tuple ⟨[.agg ⟨[iv 220000, iv 19800000, iv 40300, iv 6600]⟩, iv 0]⟩⟩
end
end Go.Proofs.YtdgllpcfmkjfhaaGreat
