/- Texts of the proof, laid together by program. -/
import Derived.Test.YtdcglphekafpdaaMg
import Derived.Laws.AppendOwnNone
import Derived.Test.YtdcglphekafpdaaMb
import Derived.OwnWalkIn
namespace Go.Proofs.Ytdcglphekafpdaa
/-- All lists of so many numbers, of those from one on, below another one: as the reference makes them. -/
def lsR (below : Nat) : Nat → Nat → List (List Int)
  | 0, _ => [[]]
  | k + 1, f => (List.range (below - f)).flatMap fun t => (lsR below k (f + t + 1)).map (((f + t : Nat) : Int) :: ·)
def extF (below f : Nat) (l : List Int) : List (List Int) := (List.range (below - (if l = [] then f else nx l))).map fun j => l ++ [(((if l = [] then f else nx l) + j : Nat) : Int)]
theorem nx_cons {x : Int} {l : List Int} (h : l ≠ []) : nx (x :: l) = nx l := by
  rcases l with _ | ⟨y, l⟩
  · exact absurd rfl h
  · simp [nx, List.getLast?_cons_cons]
theorem lsR_ext (below : Nat) : ∀ k f, lsR below (k + 1) f = (lsR below k f).flatMap (extF below f)
  | 0, f => by
    simp only [lsR, List.flatMap_cons, List.flatMap_nil, List.append_nil, List.map_cons, List.map_nil, extF, if_pos]
    simp [List.flatMap_def]
    induction (List.range (below - f)) with
    | nil => rfl
    | cons a l ih => simp [ih]
  | k + 1, f => by
    conv => lhs; unfold lsR
    conv => rhs; unfold lsR
    rw [List.flatMap_assoc]
    congr 1
    funext t
    rw [lsR_ext below k (f + t + 1), List.map_flatMap, List.flatMap_map]
    congr 1
    funext l
    unfold extF
    rw [List.map_map, if_neg (List.cons_ne_nil _ _)]
    have e : nx (((f + t : Nat) : Int) :: l) = if l = [] then f + t + 1 else nx l := by
      split
      · subst_vars; simp [nx]; omega
      · exact nx_cons ‹_›
    rw [e]
    rfl
theorem lsR_lvl (below : Nat) : ∀ k, lsR below k 0 = lvl below k
  | 0 => rfl
  | k + 1 => by
    rw [lsR_ext, lsR_lvl below k]
    show _ = (lvl below k).flatMap (ext below)
    congr 1
    funext l
    unfold extF ext
    have : (if l = [] then 0 else nx l) = nx l := by
      split
      · subst_vars; rfl
      · rfl
    rw [this]
theorem lsR_small : ∀ below, below ≤ 8 → ∀ k, k ≤ 8 → ∀ f, f ≤ 9 → (lsR below k f).length ≤ 70 := by decide +kernel
theorem lsR_len {below : Nat} : ∀ {k f : Nat} {l : List Int}, l ∈ lsR below k f → l.length = k
  | 0, _, l, h => by simp [lsR] at h; subst h; rfl
  | k + 1, f, l, h => by
    simp only [lsR, List.mem_flatMap, List.mem_map] at h
    obtain ⟨t, _, l', h', rfl⟩ := h
    simp [lsR_len h']
/-- What has come of the first numbers. -/
def lsP (below k f j : Nat) : List (List Int) := (List.range j).flatMap fun t => (lsR below k (f + t + 1)).map (((f + t : Nat) : Int) :: ·)
theorem lsP_succ (below k f j : Nat) : lsP below k f (j + 1) = lsP below k f j ++ (lsR below k (f + j + 1)).map (((f + j : Nat) : Int) :: ·) := by simp [lsP, List.range_succ]
theorem lsP_all (below k f : Nat) : lsP below k f (below - f) = lsR below (k + 1) f := rfl
theorem lsP_le (below k f j : Nat) (h : j ≤ below - f) : (lsP below k f j).length ≤ (lsR below (k + 1) f).length := by
  rw [← lsP_all]
  obtain ⟨d, hd⟩ : ∃ d, below - f = j + d := ⟨below - f - j, by omega⟩
  rw [hd]
  induction d generalizing j with
  | zero => exact Nat.le_refl _
  | succ d ih =>
    have := ih (j := j + 1) (by omega) (by omega)
    rw [show j + (d + 1) = j + 1 + d by omega]
    refine Nat.le_trans ?_ this
    rw [lsP_succ, List.length_append]; omega
end Go.Proofs.Ytdcglphekafpdaa
namespace Go.Proofs.Ytdcglphekafpdaa
open Go.RowKit Go.Shelf

theorem wpList_append_inO {P : Program} {w : World} {ops : Array Oper} {rest : List Oper} {o : Oper} {a : Act} {Q : Exit → Act → World → Prop} (hgd : o.guard = none) (s x : Operand) (t : TypeId)
    (ho : o.op = .call { callee := .builtin .append, args := #[s, x], argTypes := #[t, t] }) (base : Nat) (i : TypeInfo) (ht : P.underlying t = some (.slice 3)) (hi : P.info? 3 = some i) (hz : i.zero = some (.int .i64 0)) (hsz : i.size = 1) (hby : i.bytes = 8)
    (v : Value) (y : Int) (hs : a.eval s = v) (hown : w.ownsRow base 3 1 v 1 [.int .i64 y]) (B : Nat) (u : Value) (l : List Int) (hx : a.eval x = u) (hu : InO w B u l) (hl : l.length ≤ 100) (hbase : base ≤ w.heap.size)
    (h : ∀ v' w', InO w' base v' (y :: l) → w.grownBy w' v.ownBlock → wpList P ops Q rest (a.put o.dst v') w') : wpList P ops Q (o :: rest) a w := by
  have e : (y :: l).flatMap cI = [.int .i64 y] ++ l.flatMap cI := by simp [cI]
  have e2 : (y :: l).length = 1 + l.length := by simp; omega
  rcases hu.2 with ⟨rfl, h0⟩ | ⟨g, cap, cur, rfl, _, hg, _⟩
  · obtain rfl : l = [] := List.eq_nil_of_length_eq_zero h0
    refine wpList_append_own_none hgd s x t ho base 3 i 1 ht hi v 1 _ hs hown hx (h v w ?_ ⟨rfl, rfl, rfl, Nat.le_refl _, fun _ _ _ => rfl⟩)
    unfold InO; rw [e, e2]; exact hown
  · refine wpList_append_own w hgd s x t ho base 3 i _ 1 8 ht hi hz hsz hby rfl (by decide) v 1 _ hs hown ⟨g, 0, none⟩ l.length cap (l.flatMap cI) hx (by rw [flat_len (s := 1) (fun _ => rfl)]) (World.ownsRow.cells hu (g := g) rfl) (by intro u hu; obtain ⟨z, _, hz⟩ := List.mem_flatMap.1 hu; simp only [cI, List.mem_cons, List.not_mem_nil, or_false] at hz; subst hz; rfl) (by unfold maxLen; omega) (by omega) hbase ?_
    intro v' w' hown' hgr _
    refine h v' w' ?_ hgr
    unfold InO; rw [e, e2]; exact hown'

theorem LsO.kept {w w' : World} {B B' : Nat} {v v' : Value} {ls : List (List Int)} {vs : List Value} {n' : Nat} {xs' : List Value} (h : LsO w B v ls vs) (ho : w.ownsRow B' 49 1 v' n' xs') (hg : w.grownBy w' v'.ownBlock) (hne : v.ownBlock = none ∨ v.ownBlock ≠ v'.ownBlock) : LsO w' B v ls vs :=
  ⟨h.1.kept hg hne, fun k l hk => by obtain ⟨u, hu, hou⟩ := h.2 k l hk; exact ⟨u, hu, World.ownsRow.kept hou hg (own_apart hou ho (by decide))⟩⟩
theorem oneCell_owns {w : World} {B e s n : Nat} {v : Value} {xs : List Value} (h : w.ownsRow B e s v n xs) : v.oneCell' = true := by
  rcases h.2 with ⟨rfl, _⟩ | ⟨_, _, _, rfl, _⟩ <;> rfl
/-- The relation of the inner loop: what has come; the list that is gone through stays, in another row. -/
def ResR (w : World) (acc rest : List (List Int)) (x : Int) (vr : Value) (rs : List Value) (j : Nat) (v : Value) (wr : World) : Prop :=
  (∃ vs, LsO wr w.heap.size v (acc ++ (rest.take j).map (x :: ·)) vs) ∧ LsO wr w.heap.size vr rest rs ∧ (vr.ownBlock = none ∨ vr.ownBlock ≠ v.ownBlock) ∧ Below w.heap.size w wr
theorem res_next {w wr w2 w3 : World} {acc rest : List (List Int)} {x : Int} {vr v u v3 : Value} {rs vs : List Value} {j : Nat} {l : List Int} {o : Obj} (hbel : Below w.heap.size w wr) (hb2 : Below wr.heap.size wr w2)
    (h : LsO wr w.heap.size v (acc ++ (rest.take j).map (x :: ·)) vs) (hr : LsO wr w.heap.size vr rest rs) (hne : vr.ownBlock = none ∨ vr.ownBlock ≠ v.ownBlock) (hl : rest[j]? = some l) (hu : InO w2 w.heap.size u (x :: l))
    {N : Nat} (hN : N = (acc ++ (rest.take j).map (x :: ·)).length) (ho : w3.ownsRow w.heap.size 49 1 v3 (N + 1) (vs ++ [u])) (hg : (w2.alloc o).grownBy w3 v.ownBlock) (hv3 : v3.ownBlock = v.ownBlock ∨ v3.ownBlock = some (w2.heap.size + 1)) : ResR w acc rest x vr rs (j + 1) v3 w3 := by
  subst hN
  have ha : Below w2.heap.size w2 (w2.alloc o) := (Below.refl _ _).alloc (Nat.le_refl _) _
  have h2 := (h.below hb2).below ha
  have hr2 := (hr.below hb2).below ha
  refine ⟨⟨vs ++ [u], ?_⟩, hr2.kept h2.1 hg hne, ?_, ?_⟩
  · rw [List.take_add_one, hl, List.map_append, ← List.append_assoc]
    exact LsO.snoc h2 (InO.below hu ha) ho hg
  · rcases hv3 with e | e
    · rw [e]; exact hne
    · rw [e]
      cases hvr : vr.ownBlock with
      | none => exact .inl rfl
      | some k =>
        right
        have := (World.ownsRow.lt hr.1 k hvr).2
        have := hb2.size
        simp; omega
  · have := hbel.size; have := hb2.size
    exact ((hbel.trans (hb2.mono hbel.size)).alloc (by omega) o).grown hg (by simp; omega) (fun k hk => (World.ownsRow.lt h.1 k hk).1)
def ListsPost (ls : List (List Int)) (w : World) (e : Ending) (w' : World) : Prop := ∃ v vs, e = .returned v ∧ LsO w' w.heap.size v ls vs ∧ Below w.heap.size w w'

set_option maxRecDepth 100000 in
set_option maxHeartbeats 1000000 in
theorem lists_any (below : Nat) (hbe : below ≤ 8) : ∀ (k f : Nat) (ki fi : Int) (w : World), ki = k → fi = f → k ≤ 8 → f ≤ 9 → Calls Try.prog 96 #[.int .i64 ki, .int .i64 fi, .int .i64 below] w (ListsPost (lsR below k f) w)
  | 0, f, ki, fi, w, hki, hf, _, _ => by
    obtain rfl : ki = 0 := hki
    have hf' := hid hf
    clear hf
    go_enter Try.func96, Try.ntmps96
    go_wp2
    refine bodyPost_ret (v := .slice (some ⟨w.heap.size, 0, none⟩) 1 1) (by first | (simp [results, Try.results96, go_sem]; done) | (simp [results, Try.results96, go_sem, World.cell?_setCell_same', *]; done) | (simp [results, Try.results96, go_sem]; first | exact ⟨rfl, rfl⟩ | rfl)) rfl ⟨_, _, rfl, LsO.start w _ (Nat.le_refl _), (Below.refl _ _).alloc (Nat.le_refl _) _⟩
  | k + 1, f, ki, fi, w, hki, hf, hk, hf9 => by
    subst hf
    obtain rfl : ki = (k : Int) + 1 := by omega
    clear hki

    have IH := hid (lists_any below hbe k)
    obtain ⟨i0, hi, hz0, hz1, hz2⟩ := info_parts info3
    obtain ⟨i1, hi1, hz01, hz11, hz21⟩ := info_parts info49
    have I0 := hid hi; have I1 := hid hz0; have I2 := hid hz1; have I3 := hid hz2
    have J0 := hid hi1; have J1 := hid hz01; have J2 := hid hz11; have J3 := hid hz21
    clear hi hz0 hz1 hz2 hi1 hz01 hz11 hz21
    have hk8 : k ≤ 8 := by omega
    have t1' : ((k : Int) + 1 == 0) = false := by simp; omega
    go_enter Try.func96, Try.ntmps96
    go_wp2
    go_loopw [7, 8] (fun v i wr => ∃ j z : Nat, Hid (f + j = z) ∧ (j ≤ below - f) ∧ i = .int .i64 z ∧ ∃ vs, LsO wr w.heap.size v (lsP below k f j) vs ∧ Below w.heap.size w wr) (fun _ i _ => below - (intOf i).toNat)
    case atStart => exact ⟨0, f, hid rfl, by omega, rfl, [], LsO.nil _ _, Below.refl _ _⟩
    case round =>
      obtain ⟨j, z, HZ, hj, rfl, vs, hls, hbel⟩ := hrel
      have hzz := HZ.out
      by_cases hlt : j < below - f
      · have x1 : (z : Int) < below := by omega
        have hH := hid hls
        have hps := lsP_succ below k f j
        rw [hzz] at hps
        have hPS := hid hps
        have hacc : (lsP below k f j).length ≤ 70 := Nat.le_trans (lsP_le below k f j (by omega)) (lsR_small below hbe (k + 1) hk f hf9)
        have hrl : (lsR below k (z + 1)).length ≤ 70 := lsR_small below hbe k hk8 (z + 1) (by omega)
        have hz9 : z + 1 ≤ 9 := by omega
        clear hps hls hzz
        have hbB := hid hbel
        go_wp2_with (first | (go_at_call 96; refine (IH.out (z + 1) _ _ wr (by omega) (by omega) hk8 hz9).mono ?_; rintro e w1 ⟨vr, rs, rfl, hrs, hb1⟩; have hR := hid (hrs.mono hbB.out.size); have hvr : Hid (vr.ownBlock = none ∨ vr.ownBlock ≠ u7.ownBlock) := hid (by cases h : vr.ownBlock with | none => exact .inl rfl | some q => right; intro h2; have := (World.ownsRow.lt hrs.1 q h).1; have := (World.ownsRow.lt hH.out.1 q h2.symm).2; omega); have hA := hid (hH.out.below hb1); have hbel1 := hbel.trans (hb1.mono hbel.size); clear hrs))
        have hvv := hR.out.1
        obtain ⟨Ar, cr, rfl, hsr⟩ := sl_of_owns hvv
        generalize hX : lsR below k (z + 1) = rest at *
        have HX := hid hX
        generalize lsP below k f j = acc at *
        clear hX hvv hsr
        obtain ⟨wo, rfl⟩ : ∃ wo : World, wo = wr := ⟨_, rfl⟩
        go_loopw [7, 10] (fun v i wr => ∃ t, t ≤ rest.length ∧ i = .int .i64 t ∧ ResR w acc rest (z : Int) (.slice Ar rest.length cr) rs t v wr) (fun _ i _ => rest.length - (intOf i).toNat)
        case atStart => exact ⟨0, by omega, rfl, ⟨_, by rw [List.take_zero, List.map_nil, List.append_nil]; exact hA.out⟩, hR.out, hvr.out, hbel1⟩
        case round =>
          obtain ⟨t, ht, rfl, ⟨vs2, h2⟩, hr2, hne2, hbel2⟩ := hrel
          by_cases hlt2 : t < rest.length
          · obtain ⟨u, hu, hou⟩ := hr2.2 t rest[t] (List.getElem?_eq_getElem hlt2)
            have hl2 := lsR_len (below := below) (k := k) (f := z + 1) (l := rest[t]) (by rw [HX.out]; exact List.getElem_mem hlt2)
            have hlt3 := hid (List.getElem?_eq_getElem hlt2)
            have hsl := sl_of_owns hr2.1
            obtain ⟨Ar', cr', he, hs2⟩ := hsl
            injection he with he1 he2 he3
            subst he1; subst he3
            obtain ⟨b, off, rfl, hb, hcs⟩ := hs2.2 (by omega)
            have q0 := hcs t _ hu
            have hl100 : Hid (rest[t].length ≤ 100) := hid (by omega)
            obtain ⟨N, hN⟩ : ∃ N, N = (acc ++ (rest.take t).map ((z : Int) :: ·)).length := ⟨_, rfl⟩
            have hn2 : N ≤ 200 := by rw [hN, List.length_append, List.length_map, List.length_take]; omega
            have HN := hid hN
            clear hN
            have H2 := hid h2
            have HR2 := hid hr2
            have HN2 := hid hne2
            have HU := hid hou
            generalize rest[t] = l at *
            clear hcs hu h2 hr2 hne2 hou hl2 hs2
            have hbw : Below wr.heap.size wr (wr.alloc (.cells #[.int .i64 (z : Int)] 3)) := (Below.refl _ _).alloc (Nat.le_refl _) _
            have hsz2 := hbel2.size
            have hrow := (World.ownsRow_lit (base := w.heap.size) (e := 3) (size := 1) wr #[.int .i64 (z : Int)] 1 hsz2 (by unfold maxLen; omega) rfl)
            go_wp2_with (first | (at_builtin; refine wpList_append_inO rfl _ _ 49 rfl w.heap.size i0 under49 I0.out I1.out I2.out I3.out _ (z : Int) rfl hrow w.heap.size _ l rfl (HU.out.below hbw) hl100.out (by simp; omega) ?_; intro v1 w2 hin1 hgr1; have hb2 := below_gr hbw hgr1 (Nat.le_refl _) (by simp); obtain ⟨g2, cap2, rfl, _, _⟩ := World.ownsRow.form hin1 (by simp); have hin1' := hid hin1; have hrow2 := (H2.out.below hb2).1; rw [← HN.out] at hrow2; have hz2 := hb2.size; clear hin1 hrow) | (at_builtin; refine wpList_append_lies _ rfl _ _ 128 rfl w.heap.size 49 i1 _ 1 24 under128 J0.out J1.out J2.out J3.out rfl (by decide) _ _ vs2 rfl (World.ownsRow.alloc hrow2 _) ⟨w2.heap.size, 0, none⟩ 1 1 [.slice (some ⟨g2, 0, none⟩) (l.length + 1) cap2] rfl rfl (fun j u hj => World.news_of_block (Blk.new w2 49 #[.slice (some ⟨g2, 0, none⟩) (l.length + 1) cap2]) j u hj) (by simp [Value.oneCell']) (by omega) (by unfold maxLen; omega) (by omega) (by simp; omega) (w2.heap.size + 1) (by simp) ?_; intro g3 cap3 w3 hown3 hgr3 hg3 _; have hfin := hid (res_next hbel2 hb2 H2.out HR2.out HN2.out hlt3.out hin1'.out HN.out hown3 hgr3 (hg3.imp (fun h => h.symm) (fun h => by rw [h]; rfl)))))
            exact ⟨⟨t + 1, by omega, by go_num, hfin.out⟩, by simp [intOf]; omega⟩
          · obtain rfl : t = rest.length := by omega
            have hfin : Hid (∃ vs, LsO wr w.heap.size u7 (lsP below k f (j + 1)) vs) := ⟨vs2, by rw [hPS.out]; rw [List.take_length] at h2; exact h2⟩
            have hz3 : Hid (z + 1 = f + (j + 1)) := hid (by have := HZ.out; omega)
            clear h2 hr2 hne2
            go_wp2
            obtain ⟨vs3, h3⟩ := hfin.out
            exact ⟨⟨j + 1, z + 1, hid (by have := hz3.out; omega), by omega, by go_num, vs3, h3, hbel2⟩, by simp [intOf]; omega⟩
      · obtain rfl : j = below - f := by omega
        have hfin := hid (show LsO wr w.heap.size u7 (lsR below (k + 1) f) vs from hls)
        have x1 : ¬ (z : Int) < below := by omega
        clear hls hzz
        go_wp2
        go_ret
        exact ⟨_, _, rfl, hfin.out, hbel⟩
end Go.Proofs.Ytdcglphekafpdaa
namespace Go.Proofs.Ytdcglphekafpdaa
theorem inc_mem {below : Nat} : ∀ {l : List Int} {f : Nat}, Inc below f l → l ∈ lsR below l.length f
  | [], f, _ => by simp [lsR]
  | x :: l, f, ⟨i, hx, h1, h2, h3⟩ => by
    subst hx
    simp only [List.length_cons, lsR, List.mem_flatMap, List.mem_map, List.mem_range]
    refine ⟨i - f, by omega, l, ?_, ?_⟩
    · have := inc_mem h3
      rwa [show f + (i - f) + 1 = i + 1 by omega]
    · rw [show f + (i - f) = i by omega]
theorem fewO_some {below k : Nat} {G : List Int → Bool} {l : List Int} (h : Inc below 0 l) (hk : l.length < k) (hG : G l = true) : fewO below G k ≠ none := by
  induction k with
  | zero => omega
  | succ k ih =>
    simp only [fewO]
    split
    · simp
    · rename_i h0
      rcases Nat.lt_or_ge l.length k with hlt | hge
      · exact absurd h0 (ih hlt)
      · obtain rfl : l.length = k := by omega
        intro hn
        have := List.find?_eq_none.1 hn l (by rw [← lsR_lvl]; exact inc_mem h)
        exact this hG
theorem fewO_good {below : Nat} {G : List Int → Bool} : ∀ {k : Nat} {l : List Int}, fewO below G k = some l → G l = true ∧ Inc below 0 l ∧ l.length < k
  | 0, l, h => by simp [fewO] at h
  | k + 1, l, h => by
    simp only [fewO] at h
    split at h
    · rename_i h0
      obtain rfl : _ = l := by simpa using h
      have := fewO_good h0
      exact ⟨this.1, this.2.1, by omega⟩
    · have hm := List.mem_of_find?_eq_some h
      have hl := lvl_mem hm
      have := List.find?_some h
      exact ⟨this, hl.2, by omega⟩
theorem fewO_mono {below : Nat} {G : List Int → Bool} {k : Nat} {l : List Int} (h : fewO below G k = some l) : ∀ j, fewO below G (k + j) = some l
  | 0 => h
  | j + 1 => by
    show fewO below G (k + j + 1) = _
    simp only [fewO, fewO_mono h j]
theorem fewL_of {below : Nat} {G : List Int → Bool} {k : Nat} {l : List Int} (h : fewO below G k = some l) (hk : k ≤ below + 1) : fewL below G = l := by
  have := fewO_mono h (below + 1 - k)
  rw [show k + (below + 1 - k) = below + 1 by omega] at this
  rw [fewL, this]; rfl
/-- The numbers from one to another one. -/
def from_ (a n : Nat) : List Int := (List.range n).map fun i => ((a + i : Nat) : Int)
theorem inc_from (below : Nat) : ∀ (n a f : Nat), f ≤ a → a + n ≤ below → Inc below f (from_ a n)
  | 0, _, _, _, _ => trivial
  | n + 1, a, f, h, h2 => by
    have e : from_ a (n + 1) = (a : Int) :: from_ (a + 1) n := by
      unfold from_
      rw [List.range_succ_eq_map, List.map_cons, List.map_map]
      congr 1
      refine List.map_congr_left fun i _ => ?_
      show ((a + (i + 1) : Nat) : Int) = ((a + 1 + i : Nat) : Int)
      congr 1; omega
    rw [e]
    exact ⟨a, rfl, h, by omega, inc_from below n (a + 1) (a + 1) (Nat.le_refl _) (by omega)⟩
theorem from_len (a n : Nat) : (from_ a n).length = n := by simp [from_]
theorem mem_from {a n : Nat} {x : Int} : x ∈ from_ a n ↔ ∃ i : Nat, i < n ∧ x = ((a + i : Nat) : Int) := by
  simp only [from_, List.mem_map, List.mem_range]
  exact ⟨fun ⟨i, h, e⟩ => ⟨i, h, e.symm⟩, fun ⟨i, h, e⟩ => ⟨i, h, e.symm⟩⟩
theorem frS_all {i : Nat} : ∀ (l : List Int) (s : Nat → Rg), ((i : Int) ∈ l ∨ s i = ⟨0, 1000000⟩) → frS s l i = ⟨0, 1000000⟩
  | [], s, h => by simpa [frS] using h
  | x :: l, s, h => by
    show frS (upd s x.toNat ⟨0, 1000000⟩) l i = _
    refine frS_all l _ ?_
    by_cases e : i = x.toNat
    · right; subst e; exact upd_same _ _ _
    · rw [upd_ne _ _ e]
      rcases h with h | h
      · rcases List.mem_cons.1 h with h | h
        · omega
        · exact .inl h
      · exact .inr h
theorem frS_not {i : Nat} : ∀ (l : List Int) (s : Nat → Rg), (∀ x ∈ l, x.toNat ≠ i) → frS s l i = s i
  | [], s, _ => rfl
  | x :: l, s, h => by
    show frS (upd s x.toNat ⟨0, 1000000⟩) l i = _
    rw [frS_not l _ (fun y hy => h y (by simp [hy])), upd_ne _ _ (fun e => h x (by simp) e.symm)]
theorem one_le {m : Mt} (hm : okM m = true) {x : Int} (hx : 0 ≤ x) : one m true x ≤ one m false x := by
  obtain ⟨h1, h2, h3, h4, h5, h6⟩ := okM_t.1 hm
  have h1 : x * m.keep.lo ≤ x * m.keep.hi := Int.mul_le_mul_of_nonneg_left h2 hx
  have h2 : x * m.keep.lo / 1000 ≤ x * m.keep.hi / 1000 := Int.ediv_le_ediv (by omega) h1
  simp only [one, if_true, Bool.false_eq_true, if_false]
  omega
/-- All scales but the first one can be wrong together. -/
def runT (M : Nat → Mt) (x : Int) : Nat → Int
  | 0 => x
  | k + 1 => one (M k) true (runT M x k)
theorem runT_bd {M : Nat → Mt} {n : Nat} (hM : ∀ i, i < n → okM (M i) = true) {x : Int} (h0 : 0 ≤ x) (h1 : x ≤ 1000000) : ∀ k, k ≤ n → 0 ≤ runT M x k ∧ runT M x k ≤ 1000000
  | 0, _ => ⟨h0, h1⟩
  | k + 1, hk => by
    have ih := runT_bd hM h0 h1 k (by omega)
    have := one_bd (hM k (by omega)) true ih.1 ih.2
    exact ⟨this.1, by show one (M k) true (runT M x k) ≤ _; omega⟩
theorem wrong_all {row : List Mt} {sc : List Rg} (hok : row.all okM = true) (hsc : sc.all okW = true) : wrongG row sc (from_ 1 row.length) = true := by
  have hM : ∀ i, i < row.length → okM (mAt row i) = true := fun i hi => mAt_ok hok hi
  have hs := okS_sAt hsc
  have hne := sAt_ne hsc 0
  refine (poss_none hM (okS_frS _ _ hs)).2 ⟨runT (mAt row) (sAt sc 0).lo, ?_, ?_⟩
  · intro i hi
    have hb := runT_bd hM (hs 0).1 (hs 0).2.1 i hi
    rcases Nat.eq_zero_or_pos i with h0 | h0
    · subst h0
      rw [frS_not _ _ (fun x hx => by obtain ⟨j, _, rfl⟩ := mem_from.1 hx; omega)]
      exact ⟨Int.le_refl _, hne⟩
    · rw [frS_all _ _ (.inl (mem_from.2 ⟨i - 1, by omega, by congr 1; omega⟩))]
      exact hb
  · intro i hi
    have hb := runT_bd hM (hs 0).1 (hs 0).2.1 i (by omega)
    exact ⟨Int.le_refl _, one_le (hM i hi) hb.1⟩
theorem melts_all {row : List Mt} {sc : List Rg} (hsc : sc.all okW = true) : meltsG row sc (from_ 0 row.length) = true := by
  unfold meltsG
  rw [poss_t]
  intro k hk
  rcases k with _ | k
  · exact sAt_ne hsc 0
  · have e : fw (mAt row) (sAt sc) (maskOf (from_ 0 row.length)) (k + 1) = sAt sc (k + 1) := by
      show (if maskOf (from_ 0 row.length) k then _ else _) = _
      have hm : maskOf (from_ 0 row.length) k = true := List.any_eq_true.2 ⟨(k : Int), mem_from.2 ⟨k, by omega, by simp⟩, by simp⟩
      rw [if_pos hm]
    rw [e]; exact sAt_ne hsc (k + 1)
theorem wrong_some {row : List Mt} {sc : List Rg} (h : checkScales row sc = 0) : fewO sc.length (wrongG row sc) sc.length ≠ none := by
  obtain ⟨k1, k2, k3⟩ := checkScales_ok h
  exact fewO_some (inc_from _ row.length 1 0 (by omega) (by omega)) (by rw [from_len]; omega) (wrong_all (checkRow_ok k1).2.2 k3)
theorem melts_some {row : List Mt} {sc : List Rg} (h : checkScales row sc = 0) : fewO row.length (meltsG row sc) (row.length + 1) ≠ none := by
  obtain ⟨k1, k2, k3⟩ := checkScales_ok h
  exact fewO_some (inc_from _ row.length 0 0 (by omega) (by omega)) (by rw [from_len]; omega) (melts_all k3)
end Go.Proofs.Ytdcglphekafpdaa
namespace Go.Proofs.Ytdcglphekafpdaa
open Go.RowKit Go.Shelf
set_option maxRecDepth 100000 in
set_option maxHeartbeats 1000000 in
theorem refWrong_any (w : World) (A A' : Option Addr) (n c n' c' : Nat) (row : List Mt) (sc : List Rg) (hr : MtS w w.heap.size A n row) (hn : n ≤ 12) (hr' : RgS w w.heap.size A' n' sc) (hn' : n' ≤ 12) :
    Calls Try.prog 40 #[.slice A n c, .slice A' n' c'] w (LPost (wrongL row sc) (checkScales row sc) w) := by
  by_cases h0 : checkScales row sc = 0
  · obtain ⟨k1, k2, k3⟩ := checkScales_ok h0
    obtain ⟨k4, k5, k6⟩ := checkRow_ok k1
    have hlen := hr.len
    have hlen' := hr'.len
    have hc : (checkScales row sc != 0) = false := by simp [h0]
    have H0 := hid h0
    have H6 := hid k6
    have H3 := hid k3
    have hn7 : n ≤ 7 := by omega
    have hn1 : 1 ≤ n' := by omega
    have hnn : Hid (n' = n + 1) := hid (by omega)
    have hb8 : n' ≤ 8 := by omega
    have hsome : Hid (fewO n' (wrongG row sc) n' ≠ none) := hid (by have := wrong_some h0; rwa [hlen'] at this)
    have he : Hid (wrongL row sc = fewL n' (wrongG row sc)) := hid (by unfold wrongL; rw [if_pos h0, hlen'])
    have HL := hid hlen
    have HL' := hid hlen'
    clear h0 k1 k2 k3 k4 k5 k6 hlen hlen'
    go_enter Try.func40, Try.ntmps40
    go_wp2_with (first | (go_at_call 31; refine (checkScales_any _ A A' n c n' c' row sc (hr.below (by repeat' (first | with_reducible assumption | with_reducible exact Below.refl _ _ | refine Below.alloc ?_ ?_ _ | refine Below.setCell ?_ ?_ _ | refine Below.drew ?_ | refine below_drewN ?_ _ | (simp; done) | (simp; omega) | omega)) (by first | (simp; done) | (simp; omega) | omega)) hn (hr'.below (by repeat' (first | with_reducible assumption | with_reducible exact Below.refl _ _ | refine Below.alloc ?_ ?_ _ | refine Below.setCell ?_ ?_ _ | refine Below.drew ?_ | refine below_drewN ?_ _ | (simp; done) | (simp; omega) | omega)) (by first | (simp; done) | (simp; omega) | omega)) hn').mono ?_; rintro e w1 ⟨rfl, hb1⟩; have hbel : Below w.heap.size w w1 := Below.trans (by repeat' (first | with_reducible assumption | with_reducible exact Below.refl _ _ | refine Below.alloc ?_ ?_ _ | refine Below.setCell ?_ ?_ _ | refine Below.drew ?_ | refine below_drewN ?_ _ | (simp; done) | (simp; omega) | omega)) (hb1.mono (by first | (simp; done) | (simp; omega) | omega)); have hsz := hbel.size))
    obtain ⟨w0, rfl⟩ : ∃ w0 : World, w0 = w1 := ⟨_, rfl⟩
    go_loopw [6] (fun i wr => ∃ k : Nat, k ≤ n' ∧ i = .int .i64 k ∧ Hid (fewO n' (wrongG row sc) k = none) ∧ Below w.heap.size w wr) (fun i _ => n' - (intOf i).toNat)
    case atStart => exact ⟨0, by omega, rfl, rfl, hbel⟩
    case round =>
      obtain ⟨k, hk, rfl, hf, hbelk⟩ := hrel
      by_cases hlt : k < n'
      · have x1 : (k : Int) < n' := by omega
        have hk8 : k ≤ 8 := by omega
        have hsmall : (lvl n' k).length ≤ 100 := by have := lvl_small n' hb8 k hk8; omega
        have hszk := hbelk.size
        go_wp2_with (first | (go_at_call 96; refine (lists_any n' hb8 k 0 _ _ wr rfl rfl hk8 (by omega)).mono ?_; rw [lsR_lvl]; rintro e w2 ⟨v, vs, rfl, hls, hb2⟩; have hbel2 := hbelk.trans (hb2.mono hszk); have hls2 := hid (hls.mono hszk); have hv1 : w2.ownsRow wr.heap.size 49 1 v (lvl n' k).length vs := hls.1; obtain ⟨Av, cv, rfl, hsv⟩ := sl_of_owns hv1; clear hls hv1))
        generalize hX : lvl n' k = ls at *
        have HX := hid hX
        clear hX
        obtain ⟨wo, rfl⟩ : ∃ wo : World, wo = wr := ⟨_, rfl⟩
        go_loopw [8] (fun i wr => ∃ j : Nat, j ≤ ls.length ∧ i = .int .i64 j ∧ Hid ((ls.take j).find? (wrongG row sc) = none) ∧ Below w2.heap.size w2 wr) (fun i _ => ls.length - (intOf i).toNat)
        case atStart => exact ⟨0, by omega, rfl, rfl, Below.refl _ _⟩
        case round =>
          obtain ⟨j, hj, rfl, hfj, hbel3⟩ := hrel
          have hsz2 := hbel2.size
          have hbel4 := hbel2.trans (hbel3.mono hsz2)
          by_cases hltj : j < ls.length
          · have hls3 := hls2.out.below hbel3
            obtain ⟨u, hu, hou⟩ := hls3.2 j ls[j] (List.getElem?_eq_getElem hltj)
            obtain ⟨b, off, rfl, hb, hcs⟩ := (hsv.below hbel3).2 (by omega)
            have q0 := hcs j _ hu
            have hmem : ls[j] ∈ lvl n' k := by rw [HX.out]; exact List.getElem_mem hltj
            have hinc := hid (lvl_mem hmem).2
            have hft := find_take hfj.out (List.getElem?_eq_getElem hltj)
            obtain ⟨Au, cu, rfl, hin, _⟩ := hou.form
            have hin' := hid hin
            have hou' := hid hou
            have hl100 : ls[j].length ≤ 100 := by have := hinc.out.len_le; omega
            clear hcs hu hls3 hmem hin hou
            generalize ls[j] = l at *
            have hsz4 := hbel4.size
            have hsz3 := hbel3.size
            cases hG : wrongG row sc l
            · rw [hG] at hft
              have hft' := hid hft
              have hpf : Hid (possB row (freeL sc l) = wrongG row sc l) := hid (possB_free (by rw [HL'.out]; exact inc_listB.2 hinc.out))
              rw [hG] at hpf
              have hF3 : Hid ((freeL sc l).all okW = true) := hid (freeL_ok l sc H3.out)
              clear hft hG
              go_wp2_with (first | (go_at_call 97; refine (free_any _ A' Au n' c' l.length cu sc l (hr'.below hbel4 hsz4) hn' hn1 hin'.out hl100 (inc_listB.2 hinc.out)).mono ?_; rintro e w5 ⟨v5, rfl, hown5, hb5⟩; obtain ⟨Af, cf, rfl, hSf⟩ := sl_of_owns hown5; have hbel5 := hbel4.trans (hb5.mono hsz4); have hsz5 := hbel5.size) | (go_at_call 82; refine (isPossible_any _ A Af n c n' cf row (freeL sc l) (hr.below hbel5 hsz5) hn7 hSf hnn.out H6.out hF3.out).mono ?_; rw [hpf.out]; rintro e w6 ⟨rfl, hb6⟩; have hbf := hb5.trans (hb6.mono hb5.size); have q6 := (hbf.cell (p := ⟨b, off + j, none⟩) (Nat.lt_of_lt_of_le hb hsz3)).trans q0))
              exact ⟨⟨j + 1, by omega, by go_num, hft'.out, hbel3.trans (hbf.mono hsz3)⟩, by simp [intOf]; omega⟩
            · rw [hG] at hft
              have hft' := hid hft
              have hpf : Hid (possB row (freeL sc l) = wrongG row sc l) := hid (possB_free (by rw [HL'.out]; exact inc_listB.2 hinc.out))
              rw [hG] at hpf
              have hF3 : Hid ((freeL sc l).all okW = true) := hid (freeL_ok l sc H3.out)
              clear hft hG
              go_wp2_with (first | (go_at_call 97; refine (free_any _ A' Au n' c' l.length cu sc l (hr'.below hbel4 hsz4) hn' hn1 hin'.out hl100 (inc_listB.2 hinc.out)).mono ?_; rintro e w5 ⟨v5, rfl, hown5, hb5⟩; obtain ⟨Af, cf, rfl, hSf⟩ := sl_of_owns hown5; have hbel5 := hbel4.trans (hb5.mono hsz4); have hsz5 := hbel5.size) | (go_at_call 82; refine (isPossible_any _ A Af n c n' cf row (freeL sc l) (hr.below hbel5 hsz5) hn7 hSf hnn.out H6.out hF3.out).mono ?_; rw [hpf.out]; rintro e w6 ⟨rfl, hb6⟩; have hbf := hb5.trans (hb6.mono hb5.size); have q6 := (hbf.cell (p := ⟨b, off + j, none⟩) (Nat.lt_of_lt_of_le hb hsz3)).trans q0))
              have hfin : fewL n' (wrongG row sc) = l := by
                have h1 : (lvl n' k).find? (wrongG row sc) = some l := by rw [HX.out]; exact find_of_take hft'.out
                exact fewL_of (k := k + 1) (by simp only [fewO, hf.out, h1]) (by omega)
              refine bodyPost_ret (v := .tuple #[.slice Au l.length cu, .int .i64 0]) (by first | (simp [results, Try.results40, go_sem]; done) | (simp [results, Try.results40, go_sem, World.cell?_setCell_same', *]; done) | (simp [results, Try.results40, go_sem]; first | exact ⟨rfl, rfl⟩ | rfl)) rfl ⟨_, by rw [H0.out], by rw [he.out, hfin]; exact InO.below (hou'.out) hbf, hbel4.trans (hbf.mono hsz4)⟩
          · obtain rfl : j = ls.length := by omega
            have hf1 : Hid (fewO n' (wrongG row sc) (k + 1) = none) := hid (fewO_next hf.out (by rw [HX.out]; have := hfj.out; rwa [List.take_length] at this))
            clear hfj
            go_wp2
            exact ⟨⟨k + 1, by omega, by go_num, hf1.out, hbel4⟩, by simp [intOf]; omega⟩
      · obtain rfl : k = n' := by omega
        exact absurd hf.out hsome.out
  · have he : Hid (wrongL row sc = []) := by unfold wrongL; rw [if_neg h0]; trivial
    have hc : (checkScales row sc != 0) = true := by simp [h0]
    clear h0
    go_enter Try.func40, Try.ntmps40
    go_wp2_with (first | (go_at_call 31; refine (checkScales_any _ A A' n c n' c' row sc (hr.below (by repeat' (first | with_reducible assumption | with_reducible exact Below.refl _ _ | refine Below.alloc ?_ ?_ _ | refine Below.setCell ?_ ?_ _ | refine Below.drew ?_ | refine below_drewN ?_ _ | (simp; done) | (simp; omega) | omega)) (by first | (simp; done) | (simp; omega) | omega)) hn (hr'.below (by repeat' (first | with_reducible assumption | with_reducible exact Below.refl _ _ | refine Below.alloc ?_ ?_ _ | refine Below.setCell ?_ ?_ _ | refine Below.drew ?_ | refine below_drewN ?_ _ | (simp; done) | (simp; omega) | omega)) (by first | (simp; done) | (simp; omega) | omega)) hn').mono ?_; rintro e w1 ⟨rfl, hb1⟩; have hbel : Below w.heap.size w w1 := Below.trans (by repeat' (first | with_reducible assumption | with_reducible exact Below.refl _ _ | refine Below.alloc ?_ ?_ _ | refine Below.setCell ?_ ?_ _ | refine Below.drew ?_ | refine below_drewN ?_ _ | (simp; done) | (simp; omega) | omega)) (hb1.mono (by first | (simp; done) | (simp; omega) | omega)); have hsz := hbel.size))
    refine bodyPost_ret (v := .tuple #[.slice none 0 0, .int .i64 (checkScales row sc)]) (by first | (simp [results, Try.results40, go_sem]; done) | (simp [results, Try.results40, go_sem, World.cell?_setCell_same', *]; done) | (simp [results, Try.results40, go_sem]; first | exact ⟨rfl, rfl⟩ | rfl)) rfl ⟨_, rfl, by rw [he.out]; exact World.ownsRow_nil _ _ _ _, hbel⟩

set_option maxRecDepth 100000 in
set_option maxHeartbeats 1000000 in
theorem refMelts_any (w : World) (A A' : Option Addr) (n c n' c' : Nat) (row : List Mt) (sc : List Rg) (hr : MtS w w.heap.size A n row) (hn : n ≤ 12) (hr' : RgS w w.heap.size A' n' sc) (hn' : n' ≤ 12) :
    Calls Try.prog 42 #[.slice A n c, .slice A' n' c'] w (LPost (meltsL row sc) (checkScales row sc) w) := by
  by_cases h0 : checkScales row sc = 0
  · obtain ⟨k1, k2, k3⟩ := checkScales_ok h0
    obtain ⟨k4, k5, k6⟩ := checkRow_ok k1
    have hlen := hr.len
    have hlen' := hr'.len
    have hc : (checkScales row sc != 0) = false := by simp [h0]
    have H0 := hid h0
    have H6 := hid k6
    have H3 := hid k3
    have hn7 : n ≤ 7 := by omega
    have hn1 : 1 ≤ n' := by omega
    have hnn : Hid (n' = n + 1) := hid (by omega)
    have hb8 : n ≤ 8 := by omega
    have hsome : Hid (fewO n (meltsG row sc) (n + 1) ≠ none) := hid (by have := melts_some h0; rwa [hlen] at this)
    have he : Hid (meltsL row sc = fewL n (meltsG row sc)) := hid (by unfold meltsL; rw [if_pos h0, hlen])
    have HL := hid hlen
    have HL' := hid hlen'
    clear h0 k1 k2 k3 k4 k5 k6 hlen hlen'
    go_enter Try.func42, Try.ntmps42
    go_wp2_with (first | (go_at_call 31; refine (checkScales_any _ A A' n c n' c' row sc (hr.below (by repeat' (first | with_reducible assumption | with_reducible exact Below.refl _ _ | refine Below.alloc ?_ ?_ _ | refine Below.setCell ?_ ?_ _ | refine Below.drew ?_ | refine below_drewN ?_ _ | (simp; done) | (simp; omega) | omega)) (by first | (simp; done) | (simp; omega) | omega)) hn (hr'.below (by repeat' (first | with_reducible assumption | with_reducible exact Below.refl _ _ | refine Below.alloc ?_ ?_ _ | refine Below.setCell ?_ ?_ _ | refine Below.drew ?_ | refine below_drewN ?_ _ | (simp; done) | (simp; omega) | omega)) (by first | (simp; done) | (simp; omega) | omega)) hn').mono ?_; rintro e w1 ⟨rfl, hb1⟩; have hbel : Below w.heap.size w w1 := Below.trans (by repeat' (first | with_reducible assumption | with_reducible exact Below.refl _ _ | refine Below.alloc ?_ ?_ _ | refine Below.setCell ?_ ?_ _ | refine Below.drew ?_ | refine below_drewN ?_ _ | (simp; done) | (simp; omega) | omega)) (hb1.mono (by first | (simp; done) | (simp; omega) | omega)); have hsz := hbel.size))
    obtain ⟨w0, rfl⟩ : ∃ w0 : World, w0 = w1 := ⟨_, rfl⟩
    go_loopw [6] (fun i wr => ∃ k : Nat, k ≤ (n + 1) ∧ i = .int .i64 k ∧ Hid (fewO n (meltsG row sc) k = none) ∧ Below w.heap.size w wr) (fun i _ => (n + 1) - (intOf i).toNat)
    case atStart => exact ⟨0, by omega, rfl, rfl, hbel⟩
    case round =>
      obtain ⟨k, hk, rfl, hf, hbelk⟩ := hrel
      by_cases hlt : k < (n + 1)
      · have x1 : (k : Int) ≤ n := by omega
        have hk8 : k ≤ 8 := by omega
        have hsmall : (lvl n k).length ≤ 100 := by have := lvl_small n hb8 k hk8; omega
        have hszk := hbelk.size
        go_wp2_with (first | (go_at_call 96; refine (lists_any n hb8 k 0 _ _ wr rfl rfl hk8 (by omega)).mono ?_; rw [lsR_lvl]; rintro e w2 ⟨v, vs, rfl, hls, hb2⟩; have hbel2 := hbelk.trans (hb2.mono hszk); have hls2 := hid (hls.mono hszk); have hv1 : w2.ownsRow wr.heap.size 49 1 v (lvl n k).length vs := hls.1; obtain ⟨Av, cv, rfl, hsv⟩ := sl_of_owns hv1; clear hls hv1))
        generalize hX : lvl n k = ls at *
        have HX := hid hX
        clear hX
        obtain ⟨wo, rfl⟩ : ∃ wo : World, wo = wr := ⟨_, rfl⟩
        go_loopw [8] (fun i wr => ∃ j : Nat, j ≤ ls.length ∧ i = .int .i64 j ∧ Hid ((ls.take j).find? (meltsG row sc) = none) ∧ Below w2.heap.size w2 wr) (fun i _ => ls.length - (intOf i).toNat)
        case atStart => exact ⟨0, by omega, rfl, rfl, Below.refl _ _⟩
        case round =>
          obtain ⟨j, hj, rfl, hfj, hbel3⟩ := hrel
          have hsz2 := hbel2.size
          have hbel4 := hbel2.trans (hbel3.mono hsz2)
          by_cases hltj : j < ls.length
          · have hls3 := hls2.out.below hbel3
            obtain ⟨u, hu, hou⟩ := hls3.2 j ls[j] (List.getElem?_eq_getElem hltj)
            obtain ⟨b, off, rfl, hb, hcs⟩ := (hsv.below hbel3).2 (by omega)
            have q0 := hcs j _ hu
            have hmem : ls[j] ∈ lvl n k := by rw [HX.out]; exact List.getElem_mem hltj
            have hinc := hid (lvl_mem hmem).2
            have hft := find_take hfj.out (List.getElem?_eq_getElem hltj)
            obtain ⟨Au, cu, rfl, hin, _⟩ := hou.form
            have hin' := hid hin
            have hou' := hid hou
            have hl100 : ls[j].length ≤ 100 := by have := hinc.out.len_le; omega
            clear hcs hu hls3 hmem hin hou
            generalize ls[j] = l at *
            have hsz4 := hbel4.size
            have hsz3 := hbel3.size
            cases hG : meltsG row sc l
            · rw [hG] at hft
              have hft' := hid hft
              have hl7 : Hid (listB l 7 = true) := hid (listB_le (inc_listB.2 hinc.out) (by omega))
              have hmk : Hid (bitsN l < 128) := hid (bitsN_lt _ 0 (by omega) (fun z hz => by have := listB_mem hl7.out z hz; omega))
              have hL : Hid ((fwdL row.length (mAt row) (sAt sc) (fun i => (bitsN l).testBit i)).length = if meltsG row sc l then n + 1 else 0) := hid (by rw [bits_mask (inc_listB.2 hinc.out), fwdL_len, HL.out]; unfold meltsG; rw [HL.out])
              rw [hG] at hL
              have hL1 := hL.out
              first | rw [if_neg Bool.false_ne_true] at hL1 | rw [if_pos rfl] at hL1
              have hL2 := hid hL1
              have hz : 0 < n + 1 := by omega
              clear hL1 hL
              clear hft hG
              go_wp2_with (first | (go_at_call 99; refine (bits_any _ Au l.length cu l hin'.out hl100 hl7.out).mono ?_; rintro e w5 ⟨rfl, hb5⟩; have hbel5 := hbel4.trans (hb5.mono hsz4); have hsz5 := hbel5.size) | (go_at_call 83; refine (forward_any _ A A' n c n' c' (bitsN l) row sc (hr.below hbel5 hsz5) hn7 (hr'.below hbel5 hsz5) hnn.out H6.out H3.out hmk.out).mono ?_; rintro e w6 ⟨v6, rfl, hown6, hb6⟩; obtain ⟨Ao, co, rfl, hSl⟩ := sl_of_owns hown6; rw [hL2.out]; have hbf := hb5.trans (hb6.mono hb5.size); have q6 := (hbf.cell (p := ⟨b, off + j, none⟩) (Nat.lt_of_lt_of_le hb hsz3)).trans q0))
              exact ⟨⟨j + 1, by omega, by go_num, hft'.out, hbel3.trans (hbf.mono hsz3)⟩, by simp [intOf]; omega⟩
            · rw [hG] at hft
              have hft' := hid hft
              have hl7 : Hid (listB l 7 = true) := hid (listB_le (inc_listB.2 hinc.out) (by omega))
              have hmk : Hid (bitsN l < 128) := hid (bitsN_lt _ 0 (by omega) (fun z hz => by have := listB_mem hl7.out z hz; omega))
              have hL : Hid ((fwdL row.length (mAt row) (sAt sc) (fun i => (bitsN l).testBit i)).length = if meltsG row sc l then n + 1 else 0) := hid (by rw [bits_mask (inc_listB.2 hinc.out), fwdL_len, HL.out]; unfold meltsG; rw [HL.out])
              rw [hG] at hL
              have hL1 := hL.out
              first | rw [if_neg Bool.false_ne_true] at hL1 | rw [if_pos rfl] at hL1
              have hL2 := hid hL1
              have hz : 0 < n + 1 := by omega
              clear hL1 hL
              clear hft hG
              go_wp2_with (first | (go_at_call 99; refine (bits_any _ Au l.length cu l hin'.out hl100 hl7.out).mono ?_; rintro e w5 ⟨rfl, hb5⟩; have hbel5 := hbel4.trans (hb5.mono hsz4); have hsz5 := hbel5.size) | (go_at_call 83; refine (forward_any _ A A' n c n' c' (bitsN l) row sc (hr.below hbel5 hsz5) hn7 (hr'.below hbel5 hsz5) hnn.out H6.out H3.out hmk.out).mono ?_; rintro e w6 ⟨v6, rfl, hown6, hb6⟩; obtain ⟨Ao, co, rfl, hSl⟩ := sl_of_owns hown6; rw [hL2.out]; have hbf := hb5.trans (hb6.mono hb5.size); have q6 := (hbf.cell (p := ⟨b, off + j, none⟩) (Nat.lt_of_lt_of_le hb hsz3)).trans q0))
              have hfin : fewL n (meltsG row sc) = l := by
                have h1 : (lvl n k).find? (meltsG row sc) = some l := by rw [HX.out]; exact find_of_take hft'.out
                exact fewL_of (k := k + 1) (by simp only [fewO, hf.out, h1]) (by omega)
              refine bodyPost_ret (v := .tuple #[.slice Au l.length cu, .int .i64 0]) (by first | (simp [results, Try.results42, go_sem]; done) | (simp [results, Try.results42, go_sem, World.cell?_setCell_same', *]; done) | (simp [results, Try.results42, go_sem]; first | exact ⟨rfl, rfl⟩ | rfl)) rfl ⟨_, by rw [H0.out], by rw [he.out, hfin]; exact InO.below (hou'.out) hbf, hbel4.trans (hbf.mono hsz4)⟩
          · obtain rfl : j = ls.length := by omega
            have hf1 : Hid (fewO n (meltsG row sc) (k + 1) = none) := hid (fewO_next hf.out (by rw [HX.out]; have := hfj.out; rwa [List.take_length] at this))
            clear hfj
            go_wp2
            exact ⟨⟨k + 1, by omega, by go_num, hf1.out, hbel4⟩, by simp [intOf]; omega⟩
      · obtain rfl : k = (n + 1) := by omega
        exact absurd hf.out hsome.out
  · have he : Hid (meltsL row sc = []) := by unfold meltsL; rw [if_neg h0]; trivial
    have hc : (checkScales row sc != 0) = true := by simp [h0]
    clear h0
    go_enter Try.func42, Try.ntmps42
    go_wp2_with (first | (go_at_call 31; refine (checkScales_any _ A A' n c n' c' row sc (hr.below (by repeat' (first | with_reducible assumption | with_reducible exact Below.refl _ _ | refine Below.alloc ?_ ?_ _ | refine Below.setCell ?_ ?_ _ | refine Below.drew ?_ | refine below_drewN ?_ _ | (simp; done) | (simp; omega) | omega)) (by first | (simp; done) | (simp; omega) | omega)) hn (hr'.below (by repeat' (first | with_reducible assumption | with_reducible exact Below.refl _ _ | refine Below.alloc ?_ ?_ _ | refine Below.setCell ?_ ?_ _ | refine Below.drew ?_ | refine below_drewN ?_ _ | (simp; done) | (simp; omega) | omega)) (by first | (simp; done) | (simp; omega) | omega)) hn').mono ?_; rintro e w1 ⟨rfl, hb1⟩; have hbel : Below w.heap.size w w1 := Below.trans (by repeat' (first | with_reducible assumption | with_reducible exact Below.refl _ _ | refine Below.alloc ?_ ?_ _ | refine Below.setCell ?_ ?_ _ | refine Below.drew ?_ | refine below_drewN ?_ _ | (simp; done) | (simp; omega) | omega)) (hb1.mono (by first | (simp; done) | (simp; omega) | omega)); have hsz := hbel.size))
    refine bodyPost_ret (v := .tuple #[.slice none 0 0, .int .i64 (checkScales row sc)]) (by first | (simp [results, Try.results42, go_sem]; done) | (simp [results, Try.results42, go_sem, World.cell?_setCell_same', *]; done) | (simp [results, Try.results42, go_sem]; first | exact ⟨rfl, rfl⟩ | rfl)) rfl ⟨_, rfl, by rw [he.out]; exact World.ownsRow_nil _ _ _ _, hbel⟩
end Go.Proofs.Ytdcglphekafpdaa
namespace Go.Proofs.Ytdcglphekafpdaa
open Go.RowKit
attribute [local go_sem] Oper.semAt_some
/-- All two scales, in order. -/
def rowP (i d : Nat) : List (Nat × Nat) := (List.range d).map fun j => (i, i + 1 + j)
def pfx (n i : Nat) : List (Nat × Nat) := (List.range i).flatMap fun i => rowP i (n - i)
def prs (n : Nat) : List (Nat × Nat) := pfx n n
theorem rowP_succ (i d : Nat) : rowP i (d + 1) = rowP i d ++ [(i, i + 1 + d)] := by simp [rowP, List.range_succ]
theorem pfx_succ (n i : Nat) : pfx n (i + 1) = pfx n i ++ rowP i (n - i) := by simp [pfx, List.range_succ]
theorem pfx_small : ∀ n, n ≤ 7 → ∀ i, i ≤ n → ∀ d, d ≤ n - i → (pfx n i ++ rowP i d).length ≤ 28 ∧ ((pfx n i ++ rowP i d).length < (prs n).length ∨ (d = n - i) ∨ i = n) := by decide +kernel
theorem pfx_lt : ∀ n, n ≤ 7 → ∀ i, i < n → ∀ d, d < n - i → (pfx n i ++ rowP i d).length < (prs n).length := by decide +kernel
/-- A first part of the list of all. -/
def PreP (n : Nat) (l : List (Nat × Nat)) : Prop := ∃ m, m ≤ (prs n).length ∧ l = (prs n).take m
theorem preP_all : ∀ n, n ≤ 7 → ∀ i, i < n → ∀ d, d ≤ n - i → pfx n i ++ rowP i d = (prs n).take (pfx n i ++ rowP i d).length := by decide +kernel
def encP (x : Nat × Nat) : Array Value := #[.agg #[.int .i64 x.1, .int .i64 x.2]]

set_option maxRecDepth 100000 in
set_option maxHeartbeats 2000000 in
theorem pairs1_in (d l Bs n₀ g : Nat) (G : Nat → Prop) (A : Option Addr) (n c : Nat) (hn : n ≤ 7) (hBs : Bs < n₀) (hG : ¬ G Bs) (hg : g < n₀) (hGg : ¬ G g) (J Jx : List (Nat × Nat) → World → Prop)
    (hY : ∀ pre x W, J pre W → pre.length < (prs n).length → x.1 < x.2 → x.2 ≤ n → YieldAt (Wd none) (d - 1) Try.prog l (encP x) W fun e W' =>
      (e = .returned (.bool true) ∧ J (pre ++ [x]) W' ∧ KpG n₀ G W W') ∨ (e = .returned (.bool false) ∧ Jx (pre ++ [x]) W'))
    (W : World) (hB : W.cell? ⟨Bs, 0, none⟩ = some (.pointer (some ⟨g, 0, none⟩))) (hb : W.cell? ⟨g, 0, none⟩ = some (.slice A n c)) (h0 : J [] W) :
    CallsIn (Wd none) d Try.prog 111 #[.func (.yield l) #[] #[], .pointer (some ⟨Bs, 0, none⟩)] W fun e W' => (∃ v, e = .returned v) ∧
      ((∃ ys, ys = prs n ∧ J ys W') ∨ (∃ pre, PreP n pre ∧ Jx pre W')) := by
  have HY := hid hY
  clear hY
  refine callsIn_of_wp Try.func111 rfl trivial ?_ rfl
  simp only [Try.ntmps111, List.size_toArray, List.length_cons, List.length_nil, Nat.reduceAdd, Nat.reduceSub, Array.replicate_succ, Array.replicate_zero, List.push_toArray, List.append_toArray, List.nil_append, List.cons_append]
  gi_wp2
  gi_loopw [11] (fun i wr => ∃ k : Nat, k ≤ n ∧ i = .int .i64 (k : Int) ∧ Hid (J (pfx n k) wr) ∧ KpG n₀ G W wr) (fun i _ => n - (intOf i).toNat)
  case atStart => exact ⟨0, by omega, rfl, h0, KpG.refl _ _ _⟩
  case round =>
    obtain ⟨k, hk, rfl, hJs, hnx⟩ := hrel
    by_cases hlt : k < n
    · obtain ⟨W0, rfl⟩ : ∃ W0 : World, W0 = W := ⟨_, rfl⟩
      have hps := hid (pfx_succ n k)
      gi_wp2
      gi_loopw [4] (fun i wr => ∃ m : Nat, m ≤ n - k ∧ i = .int .i64 ((k : Int) + 1 + m) ∧ Hid (J (pfx n k ++ rowP k m) wr) ∧ KpG n₀ G W0 wr) (fun i _ => n + 1 - (intOf i).toNat)
      case atStart => exact ⟨0, by omega, by simp, by simpa [rowP] using hJs, hnx⟩
      case round =>
        obtain ⟨m, hm, rfl, hJ2, hnx2⟩ := hrel
        have hB' := (hnx2.cell (p := ⟨Bs, 0, none⟩) hBs hG).trans hB
        have hb' := (hnx2.cell (p := ⟨g, 0, none⟩) hg hGg).trans hb
        by_cases hlt2 : m < n - k
        · have x1 : (k : Int) + 1 + m ≤ n := by omega
          obtain ⟨fn, tmps, assign, body, hy, hR⟩ := HY.out _ (k, k + 1 + m) wr hJ2.out (pfx_lt n hn k hlt m hlt2) (by simp; omega) (by simp; omega)
          have hrs := hid (rowP_succ k m)
          have hpp := hid (preP_all n hn k hlt (m + 1) (by omega))
          have hl2 := hid (pfx_small n hn k (by omega) (m + 1) (by omega))
          have e1 : ((k + 1 + m : Nat) : Int) = (k : Int) + 1 + m := by omega
          simp only [encP, e1] at hy
          clear e1 hB hb
          gi_wp2
          refine hR.mono ?_
          rintro e W3 (⟨rfl, hJ3, hk3⟩ | ⟨rfl, hJx3⟩)
          · have hJ4 : Hid (J (pfx n k ++ rowP k (m + 1)) W3) := hid (by rw [hrs.out, ← List.append_assoc]; exact hJ3)
            clear hJ3
            gi_wp2
            exact ⟨⟨m + 1, by omega, by simp; omega, hJ4, hnx2.trans hk3⟩, by simp [intOf]; omega⟩
          · have hJ4 : Hid (Jx (pfx n k ++ rowP k (m + 1)) W3) := hid (by rw [hrs.out, ← List.append_assoc]; exact hJx3)
            clear hJx3
            gi_wp2
            refine bodyPost_ret (results_none rfl _ _ _) rfl ?_
            refine ⟨⟨_, rfl⟩, .inr ⟨_, ⟨_, ?_, hpp.out⟩, hJ4.out⟩⟩
            rw [hpp.out, List.length_take]; exact Nat.min_le_right _ _
        · obtain rfl : m = n - k := by omega
          have hJ4 : Hid (J (pfx n (k + 1)) wr) := hid (by rw [hps.out]; exact hJ2.out)
          have x1 : ¬ (k : Int) + 1 + (n - k : Nat) ≤ n := by omega
          clear hB hb
          gi_wp2
          exact ⟨⟨k + 1, by omega, by go_num, hJ4, hnx2⟩, by simp [intOf]; omega⟩
    · obtain rfl : k = n := by omega
      gi_wp2
      go_end0
      exact ⟨⟨_, rfl⟩, .inl ⟨_, rfl, hJs.out⟩⟩
def Pr (n : Nat) : Type := { p : Nat × Nat // p.1 < p.2 ∧ p.2 ≤ n }
theorem pairs_stops (d Bs n₀ g : Nat) (G : Nat → Prop) (A : Option Addr) (n c : Nat) (hn : n ≤ 7) (hBs : Bs < n₀) (hG : ¬ G Bs) (hg : g < n₀) (hGg : ¬ G g)
    (w : World) (hn₀ : n₀ ≤ w.heap.size) (hB : w.cell? ⟨Bs, 0, none⟩ = some (.pointer (some ⟨g, 0, none⟩))) (hb : w.cell? ⟨g, 0, none⟩ = some (.slice A n c)) :
    SeqStopsK (Wd none) d Try.prog 111 #[.pointer (some ⟨Bs, 0, none⟩)] (fun x : Pr n => encP x.1) (KpG n₀ G) (fun ys => ys.map (·.1) = prs n) (fun pre => PreP n (pre.map (·.1))) (prs n).length w := fun l J Jx W hW _ _ hY h0 => by
  refine CallsIn.mono (pairs1_in d l Bs n₀ g G A n c hn hBs hG hg hGg (fun l W => ∃ ys : List (Pr n), ys.map (·.1) = l ∧ J ys W) (fun l W => ∃ ys : List (Pr n), ys.map (·.1) = l ∧ Jx ys W) ?_ W ((hW.cell (p := ⟨Bs, 0, none⟩) (by simp; omega)).trans hB) ((hW.cell (p := ⟨g, 0, none⟩) (by simp; omega)).trans hb) ⟨[], rfl, h0⟩) ?_
  · rintro pre x W1 ⟨ys, rfl, hJ⟩ hlt h1 h2
    obtain ⟨fn, tmps, assign, body, hy, hR⟩ := hY ys ⟨x, h1, h2⟩ W1 hJ (by simpa using hlt)
    refine ⟨fn, tmps, assign, body, hy, hR.mono ?_⟩
    rintro e W' (⟨h, hJ', hk⟩ | ⟨h, hJ'⟩)
    · exact .inl ⟨h, ⟨ys ++ [⟨x, h1, h2⟩], by rw [List.map_append]; rfl, hJ'⟩, hk⟩
    · exact .inr ⟨h, ⟨ys ++ [⟨x, h1, h2⟩], by rw [List.map_append]; rfl, hJ'⟩⟩
  · rintro e W' ⟨hv, ⟨ys, rfl, xs, hxs, hJ⟩ | ⟨pre, hpre, xs, rfl, hJ⟩⟩
    · exact ⟨hv, .inl ⟨xs, hxs, hJ⟩⟩
    · exact ⟨hv, .inr ⟨xs, hpre, hJ⟩⟩
end Go.Proofs.Ytdcglphekafpdaa
namespace Go.Proofs.Ytdcglphekafpdaa
open Go.RowKit Go.Shelf
attribute [local go_sem] Oper.semAt_some

def cP (x : Nat × Nat) : List Value := [.int .i64 x.1, .int .i64 x.2]
theorem info117 : (Try.prog.info? 117).map (fun i => (i.zero, i.size, i.bytes)) = some (some (.agg #[.int .i64 0, .int .i64 0]), 2, 16) := by kernel_rfl
theorem under120 : Try.prog.underlying 120 = some (.slice 117) := by kernel_rfl
theorem own_ownk {A B : World} {row : Option Nat} {base e size n : Nat} {v : Value} {xs : List Value} (h : A.ownsRow base e size v n xs) (hg : A.grownBy B row) (hr : ∀ r, row = some r → ∃ o : Obj, A.heap[r]? = some o ∧ o.isCells = false) : B.ownsRow base e size v n xs := by
  refine h.kept hg ?_
  rcases h.2 with ⟨rfl, _⟩ | ⟨g, cap, cur, rfl, _, hgg, _⟩
  · exact .inl rfl
  · right
    intro e
    obtain ⟨o, ho, hc⟩ := hr g e.symm
    rw [hgg] at ho
    injection ho with ho
    subst ho
    cases hc
theorem keepsFrom_own {A B : World} {base e size n b : Nat} {v : Value} {xs : List Value} (h : A.ownsRow base e size v n xs) (hg : A.grownBy B v.ownBlock) : KeepsFrom b A B := by
  refine ⟨hg.size, fun k o _ hk ho => (hg.block k (Array.getElem?_eq_some_iff.1 hk).1 ?_).trans hk⟩
  rcases h.2 with ⟨rfl, _⟩ | ⟨g, cap, cur, rfl, _, hgg, _⟩
  · simp [Value.ownBlock]
  · simp only [Value.ownBlock, ne_eq, Option.some.injEq]
    rintro rfl
    rw [hgg] at hk
    injection hk with hk
    subst hk
    cases ho
theorem pairs_any (g : Nat) (w : World) :
    Calls Try.prog 92 #[.pointer (some ⟨g, 0, none⟩)] w fun e w' => e = .returned (.func (.func 111) #[] #[.pointer (some ⟨w.heap.size, 0, none⟩)]) ∧ w.alloc (.cells #[.pointer (some ⟨g, 0, none⟩)] 102) = w' := by
  go_enter Try.func92, Try.ntmps92
  go_wp2
  go_ret
  exact ⟨rfl, rfl⟩
theorem own_set {A : World} {base e size n g : Nat} {v : Value} {xs : List Value} (h : A.ownsRow base e size v n xs) (hb : g < base) (u : Value) : (A.setCell ⟨g, 0, none⟩ u).ownsRow base e size v n xs := by
  refine ⟨h.1, h.2.imp id ?_⟩
  rintro ⟨g', cap, cur, e1, h1, h2, h3⟩
  exact ⟨g', cap, cur, e1, h1, (Below.heap_setCell _ _ _ _ (by simp; omega)).trans h2, h3⟩
theorem own_off {A B : World} {Ds : List Nat} {base e size n : Nat} {v : Value} {xs : List Value} (h : A.ownsRow base e size v n xs) (ho : Off Ds A B) : B.ownsRow base e size v n xs := by
  refine ⟨h.1, h.2.imp id ?_⟩
  rintro ⟨g', cap, cur, e1, h1, h2, h3⟩
  exact ⟨g', cap, cur, e1, h1, ho.blk h2, h3⟩
def PairsPost (n : Nat) (w : World) (e : Ending) (w' : World) : Prop := ∃ v, e = .returned v ∧ w'.ownsRow w.heap.size 117 2 v (prs n).length ((prs n).flatMap cP) ∧ Below w.heap.size w w'
theorem prs_len : ∀ n, n ≤ 7 → (prs n).length ≤ 28 := by decide +kernel

set_option maxRecDepth 100000 in
set_option maxHeartbeats 2000000 in
theorem collect_any (w : World) (Bs g : Nat) (A : Option Addr) (n c : Nat) (hn : n ≤ 7) (hBs : Bs < w.heap.size) (hg : g < w.heap.size) (hB : w.cell? ⟨Bs, 0, none⟩ = some (.pointer (some ⟨g, 0, none⟩))) (hb : w.cell? ⟨g, 0, none⟩ = some (.slice A n c)) :
    Calls Try.prog 110 #[.slice none 0 0, .func (.func 111) #[] #[.pointer (some ⟨Bs, 0, none⟩)]] w (PairsPost n w) := by
  obtain ⟨i0, hi, hz0, hz1, hz2⟩ := info_parts info117
  have I0 := hid hi; have I1 := hid hz0; have I2 := hid hz1; have I3 := hid hz2
  clear hi hz0 hz1 hz2
  have HB := hid hB
  have Hb := hid hb
  clear hB hb
  (refine (callsIn_wide (n := 9)).1 ?_; refine callsIn_of_wp_marks (F := Wd none) Try.func110 rfl trivial ?_ rfl; simp only [Try.ntmps110, List.size_toArray, List.length_cons, List.length_nil, Nat.reduceAdd, Nat.reduceSub, Array.replicate_succ, Array.replicate_zero, List.push_toArray, List.append_toArray, List.nil_append, List.cons_append])
  gi_wp2
  have B0 : Blk (w.alloc (.cells #[.slice none 0 0] 120)) w.heap.size 120 #[.slice none 0 0] := Blk.new _ _ _
  have hbel : Below w.heap.size w (w.alloc (.cells #[.slice none 0 0] 120)) := (Below.refl _ _).alloc (Nat.le_refl _) _
  have hsz : (w.alloc (.cells #[.slice none 0 0] 120)).heap.size = w.heap.size + 1 := by simp
  have hB1 := hid ((hbel.cell (p := ⟨Bs, 0, none⟩) hBs).trans HB.out)
  have hb1 := hid ((hbel.cell (p := ⟨g, 0, none⟩) hg).trans Hb.out)
  have HPL := hid (prs_len n hn)
  generalize (w.alloc (.cells #[.slice none 0 0] 120)) = w2 at *
  have HSZ := hid hsz
  refine with_frame fun T hT => ?_
  refine wpIn_rangeFunc_ownH (F := Wd none) (n := 9) rfl (by omega) (gf := 111) (lb := #[.pointer (some ⟨Bs, 0, none⟩)]) (by rw [hT]; rfl) trivial (enters_of Try.func111 (by kernel_rfl) rfl)
    (pairs_stops 8 Bs w.heap.size g (fun _ => False) A n c hn hBs id hg id w2 (by omega) hB1.out hb1.out)
    (fun h k => h.trans k) (KpG.putObj (by omega)) (Below.refl _ _) (fun _ => rfl)
    (fun pre W => (∃ v, Blk W w.heap.size 120 #[v] ∧ W.ownsRow (w.heap.size + 1) 117 2 v pre.length (pre.flatMap fun x => cP x.1)) ∧ Below w.heap.size w W ∧ w.heap.size + 1 ≤ W.heap.size)
    (fun c pre W => False)
    (fun s X Y rw_ hs hg hrow => ?hI) (fun c s X Y rw_ hs hg hrow => hs.elim) ⟨⟨_, B0, World.ownsRow_nil _ _ _ _⟩, hbel, by omega⟩
    (fun x a' W => ∃ Bx, w.heap.size + 1 ≤ Bx ∧ Blk W Bx 117 #[.int .i64 x.1.1, .int .i64 x.1.2] ∧
      a' = { tmps := (T.setIfInBounds 7 (.agg #[.int .i64 x.1.1, .int .i64 x.1.2])).setIfInBounds 5 (.pointer (some ⟨Bx, 0, none⟩)), defers := [] })
    (fun x a' s X Y rw_ hs hg hrow => ?hAx) ?assign ?body ?done ?stop
  case hI =>
    obtain ⟨⟨v, b0, ho⟩, hb, hz⟩ := hs
    have hr' : ∀ r, rw_ = some r → ∃ o : Obj, X.heap[r]? = some o ∧ o.isCells = false := fun r e => (hrow r e).2
    exact ⟨⟨v, b0.ownk hg hr', own_ownk ho hg hr'⟩, Below.ownk hb hg hb.size (fun r e => by have := (hrow r e).1; omega), by have := hg.size; omega⟩
  case hAx =>
    obtain ⟨Bx, hx, hX, e⟩ := hs
    exact ⟨Bx, hx, hX.ownk hg (fun r e => (hrow r e).2), e⟩
  case assign =>
    rintro l pre x W K ⟨⟨v, b0, ho⟩, hb, hz⟩ hK
    simp only [encP, hT]
    clear B0 hbel hsz
    gi_wp2
    exact hK _ _ ((KeepsOthers.alloc _ _).from _) (KpG.alloc _ (by omega) _) ⟨⟨v, b0.alloc _, ho.alloc _⟩, hb.alloc hb.size _, by simp; omega⟩ ⟨W.heap.size, hz, Blk.new _ _ _, by rw [hT]; rfl⟩
  case body =>
    rintro l pre x a' W hl _ ⟨⟨v, b0, ho⟩, hb, hz⟩ ⟨Bx, hBx, bX, rfl⟩ hlt
    simp only [hT, List.setIfInBounds_toArray, List.set_cons_zero, List.set_cons_succ]
    clear B0 hbel hsz hT
    have hlt2 : pre.length < 28 := Nat.lt_of_lt_of_le hlt HPL.out
    have Ho := hid ho
    have Hb0 := hid b0
    have HbX := hid bX
    have q0 := b0.cell 0
    have q1 := bX.cell 0
    have q2 := bX.cell 1
    have hl0 := b0.lt
    clear ho b0 bX
    gi_wp2_with (first | (gi_at_builtin; refine wpListIn_append_own _ rfl _ _ 120 rfl (w.heap.size + 1) 117 i0 _ 2 16 under120 I0.out I1.out I2.out I3.out rfl (by decide) v pre.length (pre.flatMap fun x => cP x.1) rfl (World.ownsRow.alloc Ho.out _) ⟨W.heap.size, 0, none⟩ 1 1 (cP x.1) rfl rfl (fun j u hj => World.news_of_block (Blk.new W 117 #[.int .i64 x.1.1, .int .i64 x.1.2]) j u hj) (by intro u hu; simp only [cP, List.mem_cons, List.not_mem_nil, or_false] at hu; rcases hu with rfl | rfl <;> rfl) (by unfold maxLen; omega) (by omega) (by simp; omega) ?_; intro v3 w3 hown3 hgr3 _; obtain ⟨g3, cap3, rfl, _, _⟩ := World.ownsRow.form hown3 (by omega); have hne : some w.heap.size ≠ v.ownBlock := (fun e => by have := (World.ownsRow.lt Ho.out _ e.symm).1; omega); have b3 := (Hb0.out.alloc (.cells #[.int .i64 x.1.1, .int .i64 x.1.2] 117)).grown hgr3 hne; have f0 := b3.cell 0; have f1 := b3.frozen 0; have hb3 := hid ((hb.alloc hb.size (.cells #[.int .i64 x.1.1, .int .i64 x.1.2] 117)).grown hgr3 (by simp; omega) (fun k hk => by have := (World.ownsRow.lt Ho.out k hk).1; omega)); have hsz3 := hgr3.size; have B3 := hid b3; have HO3 := hid hown3; have HK := hid (keepsFrom_own (b := w2.heap.size) (World.ownsRow.alloc Ho.out (.cells #[.int .i64 x.1.1, .int .i64 x.1.2] 117)) hgr3); clear b3 hown3))
    refine ⟨((KeepsOthers.alloc _ _).from _).trans (HK.out.trans ((KeepsOthers.setCell _ _ _).from _)), KpG.of_below (((((Below.refl _ W).alloc (Nat.le_refl _) _).mono (by omega)).grown hgr3 (by simp; omega) (fun k hk => by have := (World.ownsRow.lt Ho.out k hk).1; omega)).setCell (by simp) _), ⟨⟨_, B3.out.set_ 0 _, ?_⟩, hb3.out.setCell (by simp) _, by have := hsz3; simp at this; simp; omega⟩⟩
    rw [List.length_append, List.length_singleton, List.flatMap_append, show ([x].flatMap fun x => cP x.1) = cP x.1 by simp]
    exact own_set (HO3.out) (Nat.lt_succ_self _) _
  case done =>
    rintro D ys W hD hys ⟨⟨v, b0, ho⟩, hb, hz⟩ hK
    rw [show ys.length = (prs n).length by rw [← hys, List.length_map], show (ys.flatMap fun x => cP x.1) = (prs n).flatMap cP by rw [← hys, List.flatMap_map]] at ho
    clear hys
    simp only [hT]
    have q0 := b0.cell 0
    clear B0 hbel hsz
    gi_wp2
    refine leavesM_marks [D] _ (by simp) (by simpa using hK) (fun w' ho' => ⟨v, ?_, ?_⟩)
    · simp [results, Try.results110, go_sem, *]
    · exact ⟨v, rfl, owns_mono (own_off ho ho') (by omega), ho'.below hb (by have := HSZ.out; simp; omega)⟩
  case stop =>
    rintro D c pre W hD _ h
    exact h.elim
theorem collect2_any (w : World) (Bs g : Nat) (A : Option Addr) (n c : Nat) (hn : n ≤ 7) (hBs : Bs < w.heap.size) (hg : g < w.heap.size) (hB : w.cell? ⟨Bs, 0, none⟩ = some (.pointer (some ⟨g, 0, none⟩))) (hb : w.cell? ⟨g, 0, none⟩ = some (.slice A n c)) :
    Calls Try.prog 91 #[.func (.func 111) #[] #[.pointer (some ⟨Bs, 0, none⟩)]] w (PairsPost n w) := by
  have HB := hid hB
  have Hb := hid hb
  clear hB hb
  go_enter Try.func91, Try.ntmps91
  go_wp2_with (first | (go_at_call 110; refine (collect_any w Bs g A n c hn hBs hg HB.out Hb.out).mono ?_; rintro e w1 ⟨v, rfl, ho, hb1⟩))
  go_ret
  exact ⟨v, rfl, ho, hb1⟩
end Go.Proofs.Ytdcglphekafpdaa
