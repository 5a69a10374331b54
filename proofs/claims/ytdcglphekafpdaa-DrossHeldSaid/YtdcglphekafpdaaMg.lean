/- Texts of the proof, laid together by program. -/
import Derived.Test.YtdcglphekafpdaaMf
import Derived.Test.YtdcglphekafpdaaMd
import Derived.ArgAppend
import Derived.Deep.LoopGhost
namespace Go.Proofs.Ytdcglphekafpdaa
open Go.RowKit Go.Shelf
theorem fw_congr {n : Nat} {M M' : Nat → Mt} {s s' : Nat → Rg} {mask mask' : Nat → Bool} (hM : ∀ i, i < n → M i = M' i) (hs : ∀ i, i ≤ n → s i = s' i) (hm : ∀ i, i < n → mask i = mask' i) : ∀ k, k ≤ n → fw M s mask k = fw M' s' mask' k := by
  intro k
  induction k with
  | zero => intro _; exact hs 0 (by omega)
  | succ k ih => intro hk; unfold fw; rw [ih (by omega), hM k (by omega), hs (k + 1) hk, hm k (by omega)]
theorem poss_congr {n : Nat} {M M' : Nat → Mt} {s s' : Nat → Rg} {mask mask' : Nat → Bool} (hM : ∀ i, i < n → M i = M' i) (hs : ∀ i, i ≤ n → s i = s' i) (hm : ∀ i, i < n → mask i = mask' i) : poss n M s mask = poss n M' s' mask' := by
  rw [Bool.eq_iff_iff, poss_t, poss_t]
  constructor
  · intro h k hk; rw [← fw_congr hM hs hm k hk]; exact h k hk
  · intro h k hk; rw [fw_congr hM hs hm k hk]; exact h k hk
theorem mAt_sub (row : List Mt) {a b i : Nat} (h : i < b - a) : mAt (sub row a b) i = mAt row (a + i) := by
  unfold mAt sub
  rw [List.getElem?_take_of_lt h, List.getElem?_drop]
theorem sAt_range (s : Nat → Rg) {m i : Nat} (h : i < m) : sAt ((List.range m).map s) i = s i := sAt_of (by rw [List.getElem?_map, List.getElem?_range h]; rfl)
theorem rgs_book {w : World} {g : Nat} {V : Value} {s : Nat → Rg} (h : Book w g V s) {a b : Nat} (hab : a ≤ b) (hb : b ≤ 7) : RgS w w.heap.size (some ⟨g, 1 + a * 2, none⟩) (b + 1 - a) ((List.range (b + 1 - a)).map fun i => s (a + i)) := by
  have e : ((List.range (b + 1 - a)).map fun i => s (a + i)) = ((List.range (b + 1)).map s).drop a := by
    apply List.ext_getElem?
    intro i
    rw [List.getElem?_drop, List.getElem?_map, List.getElem?_map]
    by_cases hi : i < b + 1 - a
    · rw [List.getElem?_range hi, List.getElem?_range (by omega)]; rfl
    · rw [List.getElem?_eq_none (by simp; omega), List.getElem?_eq_none (by simp; omega)]; rfl
  refine ⟨by rw [flat_len (s := 2) (fun _ => rfl)]; simp, fun _ => ⟨g, 1 + a * 2, rfl, Blk.lt h, fun j u hj => ?_⟩⟩
  rw [e, ← flat_drop (s := 2) (fun _ => rfl), List.getElem?_drop] at hj
  rw [Nat.add_assoc]
  exact (Blk.cell h _).trans (bk_flat V s (by omega) hj)
theorem Sl.none_' {w : World} {B size : Nat} (A : Option Addr) : Sl w B size A 0 [] := ⟨by simp, fun h => absurd h (by omega)⟩
/-- A part of a row alone. -/
def possP (M : Nat → Mt) (s : Nat → Rg) (a b : Nat) : Bool := poss (b - a) (fun i => M (a + i)) (fun i => s (a + i)) (fun _ => false)

set_option maxRecDepth 100000 in
set_option maxHeartbeats 1000000 in
theorem parted1_any (w : World) (pb pf g : Nat) (A : Option Addr) (n c : Nat) (row : List Mt) (s : Nat → Rg) (a b : Nat) (hpb : Blk w pb 102 #[.pointer (some ⟨g, 0, none⟩)]) (hpf : Blk w pf 3 #[.int .i64 a]) (hbk : Book w g (.slice A n c) s)
    (hr : MtS w pf A n row) (hn : n ≤ 7) (hn1 : 1 ≤ n) (hc : n ≤ c) (hok : row.all okM = true) (hs : okS s) (hne : ∀ i, i ≤ n → (s i).lo ≤ (s i).hi) (hab : a ≤ b) (hb : b ≤ n) :
    Calls Try.prog 113 #[.int .i64 b, .pointer (some ⟨pb, 0, none⟩), .pointer (some ⟨pf, 0, none⟩)] w fun e w' => e = .returned (.bool (possP (mAt row) s a b)) ∧ Blk w' pf 3 #[.int .i64 ((b + 1 : Nat) : Int)] ∧ w.grownBy w' (some pf) := by
  obtain ⟨b0, off, rfl, hb0, _⟩ := hr.2 hn1
  have hlen := hid hr.len
  have l1 := hpb.lt
  have l2 := hpf.lt
  have l3 := Blk.lt hbk
  have e0 := hpb.cell 0
  have e1 := hpf.cell 0
  have e2 : w.cell? ⟨g, 0, none⟩ = some (.slice (some ⟨b0, off, none⟩) n c) := Blk.cell hbk 0
  have x0 : (0 : Int) ≤ a := by omega
  have x1 : (a : Int) ≤ b := by omega
  have x2 : (b : Int) ≤ c := by omega
  have x3 : (b : Int) + 1 ≤ 8 := by omega
  have x4 : (a : Int) ≤ (b : Int) + 1 := by omega
  have x5 : ¬ 8 = a := by omega
  have l6 : IntKind.i64.wrap ((b : Int) + 1) = (b : Int) + 1 := IntWalk.i64_in _ (by omega)
  have x6 : ((b : Int) + 1).toNat = b + 1 := by omega
  go_enter Try.func113, Try.ntmps113
  go_wp2_with (fail)
  refine wp_region_hd 15 (fun W' => Below w.heap.size w W') (by kernel_rfl) (by kernel_rfl) ((Below.refl _ _).drew) ?_
  simp only [List.take_succ_cons, List.take_zero, List.drop_succ_cons, List.drop_zero]
  iterate 15 (refine wpHd_val (v := ?_) (by rfl) (fun W hW => ?_) ?_; rotate_left; (· obtain ⟨hcW, hfW⟩ := bcell hW; go_simp; with_reducible rfl); simp only [Act.put, List.setIfInBounds_toArray, List.set_cons_zero, List.set_cons_succ])
  refine wpHd_nil ?_
  intro W hW
  have hsz := hW.size
  have hsub : MtS w pf (if c = a then some ⟨b0, off, none⟩ else some ⟨b0, off + a * 4, none⟩) (b - a) (sub row a b) := by
    rcases Nat.lt_or_ge a b with h | h
    · rw [if_neg (by omega)]; exact mts_sub hr hab hb hn1
    · obtain rfl : a = b := by omega
      unfold sub
      rw [Nat.sub_self, List.take_zero]
      exact Sl.none_' _
  generalize (if c = a then some (⟨b0, off, none⟩ : Addr) else some ⟨b0, off + a * 4, none⟩) = A0 at *
  have hbkW : Book W g (.slice (some ⟨b0, off, none⟩) n c) s := Blk.below hbk hW l3
  have hpfW := hpf.below hW l2
  have hls : okS (sAt ((List.range (b + 1 - a)).map fun i => s (a + i))) := fun i => by
    unfold sAt
    rw [List.getElem?_map]
    by_cases hi : i < b + 1 - a
    · rw [List.getElem?_range hi]; exact hs (a + i)
    · rw [List.getElem?_eq_none (by simp; omega)]; simp
  have hok1 : (sub row a b).all okM = true := List.all_eq_true.2 fun m hm => List.all_eq_true.1 hok m (List.mem_of_mem_drop (List.mem_of_mem_take hm))
  have hp : poss (b - a) (mAt (sub row a b)) (sAt ((List.range (b + 1 - a)).map fun i => s (a + i))) (fun _ => false) = possP (mAt row) s a b := by
    unfold possP
    exact poss_congr (fun i hi => mAt_sub row hi) (fun i hi => sAt_range (fun i => s (a + i)) (by omega)) (fun _ _ => rfl)
  have h0 : 1 ≤ b - a ∨ (sAt ((List.range (b + 1 - a)).map fun i => s (a + i)) 0).lo ≤ (sAt ((List.range (b + 1 - a)).map fun i => s (a + i)) 0).hi := by
    right
    rw [sAt_range (fun i => s (a + i)) (by omega)]
    exact hne (a + 0) (by omega)
  have Hp := hid hp
  have HS := hid hls
  have HO := hid hok1
  have H0 := hid h0
  clear hp hls hok1 h0 hok hs hne
  go_wp2_with (first | (go_at_call 108; refine (newBook_any W (.slice A0 (b - a) (c - a)) ⟨_, _, _, rfl⟩ _ (b + 1 - a) (8 - a) _ (rgs_book hbkW hab (by omega)) (by omega) (by omega)).mono ?_; rintro e w2 ⟨g2, rfl, hg2, hbk2, hb2⟩; have hpf2 := hpfW.below hb2 hpfW.lt; have hpl := hpf2.lt; have f0 := hpf2.cell 0; have f1 := hpf2.frozen 0) | (go_at_call 81; refine (settle_poss _ g2 A0 (b - a) (c - a) (sub row a b) _ (Blk.far hbk2 (by simp; omega) _) (hsub.below (((((Below.refl w.heap.size w).trans hW).mono (Nat.le_of_lt l2)).trans (hb2.mono (by omega))).setCell (p := ⟨pf, 0, none⟩) (Nat.le_refl _) _) (by omega)) (by omega) HO.out HS.out H0.out).mono ?_; rw [Hp.out]; rintro e w4 ⟨rfl, hgr4, s4, hbk4, h4⟩))
  have hz2 := hb2.size
  have hpf3 := (hpf2.set_ 0 (.int .i64 ((b : Int) + 1))).grown hgr4 (by simp; omega)
  refine bodyPost_ret (v := .bool (possP (mAt row) s a b)) (by first | (simp [results, Try.results113, go_sem]; done) | (simp [results, Try.results113, go_sem, World.cell?_setCell_same', *]; done) | (simp [results, Try.results113, go_sem]; first | exact ⟨rfl, rfl⟩ | rfl)) rfl ⟨rfl, hpf3, ?_⟩
  refine ⟨?_, ?_, ?_, ?_, ?_⟩
  · exact hgr4.os.trans (hb2.os.trans hW.os)
  · exact hgr4.tape.trans (hb2.tape.trans hW.tape)
  · exact hgr4.output.trans (hb2.output.trans hW.output)
  · have := hgr4.size; simp at this; omega
  · intro i hi hne
    exact (hgr4.block i (by simp; omega) (by simp; omega)).trans ((Below.heap_setCell _ _ _ _ (fun e => hne (by rw [e]))).trans ((hb2.block i (by omega)).trans (hW.block i hi)))
end Go.Proofs.Ytdcglphekafpdaa
/- Lists of numbers in order of length: those of fewest and of lists. No program in sight. -/
namespace Go.Proofs.Ytdcglphekafpdaa

/-- One more than the last number. -/
def nx (l : List Int) : Nat := match l.getLast? with | none => 0 | some x => x.toNat + 1
/-- A list with one more number. -/
def ext (below : Nat) (l : List Int) : List (List Int) := (List.range (below - nx l)).map fun j => l ++ [((nx l + j : Nat) : Int)]
def lvl (below : Nat) : Nat → List (List Int)
  | 0 => [[]]
  | k + 1 => (lvl below k).flatMap (ext below)
/-- Strictly increasing, from 0 on, below another number. -/
def Inc (below : Nat) : Nat → List Int → Prop
  | _, [] => True
  | from_, x :: l => ∃ i : Nat, x = (i : Int) ∧ from_ ≤ i ∧ i < below ∧ Inc below (i + 1) l
theorem nx_nil : nx [] = 0 := rfl
theorem nx_app (l : List Int) (i : Nat) : nx (l ++ [(i : Int)]) = i + 1 := by simp [nx]
theorem Inc.nx_le {below : Nat} : ∀ {l : List Int} {f : Nat}, Inc below f l → l ≠ [] → f + l.length ≤ nx l ∧ nx l ≤ below
  | [], _, _, hn => absurd rfl hn
  | [x], f, ⟨i, hx, h1, h2, _⟩, _ => by subst hx; simp [nx]; omega
  | x :: y :: l, f, ⟨i, hx, h1, h2, h3⟩, _ => by
    have := Inc.nx_le (l := y :: l) h3 (by simp)
    have e : nx (x :: y :: l) = nx (y :: l) := by simp [nx, List.getLast?_cons_cons]
    rw [e]; simp only [List.length_cons] at this ⊢; omega
theorem Inc.snoc {below : Nat} : ∀ {l : List Int} {f i : Nat}, Inc below f l → nx l ≤ i → f ≤ i → i < below → Inc below f (l ++ [(i : Int)])
  | [], f, i, _, _, hf, hi => ⟨i, rfl, hf, hi, trivial⟩
  | [x], f, i, ⟨j, hx, h1, h2, h3⟩, hn, hf, hi => by
    subst hx
    exact ⟨j, rfl, h1, h2, Inc.snoc (l := []) h3 (by simp [nx]) (by simp [nx] at hn; omega) hi⟩
  | x :: y :: l, f, i, ⟨j, hx, h1, h2, h3⟩, hn, hf, hi => by
    subst hx
    have e : nx ((j : Int) :: y :: l) = nx (y :: l) := by simp [nx, List.getLast?_cons_cons]
    rw [e] at hn
    have := (Inc.nx_le (l := y :: l) h3 (by simp)).1
    exact ⟨j, rfl, h1, h2, Inc.snoc (l := y :: l) h3 hn (by omega) hi⟩
theorem lvl_mem {below : Nat} : ∀ {k : Nat} {l : List Int}, l ∈ lvl below k → l.length = k ∧ Inc below 0 l
  | 0, l, h => by
    simp [lvl] at h; subst h; exact ⟨rfl, trivial⟩
  | k + 1, l, h => by
    simp only [lvl, List.mem_flatMap] at h
    obtain ⟨l', h', hl⟩ := h
    obtain ⟨e, hi⟩ := lvl_mem h'
    simp only [ext, List.mem_map, List.mem_range] at hl
    obtain ⟨j, hj, rfl⟩ := hl
    exact ⟨by simp [e], hi.snoc (by omega) (by omega) (by omega)⟩
theorem Inc.len_le {below : Nat} {l : List Int} (h : Inc below 0 l) : l.length ≤ below := by
  rcases l with _ | ⟨x, l⟩
  · simp
  · have := h.nx_le (by simp); omega
theorem Inc.full {below : Nat} {l : List Int} (h : Inc below 0 l) (hl : l.length = below) : ext below l = [] := by
  rcases l with _ | ⟨x, l⟩
  · simp at hl; subst hl; rfl
  · have := h.nx_le (by simp)
    unfold ext
    rw [show below - nx (x :: l) = 0 by omega]; rfl
theorem Inc.listK_ {below : Nat} : ∀ {l : List Int} {f : Nat}, Inc below f l → ∀ k, k < l.length → (f : Int) + k ≤ wAt l k ∧ wAt l k < below ∧ (0 < k → wAt l (k - 1) < wAt l k)
  | [], _, _, k, hk => by simp at hk
  | x :: l, f, ⟨i, hx, h1, h2, h3⟩, 0, _ => by subst hx; simp [wAt]; omega
  | x :: l, f, ⟨i, hx, h1, h2, h3⟩, k + 1, hk => by
    have := Inc.listK_ h3 k (by simpa using hk)
    have e : wAt (x :: l) (k + 1) = wAt l k := by simp [wAt]
    rw [e]
    refine ⟨by omega, this.2.1, fun _ => ?_⟩
    rcases k with _ | k
    · subst hx
      show wAt ((i : Int) :: l) 0 < _
      simp only [wAt, List.getElem?_cons_zero, Option.getD_some] at this ⊢
      omega
    · show wAt (x :: l) (k + 1) < _
      have e2 : wAt (x :: l) (k + 1) = wAt l k := by simp [wAt]
      rw [e2]; exact this.2.2 (by omega)

/-- The first of the shortest lists that are good; the empty one if there is none. -/
def fewO (below : Nat) (G : List Int → Bool) : Nat → Option (List Int)
  | 0 => none
  | k + 1 => match fewO below G k with | some l => some l | none => (lvl below k).find? G
def fewL (below : Nat) (G : List Int → Bool) : List Int := (fewO below G (below + 1)).getD []
theorem lvl_after {below k : Nat} (h : below < k) : lvl below k = [] := by
  rcases hl : lvl below k with _ | ⟨l, ls⟩
  · rfl
  · have hm : l ∈ lvl below k := by rw [hl]; simp
    have := lvl_mem hm
    have := this.2.len_le
    omega
theorem fewO_found {below k : Nat} {G : List Int → Bool} {l : List Int} (h0 : fewO below G k = none) (h : (lvl below k).find? G = some l) (hk : k ≤ below) : fewL below G = l := by
  have h1 : fewO below G (k + 1) = some l := by simp only [fewO, h0, h]
  have : ∀ j, fewO below G (k + 1 + j) = some l := by
    intro j
    induction j with
    | zero => exact h1
    | succ j ih => show fewO below G (k + 1 + j + 1) = some l; simp only [fewO, ih]
  have := this (below - k)
  rw [show k + 1 + (below - k) = below + 1 by omega] at this
  rw [fewL, this]; rfl
theorem fewO_next {below k : Nat} {G : List Int → Bool} (h0 : fewO below G k = none) (h : (lvl below k).find? G = none) : fewO below G (k + 1) = none := by simp only [fewO, h0, h]
theorem fewO_none {below k : Nat} {G : List Int → Bool} (h0 : fewO below G k = none) (h : lvl below k = []) : fewL below G = [] := by
  have : ∀ j, fewO below G (k + j) = none ∧ lvl below (k + j) = [] := by
    intro j
    induction j with
    | zero => exact ⟨h0, h⟩
    | succ j ih =>
      refine ⟨?_, ?_⟩
      · show fewO below G (k + j + 1) = none
        simp only [fewO, ih.1, ih.2]; rfl
      · show lvl below (k + j + 1) = []
        simp only [lvl, ih.2]; rfl
  rcases Nat.lt_or_ge (below + 1) k with hk | hk
  · have up : ∀ j, fewO below G (j + 1) = none → fewO below G j = none := by
      intro j hj
      simp only [fewO] at hj
      split at hj
      · cases hj
      · assumption
    have : ∀ j, fewO below G (below + 1 + j) = none → fewO below G (below + 1) = none := by
      intro j
      induction j with
      | zero => exact fun h => h
      | succ j ih => exact fun h => ih (up _ h)
    have := this (k - (below + 1)) (by rw [show below + 1 + (k - (below + 1)) = k by omega]; exact h0)
    rw [fewL, this]; rfl
  · have := (this (below + 1 - k)).1
    rw [show k + (below + 1 - k) = below + 1 by omega] at this
    rw [fewL, this]; rfl
theorem take_flat {below : Nat} {ls : List (List Int)} {k : Nat} {l : List Int} (h : ls[k]? = some l) : (ls.take (k + 1)).flatMap (ext below) = (ls.take k).flatMap (ext below) ++ ext below l := by
  rw [List.take_add_one, h]; simp
theorem ext_take_succ {below i : Nat} {l : List Int} (h : i < below - nx l) : (ext below l).take (i + 1) = (ext below l).take i ++ [l ++ [((nx l + i : Nat) : Int)]] := by
  rw [List.take_add_one]
  congr 1
  unfold ext
  rw [List.getElem?_map, List.getElem?_range h]; rfl
theorem ext_len (below : Nat) (l : List Int) : (ext below l).length = below - nx l := by simp [ext]
/-- How many lists there are. -/
theorem lvl_small : ∀ below, below ≤ 8 → ∀ k, k ≤ 8 → (lvl below k).length ≤ 70 := by decide +kernel
theorem flat_take_le {below : Nat} (ls : List (List Int)) (k : Nat) : ((ls.take k).flatMap (ext below)).length ≤ (ls.flatMap (ext below)).length := by
  conv => rhs; rw [← List.take_append_drop k ls, List.flatMap_append, List.length_append]
  omega
end Go.Proofs.Ytdcglphekafpdaa
namespace Go.Proofs.Ytdcglphekafpdaa
open Go.RowKit Go.Shelf

/-- A value that owns a list of numbers, one that owns lists. -/
def InO (w : World) (B : Nat) (u : Value) (l : List Int) : Prop := w.ownsRow B 3 1 u l.length (l.flatMap cI)
def LsO (w : World) (B : Nat) (v : Value) (ls : List (List Int)) (vs : List Value) : Prop :=
  w.ownsRow B 49 1 v ls.length vs ∧ ∀ (k : Nat) (l : List Int), ls[k]? = some l → ∃ u, vs[k]? = some u ∧ InO w B u l
theorem own_apart {w : World} {b e s n b' e' s' n' : Nat} {v v' : Value} {xs xs' : List Value} (h1 : w.ownsRow b e s v n xs) (h2 : w.ownsRow b' e' s' v' n' xs') (hne : e ≠ e') : v.ownBlock = none ∨ v.ownBlock ≠ v'.ownBlock := by
  rcases h1.2 with ⟨rfl, _⟩ | ⟨g, cap, cur, rfl, _, hg, _⟩
  · exact .inl rfl
  · right
    rcases h2.2 with ⟨rfl, _⟩ | ⟨g', cap', cur', rfl, _, hg', _⟩
    · simp [Value.ownBlock]
    · simp only [Value.ownBlock, ne_eq, Option.some.injEq]
      rintro rfl
      rw [hg] at hg'
      injection hg' with hg'
      injection hg' with _ h _
      exact hne h
theorem InO.below {w w' : World} {B : Nat} {u : Value} {l : List Int} (h : InO w B u l) (hb : Below w.heap.size w w') : InO w' B u l := owns_below h hb
theorem LsO.below {w w' : World} {B : Nat} {v : Value} {ls : List (List Int)} {vs : List Value} (h : LsO w B v ls vs) (hb : Below w.heap.size w w') : LsO w' B v ls vs :=
  ⟨owns_below h.1 hb, fun k l hk => by obtain ⟨u, hu, ho⟩ := h.2 k l hk; exact ⟨u, hu, ho.below hb⟩⟩
theorem below_of_grown {w w' : World} (h : w.grownBy w' none) : Below w.heap.size w w' := (Below.refl _ _).grown h (Nat.le_refl _) (by simp)
/-- One more list behind the others. -/
theorem LsO.snoc {w w' : World} {B : Nat} {v v' u : Value} {ls : List (List Int)} {vs : List Value} {l : List Int} (h : LsO w B v ls vs) (hu : InO w B u l) (ho : w'.ownsRow B 49 1 v' (ls.length + 1) (vs ++ [u])) (hg : w.grownBy w' v.ownBlock) :
    LsO w' B v' (ls ++ [l]) (vs ++ [u]) := by
  refine ⟨by rw [List.length_append]; exact ho, fun k l' hk => ?_⟩
  have hvl : vs.length = ls.length := by have := h.1.1; omega
  rcases Nat.lt_trichotomy k ls.length with hlt | heq | hgt
  · rw [List.getElem?_append_left hlt] at hk
    obtain ⟨u', hu', ho'⟩ := h.2 k l' hk
    exact ⟨u', by rw [List.getElem?_append_left (by omega)]; exact hu', ho'.kept hg (own_apart ho' h.1 (by decide))⟩
  · subst heq
    rw [List.getElem?_append_right (Nat.le_refl _), Nat.sub_self] at hk
    obtain rfl : l = l' := by simpa using hk
    exact ⟨u, by rw [List.getElem?_append_right (by omega), show ls.length - vs.length = 0 by omega]; rfl, World.ownsRow.kept hu hg (own_apart hu h.1 (by decide))⟩
  · rw [List.getElem?_eq_none (by simp; omega)] at hk; cases hk
theorem InO.form {w : World} {B : Nat} {u : Value} {l : List Int} (h : InO w B u l) : ∃ A c, u = .slice A l.length c ∧ InS w w.heap.size A l.length l ∧ (l = [] → A = none ∧ c = 0 ∨ ∃ g, A = some ⟨g, 0, none⟩) ∧ (l ≠ [] → ∃ g, A = some ⟨g, 0, none⟩) := by
  obtain ⟨A, c, rfl, hs⟩ := sl_of_owns h
  refine ⟨A, c, rfl, hs, fun _ => ?_, fun hn => ?_⟩
  · rcases h.2 with ⟨e, _⟩ | ⟨g, cap, cur, e, _⟩
    · injection e with e1 e2 e3; exact .inl ⟨e1, e3⟩
    · injection e with e1 e2 e3; exact .inr ⟨g, e1⟩
  · have hp : 0 < l.length := List.length_pos_iff.2 hn
    obtain ⟨g, cap, e, _, _⟩ := World.ownsRow.form h hp
    injection e with e1 e2 e3; exact ⟨g, e1⟩

/-- What a function of a list says in all worlds behind one. -/
def Says (K : Nat) (g : Nat) (w0 : World) (ok : List Int → Prop) (G : List Int → Bool) : Prop :=
  ∀ W A c l, Below w0.heap.size w0 W → ok l → InS W W.heap.size A l.length l →
    Calls Try.prog K #[.pointer (some ⟨g, 0, none⟩), .slice A l.length c] W fun e W' => e = .returned (.bool (G l)) ∧ Below W.heap.size W W'
def FindPost (ls : List (List Int)) (G : List Int → Bool) (B : Nat) (w : World) (e : Ending) (w' : World) : Prop :=
  Below w.heap.size w w' ∧ ((ls.find? G = none ∧ e = .returned (.tuple #[.slice none 0 0, .bool false])) ∨ ∃ l u, ls.find? G = some l ∧ e = .returned (.tuple #[u, .bool true]) ∧ InO w' B u l)
theorem find_take {ls : List (List Int)} {G : List Int → Bool} {k : Nat} {l : List Int} (h : (ls.take k).find? G = none) (hl : ls[k]? = some l) : (ls.take (k + 1)).find? G = if G l then some l else none := by
  rw [List.take_add_one, hl, List.find?_append, h]
  simp
theorem find_of_take {ls : List (List Int)} {G : List Int → Bool} {k : Nat} {l : List Int} (h : (ls.take k).find? G = some l) : ls.find? G = some l := by
  conv => lhs; rw [← List.take_append_drop k ls, List.find?_append, h]
  rfl
set_option maxHeartbeats 400000 in
theorem find95_any (g : Nat) (w0 w : World) (ok : List Int → Prop) (G : List Int → Bool) (hG : Says 95 g w0 ok G) (h0 : Below w0.heap.size w0 w) (B : Nat) (v : Value) (ls : List (List Int)) (vs : List Value) (hls : LsO w B v ls vs) (hok : ∀ l ∈ ls, ok l) (hn : ls.length ≤ 100) :
    Calls Try.prog 112 #[v, .func (.func 95) #[.pointer (some ⟨g, 0, none⟩)] #[]] w (FindPost ls G B w) := by
  have hv1 : w.ownsRow B 49 1 v ls.length vs := And.left hls
  obtain ⟨A, c, rfl, hs⟩ := sl_of_owns hv1
  have HG := hid hG
  have HO := hid hok
  clear hG hok
  go_enter Try.func112, Try.ntmps112
  go_wp2
  go_loopw [11] (fun i wr => ∃ k : Nat, k ≤ ls.length ∧ i = .int .i64 k ∧ Hid ((ls.take k).find? G = none) ∧ Below w.heap.size w wr) (fun i _ => ls.length - (intOf i).toNat)
  case atStart => exact ⟨0, by omega, rfl, rfl, Below.refl _ _⟩
  case round =>
    obtain ⟨k, hk, rfl, hf, hbel⟩ := hrel
    by_cases hlt : k < ls.length
    · have hlr := hls.below hbel
      obtain ⟨u, hu, hou⟩ := hlr.2 k ls[k] (List.getElem?_eq_getElem hlt)
      obtain ⟨A1, c1, rfl, hin, _⟩ := hou.form
      obtain ⟨b, off, rfl, hb, hcs⟩ := (hs.below hbel).2 (by omega)
      have q0 := hcs k _ hu
      have hok1 := hid (HO.out ls[k] (List.getElem_mem hlt))
      have hft := find_take hf.out (List.getElem?_eq_getElem hlt)
      have hou' := hid hou
      have hin' := hid hin
      clear hcs hou hlr hu hin
      generalize hl : ls[k] = l at *
      have hbw : Below w0.heap.size w0 wr := h0.trans (hbel.mono h0.size)
      cases hGl : G l
      · rw [hGl] at hft
        have hft' := hid hft
        clear hft hl
        go_wp2_with (first | (go_at_call 95; refine (HG.out _ _ _ l hbw hok1.out hin'.out).mono ?_; rw [hGl]; rintro e w1 ⟨rfl, hb1⟩))
        exact ⟨⟨k + 1, by omega, by go_num, hft'.out, hbel.trans (hb1.mono hbel.size)⟩, by simp [intOf]; omega⟩
      · rw [hGl] at hft
        have hft' := hid (find_of_take hft)
        clear hft hl
        go_wp2_with (first | (go_at_call 95; refine (HG.out _ _ _ l hbw hok1.out hin'.out).mono ?_; rw [hGl]; rintro e w1 ⟨rfl, hb1⟩))
        refine bodyPost_ret (v := .tuple #[.slice A1 l.length c1, .bool true]) (by first | (simp [results, Try.results112, go_sem]; done) | (simp [results, Try.results112, go_sem, World.cell?_setCell_same', *]; done) | (simp [results, Try.results112, go_sem]; first | exact ⟨rfl, rfl⟩ | rfl)) rfl ⟨hbel.trans (hb1.mono hbel.size), .inr ⟨l, _, hft'.out, rfl, hou'.out.below hb1⟩⟩
    · have hft := hf.out
      rw [List.take_of_length_le (by omega)] at hft
      have hft' := hid hft
      clear hft hf
      go_wp2
      refine bodyPost_ret (v := .tuple #[.slice none 0 0, .bool false]) (by first | (simp [results, Try.results112, go_sem]; done) | (simp [results, Try.results112, go_sem, World.cell?_setCell_same', *]; done) | (simp [results, Try.results112, go_sem]; first | exact ⟨rfl, rfl⟩ | rfl)) rfl ⟨hbel, .inl ⟨hft'.out, rfl⟩⟩
set_option maxHeartbeats 400000 in
theorem find98_any (g : Nat) (w0 w : World) (ok : List Int → Prop) (G : List Int → Bool) (hG : Says 98 g w0 ok G) (h0 : Below w0.heap.size w0 w) (B : Nat) (v : Value) (ls : List (List Int)) (vs : List Value) (hls : LsO w B v ls vs) (hok : ∀ l ∈ ls, ok l) (hn : ls.length ≤ 100) :
    Calls Try.prog 112 #[v, .func (.func 98) #[.pointer (some ⟨g, 0, none⟩)] #[]] w (FindPost ls G B w) := by
  have hv1 : w.ownsRow B 49 1 v ls.length vs := And.left hls
  obtain ⟨A, c, rfl, hs⟩ := sl_of_owns hv1
  have HG := hid hG
  have HO := hid hok
  clear hG hok
  go_enter Try.func112, Try.ntmps112
  go_wp2
  go_loopw [11] (fun i wr => ∃ k : Nat, k ≤ ls.length ∧ i = .int .i64 k ∧ Hid ((ls.take k).find? G = none) ∧ Below w.heap.size w wr) (fun i _ => ls.length - (intOf i).toNat)
  case atStart => exact ⟨0, by omega, rfl, rfl, Below.refl _ _⟩
  case round =>
    obtain ⟨k, hk, rfl, hf, hbel⟩ := hrel
    by_cases hlt : k < ls.length
    · have hlr := hls.below hbel
      obtain ⟨u, hu, hou⟩ := hlr.2 k ls[k] (List.getElem?_eq_getElem hlt)
      obtain ⟨A1, c1, rfl, hin, _⟩ := hou.form
      obtain ⟨b, off, rfl, hb, hcs⟩ := (hs.below hbel).2 (by omega)
      have q0 := hcs k _ hu
      have hok1 := hid (HO.out ls[k] (List.getElem_mem hlt))
      have hft := find_take hf.out (List.getElem?_eq_getElem hlt)
      have hou' := hid hou
      have hin' := hid hin
      clear hcs hou hlr hu hin
      generalize hl : ls[k] = l at *
      have hbw : Below w0.heap.size w0 wr := h0.trans (hbel.mono h0.size)
      cases hGl : G l
      · rw [hGl] at hft
        have hft' := hid hft
        clear hft hl
        go_wp2_with (first | (go_at_call 98; refine (HG.out _ _ _ l hbw hok1.out hin'.out).mono ?_; rw [hGl]; rintro e w1 ⟨rfl, hb1⟩))
        exact ⟨⟨k + 1, by omega, by go_num, hft'.out, hbel.trans (hb1.mono hbel.size)⟩, by simp [intOf]; omega⟩
      · rw [hGl] at hft
        have hft' := hid (find_of_take hft)
        clear hft hl
        go_wp2_with (first | (go_at_call 98; refine (HG.out _ _ _ l hbw hok1.out hin'.out).mono ?_; rw [hGl]; rintro e w1 ⟨rfl, hb1⟩))
        refine bodyPost_ret (v := .tuple #[.slice A1 l.length c1, .bool true]) (by first | (simp [results, Try.results112, go_sem]; done) | (simp [results, Try.results112, go_sem, World.cell?_setCell_same', *]; done) | (simp [results, Try.results112, go_sem]; first | exact ⟨rfl, rfl⟩ | rfl)) rfl ⟨hbel.trans (hb1.mono hbel.size), .inr ⟨l, _, hft'.out, rfl, hou'.out.below hb1⟩⟩
    · have hft := hf.out
      rw [List.take_of_length_le (by omega)] at hft
      have hft' := hid hft
      clear hft hf
      go_wp2
      refine bodyPost_ret (v := .tuple #[.slice none 0 0, .bool false]) (by first | (simp [results, Try.results112, go_sem]; done) | (simp [results, Try.results112, go_sem, World.cell?_setCell_same', *]; done) | (simp [results, Try.results112, go_sem]; first | exact ⟨rfl, rfl⟩ | rfl)) rfl ⟨hbel, .inl ⟨hft'.out, rfl⟩⟩
end Go.Proofs.Ytdcglphekafpdaa
namespace Go.Proofs.Ytdcglphekafpdaa
open Go.RowKit Go.Shelf

theorem info49 : (Try.prog.info? 49).map (fun i => (i.zero, i.size, i.bytes)) = some (some (.slice none 0 0), 1, 24) := by kernel_rfl
theorem under128 : Try.prog.underlying 128 = some (.slice 49) := by kernel_rfl
theorem LsO.mono {w : World} {B B' : Nat} {v : Value} {ls : List (List Int)} {vs : List Value} (h : LsO w B v ls vs) (hb : B' ≤ B) : LsO w B' v ls vs :=
  ⟨owns_mono h.1 hb, fun k l hk => by obtain ⟨u, hu, ho⟩ := h.2 k l hk; exact ⟨u, hu, owns_mono ho hb⟩⟩
theorem LsO.start (w : World) (B : Nat) (hB : B ≤ w.heap.size) : LsO (w.alloc (.cells #[.slice none 0 0] 49)) B (.slice (some ⟨w.heap.size, 0, none⟩) 1 1) [[]] [.slice none 0 0] := by
  refine ⟨World.ownsRow_lit w #[.slice none 0 0] 1 hB (by unfold maxLen; omega) rfl, fun k l hk => ?_⟩
  rcases k with _ | k
  · obtain rfl : [] = l := by simpa using hk
    exact ⟨_, rfl, World.ownsRow_nil _ _ _ _⟩
  · simp at hk
theorem LsO.nil (w : World) (B : Nat) : LsO w B (.slice none 0 0) [] [] := ⟨World.ownsRow_nil _ _ _ _, fun k l hk => by simp at hk⟩
/-- The relation of the loop over all lists: what has come of the first ones, and of some numbers behind the next one. -/
def MidR (W1 : World) (below : Nat) (ls : List (List Int)) (n : Nat) (v : Value) (wr : World) : Prop := ∃ vs, LsO wr W1.heap.size v ((ls.take n).flatMap (ext below)) vs ∧ Below W1.heap.size W1 wr
def InnR (W1 : World) (below : Nat) (ls : List (List Int)) (n : Nat) (l : List Int) (j : Nat) (v : Value) (wr : World) : Prop := ∃ vs, LsO wr W1.heap.size v ((ls.take n).flatMap (ext below) ++ (ext below l).take j) vs ∧ Below W1.heap.size W1 wr
theorem Inc.last {below : Nat} {l : List Int} {p : Nat} (h : Inc below 0 l) (hl : l.length = p + 1) : ∃ y : Nat, l[p]? = some (y : Int) ∧ nx l = y + 1 ∧ y < below := by
  have hk := h.listK_ p (by omega)
  have h1 : l[p]? = some (wAt l p) := by
    unfold wAt
    rw [List.getElem?_eq_getElem (by omega)]; rfl
  have h2 : l.getLast? = l[p]? := by rw [List.getLast?_eq_getElem?, hl]; rfl
  refine ⟨(wAt l p).toNat, ?_, ?_, by omega⟩
  · rw [h1]; congr 1; omega
  · unfold nx; rw [h2, h1]
theorem inO_app {w : World} {B B' n : Nat} {u : Value} {l : List Int} {x : Nat} {y : Nat} (hl : l.length = n) (h : w.ownsRow B' 3 1 u (n + 1) (l.flatMap cI ++ [.int .i64 ((x : Int) + y)])) (hB : B ≤ B') : InO w B u (l ++ [((x + y : Nat) : Int)]) := by
  unfold InO
  have e : (l ++ [((x + y : Nat) : Int)]).flatMap cI = l.flatMap cI ++ [.int .i64 ((x : Int) + y)] := by rw [List.flatMap_append]; simp [cI]
  rw [e, List.length_append, hl]
  exact owns_mono h hB
theorem inn_len {below : Nat} {ls : List (List Int)} {l : List Int} (h : (ls.flatMap (ext below)).length ≤ 100) (j jj : Nat) (hb : below ≤ 8) : ((ls.take j).flatMap (ext below) ++ (ext below l).take jj).length ≤ 108 := by
  have := flat_take_le (below := below) ls j
  have h2 : ((ext below l).take jj).length ≤ (ext below l).length := List.length_take_le' _ _
  rw [ext_len] at h2
  rw [List.length_append]
  omega
theorem inn_next {W1 wr w2 w3 : World} {below j jj : Nat} {ls : List (List Int)} {l : List Int} {v u v3 : Value} {vs : List Value} {o : Obj} (h : LsO w2 W1.heap.size v ((ls.take j).flatMap (ext below) ++ (ext below l).take jj) vs) (hu : InO w2 W1.heap.size u (l ++ [((nx l + jj : Nat) : Int)]))
    (ho : w3.ownsRow W1.heap.size 49 1 v3 (((ls.take j).flatMap (ext below) ++ (ext below l).take jj).length + 1) (vs ++ [u])) (hg : (w2.alloc o).grownBy w3 v.ownBlock) (hjj : jj < below - nx l) (hb : Below W1.heap.size W1 wr) (hb2 : Below wr.heap.size wr w2) : InnR W1 below ls j l (jj + 1) v3 w3 := by
  have ha : Below w2.heap.size w2 (w2.alloc o) := (Below.refl _ _).alloc (Nat.le_refl _) _
  refine ⟨vs ++ [u], ?_, ?_⟩
  · rw [ext_take_succ hjj, ← List.append_assoc]
    exact LsO.snoc (h.below ha) (InO.below hu ha) ho hg
  · exact ((hb.trans (hb2.mono hb.size)).alloc (by have := hb.size; have := hb2.size; omega) o).grown hg (by have := hb.size; have := hb2.size; simp; omega) (fun k hk => (World.ownsRow.lt h.1 k hk).1)
theorem inn_end {W1 wr : World} {below j jj : Nat} {ls : List (List Int)} {l : List Int} {v : Value} {vs : List Value} (ht : (ls.take (j + 1)).flatMap (ext below) = (ls.take j).flatMap (ext below) ++ ext below l) (h : LsO wr W1.heap.size v ((ls.take j).flatMap (ext below) ++ (ext below l).take jj) vs)
    (hjj : below - nx l ≤ jj) (hb : Below W1.heap.size W1 wr) : MidR W1 below ls (j + 1) v wr := by
  refine ⟨vs, ?_, hb⟩
  rw [List.take_of_length_le (l := ext below l) (by rw [ext_len]; omega)] at h
  rw [ht]; exact h
def FewPost (l : List Int) (w : World) (e : Ending) (w' : World) : Prop := ∃ u, e = .returned u ∧ InO w' w.heap.size u l ∧ Below w.heap.size w w'

set_option maxRecDepth 100000 in
set_option maxHeartbeats 1000000 in
theorem few95_any (g : Nat) (w : World) (G : List Int → Bool) (below : Nat) (hbe : below ≤ 8) (hG : Says 95 g w (Inc below 0) G) :
    Calls Try.prog 94 #[.int .i64 below, .func (.func 95) #[.pointer (some ⟨g, 0, none⟩)] #[]] w (FewPost (fewL below G) w) := by
  have HG := hid hG
  clear hG
  obtain ⟨i0, hi, hz0, hz1, hz2⟩ := info_parts info3
  obtain ⟨i1, hi1, hz01, hz11, hz21⟩ := info_parts info49
  have I0 := hid hi; have I1 := hid hz0; have I2 := hid hz1; have I3 := hid hz2
  have J0 := hid hi1; have J1 := hid hz01; have J2 := hid hz11; have J3 := hid hz21
  clear hi hz0 hz1 hz2 hi1 hz01 hz11 hz21
  go_enter Try.func94, Try.ntmps94
  go_wp2
  go_loopg [5] (below + 1) (fun m v wr => ∃ k vs, k + m = below + 1 ∧ LsO wr w.heap.size v (lvl below k) vs ∧ Hid (fewO below G k = none) ∧ Below w.heap.size w wr)
  case atStart => exact ⟨0, _, by omega, LsO.start w _ (Nat.le_refl _), rfl, (Below.refl _ _).alloc (Nat.le_refl _) _⟩
  case round =>
    obtain ⟨k, vs, hkm, hls, hf, hbel⟩ := hrel
    have hlen : (lvl below k).length ≤ 100 := by
      rcases Nat.lt_or_ge below k with h | h
      · rw [lvl_after h]; simp
      · have := lvl_small below hbe k (by omega); omega
    have hinc : ∀ l ∈ lvl below k, Inc below 0 l := fun l hl => (lvl_mem hl).2
    have hlk : ∀ l ∈ lvl below k, l.length = k := fun l hl => (lvl_mem hl).1
    have hlen2 : ((lvl below k).flatMap (ext below)).length ≤ 100 := by
      show (lvl below (k + 1)).length ≤ 100
      rcases Nat.lt_or_ge below (k + 1) with h | h
      · rw [lvl_after h]; simp
      · have := lvl_small below hbe (k + 1) (by omega); omega
    have hinc' := hid hinc
    have hlk' := hid hlk
    have hls' := hid hls
    have hv1 : wr.ownsRow w.heap.size 49 1 u5 (lvl below k).length vs := hls.1
    obtain ⟨A, c, rfl, hsl⟩ := sl_of_owns hv1
    clear hinc hlk hv1
    go_wp2
    go_step3
    go_wp2_with (first | (go_at_call 112; refine (find95_any g w wr (Inc below 0) G HG.out hbel w.heap.size _ (lvl below k) vs hls'.out hinc'.out hlen).mono ?_; rintro e w1 ⟨hb1, (⟨hfn, rfl⟩ | ⟨l, uu, hfs, rfl, huu⟩)⟩; all_goals (try have hfs' := hid hfs); all_goals (try have hfn' := hid hfn); all_goals (try clear hfs); all_goals (try clear hfn)))
    · go_step3
      have hnx : Hid (lvl below (k + 1) = (lvl below k).flatMap (ext below)) := rfl
      generalize hLS : lvl below k = ls at *
      have hLS' := hid hLS
      have hls1 := hid (hls'.out.below hb1)
      have hsl1 := hsl.below' hb1 hb1.size
      have hbel1 := hbel.trans (hb1.mono hbel.size)
      clear hLS hls hls' hsl hb1
      go_wp2
      go_loopw [8, 24] (fun v8 i wr2 => ∃ j, j ≤ ls.length ∧ i = .int .i64 j ∧ MidR w1 below ls j v8 wr2) (fun _ i _ => ls.length - (intOf i).toNat)
      case atStart => exact ⟨0, by omega, rfl, _, LsO.nil _ _, Below.refl _ _⟩
      case round =>
        obtain ⟨j, hj, rfl, vs8, hls8, hbel2⟩ := hrel
        by_cases hlt : j < ls.length
        · obtain ⟨u, hu, hou⟩ := hls1.out.2 j ls[j] (List.getElem?_eq_getElem hlt)
          have hl1 := hinc'.out _ (List.getElem_mem hlt)
          have hl2 := hlk'.out _ (List.getElem_mem hlt)
          have htk := take_flat (below := below) (List.getElem?_eq_getElem hlt)
          obtain ⟨A1, c1, rfl, hin, hf0, hf1⟩ := hou.form
          obtain ⟨b, off, rfl, hb, hcs⟩ := (hsl1.below hbel2).2 (by omega)
          have q0 := hcs j _ hu
          clear hcs hu
          generalize ls[j] = l at *
          rw [hl2] at q0 hin
          have HK := hid hl2
          have HT := hid htk
          have HI := hid hl1
          have HF0 := hid hf0
          have HF1 := hid hf1
          have HO := hid hou
          have HN := hid hin
          clear hl2 htk hl1 hf0 hf1 hou hin
          by_cases hkb : k = below
          · have t1 : ((k : Int) == (below : Int)) = true := by simp [hkb]
            have Hkb := hid hkb
            have hfin : Hid (MidR w1 below ls (j + 1) u8 wr) := ⟨vs8, by rw [HT.out, HI.out.full (HK.out.trans Hkb.out), List.append_nil]; exact hls8, hbel2⟩
            clear hkb
            go_wp2
            exact ⟨⟨j + 1, by omega, by go_num, hfin.out⟩, by simp [intOf]; omega⟩
          · have t1 : ((k : Int) == (below : Int)) = false := by simp; omega
            have hnb := hid (show nx l ≤ below by
              rcases l with _ | ⟨z, l⟩
              · simp [nx]
              · exact (HI.out.nx_le (by simp)).2)
            by_cases hk0 : k = 0
            · have t2 : decide (0 < k) = false := by simp [hk0]
              have Hk0 := hid hk0
              have hx0 := hid (show nx l = 0 by rw [List.eq_nil_of_length_eq_zero (HK.out.trans hk0)]; rfl)
              have hkc : k ≤ c1 := by
                rcases HO.out.2 with ⟨e, _⟩ | ⟨_, cap, _, e, _, _, hc, _⟩ <;> (have := HK.out; injection e <;> omega)
              clear hk0
              obtain ⟨AO, hAO, hAN⟩ : ∃ AO, A1 = AO ∧ (AO = none ∨ ∃ g, AO = some (⟨g, 0, none⟩ : Addr)) := ⟨A1, rfl, (HF0.out (List.eq_nil_of_length_eq_zero (HK.out.trans Hk0.out))).imp (fun h => h.1) id⟩
              subst hAO
              rcases hAN with rfl | ⟨g1, rfl⟩
              all_goals go_wp2
              · go_loopw [8, 12] (fun v8 i wr3 => ∃ jj, jj ≤ below - nx l ∧ i = .int .i64 ((nx l + jj : Nat) : Int) ∧ InnR w1 below ls j l jj v8 wr3) (fun _ i _ => below - (intOf i).toNat)
                case atStart => exact ⟨0, by omega, by rw [hx0.out]; rfl, vs8, by rw [List.take_zero, List.append_nil]; exact hls8, hbel2⟩
                case round =>
                obtain ⟨jj, hjj, rfl, vs9, hls9, hbel9⟩ := hrel
                by_cases hlt9 : jj < below - nx l
                · have x1 : ((nx l + jj : Nat) : Int) < below := by omega
                  have hz9 := hbel9.size
                  have hcl : Hid (∀ b : Addr, none = some b → ∀ (j : Nat) (u : Value), (l.flatMap cI)[j]? = some u → (wr.alloc (.cells #[.int .i64 ((nx l : Int) + jj)] 3)).cell? (b.add j) = some u) := hid (fun b e j u hj => by cases e)
                  have hN := inn_len hlen2 (l := l) (below := below) j jj hbe
                  have hl9 := hid (show (l.flatMap cI).length = k * 1 by rw [flat_len (s := 1) (fun _ => rfl), HK.out])
                  go_wp2_with (first | (at_builtin; refine wpList_append_grows _ rfl _ _ 49 rfl 3 i0 _ 1 8 under49 I0.out I1.out I2.out I3.out rfl (by decide) none k k (l.flatMap cI) rfl (fun _ => ⟨Hk0.out, Hk0.out⟩) hl9.out hcl.out ⟨wr.heap.size, 0, none⟩ 1 1 [.int .i64 ((nx l : Int) + jj)] rfl rfl (fun j u hj => World.news_of_block (Blk.new wr 3 #[.int .i64 ((nx l : Int) + jj)]) j u hj) (by simp [Value.oneCell']) (by omega) (by unfold maxLen; omega) (by omega) ?_; intro v1 w2 hown1 hgr1; obtain ⟨g2, cap2, rfl, hg2, hg2'⟩ := World.ownsRow.form hown1 (by omega); have hb2 := below_grown' ((Below.refl _ wr).alloc (Nat.le_refl _) _) hgr1 (Nat.le_refl _); have hls2 := hls9.below hb2; have hz2 := hb2.size; have hls2' := hid hls2; have hin2 : Hid (InO w2 w1.heap.size (.slice (some ⟨g2, 0, none⟩) (k + 1) cap2) (l ++ [((nx l + jj : Nat) : Int)])) := hid (inO_app HK.out hown1 (by simp; omega)); have hrow := hls2.1; clear hls2 hls9 hown1) | (at_builtin; refine wpList_append_own _ rfl _ _ 128 rfl w1.heap.size 49 i1 _ 1 24 under128 J0.out J1.out J2.out J3.out rfl (by decide) _ _ vs9 rfl (World.ownsRow.alloc hrow _) ⟨w2.heap.size, 0, none⟩ 1 1 [.slice (some ⟨g2, 0, none⟩) (k + 1) cap2] rfl rfl (fun j u hj => World.news_of_block (Blk.new w2 49 #[.slice (some ⟨g2, 0, none⟩) (k + 1) cap2]) j u hj) (by simp [Value.oneCell']) (by unfold maxLen; omega) (by omega) (by simp; omega) ?_; intro v3 w3 hown3 hgr3 _; have hfin := hid (inn_next hls2'.out hin2.out hown3 hgr3 (by omega) hbel9 hb2)))
                  exact ⟨⟨jj + 1, by omega, by go_num, hfin.out⟩, by simp [intOf]; omega⟩
                · have hfin := hid (inn_end (W1 := w1) HT.out hls9 (show below - nx l ≤ jj by omega) hbel9)
                  have x1 : ¬ ((nx l + jj : Nat) : Int) < below := by have := hnb.out; omega
                  clear hls9
                  go_wp2
                  exact ⟨⟨j + 1, by omega, by go_num, hfin.out⟩, by simp [intOf]; omega⟩
              · go_loopw [8, 12] (fun v8 i wr3 => ∃ jj, jj ≤ below - nx l ∧ i = .int .i64 ((nx l + jj : Nat) : Int) ∧ InnR w1 below ls j l jj v8 wr3) (fun _ i _ => below - (intOf i).toNat)
                case atStart => exact ⟨0, by omega, by rw [hx0.out]; rfl, vs8, by rw [List.take_zero, List.append_nil]; exact hls8, hbel2⟩
                case round =>
                obtain ⟨jj, hjj, rfl, vs9, hls9, hbel9⟩ := hrel
                by_cases hlt9 : jj < below - nx l
                · have x1 : ((nx l + jj : Nat) : Int) < below := by omega
                  have hz9 := hbel9.size
                  have hcl : Hid (∀ b : Addr, (some ⟨g1, 0, none⟩) = some b → ∀ (j : Nat) (u : Value), (l.flatMap cI)[j]? = some u → (wr.alloc (.cells #[.int .i64 ((nx l : Int) + jj)] 3)).cell? (b.add j) = some u) := hid (fun b e j u hj => by rw [List.eq_nil_of_length_eq_zero (HK.out.trans Hk0.out)] at hj; simp at hj)
                  have hN := inn_len hlen2 (l := l) (below := below) j jj hbe
                  have hl9 := hid (show (l.flatMap cI).length = k * 1 by rw [flat_len (s := 1) (fun _ => rfl), HK.out])
                  go_wp2_with (first | (at_builtin; refine wpList_append_grows _ rfl _ _ 49 rfl 3 i0 _ 1 8 under49 I0.out I1.out I2.out I3.out rfl (by decide) (some ⟨g1, 0, none⟩) k k (l.flatMap cI) rfl (fun e => by cases e) hl9.out hcl.out ⟨wr.heap.size, 0, none⟩ 1 1 [.int .i64 ((nx l : Int) + jj)] rfl rfl (fun j u hj => World.news_of_block (Blk.new wr 3 #[.int .i64 ((nx l : Int) + jj)]) j u hj) (by simp [Value.oneCell']) (by omega) (by unfold maxLen; omega) (by omega) ?_; intro v1 w2 hown1 hgr1; obtain ⟨g2, cap2, rfl, hg2, hg2'⟩ := World.ownsRow.form hown1 (by omega); have hb2 := below_grown' ((Below.refl _ wr).alloc (Nat.le_refl _) _) hgr1 (Nat.le_refl _); have hls2 := hls9.below hb2; have hz2 := hb2.size; have hls2' := hid hls2; have hin2 : Hid (InO w2 w1.heap.size (.slice (some ⟨g2, 0, none⟩) (k + 1) cap2) (l ++ [((nx l + jj : Nat) : Int)])) := hid (inO_app HK.out hown1 (by simp; omega)); have hrow := hls2.1; clear hls2 hls9 hown1) | (at_builtin; refine wpList_append_own _ rfl _ _ 128 rfl w1.heap.size 49 i1 _ 1 24 under128 J0.out J1.out J2.out J3.out rfl (by decide) _ _ vs9 rfl (World.ownsRow.alloc hrow _) ⟨w2.heap.size, 0, none⟩ 1 1 [.slice (some ⟨g2, 0, none⟩) (k + 1) cap2] rfl rfl (fun j u hj => World.news_of_block (Blk.new w2 49 #[.slice (some ⟨g2, 0, none⟩) (k + 1) cap2]) j u hj) (by simp [Value.oneCell']) (by unfold maxLen; omega) (by omega) (by simp; omega) ?_; intro v3 w3 hown3 hgr3 _; have hfin := hid (inn_next hls2'.out hin2.out hown3 hgr3 (by omega) hbel9 hb2)))
                  exact ⟨⟨jj + 1, by omega, by go_num, hfin.out⟩, by simp [intOf]; omega⟩
                · have hfin := hid (inn_end (W1 := w1) HT.out hls9 (show below - nx l ≤ jj by omega) hbel9)
                  have x1 : ¬ ((nx l + jj : Nat) : Int) < below := by have := hnb.out; omega
                  clear hls9
                  go_wp2
                  exact ⟨⟨j + 1, by omega, by go_num, hfin.out⟩, by simp [intOf]; omega⟩
            · obtain ⟨p, rfl⟩ : ∃ p, k = p + 1 := ⟨k - 1, by omega⟩
              obtain ⟨y, hy, hxy, hyb⟩ := HI.out.last HK.out
              obtain ⟨g1, rfl⟩ := HF1.out (by intro e; have := HK.out; rw [e] at this; simp at this)
              have q1 : wr.cell? ⟨g1, p, none⟩ = some (.int .i64 y) := by
                obtain ⟨b', off', e, hb', hcs⟩ := HN.out.2 (by omega)
                injection e with e
                injection e with e1 e2
                subst e1; subst e2
                have := hcs (p * 1 + 0) _ (by rw [flat_at (s := 1) (f := cI) (fun _ => rfl) l p 0 _ hy (by omega)]; rfl)
                exact (hbel2.cell (p := ⟨g1, p, none⟩) hb').trans (by simpa using this)
              have hx0 := hid hxy
              have hkc : p + 1 ≤ c1 := by
                rcases HO.out.2 with ⟨e, _⟩ | ⟨_, cap, _, e, _, _, hc, _⟩ <;> (have := HK.out; injection e <;> omega)
              have t2 : ((p : Int) + 1 == (below : Int)) = false := by simp; omega
              clear hy hxy hk0 hkb
              go_wp2
              go_loopw [8, 12] (fun v8 i wr3 => ∃ jj, jj ≤ below - nx l ∧ i = .int .i64 ((nx l + jj : Nat) : Int) ∧ InnR w1 below ls j l jj v8 wr3) (fun _ i _ => below - (intOf i).toNat)
              case atStart => exact ⟨0, by omega, by rw [hx0.out]; rfl, vs8, by rw [List.take_zero, List.append_nil]; exact hls8, hbel2⟩
              case round =>
                obtain ⟨jj, hjj, rfl, vs9, hls9, hbel9⟩ := hrel
                by_cases hlt9 : jj < below - nx l
                · have x1 : ((nx l + jj : Nat) : Int) < below := by omega
                  have hz9 := hbel9.size
                  have hcl : Hid (∀ b : Addr, (some ⟨g1, 0, none⟩) = some b → ∀ (j : Nat) (u : Value), (l.flatMap cI)[j]? = some u → (wr.alloc (.cells #[.int .i64 ((nx l : Int) + jj)] 3)).cell? (b.add j) = some u) := hid (fun b e j u hj => by
                injection e with e
                subst e
                rw [add_at]
                obtain ⟨b', off', e, hb', hcs⟩ := HN.out.2 (by omega)
                injection e with e
                injection e with e1 e2
                subst e1; subst e2
                exact (World.cell?_alloc_lt _ _ _ (by have := hbel9.size; exact Nat.lt_of_lt_of_le hb' this)).trans ((hbel9.cell (p := ⟨g1, 0 + j, none⟩) hb').trans (hcs j u hj)))
                  have hN := inn_len hlen2 (l := l) (below := below) j jj hbe
                  have hl9 := hid (show (l.flatMap cI).length = (p + 1) * 1 by rw [flat_len (s := 1) (fun _ => rfl), HK.out])
                  go_wp2_with (first | (at_builtin; refine wpList_append_grows _ rfl _ _ 49 rfl 3 i0 _ 1 8 under49 I0.out I1.out I2.out I3.out rfl (by decide) (some ⟨g1, 0, none⟩) (p + 1) (p + 1) (l.flatMap cI) rfl (fun e => by cases e) hl9.out hcl.out ⟨wr.heap.size, 0, none⟩ 1 1 [.int .i64 ((nx l : Int) + jj)] rfl rfl (fun j u hj => World.news_of_block (Blk.new wr 3 #[.int .i64 ((nx l : Int) + jj)]) j u hj) (by simp [Value.oneCell']) (by omega) (by unfold maxLen; omega) (by omega) ?_; intro v1 w2 hown1 hgr1; obtain ⟨g2, cap2, rfl, hg2, hg2'⟩ := World.ownsRow.form hown1 (by omega); have hb2 := below_grown' ((Below.refl _ wr).alloc (Nat.le_refl _) _) hgr1 (Nat.le_refl _); have hls2 := hls9.below hb2; have hz2 := hb2.size; have hls2' := hid hls2; have hin2 : Hid (InO w2 w1.heap.size (.slice (some ⟨g2, 0, none⟩) ((p + 1) + 1) cap2) (l ++ [((nx l + jj : Nat) : Int)])) := hid (inO_app HK.out hown1 (by simp; omega)); have hrow := hls2.1; clear hls2 hls9 hown1) | (at_builtin; refine wpList_append_own _ rfl _ _ 128 rfl w1.heap.size 49 i1 _ 1 24 under128 J0.out J1.out J2.out J3.out rfl (by decide) _ _ vs9 rfl (World.ownsRow.alloc hrow _) ⟨w2.heap.size, 0, none⟩ 1 1 [.slice (some ⟨g2, 0, none⟩) ((p + 1) + 1) cap2] rfl rfl (fun j u hj => World.news_of_block (Blk.new w2 49 #[.slice (some ⟨g2, 0, none⟩) ((p + 1) + 1) cap2]) j u hj) (by simp [Value.oneCell']) (by unfold maxLen; omega) (by omega) (by simp; omega) ?_; intro v3 w3 hown3 hgr3 _; have hfin := hid (inn_next hls2'.out hin2.out hown3 hgr3 (by omega) hbel9 hb2)))
                  exact ⟨⟨jj + 1, by omega, by go_num, hfin.out⟩, by simp [intOf]; omega⟩
                · have hfin := hid (inn_end (W1 := w1) HT.out hls9 (show below - nx l ≤ jj by omega) hbel9)
                  have x1 : ¬ ((nx l + jj : Nat) : Int) < below := by have := hnb.out; omega
                  clear hls9
                  go_wp2
                  exact ⟨⟨j + 1, by omega, by go_num, hfin.out⟩, by simp [intOf]; omega⟩
        · obtain rfl : j = ls.length := by omega
          rw [List.take_length] at hls8
          have hv8 := hls8.1
          obtain ⟨N, hN⟩ : ∃ N, N = (ls.flatMap (ext below)).length := ⟨_, rfl⟩
          rw [← hN] at hv8 hlen2
          obtain ⟨A8, c8, rfl, hsl8⟩ := sl_of_owns hv8
          have HN := hid hN
          have hbel8 := hbel1.trans (hbel2.mono hbel1.size)
          have H8 := hid hls8
          clear hls8 hv8 hsl8 hN
          by_cases hz : N = 0
          · have hlz : lvl below (k + 1) = [] := by rw [hnx.out]; exact List.eq_nil_of_length_eq_zero (HN.out.symm.trans hz)
            have hfew := hid (fewO_none (fewO_next hf.out (by rw [hLS'.out]; exact hfn'.out)) hlz)
            have Hz := hid hz
            have t1 : ((N : Int) == 0) = true := by simp [hz]
            clear hz
            go_wp2
            refine bodyPost_ret (v := .slice none 0 0) (by first | (simp [results, Try.results94, go_sem]; done) | (simp [results, Try.results94, go_sem, World.cell?_setCell_same', *]; done) | (simp [results, Try.results94, go_sem]; first | exact ⟨rfl, rfl⟩ | rfl)) rfl ⟨_, rfl, ?_, hbel8⟩
            rw [hfew.out]
            exact World.ownsRow_nil _ _ _ _
          · have hk : k + 1 ≤ below := by
              rcases Nat.lt_or_ge below (k + 1) with h | h
              · exact absurd (by rw [HN.out, ← hnx.out, lvl_after h]; rfl) hz
              · exact h
            have hfew := hid (fewO_next hf.out (by rw [hLS'.out]; exact hfn'.out))
            have t1 : ((N : Int) == 0) = false := by simp; omega
            have H9 : Hid (∃ vs, LsO wr w.heap.size (.slice A8 N c8) (lvl below (k + 1)) vs) := ⟨_, by rw [hnx.out]; exact H8.out.mono hbel1.size⟩
            clear hz
            go_wp2
            simp only [Exit.noGoto, Exit.inBlock, Exit.then]
            go_step
            go_roundg (gk - 1)
            case measure => omega
            case rel =>
              obtain ⟨vs', h9⟩ := H9.out
              exact ⟨k + 1, vs', by omega, h9, hfew.out, hbel8⟩
    · have hk : k ≤ below := by
        rcases Nat.lt_or_ge below k with h | h
        · have := hfs'.out; rw [lvl_after h] at this; simp at this
        · exact h
      refine bodyPost_ret (v := uu) (by first | (simp [results, Try.results94, go_sem]; done) | (simp [results, Try.results94, go_sem, World.cell?_setCell_same', *]; done) | (simp [results, Try.results94, go_sem]; first | exact ⟨rfl, rfl⟩ | rfl)) rfl ⟨uu, rfl, ?_, hbel.trans (hb1.mono hbel.size)⟩
      rw [fewO_found hf.out hfs'.out hk]
      exact huu
set_option maxRecDepth 100000 in
set_option maxHeartbeats 1000000 in
theorem few98_any (g : Nat) (w : World) (G : List Int → Bool) (below : Nat) (hbe : below ≤ 8) (hG : Says 98 g w (Inc below 0) G) :
    Calls Try.prog 94 #[.int .i64 below, .func (.func 98) #[.pointer (some ⟨g, 0, none⟩)] #[]] w (FewPost (fewL below G) w) := by
  have HG := hid hG
  clear hG
  obtain ⟨i0, hi, hz0, hz1, hz2⟩ := info_parts info3
  obtain ⟨i1, hi1, hz01, hz11, hz21⟩ := info_parts info49
  have I0 := hid hi; have I1 := hid hz0; have I2 := hid hz1; have I3 := hid hz2
  have J0 := hid hi1; have J1 := hid hz01; have J2 := hid hz11; have J3 := hid hz21
  clear hi hz0 hz1 hz2 hi1 hz01 hz11 hz21
  go_enter Try.func94, Try.ntmps94
  go_wp2
  go_loopg [5] (below + 1) (fun m v wr => ∃ k vs, k + m = below + 1 ∧ LsO wr w.heap.size v (lvl below k) vs ∧ Hid (fewO below G k = none) ∧ Below w.heap.size w wr)
  case atStart => exact ⟨0, _, by omega, LsO.start w _ (Nat.le_refl _), rfl, (Below.refl _ _).alloc (Nat.le_refl _) _⟩
  case round =>
    obtain ⟨k, vs, hkm, hls, hf, hbel⟩ := hrel
    have hlen : (lvl below k).length ≤ 100 := by
      rcases Nat.lt_or_ge below k with h | h
      · rw [lvl_after h]; simp
      · have := lvl_small below hbe k (by omega); omega
    have hinc : ∀ l ∈ lvl below k, Inc below 0 l := fun l hl => (lvl_mem hl).2
    have hlk : ∀ l ∈ lvl below k, l.length = k := fun l hl => (lvl_mem hl).1
    have hlen2 : ((lvl below k).flatMap (ext below)).length ≤ 100 := by
      show (lvl below (k + 1)).length ≤ 100
      rcases Nat.lt_or_ge below (k + 1) with h | h
      · rw [lvl_after h]; simp
      · have := lvl_small below hbe (k + 1) (by omega); omega
    have hinc' := hid hinc
    have hlk' := hid hlk
    have hls' := hid hls
    have hv1 : wr.ownsRow w.heap.size 49 1 u5 (lvl below k).length vs := hls.1
    obtain ⟨A, c, rfl, hsl⟩ := sl_of_owns hv1
    clear hinc hlk hv1
    go_wp2
    go_step3
    go_wp2_with (first | (go_at_call 112; refine (find98_any g w wr (Inc below 0) G HG.out hbel w.heap.size _ (lvl below k) vs hls'.out hinc'.out hlen).mono ?_; rintro e w1 ⟨hb1, (⟨hfn, rfl⟩ | ⟨l, uu, hfs, rfl, huu⟩)⟩; all_goals (try have hfs' := hid hfs); all_goals (try have hfn' := hid hfn); all_goals (try clear hfs); all_goals (try clear hfn)))
    · go_step3
      have hnx : Hid (lvl below (k + 1) = (lvl below k).flatMap (ext below)) := rfl
      generalize hLS : lvl below k = ls at *
      have hLS' := hid hLS
      have hls1 := hid (hls'.out.below hb1)
      have hsl1 := hsl.below' hb1 hb1.size
      have hbel1 := hbel.trans (hb1.mono hbel.size)
      clear hLS hls hls' hsl hb1
      go_wp2
      go_loopw [8, 24] (fun v8 i wr2 => ∃ j, j ≤ ls.length ∧ i = .int .i64 j ∧ MidR w1 below ls j v8 wr2) (fun _ i _ => ls.length - (intOf i).toNat)
      case atStart => exact ⟨0, by omega, rfl, _, LsO.nil _ _, Below.refl _ _⟩
      case round =>
        obtain ⟨j, hj, rfl, vs8, hls8, hbel2⟩ := hrel
        by_cases hlt : j < ls.length
        · obtain ⟨u, hu, hou⟩ := hls1.out.2 j ls[j] (List.getElem?_eq_getElem hlt)
          have hl1 := hinc'.out _ (List.getElem_mem hlt)
          have hl2 := hlk'.out _ (List.getElem_mem hlt)
          have htk := take_flat (below := below) (List.getElem?_eq_getElem hlt)
          obtain ⟨A1, c1, rfl, hin, hf0, hf1⟩ := hou.form
          obtain ⟨b, off, rfl, hb, hcs⟩ := (hsl1.below hbel2).2 (by omega)
          have q0 := hcs j _ hu
          clear hcs hu
          generalize ls[j] = l at *
          rw [hl2] at q0 hin
          have HK := hid hl2
          have HT := hid htk
          have HI := hid hl1
          have HF0 := hid hf0
          have HF1 := hid hf1
          have HO := hid hou
          have HN := hid hin
          clear hl2 htk hl1 hf0 hf1 hou hin
          by_cases hkb : k = below
          · have t1 : ((k : Int) == (below : Int)) = true := by simp [hkb]
            have Hkb := hid hkb
            have hfin : Hid (MidR w1 below ls (j + 1) u8 wr) := ⟨vs8, by rw [HT.out, HI.out.full (HK.out.trans Hkb.out), List.append_nil]; exact hls8, hbel2⟩
            clear hkb
            go_wp2
            exact ⟨⟨j + 1, by omega, by go_num, hfin.out⟩, by simp [intOf]; omega⟩
          · have t1 : ((k : Int) == (below : Int)) = false := by simp; omega
            have hnb := hid (show nx l ≤ below by
              rcases l with _ | ⟨z, l⟩
              · simp [nx]
              · exact (HI.out.nx_le (by simp)).2)
            by_cases hk0 : k = 0
            · have t2 : decide (0 < k) = false := by simp [hk0]
              have Hk0 := hid hk0
              have hx0 := hid (show nx l = 0 by rw [List.eq_nil_of_length_eq_zero (HK.out.trans hk0)]; rfl)
              have hkc : k ≤ c1 := by
                rcases HO.out.2 with ⟨e, _⟩ | ⟨_, cap, _, e, _, _, hc, _⟩ <;> (have := HK.out; injection e <;> omega)
              clear hk0
              obtain ⟨AO, hAO, hAN⟩ : ∃ AO, A1 = AO ∧ (AO = none ∨ ∃ g, AO = some (⟨g, 0, none⟩ : Addr)) := ⟨A1, rfl, (HF0.out (List.eq_nil_of_length_eq_zero (HK.out.trans Hk0.out))).imp (fun h => h.1) id⟩
              subst hAO
              rcases hAN with rfl | ⟨g1, rfl⟩
              all_goals go_wp2
              · go_loopw [8, 12] (fun v8 i wr3 => ∃ jj, jj ≤ below - nx l ∧ i = .int .i64 ((nx l + jj : Nat) : Int) ∧ InnR w1 below ls j l jj v8 wr3) (fun _ i _ => below - (intOf i).toNat)
                case atStart => exact ⟨0, by omega, by rw [hx0.out]; rfl, vs8, by rw [List.take_zero, List.append_nil]; exact hls8, hbel2⟩
                case round =>
                obtain ⟨jj, hjj, rfl, vs9, hls9, hbel9⟩ := hrel
                by_cases hlt9 : jj < below - nx l
                · have x1 : ((nx l + jj : Nat) : Int) < below := by omega
                  have hz9 := hbel9.size
                  have hcl : Hid (∀ b : Addr, none = some b → ∀ (j : Nat) (u : Value), (l.flatMap cI)[j]? = some u → (wr.alloc (.cells #[.int .i64 ((nx l : Int) + jj)] 3)).cell? (b.add j) = some u) := hid (fun b e j u hj => by cases e)
                  have hN := inn_len hlen2 (l := l) (below := below) j jj hbe
                  have hl9 := hid (show (l.flatMap cI).length = k * 1 by rw [flat_len (s := 1) (fun _ => rfl), HK.out])
                  go_wp2_with (first | (at_builtin; refine wpList_append_grows _ rfl _ _ 49 rfl 3 i0 _ 1 8 under49 I0.out I1.out I2.out I3.out rfl (by decide) none k k (l.flatMap cI) rfl (fun _ => ⟨Hk0.out, Hk0.out⟩) hl9.out hcl.out ⟨wr.heap.size, 0, none⟩ 1 1 [.int .i64 ((nx l : Int) + jj)] rfl rfl (fun j u hj => World.news_of_block (Blk.new wr 3 #[.int .i64 ((nx l : Int) + jj)]) j u hj) (by simp [Value.oneCell']) (by omega) (by unfold maxLen; omega) (by omega) ?_; intro v1 w2 hown1 hgr1; obtain ⟨g2, cap2, rfl, hg2, hg2'⟩ := World.ownsRow.form hown1 (by omega); have hb2 := below_grown' ((Below.refl _ wr).alloc (Nat.le_refl _) _) hgr1 (Nat.le_refl _); have hls2 := hls9.below hb2; have hz2 := hb2.size; have hls2' := hid hls2; have hin2 : Hid (InO w2 w1.heap.size (.slice (some ⟨g2, 0, none⟩) (k + 1) cap2) (l ++ [((nx l + jj : Nat) : Int)])) := hid (inO_app HK.out hown1 (by simp; omega)); have hrow := hls2.1; clear hls2 hls9 hown1) | (at_builtin; refine wpList_append_own _ rfl _ _ 128 rfl w1.heap.size 49 i1 _ 1 24 under128 J0.out J1.out J2.out J3.out rfl (by decide) _ _ vs9 rfl (World.ownsRow.alloc hrow _) ⟨w2.heap.size, 0, none⟩ 1 1 [.slice (some ⟨g2, 0, none⟩) (k + 1) cap2] rfl rfl (fun j u hj => World.news_of_block (Blk.new w2 49 #[.slice (some ⟨g2, 0, none⟩) (k + 1) cap2]) j u hj) (by simp [Value.oneCell']) (by unfold maxLen; omega) (by omega) (by simp; omega) ?_; intro v3 w3 hown3 hgr3 _; have hfin := hid (inn_next hls2'.out hin2.out hown3 hgr3 (by omega) hbel9 hb2)))
                  exact ⟨⟨jj + 1, by omega, by go_num, hfin.out⟩, by simp [intOf]; omega⟩
                · have hfin := hid (inn_end (W1 := w1) HT.out hls9 (show below - nx l ≤ jj by omega) hbel9)
                  have x1 : ¬ ((nx l + jj : Nat) : Int) < below := by have := hnb.out; omega
                  clear hls9
                  go_wp2
                  exact ⟨⟨j + 1, by omega, by go_num, hfin.out⟩, by simp [intOf]; omega⟩
              · go_loopw [8, 12] (fun v8 i wr3 => ∃ jj, jj ≤ below - nx l ∧ i = .int .i64 ((nx l + jj : Nat) : Int) ∧ InnR w1 below ls j l jj v8 wr3) (fun _ i _ => below - (intOf i).toNat)
                case atStart => exact ⟨0, by omega, by rw [hx0.out]; rfl, vs8, by rw [List.take_zero, List.append_nil]; exact hls8, hbel2⟩
                case round =>
                obtain ⟨jj, hjj, rfl, vs9, hls9, hbel9⟩ := hrel
                by_cases hlt9 : jj < below - nx l
                · have x1 : ((nx l + jj : Nat) : Int) < below := by omega
                  have hz9 := hbel9.size
                  have hcl : Hid (∀ b : Addr, (some ⟨g1, 0, none⟩) = some b → ∀ (j : Nat) (u : Value), (l.flatMap cI)[j]? = some u → (wr.alloc (.cells #[.int .i64 ((nx l : Int) + jj)] 3)).cell? (b.add j) = some u) := hid (fun b e j u hj => by rw [List.eq_nil_of_length_eq_zero (HK.out.trans Hk0.out)] at hj; simp at hj)
                  have hN := inn_len hlen2 (l := l) (below := below) j jj hbe
                  have hl9 := hid (show (l.flatMap cI).length = k * 1 by rw [flat_len (s := 1) (fun _ => rfl), HK.out])
                  go_wp2_with (first | (at_builtin; refine wpList_append_grows _ rfl _ _ 49 rfl 3 i0 _ 1 8 under49 I0.out I1.out I2.out I3.out rfl (by decide) (some ⟨g1, 0, none⟩) k k (l.flatMap cI) rfl (fun e => by cases e) hl9.out hcl.out ⟨wr.heap.size, 0, none⟩ 1 1 [.int .i64 ((nx l : Int) + jj)] rfl rfl (fun j u hj => World.news_of_block (Blk.new wr 3 #[.int .i64 ((nx l : Int) + jj)]) j u hj) (by simp [Value.oneCell']) (by omega) (by unfold maxLen; omega) (by omega) ?_; intro v1 w2 hown1 hgr1; obtain ⟨g2, cap2, rfl, hg2, hg2'⟩ := World.ownsRow.form hown1 (by omega); have hb2 := below_grown' ((Below.refl _ wr).alloc (Nat.le_refl _) _) hgr1 (Nat.le_refl _); have hls2 := hls9.below hb2; have hz2 := hb2.size; have hls2' := hid hls2; have hin2 : Hid (InO w2 w1.heap.size (.slice (some ⟨g2, 0, none⟩) (k + 1) cap2) (l ++ [((nx l + jj : Nat) : Int)])) := hid (inO_app HK.out hown1 (by simp; omega)); have hrow := hls2.1; clear hls2 hls9 hown1) | (at_builtin; refine wpList_append_own _ rfl _ _ 128 rfl w1.heap.size 49 i1 _ 1 24 under128 J0.out J1.out J2.out J3.out rfl (by decide) _ _ vs9 rfl (World.ownsRow.alloc hrow _) ⟨w2.heap.size, 0, none⟩ 1 1 [.slice (some ⟨g2, 0, none⟩) (k + 1) cap2] rfl rfl (fun j u hj => World.news_of_block (Blk.new w2 49 #[.slice (some ⟨g2, 0, none⟩) (k + 1) cap2]) j u hj) (by simp [Value.oneCell']) (by unfold maxLen; omega) (by omega) (by simp; omega) ?_; intro v3 w3 hown3 hgr3 _; have hfin := hid (inn_next hls2'.out hin2.out hown3 hgr3 (by omega) hbel9 hb2)))
                  exact ⟨⟨jj + 1, by omega, by go_num, hfin.out⟩, by simp [intOf]; omega⟩
                · have hfin := hid (inn_end (W1 := w1) HT.out hls9 (show below - nx l ≤ jj by omega) hbel9)
                  have x1 : ¬ ((nx l + jj : Nat) : Int) < below := by have := hnb.out; omega
                  clear hls9
                  go_wp2
                  exact ⟨⟨j + 1, by omega, by go_num, hfin.out⟩, by simp [intOf]; omega⟩
            · obtain ⟨p, rfl⟩ : ∃ p, k = p + 1 := ⟨k - 1, by omega⟩
              obtain ⟨y, hy, hxy, hyb⟩ := HI.out.last HK.out
              obtain ⟨g1, rfl⟩ := HF1.out (by intro e; have := HK.out; rw [e] at this; simp at this)
              have q1 : wr.cell? ⟨g1, p, none⟩ = some (.int .i64 y) := by
                obtain ⟨b', off', e, hb', hcs⟩ := HN.out.2 (by omega)
                injection e with e
                injection e with e1 e2
                subst e1; subst e2
                have := hcs (p * 1 + 0) _ (by rw [flat_at (s := 1) (f := cI) (fun _ => rfl) l p 0 _ hy (by omega)]; rfl)
                exact (hbel2.cell (p := ⟨g1, p, none⟩) hb').trans (by simpa using this)
              have hx0 := hid hxy
              have hkc : p + 1 ≤ c1 := by
                rcases HO.out.2 with ⟨e, _⟩ | ⟨_, cap, _, e, _, _, hc, _⟩ <;> (have := HK.out; injection e <;> omega)
              have t2 : ((p : Int) + 1 == (below : Int)) = false := by simp; omega
              clear hy hxy hk0 hkb
              go_wp2
              go_loopw [8, 12] (fun v8 i wr3 => ∃ jj, jj ≤ below - nx l ∧ i = .int .i64 ((nx l + jj : Nat) : Int) ∧ InnR w1 below ls j l jj v8 wr3) (fun _ i _ => below - (intOf i).toNat)
              case atStart => exact ⟨0, by omega, by rw [hx0.out]; rfl, vs8, by rw [List.take_zero, List.append_nil]; exact hls8, hbel2⟩
              case round =>
                obtain ⟨jj, hjj, rfl, vs9, hls9, hbel9⟩ := hrel
                by_cases hlt9 : jj < below - nx l
                · have x1 : ((nx l + jj : Nat) : Int) < below := by omega
                  have hz9 := hbel9.size
                  have hcl : Hid (∀ b : Addr, (some ⟨g1, 0, none⟩) = some b → ∀ (j : Nat) (u : Value), (l.flatMap cI)[j]? = some u → (wr.alloc (.cells #[.int .i64 ((nx l : Int) + jj)] 3)).cell? (b.add j) = some u) := hid (fun b e j u hj => by
                injection e with e
                subst e
                rw [add_at]
                obtain ⟨b', off', e, hb', hcs⟩ := HN.out.2 (by omega)
                injection e with e
                injection e with e1 e2
                subst e1; subst e2
                exact (World.cell?_alloc_lt _ _ _ (by have := hbel9.size; exact Nat.lt_of_lt_of_le hb' this)).trans ((hbel9.cell (p := ⟨g1, 0 + j, none⟩) hb').trans (hcs j u hj)))
                  have hN := inn_len hlen2 (l := l) (below := below) j jj hbe
                  have hl9 := hid (show (l.flatMap cI).length = (p + 1) * 1 by rw [flat_len (s := 1) (fun _ => rfl), HK.out])
                  go_wp2_with (first | (at_builtin; refine wpList_append_grows _ rfl _ _ 49 rfl 3 i0 _ 1 8 under49 I0.out I1.out I2.out I3.out rfl (by decide) (some ⟨g1, 0, none⟩) (p + 1) (p + 1) (l.flatMap cI) rfl (fun e => by cases e) hl9.out hcl.out ⟨wr.heap.size, 0, none⟩ 1 1 [.int .i64 ((nx l : Int) + jj)] rfl rfl (fun j u hj => World.news_of_block (Blk.new wr 3 #[.int .i64 ((nx l : Int) + jj)]) j u hj) (by simp [Value.oneCell']) (by omega) (by unfold maxLen; omega) (by omega) ?_; intro v1 w2 hown1 hgr1; obtain ⟨g2, cap2, rfl, hg2, hg2'⟩ := World.ownsRow.form hown1 (by omega); have hb2 := below_grown' ((Below.refl _ wr).alloc (Nat.le_refl _) _) hgr1 (Nat.le_refl _); have hls2 := hls9.below hb2; have hz2 := hb2.size; have hls2' := hid hls2; have hin2 : Hid (InO w2 w1.heap.size (.slice (some ⟨g2, 0, none⟩) ((p + 1) + 1) cap2) (l ++ [((nx l + jj : Nat) : Int)])) := hid (inO_app HK.out hown1 (by simp; omega)); have hrow := hls2.1; clear hls2 hls9 hown1) | (at_builtin; refine wpList_append_own _ rfl _ _ 128 rfl w1.heap.size 49 i1 _ 1 24 under128 J0.out J1.out J2.out J3.out rfl (by decide) _ _ vs9 rfl (World.ownsRow.alloc hrow _) ⟨w2.heap.size, 0, none⟩ 1 1 [.slice (some ⟨g2, 0, none⟩) ((p + 1) + 1) cap2] rfl rfl (fun j u hj => World.news_of_block (Blk.new w2 49 #[.slice (some ⟨g2, 0, none⟩) ((p + 1) + 1) cap2]) j u hj) (by simp [Value.oneCell']) (by unfold maxLen; omega) (by omega) (by simp; omega) ?_; intro v3 w3 hown3 hgr3 _; have hfin := hid (inn_next hls2'.out hin2.out hown3 hgr3 (by omega) hbel9 hb2)))
                  exact ⟨⟨jj + 1, by omega, by go_num, hfin.out⟩, by simp [intOf]; omega⟩
                · have hfin := hid (inn_end (W1 := w1) HT.out hls9 (show below - nx l ≤ jj by omega) hbel9)
                  have x1 : ¬ ((nx l + jj : Nat) : Int) < below := by have := hnb.out; omega
                  clear hls9
                  go_wp2
                  exact ⟨⟨j + 1, by omega, by go_num, hfin.out⟩, by simp [intOf]; omega⟩
        · obtain rfl : j = ls.length := by omega
          rw [List.take_length] at hls8
          have hv8 := hls8.1
          obtain ⟨N, hN⟩ : ∃ N, N = (ls.flatMap (ext below)).length := ⟨_, rfl⟩
          rw [← hN] at hv8 hlen2
          obtain ⟨A8, c8, rfl, hsl8⟩ := sl_of_owns hv8
          have HN := hid hN
          have hbel8 := hbel1.trans (hbel2.mono hbel1.size)
          have H8 := hid hls8
          clear hls8 hv8 hsl8 hN
          by_cases hz : N = 0
          · have hlz : lvl below (k + 1) = [] := by rw [hnx.out]; exact List.eq_nil_of_length_eq_zero (HN.out.symm.trans hz)
            have hfew := hid (fewO_none (fewO_next hf.out (by rw [hLS'.out]; exact hfn'.out)) hlz)
            have Hz := hid hz
            have t1 : ((N : Int) == 0) = true := by simp [hz]
            clear hz
            go_wp2
            refine bodyPost_ret (v := .slice none 0 0) (by first | (simp [results, Try.results94, go_sem]; done) | (simp [results, Try.results94, go_sem, World.cell?_setCell_same', *]; done) | (simp [results, Try.results94, go_sem]; first | exact ⟨rfl, rfl⟩ | rfl)) rfl ⟨_, rfl, ?_, hbel8⟩
            rw [hfew.out]
            exact World.ownsRow_nil _ _ _ _
          · have hk : k + 1 ≤ below := by
              rcases Nat.lt_or_ge below (k + 1) with h | h
              · exact absurd (by rw [HN.out, ← hnx.out, lvl_after h]; rfl) hz
              · exact h
            have hfew := hid (fewO_next hf.out (by rw [hLS'.out]; exact hfn'.out))
            have t1 : ((N : Int) == 0) = false := by simp; omega
            have H9 : Hid (∃ vs, LsO wr w.heap.size (.slice A8 N c8) (lvl below (k + 1)) vs) := ⟨_, by rw [hnx.out]; exact H8.out.mono hbel1.size⟩
            clear hz
            go_wp2
            simp only [Exit.noGoto, Exit.inBlock, Exit.then]
            go_step
            go_roundg (gk - 1)
            case measure => omega
            case rel =>
              obtain ⟨vs', h9⟩ := H9.out
              exact ⟨k + 1, vs', by omega, h9, hfew.out, hbel8⟩
    · have hk : k ≤ below := by
        rcases Nat.lt_or_ge below k with h | h
        · have := hfs'.out; rw [lvl_after h] at this; simp at this
        · exact h
      refine bodyPost_ret (v := uu) (by first | (simp [results, Try.results94, go_sem]; done) | (simp [results, Try.results94, go_sem, World.cell?_setCell_same', *]; done) | (simp [results, Try.results94, go_sem]; first | exact ⟨rfl, rfl⟩ | rfl)) rfl ⟨uu, rfl, ?_, hbel.trans (hb1.mono hbel.size)⟩
      rw [fewO_found hf.out hfs'.out hk]
      exact huu
end Go.Proofs.Ytdcglphekafpdaa
namespace Go.Proofs.Ytdcglphekafpdaa
/-- All parts of a row between some melts, from a number on. -/
def partsB (M : Nat → Mt) (s : Nat → Rg) (n : Nat) : Nat → List Int → Bool
  | a, [] => possP M s a n
  | a, x :: l => possP M s a x.toNat && partsB M s n (x.toNat + 1) l
theorem fw_cut {M : Nat → Mt} {s : Nat → Rg} {mask : Nat → Bool} {x : Nat} (h : mask x = true) : ∀ j, fw M s mask (x + 1 + j) = fw (fun i => M (x + 1 + i)) (fun i => s (x + 1 + i)) (fun i => mask (x + 1 + i)) j
  | 0 => by simp [fw, h]
  | j + 1 => by
    show fw M s mask (x + 1 + j + 1) = _
    simp only [fw]
    rw [fw_cut h j]
    rfl
theorem poss_cut {M : Nat → Mt} {s : Nat → Rg} {mask : Nat → Bool} {x n : Nat} (h : mask x = true) (hx : x < n) (h0 : ∀ i, i < x → mask i = false) :
    poss n M s mask = (poss x M s (fun _ => false) && poss (n - (x + 1)) (fun i => M (x + 1 + i)) (fun i => s (x + 1 + i)) (fun i => mask (x + 1 + i))) := by
  rw [Bool.eq_iff_iff, Bool.and_eq_true, poss_t, poss_t, poss_t]
  have e : ∀ k, k ≤ x → fw M s mask k = fw M s (fun _ => false) k := fun k hk => fw_congr (n := x) (fun _ _ => rfl) (fun _ _ => rfl) (fun i hi => h0 i hi) k hk
  constructor
  · intro hp
    refine ⟨fun k hk => ?_, fun k hk => ?_⟩
    · rw [← e k hk]; exact hp k (by omega)
    · rw [← fw_cut h k]; exact hp _ (by omega)
  · rintro ⟨h1, h2⟩ k hk
    rcases Nat.lt_or_ge x k with hlt | hge
    · obtain ⟨j, rfl⟩ : ∃ j, k = x + 1 + j := ⟨k - (x + 1), by omega⟩
      rw [fw_cut h j]; exact h2 j (by omega)
    · rw [e k hge]; exact h1 k hge
theorem Inc.mask_false {below : Nat} : ∀ {l : List Int} {f i : Nat}, Inc below f l → i < f → maskOf l i = false
  | [], _, _, _, _ => rfl
  | x :: l, f, i, ⟨j, hx, h1, h2, h3⟩, hi => by
    have := h3.mask_false (i := i) (by omega)
    simp only [maskOf, List.any_cons, Bool.or_eq_false_iff] at this ⊢
    refine ⟨?_, this⟩
    simp; omega
theorem parts_poss {M : Nat → Mt} {s : Nat → Rg} {n : Nat} : ∀ {l : List Int} {a : Nat}, Inc n a l → a ≤ n → partsB M s n a l = poss (n - a) (fun i => M (a + i)) (fun i => s (a + i)) (fun i => maskOf l (a + i))
  | [], a, _, _ => rfl
  | x :: l, a, ⟨j, hx, h1, h2, h3⟩, ha => by
    subst hx
    have ih := parts_poss (M := M) (s := s) h3 (by omega)
    simp only [partsB, Int.toNat_natCast]
    rw [ih, poss_cut (x := j - a) (n := n - a) (by simp [maskOf]; exact .inl (by omega)) (by omega) (fun i hi => by
      have := h3.mask_false (i := a + i) (by omega)
      simp only [maskOf, List.any_cons, Bool.or_eq_false_iff] at this ⊢
      exact ⟨by simp; omega, this⟩)]
    congr 1
    have e1 : n - a - (j - a + 1) = n - (j + 1) := by omega
    rw [e1]
    refine poss_congr (fun i _ => ?_) (fun i _ => ?_) (fun i hi => ?_)
    · show M _ = M _; congr 1; omega
    · show s _ = s _; congr 1; omega
    · show maskOf l _ = maskOf _ _
      have e2 : a + (j - a + 1 + i) = j + 1 + i := by omega
      rw [e2]
      simp only [maskOf, List.any_cons]
      rw [show ((j : Int) == ((j + 1 + i : Nat) : Int)) = false by simp; omega, Bool.false_or]
theorem parts_all {M : Nat → Mt} {s : Nat → Rg} {n : Nat} {l : List Int} (h : Inc n 0 l) : partsB M s n 0 l = poss n M s (maskOf l) := by
  rw [parts_poss h (by omega)]
  exact poss_congr (fun i _ => by show M _ = M _; rw [Nat.zero_add]) (fun i _ => by show s _ = s _; rw [Nat.zero_add]) (fun i _ => by show maskOf l _ = _; rw [Nat.zero_add])
theorem inc_of_listK {n : Nat} : ∀ {l : List Int} {f : Nat}, (∀ k, k < l.length → (0 ≤ wAt l k ∧ wAt l k < n ∧ (0 < k → wAt l (k - 1) < wAt l k))) → (∀ x, l[0]? = some x → (f : Int) ≤ x) → Inc n f l
  | [], _, _, _ => trivial
  | x :: l, f, h, h0 => by
    have a0 := h 0 (by simp)
    have a1 := h0 x rfl
    have e0 : wAt (x :: l) 0 = x := rfl
    rw [e0] at a0
    refine ⟨x.toNat, by omega, by omega, by omega, inc_of_listK (fun k hk => ?_) (fun y hy => ?_)⟩
    · have := h (k + 1) (by simpa using hk)
      have e1 : wAt (x :: l) (k + 1) = wAt l k := by simp [wAt]
      rw [e1] at this
      refine ⟨this.1, this.2.1, fun hk0 => ?_⟩
      have := this.2.2 (by omega)
      have e2 : wAt (x :: l) (k + 1 - 1) = wAt l (k - 1) := by
        obtain ⟨q, rfl⟩ : ∃ q, k = q + 1 := ⟨k - 1, by omega⟩
        simp [wAt]
      rw [e2] at this; exact this
    · have hl : 0 < l.length := by
        rcases l with _ | ⟨z, l⟩
        · simp at hy
        · simp
      have := (h 1 (by simp; omega)).2.2 (by omega)
      have e2 : wAt (x :: l) (1 - 1) = x := rfl
      have e1 : wAt (x :: l) 1 = y := by
        show ((x :: l)[1]?).getD 0 = y
        rw [List.getElem?_cons_succ, hy]; rfl
      rw [e1, e2] at this; omega
theorem inc_listB {n : Nat} {l : List Int} : listB l n = true ↔ Inc n 0 l := by
  constructor
  · intro h
    refine inc_of_listK (fun k hk => ?_) (fun x hx => ?_)
    · have := List.all_eq_true.1 h k (List.mem_range.2 hk)
      simp only [listK, Bool.and_eq_true, Bool.or_eq_true, beq_iff_eq, decide_eq_true_eq] at this
      exact ⟨this.1.1, this.1.2, fun h0 => this.2.resolve_left (by omega)⟩
    · exact (listB_mem h x (List.mem_of_getElem? hx)).1
  · intro h
    refine List.all_eq_true.2 fun k hk => ?_
    have := h.listK_ k (List.mem_range.1 hk)
    simp only [listK, Bool.and_eq_true, Bool.or_eq_true, beq_iff_eq, decide_eq_true_eq]
    refine ⟨⟨by omega, this.2.1⟩, ?_⟩
    rcases Nat.eq_zero_or_pos k with h0 | h0
    · exact .inl h0
    · exact .inr (this.2.2 h0)
end Go.Proofs.Ytdcglphekafpdaa
namespace Go.Proofs.Ytdcglphekafpdaa
open Go.RowKit Go.Shelf
theorem inc_drop {n a k : Nat} {l : List Int} {x : Int} (h : Inc n a (l.drop k)) (hx : l[k]? = some x) : ∃ y : Nat, x = y ∧ a ≤ y ∧ y < n ∧ Inc n (y + 1) (l.drop (k + 1)) ∧ l.drop k = (y : Int) :: l.drop (k + 1) := by
  obtain ⟨hk, e⟩ := List.getElem?_eq_some_iff.1 hx
  have hd : l.drop k = x :: l.drop (k + 1) := by rw [List.drop_eq_getElem_cons hk, e]
  rw [hd] at h
  obtain ⟨y, rfl, h1, h2, h3⟩ := h
  exact ⟨y, rfl, h1, h2, h3, hd⟩
theorem below_gr {B g : Nat} {a w w' : World} (h : Below B a w) (k : w.grownBy w' (some g)) (hg : B ≤ g) (hB : B ≤ w.heap.size) : Below B a w' := h.grown k hB (by intro k' hk'; cases hk'; exact hg)

set_option maxRecDepth 100000 in
set_option maxHeartbeats 1000000 in
theorem parted_any (w : World) (g : Nat) (A A2 : Option Addr) (n c n2 c2 : Nat) (row : List Mt) (s : Nat → Rg) (ws : List Int) (hbk : Book w g (.slice A n c) s) (hr : MtS w w.heap.size A n row) (hn : n ≤ 7) (hn1 : 1 ≤ n) (hc : n ≤ c) (hok : row.all okM = true) (hs : okS s) (hne : ∀ i, i ≤ n → (s i).lo ≤ (s i).hi)
    (hw : InS w w.heap.size A2 n2 ws) (hn2 : n2 ≤ 100) (hwl : Inc n 0 ws) :
    Calls Try.prog 98 #[.pointer (some ⟨g, 0, none⟩), .slice A2 n2 c2] w fun e w' => e = .returned (.bool (partsB (mAt row) s n 0 ws)) ∧ Below w.heap.size w w' := by
  have hlen := hid hw.len
  have HO := hid hok
  have HS := hid hs
  have HE := hid hne
  have HB := hid hbk
  have hg := Blk.lt hbk
  have e17 : w.cell? ⟨g, 0, none⟩ = some (.slice A n c) := Blk.cell hbk 0
  clear hok hs hne hbk
  go_enter Try.func98, Try.ntmps98
  go_wp2
  have hb1 : Below w.heap.size w ((w.alloc (.cells #[.pointer (some ⟨g, 0, none⟩)] 102)).alloc (.cells #[.int .i64 0] 3)) := ((Below.refl _ _).alloc (Nat.le_refl _) _).alloc (by simp) _
  go_loopw [12] (fun i wr => ∃ k a : Nat, k ≤ n2 ∧ i = .int .i64 k ∧ Hid (Blk wr (w.heap.size + 1) 3 #[.int .i64 a]) ∧ Hid (Blk wr w.heap.size 102 #[.pointer (some ⟨g, 0, none⟩)]) ∧ Hid (partsB (mAt row) s n 0 ws = partsB (mAt row) s n a (ws.drop k)) ∧ Hid (Inc n a (ws.drop k)) ∧ a ≤ n ∧ Below w.heap.size w wr) (fun i _ => n2 - (intOf i).toNat)
  case atStart => exact ⟨0, 0, by omega, rfl, hid (by simpa using Blk.new (w.alloc (.cells #[.pointer (some ⟨g, 0, none⟩)] 102)) 3 #[.int .i64 0]), (Blk.new w 102 _).alloc _, rfl, hwl, by omega, hb1⟩
  case round =>
    obtain ⟨k, a, hk, rfl, hpf, hpb, hps, hin, ha, hbel⟩ := hrel
    have hbw := hid (HB.out.below hbel hg)
    have l1 := hpf.out.lt
    by_cases hlt : k < n2
    · obtain ⟨b, off, x, rfl, hb, hm, c0⟩ := (hw.below hbel (Nat.le_refl _)).at_ hlt
      obtain ⟨y, rfl, hy1, hy2, hy3, hy4⟩ := inc_drop hin.out hm
      have H3 := hid hy3
      have H4 := hid (hps.out.trans (by rw [hy4]; rfl : partsB (mAt row) s n a (ws.drop k) = (possP (mAt row) s a y && partsB (mAt row) s n (y + 1) (ws.drop (k + 1)))))
      clear hm hy3 hy4
      cases hp : possP (mAt row) s a y
      · rw [hp] at H4
        go_wp2_with (first | (go_at_call 113; refine (parted1_any _ w.heap.size (w.heap.size + 1) g A n c row s a y hpb.out hpf.out hbw.out (hr.below hbel (by omega)) hn hn1 hc HO.out HS.out HE.out hy1 (by omega)).mono ?_; rw [hp]; rintro e w1 ⟨rfl, hpf1, hgr1⟩))
        go_ret
        exact ⟨by rw [H4.out]; rfl, below_gr hbel hgr1 (by omega) (by omega)⟩
      · rw [hp] at H4
        go_wp2_with (first | (go_at_call 113; refine (parted1_any _ w.heap.size (w.heap.size + 1) g A n c row s a y hpb.out hpf.out hbw.out (hr.below hbel (by omega)) hn hn1 hc HO.out HS.out HE.out hy1 (by omega)).mono ?_; rw [hp]; rintro e w1 ⟨rfl, hpf1, hgr1⟩; have hpf1' := hid hpf1; have hpb1' := hid (hpb.out.grown hgr1 (by simp)); clear hpf1))
        exact ⟨⟨k + 1, y + 1, by omega, by go_num, hpf1', hpb1', hid (by rw [H4.out, Bool.true_and]), H3, by omega, below_gr hbel hgr1 (by omega) (by omega)⟩, by simp [intOf]; omega⟩
    · obtain rfl : k = n2 := by omega
      have hfin := hid (hps.out.trans (by rw [List.drop_of_length_le (by rw [hlen.out]; omega)]; rfl : _ = possP (mAt row) s a n))
      have q0 := hpb.out.cell 0
      have q1 : wr.cell? ⟨g, 0, none⟩ = some (.slice A n c) := Blk.cell hbw.out 0
      go_wp2_with (first | (go_at_call 113; refine (parted1_any _ w.heap.size (w.heap.size + 1) g A n c row s a n hpb.out hpf.out hbw.out (hr.below hbel (by omega)) hn hn1 hc HO.out HS.out HE.out ha (Nat.le_refl _)).mono ?_; rintro e w1 ⟨rfl, hpf1, hgr1⟩))
      go_ret
      exact ⟨by rw [hfin.out]; rfl, below_gr hbel hgr1 (by omega) (by omega)⟩
end Go.Proofs.Ytdcglphekafpdaa
namespace Go.Proofs.Ytdcglphekafpdaa
open Go.RowKit Go.Shelf
set_option maxHeartbeats 1000000 in
theorem dCheckMelts_any (w : World) (A A' A2 : Option Addr) (n c n' c' n2 c2 : Nat) (row : List Mt) (sc : List Rg) (ws : List Int) (hr : MtS w w.heap.size A n row) (hn : n ≤ 12) (hnc : n ≤ c) (hr' : RgS w w.heap.size A' n' sc) (hn' : n' ≤ 12)
    (hw : InS w w.heap.size A2 n2 ws) (hn2 : n2 ≤ 100) :
    Calls Try.prog 45 #[.slice A n c, .slice A' n' c', .slice A2 n2 c2] w fun e w' => e = .returned (.int .i64 (meltsE row sc ws)) ∧ Below w.heap.size w w' := by
  by_cases h0 : checkScales row sc = 0
  · obtain ⟨k1, k2, k3⟩ := checkScales_ok h0
    obtain ⟨k4, k5, k6⟩ := checkRow_ok k1
    have hlen := hr.len
    have hlen' := hr'.len
    have H0 := hid h0
    have H6 := hid k6
    have H3 := hid k3
    have hn7 : n ≤ 7 := by omega
    have hn1 : 1 ≤ n := by omega
    have hn1000 : (n : Int) ≤ 1000 := by omega
    have hn0 : (0 : Int) ≤ n := by omega
    have hnn : Hid (n' = n + 1) := hid (by omega)
    cases hl : listB ws n
    · have he : Hid (meltsE row sc ws = 3) := by unfold meltsE; rw [if_neg (by simp [h0]), hlen, hl]; trivial
      have Hl := hid hl
      clear h0 k1 k2 k3 k4 k5 k6 hlen hlen' hl
      go_enter Try.func45, Try.ntmps45
      go_wp2_with (first | (go_at_call 80; refine (open_ok _ A A' n c n' c' row sc hr hn hr' hn' H0.out).mono ?_; rintro e w1 ⟨g, rfl, hg, hbk, hb1⟩) | (go_at_call 100; refine (rising_any _ A2 n2 c2 ws _ (hw.below hb1 hb1.size) hn2 hn0 hn1000).mono ?_; rw [Hl.out]; rintro e w2 ⟨rfl, hb2⟩))
      refine bodyPost_ret (v := .int .i64 3) (by first | (simp [results, Try.results45, go_sem]; done) | (simp [results, Try.results45, go_sem, World.cell?_setCell_same', *]; done) | (simp [results, Try.results45, go_sem]; first | exact ⟨rfl, rfl⟩ | rfl)) rfl ⟨by rw [he.out], hb1.trans (hb2.mono hb1.size)⟩
    · have Hl := hid hl
      have HI := hid (inc_listB.1 hl)
      have HNE : Hid (∀ i, i ≤ n → (sAt sc i).lo ≤ (sAt sc i).hi) := hid (fun i _ => sAt_ne k3 i)
      cases hp : poss n (mAt row) (sAt sc) (maskOf ws)
      · have he : Hid (meltsE row sc ws = 14) := by unfold meltsE; rw [if_neg (by simp [h0]), hlen, hl, hp]; trivial
        have Hp := hid ((parts_all HI.out).trans hp)
        clear h0 k1 k2 k3 k4 k5 k6 hlen hlen' hl hp
        go_enter Try.func45, Try.ntmps45
        go_wp2_with (first | (go_at_call 80; refine (open_ok _ A A' n c n' c' row sc hr hn hr' hn' H0.out).mono ?_; rintro e w1 ⟨g, rfl, hg, hbk, hb1⟩; have hgl := Blk.lt hbk) | (go_at_call 100; refine (rising_any _ A2 n2 c2 ws _ (hw.below hb1 hb1.size) hn2 hn0 hn1000).mono ?_; rw [Hl.out]; rintro e w2 ⟨rfl, hb2⟩; have hbel2 := hb1.trans (hb2.mono hb1.size); have hsz2 := hbel2.size) | (go_at_call 98; refine (parted_any _ g A A2 n c n2 c2 row (sAt sc) ws (Blk.below hbk hb2 hgl) (hr.below hbel2 hsz2) hn7 hn1 hnc H6.out (okS_sAt H3.out) HNE.out (hw.below hbel2 hsz2) hn2 HI.out).mono ?_; rw [Hp.out]; rintro e w3 ⟨rfl, hb3⟩))
        refine bodyPost_ret (v := .int .i64 14) (by first | (simp [results, Try.results45, go_sem]; done) | (simp [results, Try.results45, go_sem, World.cell?_setCell_same', *]; done) | (simp [results, Try.results45, go_sem]; first | exact ⟨rfl, rfl⟩ | rfl)) rfl ⟨by rw [he.out], hbel2.trans (hb3.mono hsz2)⟩
      · have he : Hid (meltsE row sc ws = 0) := by unfold meltsE; rw [if_neg (by simp [h0]), hlen, hl, hp]; trivial
        have Hp := hid ((parts_all HI.out).trans hp)
        clear h0 k1 k2 k3 k4 k5 k6 hlen hlen' hl hp
        go_enter Try.func45, Try.ntmps45
        go_wp2_with (first | (go_at_call 80; refine (open_ok _ A A' n c n' c' row sc hr hn hr' hn' H0.out).mono ?_; rintro e w1 ⟨g, rfl, hg, hbk, hb1⟩; have hgl := Blk.lt hbk) | (go_at_call 100; refine (rising_any _ A2 n2 c2 ws _ (hw.below hb1 hb1.size) hn2 hn0 hn1000).mono ?_; rw [Hl.out]; rintro e w2 ⟨rfl, hb2⟩; have hbel2 := hb1.trans (hb2.mono hb1.size); have hsz2 := hbel2.size) | (go_at_call 98; refine (parted_any _ g A A2 n c n2 c2 row (sAt sc) ws (Blk.below hbk hb2 hgl) (hr.below hbel2 hsz2) hn7 hn1 hnc H6.out (okS_sAt H3.out) HNE.out (hw.below hbel2 hsz2) hn2 HI.out).mono ?_; rw [Hp.out]; rintro e w3 ⟨rfl, hb3⟩))
        refine bodyPost_ret (v := .int .i64 0) (by first | (simp [results, Try.results45, go_sem]; done) | (simp [results, Try.results45, go_sem, World.cell?_setCell_same', *]; done) | (simp [results, Try.results45, go_sem]; first | exact ⟨rfl, rfl⟩ | rfl)) rfl ⟨by rw [he.out], hbel2.trans (hb3.mono hsz2)⟩
  · have he : Hid (meltsE row sc ws = checkScales row sc) := by unfold meltsE; rw [if_pos h0]; trivial
    have hc : (checkScales row sc != 0) = true := by simp [h0]
    have H0 := hid h0
    clear h0
    go_enter Try.func45, Try.ntmps45
    go_wp2_with (first | (go_at_call 80; refine (open_bad _ A A' n c n' c' row sc hr hn hr' hn' H0.out).mono ?_; rintro e w1 ⟨rfl, hb1⟩))
    refine bodyPost_ret (v := .int .i64 (checkScales row sc)) (by first | (simp [results, Try.results45, go_sem]; done) | (simp [results, Try.results45, go_sem, World.cell?_setCell_same', *]; done) | (simp [results, Try.results45, go_sem]; first | exact ⟨rfl, rfl⟩ | rfl)) rfl ⟨by rw [he.out], hb1⟩

/-- The fewest scales, and melts, that must be wrong. -/
def wrongG (row : List Mt) (sc : List Rg) (l : List Int) : Bool := poss row.length (mAt row) (frS (sAt sc) l) (fun _ => false)
def meltsG (row : List Mt) (sc : List Rg) (l : List Int) : Bool := poss row.length (mAt row) (sAt sc) (maskOf l)
def wrongL (row : List Mt) (sc : List Rg) : List Int := if checkScales row sc = 0 then fewL sc.length (wrongG row sc) else []
def meltsL (row : List Mt) (sc : List Rg) : List Int := if checkScales row sc = 0 then fewL row.length (meltsG row sc) else []
def LPost (l : List Int) (err : Int) (w : World) (e : Ending) (w' : World) : Prop := ∃ u, e = .returned (.tuple #[u, .int .i64 err]) ∧ InO w' w.heap.size u l ∧ Below w.heap.size w w'

set_option maxHeartbeats 1000000 in
theorem dWrong_any (w : World) (A A' : Option Addr) (n c n' c' : Nat) (row : List Mt) (sc : List Rg) (hr : MtS w w.heap.size A n row) (hn : n ≤ 12) (hr' : RgS w w.heap.size A' n' sc) (hn' : n' ≤ 12) :
    Calls Try.prog 39 #[.slice A n c, .slice A' n' c'] w (LPost (wrongL row sc) (checkScales row sc) w) := by
  by_cases h0 : checkScales row sc = 0
  · obtain ⟨k1, k2, k3⟩ := checkScales_ok h0
    obtain ⟨k4, k5, k6⟩ := checkRow_ok k1
    have hlen := hr.len
    have hlen' := hr'.len
    have H0 := hid h0
    have H6 := hid k6
    have H3 := hid k3
    have hn7 : n ≤ 7 := by omega
    have hn1 : 1 ≤ n := by omega
    have hn1000 : (n : Int) ≤ 1000 := by omega
    have hn0 : (0 : Int) ≤ n := by omega
    have hnn : Hid (n' = n + 1) := hid (by omega)
    have he : Hid (wrongL row sc = fewL n' (wrongG row sc)) := hid (by unfold wrongL; rw [if_pos h0, hlen'])
    have hn8 : n' ≤ 8 := by omega
    have Hlen := hid hlen
    clear h0 k1 k2 k3 k4 k5 k6 hlen hlen'
    go_enter Try.func39, Try.ntmps39
    go_wp2_with (first | (go_at_call 80; refine (open_ok _ A A' n c n' c' row sc hr hn hr' hn' H0.out).mono ?_; rintro e w1 ⟨g, rfl, hg, hbk, hb1⟩; have hgl := Blk.lt hbk; have hS : Says 95 g w1 (Inc n' 0) (wrongG row sc) := (fun W Ao co l hW hi hin => by unfold wrongG; rw [Hlen.out]; exact without_any W g A Ao n c _ co row (sAt sc) l (Blk.below hbk hW hgl) ((hr.below hb1 hb1.size).below hW hW.size) hn7 hn1 H6.out (okS_sAt H3.out) hin (by have := hi.len_le; omega) (by rw [show (n : Int) + 1 = (n' : Int) by have := hnn.out; omega]; exact inc_listB.2 hi)); have HS := hid hS; clear hS) | (go_at_call 94; refine (few95_any g w1 (wrongG row sc) n' hn8 HS.out).mono ?_; rintro e w2 ⟨u, rfl, hu, hb2⟩))
    refine bodyPost_ret (v := .tuple #[u, .int .i64 0]) (by first | (simp [results, Try.results39, go_sem]; done) | (simp [results, Try.results39, go_sem, World.cell?_setCell_same', *]; done) | (simp [results, Try.results39, go_sem]; first | exact ⟨rfl, rfl⟩ | rfl)) rfl ⟨u, by rw [H0.out], by rw [he.out]; exact owns_mono hu hb1.size, hb1.trans (hb2.mono hb1.size)⟩
  · have he : Hid (wrongL row sc = []) := by unfold wrongL; rw [if_neg h0]; trivial
    have hc : (checkScales row sc != 0) = true := by simp [h0]
    have H0 := hid h0
    clear h0
    go_enter Try.func39, Try.ntmps39
    go_wp2_with (first | (go_at_call 80; refine (open_bad _ A A' n c n' c' row sc hr hn hr' hn' H0.out).mono ?_; rintro e w1 ⟨rfl, hb1⟩))
    refine bodyPost_ret (v := .tuple #[.slice none 0 0, .int .i64 (checkScales row sc)]) (by first | (simp [results, Try.results39, go_sem]; done) | (simp [results, Try.results39, go_sem, World.cell?_setCell_same', *]; done) | (simp [results, Try.results39, go_sem]; first | exact ⟨rfl, rfl⟩ | rfl)) rfl ⟨_, rfl, by rw [he.out]; exact World.ownsRow_nil _ _ _ _, hb1⟩

set_option maxHeartbeats 1000000 in
theorem dMelts_any (w : World) (A A' : Option Addr) (n c n' c' : Nat) (row : List Mt) (sc : List Rg) (hr : MtS w w.heap.size A n row) (hn : n ≤ 12) (hnc : n ≤ c) (hr' : RgS w w.heap.size A' n' sc) (hn' : n' ≤ 12) :
    Calls Try.prog 41 #[.slice A n c, .slice A' n' c'] w (LPost (meltsL row sc) (checkScales row sc) w) := by
  by_cases h0 : checkScales row sc = 0
  · obtain ⟨k1, k2, k3⟩ := checkScales_ok h0
    obtain ⟨k4, k5, k6⟩ := checkRow_ok k1
    have hlen := hr.len
    have hlen' := hr'.len
    have H0 := hid h0
    have H6 := hid k6
    have H3 := hid k3
    have hn7 : n ≤ 7 := by omega
    have hn1 : 1 ≤ n := by omega
    have hn1000 : (n : Int) ≤ 1000 := by omega
    have hn0 : (0 : Int) ≤ n := by omega
    have hnn : Hid (n' = n + 1) := hid (by omega)
    have he : Hid (meltsL row sc = fewL n (meltsG row sc)) := hid (by unfold meltsL; rw [if_pos h0, hlen])
    have hn8 : n ≤ 8 := by omega
    have Hlen := hid hlen
    have HNE : Hid (∀ i, i ≤ n → (sAt sc i).lo ≤ (sAt sc i).hi) := hid (fun i _ => sAt_ne k3 i)
    clear h0 k1 k2 k3 k4 k5 k6 hlen hlen'
    go_enter Try.func41, Try.ntmps41
    go_wp2_with (first | (go_at_call 80; refine (open_ok _ A A' n c n' c' row sc hr hn hr' hn' H0.out).mono ?_; rintro e w1 ⟨g, rfl, hg, hbk, hb1⟩; have hgl := Blk.lt hbk; have hS : Says 98 g w1 (Inc n 0) (meltsG row sc) := (fun W Ao co l hW hi hin => by unfold meltsG; rw [Hlen.out, ← parts_all hi]; exact parted_any W g A Ao n c _ co row (sAt sc) l (Blk.below hbk hW hgl) ((hr.below hb1 hb1.size).below hW hW.size) hn7 hn1 hnc H6.out (okS_sAt H3.out) HNE.out hin (by have := hi.len_le; omega) hi); have HS := hid hS; clear hS) | (go_at_call 94; refine (few98_any g w1 (meltsG row sc) n hn8 HS.out).mono ?_; rintro e w2 ⟨u, rfl, hu, hb2⟩))
    refine bodyPost_ret (v := .tuple #[u, .int .i64 0]) (by first | (simp [results, Try.results41, go_sem]; done) | (simp [results, Try.results41, go_sem, World.cell?_setCell_same', *]; done) | (simp [results, Try.results41, go_sem]; first | exact ⟨rfl, rfl⟩ | rfl)) rfl ⟨u, by rw [H0.out], by rw [he.out]; exact owns_mono hu hb1.size, hb1.trans (hb2.mono hb1.size)⟩
  · have he : Hid (meltsL row sc = []) := by unfold meltsL; rw [if_neg h0]; trivial
    have hc : (checkScales row sc != 0) = true := by simp [h0]
    have H0 := hid h0
    clear h0
    go_enter Try.func41, Try.ntmps41
    go_wp2_with (first | (go_at_call 80; refine (open_bad _ A A' n c n' c' row sc hr hn hr' hn' H0.out).mono ?_; rintro e w1 ⟨rfl, hb1⟩))
    refine bodyPost_ret (v := .tuple #[.slice none 0 0, .int .i64 (checkScales row sc)]) (by first | (simp [results, Try.results41, go_sem]; done) | (simp [results, Try.results41, go_sem, World.cell?_setCell_same', *]; done) | (simp [results, Try.results41, go_sem]; first | exact ⟨rfl, rfl⟩ | rfl)) rfl ⟨_, rfl, by rw [he.out]; exact World.ownsRow_nil _ _ _ _, hb1⟩
end Go.Proofs.Ytdcglphekafpdaa
