/- Texts of the proof, laid together by program. -/
import Derived.Test.YtdcglphekafpdaaMb
import Derived.Test.YtdcglphekafpdaaMa
import Derived.Test.YtdcglphekafpdaaMc
import Derived.Laws.CopyRow
import Derived.OwnWalk
/- Plain law: truths, with wrong melts left out; what the reference narrows forward. -/
namespace Go.Proofs.Ytdcglphekafpdaa
def sAt (l : List Rg) (i : Nat) : Rg := (l[i]?).getD ⟨0, 0⟩
theorem sAt_of {l : List Rg} {i : Nat} {r : Rg} (h : l[i]? = some r) : sAt l i = r := by rw [sAt, h]; rfl
def wAt (l : List Int) (i : Nat) : Int := (l[i]?).getD 0
theorem wAt_of {l : List Int} {i : Nat} {x : Int} (h : l[i]? = some x) : wAt l i = x := by rw [wAt, h]; rfl
theorem okS_sAt {l : List Rg} (h : l.all okW = true) : okS (sAt l) := fun i => by
  unfold sAt
  cases hi : l[i]? with
  | none => simp
  | some r =>
    have h1 := List.all_eq_true.1 h r (List.mem_of_getElem? hi)
    have h2 := okR_t.1 h1
    simp only [Option.getD_some]
    omega
theorem sAt_ne {l : List Rg} (h : l.all okW = true) (i : Nat) : (sAt l i).lo ≤ (sAt l i).hi := by
  unfold sAt
  cases hi : l[i]? with
  | none => simp
  | some r =>
    have h1 := List.all_eq_true.1 h r (List.mem_of_getElem? hi)
    have h2 := okR_t.1 h1
    simp only [Option.getD_some]
    omega

/-- Weights are a truth. -/
def stepT (M : Nat → Mt) (s : Nat → Rg) (w : Nat → Int) (k : Nat) : Bool := inR (s k) (w k) && (k == 0 || inR (melted (M (k - 1)) ⟨w (k - 1), w (k - 1)⟩) (w k))
def isT (n : Nat) (M : Nat → Mt) (s : Nat → Rg) (w : Nat → Int) : Bool := (List.range (n + 1)).all (stepT M s w)
theorem inR_t {r : Rg} {x : Int} : inR r x = true ↔ r.lo ≤ x ∧ x ≤ r.hi := by simp [inR]
theorem isT_iff {n : Nat} {M : Nat → Mt} {s : Nat → Rg} {w : Nat → Int} : isT n M s w = true ↔ Truth n M s w := by
  simp only [isT, List.all_eq_true, List.mem_range, stepT, Bool.and_eq_true, Bool.or_eq_true, beq_iff_eq, inR_t, melted_lo, melted_hi]
  constructor
  · intro h
    refine ⟨fun i hi => (h i (by omega)).1, fun i hi => ?_⟩
    have := (h (i + 1) (by omega)).2
    rcases this with h1 | h1
    · omega
    · simpa using h1
  · intro h k hk
    refine ⟨h.1 k (by omega), ?_⟩
    cases k with
    | zero => exact .inl rfl
    | succ k => exact .inr (by simpa using h.2 k (by omega))

/-- The first k scales narrowed to given weights. -/
def nrw (s : Nat → Rg) (w : Nat → Int) (k : Nat) : Nat → Rg := fun j => if j < k then meet (s j) ⟨w j, w j⟩ else s j
theorem nrw_zero (s : Nat → Rg) (w : Nat → Int) : nrw s w 0 = s := by funext j; simp [nrw]
theorem nrw_at (s : Nat → Rg) (w : Nat → Int) (k : Nat) : nrw s w k k = s k := by simp [nrw]
theorem nrw_upd (s : Nat → Rg) (w : Nat → Int) (k : Nat) : upd (nrw s w k) k (meet (s k) ⟨w k, w k⟩) = nrw s w (k + 1) := by
  funext j
  by_cases h : j = k
  · subst h; rw [upd_same]; simp [nrw]
  · rw [upd_ne _ _ h]
    simp only [nrw]
    by_cases h2 : j < k
    · rw [if_pos h2, if_pos (by omega)]
    · rw [if_neg h2, if_neg (by omega)]
theorem okS_nrw {s : Nat → Rg} {w : Nat → Int} {k : Nat} (h : okS s) (hw : ∀ j, j < k → 0 ≤ w j ∧ w j ≤ 1000000) : okS (nrw s w k) := fun j => by
  have h1 := h j
  simp only [nrw]
  split
  · rename_i hj
    have := hw j hj
    simp only [meet]
    omega
  · exact h1
theorem truth_nrw {n : Nat} {M : Nat → Mt} {s : Nat → Rg} {w : Nat → Int} {k : Nat} (hk : n < k) : (∃ T, Truth n M (nrw s w k) T) ↔ Truth n M s w := by
  constructor
  · rintro ⟨T, h1, h2⟩
    have e : ∀ i, i ≤ n → T i = w i ∧ (s i).lo ≤ w i ∧ w i ≤ (s i).hi := fun i hi => by
      have := h1 i hi
      simp only [nrw, if_pos (show i < k by omega), meet] at this
      omega
    exact ⟨fun i hi => (e i hi).2, fun i hi => by have := h2 i hi; rwa [(e i (by omega)).1, (e (i + 1) (by omega)).1] at this⟩
  · intro h
    refine ⟨w, fun i hi => ?_, h.2⟩
    have := h.1 i hi
    simp only [nrw, if_pos (show i < k by omega), meet]
    omega

/-- A truth in which some melts may be wrong. -/
def TruthM (n : Nat) (M : Nat → Mt) (s : Nat → Rg) (mask : Nat → Bool) (T : Nat → Int) : Prop :=
  (∀ i, i ≤ n → (s i).lo ≤ T i ∧ T i ≤ (s i).hi) ∧ ∀ i, i < n → mask i = false → one (M i) true (T i) ≤ T (i + 1) ∧ T (i + 1) ≤ one (M i) false (T i)
theorem truthM_none {n : Nat} {M : Nat → Mt} {s : Nat → Rg} {T : Nat → Int} : TruthM n M s (fun _ => false) T ↔ Truth n M s T :=
  ⟨fun h => ⟨h.1, fun i hi => h.2 i hi rfl⟩, fun h => ⟨h.1, fun i hi _ => h.2 i hi⟩⟩
/-- What the reference narrows forward. -/
def fw (M : Nat → Mt) (s : Nat → Rg) (mask : Nat → Bool) : Nat → Rg
  | 0 => s 0
  | k + 1 => if mask k then s (k + 1) else meet (s (k + 1)) (melted (M k) (fw M s mask k))
def neR (r : Rg) : Bool := decide (r.lo ≤ r.hi)
def poss (n : Nat) (M : Nat → Mt) (s : Nat → Rg) (mask : Nat → Bool) : Bool := (List.range (n + 1)).all fun k => neR (fw M s mask k)
theorem poss_t {n : Nat} {M : Nat → Mt} {s : Nat → Rg} {mask : Nat → Bool} : poss n M s mask = true ↔ ∀ k, k ≤ n → (fw M s mask k).lo ≤ (fw M s mask k).hi := by
  simp only [poss, List.all_eq_true, List.mem_range, neR, decide_eq_true_eq]
  exact ⟨fun h k hk => h k (by omega), fun h k hk => h k (by omega)⟩
theorem fw_sub (M : Nat → Mt) (s : Nat → Rg) (mask : Nat → Bool) (k : Nat) : (s k).lo ≤ (fw M s mask k).lo ∧ (fw M s mask k).hi ≤ (s k).hi := by
  cases k with
  | zero => exact ⟨Int.le_refl _, Int.le_refl _⟩
  | succ k =>
    unfold fw
    split
    · exact ⟨Int.le_refl _, Int.le_refl _⟩
    · simp only [meet]; omega
theorem fw_in {n : Nat} {M : Nat → Mt} {s : Nat → Rg} {mask : Nat → Bool} (hM : ∀ i, i < n → okM (M i) = true) {T : Nat → Int} (h : TruthM n M s mask T) : ∀ k, k ≤ n → (fw M s mask k).lo ≤ T k ∧ T k ≤ (fw M s mask k).hi := by
  intro k
  induction k with
  | zero => intro hk; exact h.1 0 hk
  | succ k ih =>
    intro hk
    have h1 := ih (by omega)
    have h2 := h.1 (k + 1) hk
    unfold fw
    by_cases hm : mask k = true
    · rw [if_pos hm]; exact h2
    · rw [if_neg hm]
      have h3 := h.2 k (by omega) (by simpa using hm)
      have a1 := one_mono (hM k (by omega)) true h1.1
      have a2 := one_mono (hM k (by omega)) false h1.2
      simp only [meet, melted_lo, melted_hi]
      omega
theorem fw_wit {n : Nat} {M : Nat → Mt} {s : Nat → Rg} {mask : Nat → Bool} (hM : ∀ i, i < n → okM (M i) = true) (hs : okS s) (hp : ∀ k, k ≤ n → (fw M s mask k).lo ≤ (fw M s mask k).hi) :
    ∀ k, k ≤ n → ∀ v, (fw M s mask k).lo ≤ v → v ≤ (fw M s mask k).hi → ∃ T, T k = v ∧ TruthM k M s mask T := by
  intro k
  induction k with
  | zero => intro _ v h1 h2; exact ⟨fun _ => v, rfl, fun i hi => by obtain rfl : i = 0 := by omega
                                                                    exact ⟨h1, h2⟩, fun i hi => by omega⟩
  | succ k ih =>
    intro hk v h1 h2
    have hsub := fw_sub M s mask (k + 1)
    have hb := fw_sub M s mask k
    have hne := hp k (by omega)
    have hsk := hs k
    have key : ∃ x, (fw M s mask k).lo ≤ x ∧ x ≤ (fw M s mask k).hi ∧ (mask k = false → one (M k) true x ≤ v ∧ v ≤ one (M k) false x) := by
      by_cases hm : mask k = true
      · exact ⟨(fw M s mask k).lo, Int.le_refl _, hne, fun h => by rw [hm] at h; cases h⟩
      · have e : fw M s mask (k + 1) = meet (s (k + 1)) (melted (M k) (fw M s mask k)) := by show (if mask k = true then _ else _) = _; rw [if_neg hm]
        rw [e] at h1 h2
        simp only [meet, melted_lo, melted_hi] at h1 h2
        obtain ⟨x, x1, x2, x3, x4⟩ := back_wit (hM k (by omega)) (r := fw M s mask k) (by omega) hne (by omega) (y := v) (by omega) (by omega)
        exact ⟨x, x1, x2, fun _ => ⟨x3, x4⟩⟩
    obtain ⟨x, x1, x2, x3⟩ := key
    obtain ⟨T, hT, t1, t2⟩ := ih (by omega) x x1 x2
    refine ⟨fun i => if i = k + 1 then v else T i, by simp, fun i hi => ?_, fun i hi hm => ?_⟩
    · by_cases h : i = k + 1
      · subst h; simp only [if_true]; omega
      · simp only [h, if_false]; exact t1 i (by omega)
    · by_cases h : i = k
      · subst h
        simp only [if_true, show ¬ i = i + 1 by omega, if_false, hT]
        exact x3 hm
      · simp only [show ¬ i + 1 = k + 1 by omega, show ¬ i = k + 1 by omega, if_false]
        exact t2 i (by omega) hm
theorem poss_iff {n : Nat} {M : Nat → Mt} {s : Nat → Rg} {mask : Nat → Bool} (hM : ∀ i, i < n → okM (M i) = true) (hs : okS s) : poss n M s mask = true ↔ ∃ T, TruthM n M s mask T := by
  rw [poss_t]
  constructor
  · intro h
    obtain ⟨T, _, hT⟩ := fw_wit hM hs h n (Nat.le_refl _) _ (Int.le_refl _) (h n (Nat.le_refl _))
    exact ⟨T, hT⟩
  · rintro ⟨T, hT⟩ k hk
    have := fw_in hM hT k hk
    omega
theorem truth_sub {n : Nat} {M : Nat → Mt} {s s' : Nat → Rg} (h : Sub s' s) {T : Nat → Int} (hT : Truth n M s' T) : Truth n M s T :=
  ⟨fun i hi => by have := h i; have := hT.1 i hi; omega, hT.2⟩
theorem Settled.some {n : Nat} {M : Nat → Mt} {s s' : Nat → Rg} (h : Settled n M s s') (hM : ∀ i, i < n → okM (M i) = true) : ∃ T, Truth n M s T := by
  obtain ⟨T, h1, h2⟩ := h.wit hM (j := 0) (by omega) (v := (s' 0).lo) (Int.le_refl _) h.first
  exact ⟨T, truth_sub h.nar.1 h1⟩
theorem poss_none {n : Nat} {M : Nat → Mt} {s : Nat → Rg} (hM : ∀ i, i < n → okM (M i) = true) (hs : okS s) : poss n M s (fun _ => false) = true ↔ ∃ T, Truth n M s T := by
  rw [poss_iff hM hs]
  exact ⟨fun ⟨T, h⟩ => ⟨T, truthM_none.1 h⟩, fun ⟨T, h⟩ => ⟨T, truthM_none.2 h⟩⟩
end Go.Proofs.Ytdcglphekafpdaa
/- Plain law: between which ends the weights of truths are. -/
namespace Go.Proofs.Ytdcglphekafpdaa
/-- The ranges r are just the weights of truths. -/
def Tight (n : Nat) (M : Nat → Mt) (s r : Nat → Rg) : Prop :=
  ∀ i, i ≤ n → (∀ T, Truth n M s T → (r i).lo ≤ T i ∧ T i ≤ (r i).hi) ∧ ∀ v, (r i).lo ≤ v → v ≤ (r i).hi → ∃ T, Truth n M s T ∧ T i = v
theorem Tight.eq {n : Nat} {M : Nat → Mt} {s r q : Nat → Rg} (h : Tight n M s r) (k : Tight n M s q) (hT : ∃ T, Truth n M s T) : ∀ i, i ≤ n → r i = q i := by
  intro i hi
  obtain ⟨T, hT⟩ := hT
  have h1 := (h i hi).1 T hT
  have k1 := (k i hi).1 T hT
  obtain ⟨T1, t1, e1⟩ := (h i hi).2 (r i).lo (Int.le_refl _) (by omega)
  obtain ⟨T2, t2, e2⟩ := (h i hi).2 (r i).hi (by omega) (Int.le_refl _)
  obtain ⟨T3, t3, e3⟩ := (k i hi).2 (q i).lo (Int.le_refl _) (by omega)
  obtain ⟨T4, t4, e4⟩ := (k i hi).2 (q i).hi (by omega) (Int.le_refl _)
  have a1 := (k i hi).1 T1 t1
  have a2 := (k i hi).1 T2 t2
  have a3 := (h i hi).1 T3 t3
  have a4 := (h i hi).1 T4 t4
  have b1 : (r i).lo = (q i).lo := by omega
  have b2 : (r i).hi = (q i).hi := by omega
  cases hr : r i with
  | mk x y => cases hq : q i with
    | mk x' y' =>
      rw [hr, hq] at b1 b2
      simp only at b1 b2
      rw [b1, b2]
theorem Settled.tight {n : Nat} {M : Nat → Mt} {s s' : Nat → Rg} (h : Settled n M s s') (hM : ∀ i, i < n → okM (M i) = true) : Tight n M s s' := fun i hi =>
  ⟨fun T hT => (h.nar.2 T hT).1 i hi, fun v h1 h2 => by
    obtain ⟨T, t1, t2⟩ := h.wit hM hi h1 h2
    exact ⟨T, truth_sub h.nar.1 t1, t2⟩⟩
/-- What the reference narrows back again. -/
def bwf (n : Nat) (M : Nat → Mt) (s : Nat → Rg) : Nat → Rg
  | 0 => fw M s (fun _ => false) n
  | j + 1 => meet (fw M s (fun _ => false) (n - 1 - j)) ⟨need (M (n - 1 - j)) (bwf n M s j).lo false, need (M (n - 1 - j)) ((bwf n M s j).hi + 1) true - 1⟩
def btw (n : Nat) (M : Nat → Mt) (s : Nat → Rg) (i : Nat) : Rg := bwf n M s (n - i)
theorem bwf_sub (n : Nat) (M : Nat → Mt) (s : Nat → Rg) (j : Nat) (hj : j ≤ n) : (fw M s (fun _ => false) (n - j)).lo ≤ (bwf n M s j).lo ∧ (bwf n M s j).hi ≤ (fw M s (fun _ => false) (n - j)).hi := by
  cases j with
  | zero => exact ⟨Int.le_refl _, Int.le_refl _⟩
  | succ j =>
    rw [show n - (j + 1) = n - 1 - j by omega]
    simp only [bwf, meet]
    omega
theorem bwf_in {n : Nat} {M : Nat → Mt} {s : Nat → Rg} (hM : ∀ i, i < n → okM (M i) = true) (hs : okS s) {T : Nat → Int} (hT : Truth n M s T) : ∀ j, j ≤ n → (bwf n M s j).lo ≤ T (n - j) ∧ T (n - j) ≤ (bwf n M s j).hi := by
  intro j
  induction j with
  | zero => intro _; exact fw_in hM (truthM_none.2 hT) n (Nat.le_refl _)
  | succ j ih =>
    intro hj
    have h1 := ih (by omega)
    have h2 := fw_in hM (truthM_none.2 hT) (n - 1 - j) (by omega)
    have h3 := hT.2 (n - 1 - j) (by omega)
    have h4 := hT.1 (n - 1 - j) (by omega)
    have h5 := hs (n - 1 - j)
    rw [show n - 1 - j + 1 = n - j by omega] at h3
    have h6 := (need_iff (hM (n - 1 - j) (by omega)) (sure := false) (left := (bwf n M s j).lo) (x := T (n - 1 - j)) (by omega) (by omega)).1 (by omega)
    have h7 : ¬ need (M (n - 1 - j)) ((bwf n M s j).hi + 1) true ≤ T (n - 1 - j) := fun h => by
      have := (need_iff (hM (n - 1 - j) (by omega)) (sure := true) (left := (bwf n M s j).hi + 1) (x := T (n - 1 - j)) (by omega) (by omega)).2 h
      omega
    rw [show n - (j + 1) = n - 1 - j by omega]
    simp only [bwf, meet]
    omega
/-- From a scale on. -/
def TruthFrom (k n : Nat) (M : Nat → Mt) (s : Nat → Rg) (T : Nat → Int) : Prop :=
  (∀ i, k ≤ i → i ≤ n → (s i).lo ≤ T i ∧ T i ≤ (s i).hi) ∧ ∀ i, k ≤ i → i < n → one (M i) true (T i) ≤ T (i + 1) ∧ T (i + 1) ≤ one (M i) false (T i)
theorem bwf_wit {n : Nat} {M : Nat → Mt} {s : Nat → Rg} (hM : ∀ i, i < n → okM (M i) = true) (hs : okS s) (hne : ∀ j, j ≤ n → (bwf n M s j).lo ≤ (bwf n M s j).hi) :
    ∀ j, j ≤ n → ∀ v, (bwf n M s j).lo ≤ v → v ≤ (bwf n M s j).hi → ∃ T, T (n - j) = v ∧ TruthFrom (n - j) n M s T := by
  intro j
  induction j with
  | zero =>
    intro _ v h1 h2
    have h3 := fw_sub M s (fun _ => false) n
    simp only [bwf] at h1 h2
    exact ⟨fun _ => v, rfl, fun i hi hi2 => by
      obtain rfl : i = n := by omega
      show (s i).lo ≤ v ∧ v ≤ (s i).hi
      omega, fun i hi hi2 => by omega⟩
  | succ j ih =>
    intro hj v h1 h2
    have h3 := fw_sub M s (fun _ => false) (n - 1 - j)
    have h5 := hs (n - 1 - j)
    simp only [bwf, meet] at h1 h2
    obtain ⟨y, y1, y2, y3, y4⟩ := fore_wit (hM (n - 1 - j) (by omega)) (r := bwf n M s j) (x := v) (by omega) (by omega) (hne j (by omega)) (by omega) (by omega)
    obtain ⟨T, hT, t1, t2⟩ := ih (by omega) y y1 y2
    rw [show n - (j + 1) = n - 1 - j by omega]
    refine ⟨fun i => if i = n - 1 - j then v else T i, by simp, fun i hi hi2 => ?_, fun i hi hi2 => ?_⟩
    · by_cases h : i = n - 1 - j
      · subst h; simp only [if_true]; omega
      · simp only [h, if_false]; exact t1 i (by omega) hi2
    · by_cases h : i = n - 1 - j
      · subst h
        simp only [if_true, show ¬ n - 1 - j + 1 = n - 1 - j by omega, if_false]
        rw [show n - 1 - j + 1 = n - j by omega, hT]
        exact ⟨y3, y4⟩
      · simp only [h, show ¬ i + 1 = n - 1 - j by omega, if_false]
        exact t2 i (by omega) hi2
theorem btw_tight {n : Nat} {M : Nat → Mt} {s : Nat → Rg} (hM : ∀ i, i < n → okM (M i) = true) (hs : okS s) (hT : ∃ T, Truth n M s T) : Tight n M s (btw n M s) := by
  obtain ⟨T0, hT0⟩ := hT
  have hne : ∀ j, j ≤ n → (bwf n M s j).lo ≤ (bwf n M s j).hi := fun j hj => by have := bwf_in hM hs hT0 j hj; omega
  have hp : ∀ k, k ≤ n → (fw M s (fun _ => false) k).lo ≤ (fw M s (fun _ => false) k).hi := fun k hk => by have := fw_in hM (truthM_none.2 hT0) k hk; omega
  intro i hi
  refine ⟨fun T hT => ?_, fun v h1 h2 => ?_⟩
  · have := bwf_in hM hs hT (n - i) (by omega)
    rwa [show n - (n - i) = i by omega] at this
  · have h3 := bwf_sub n M s (n - i) (by omega)
    rw [show n - (n - i) = i by omega] at h3
    unfold btw at h1 h2
    obtain ⟨T1, e1, a1, a2⟩ := fw_wit hM hs hp i hi v (by omega) (by omega)
    obtain ⟨T2, e2, b1, b2⟩ := bwf_wit hM hs hne (n - i) (by omega) v h1 h2
    rw [show n - (n - i) = i by omega] at e2 b1 b2
    refine ⟨fun k => if k ≤ i then T1 k else T2 k, ⟨fun k hk => ?_, fun k hk => ?_⟩, by simp [e1]⟩
    · by_cases h : k ≤ i
      · simp only [h, if_true]; exact a1 k h
      · simp only [h, if_false]; exact b1 k (by omega) hk
    · by_cases h : k + 1 ≤ i
      · simp only [h, show k ≤ i by omega, if_true]; exact a2 k (by omega) rfl
      · by_cases h2 : k = i
        · subst h2
          simp only [Nat.le_refl, if_true, show ¬ k + 1 ≤ k by omega, if_false]
          have := b2 k (Nat.le_refl _) hk
          rw [e2] at this
          rw [e1]
          exact this
        · simp only [h, show ¬ k ≤ i by omega, if_false]; exact b2 k (by omega) hk
theorem settled_btw {n : Nat} {M : Nat → Mt} {s s' : Nat → Rg} (hM : ∀ i, i < n → okM (M i) = true) (hs : okS s) (h : Settled n M s s') : ∀ i, i ≤ n → s' i = btw n M s i :=
  (h.tight hM).eq (btw_tight hM hs (h.some hM)) (h.some hM)

/-- Whether there is a truth, or the error; between which ends weights are. -/
def possB (row : List Mt) (sc : List Rg) : Bool := poss row.length (mAt row) (sAt sc) (fun _ => false)
def truthErr (row : List Mt) (sc : List Rg) : Int := if checkScales row sc ≠ 0 then checkScales row sc else if possB row sc then 0 else 14
def btwAll (row : List Mt) (sc : List Rg) : List Rg := (List.range (row.length + 1)).map (btw row.length (mAt row) (sAt sc))
def btwL (row : List Mt) (sc : List Rg) : List Rg := if truthErr row sc = 0 then btwAll row sc else []
theorem btwAll_len (row : List Mt) (sc : List Rg) : (btwAll row sc).length = row.length + 1 := by simp [btwAll]
end Go.Proofs.Ytdcglphekafpdaa
namespace Go.Proofs.Ytdcglphekafpdaa
open Go.RowKit Go.Shelf

/-- copy into a row, elements of any size. -/
theorem run_copy_sz {P : Program} (w : World) (dT sT ty elem : TypeId) (s : Nat) (g o dLen dCap : Nat) (a : Addr) (sLen sCap : Nat) (cur : Array Value) (t : TypeId) (cs : List Value)
    (hu : P.underlying dT = some (.slice elem)) (hs : (P.info? elem).map (·.size) = some s)
    (hg : w.heap[g]? = some (.cells cur t (0, 0))) (hn : cs.length = Nat.min sLen dLen * s)
    (hsrc : ∀ j v, cs[j]? = some v → w.cell? (a.add j) = some v) (hfit : o + cs.length ≤ cur.size) (h1 : ∀ v ∈ cs, v.oneCell' = true) :
    (Builtin.copy_ #[dT, sT] ty #[.slice (some ⟨g, o, none⟩) dLen dCap, .slice (some a) sLen sCap]).run P w =
      .ok (goInt (Nat.min sLen dLen)) (w.setRow g (cur.toList.take o ++ cs ++ cur.toList.drop (o + cs.length)).toArray) := by
  have hl := run_loadCells_list (P := P) w a cs hsrc
  have hst := run_storeCells_at P g o t cs 0 cur w hg (by simpa using hfit) h1
  cases hq : P.info? elem with
  | none => simp [hq] at hs
  | some i =>
    have hi : i.size = s := by simpa [hq] using hs
    simp [Builtin.copy_, run_underlying hu, Builtin.lenOf, Builtin.firstCells, sizeOf, typeInfo, hq, hi, ← hn, hl, hst]
theorem run_clear_sz {P : Program} (w : World) (dT ty elem : TypeId) (z : Value) (g o n c : Nat) (cur : Array Value) (t : TypeId)
    (hu : P.underlying dT = some (.slice elem)) (hz : (zeroValue elem).run P w = .ok z w) (hn : 0 < n)
    (hg : w.heap[g]? = some (.cells cur t (0, 0))) (cs : List Value) (hcs : (Builtin.zeroCells z.cells n).toList = cs) (hfit : o + cs.length ≤ cur.size) (h1 : ∀ v ∈ cs, v.oneCell' = true) :
    (Builtin.clear_ #[dT] ty #[.slice (some ⟨g, o, none⟩) n c]).run P w = .ok (.tuple #[]) (w.setRow g (cur.toList.take o ++ cs ++ cur.toList.drop (o + cs.length)).toArray) := by
  have hst := run_storeCells_at P g o t cs 0 cur w hg (by simpa using hfit) h1
  obtain ⟨m, rfl⟩ : ∃ m, n = m + 1 := ⟨n - 1, by omega⟩
  simp [Builtin.clear_, run_underlying hu, hz, hcs, hst]
theorem Blk.row {w : World} {g : Nat} {t : TypeId} {cs : Array Value} (h : Blk w g t cs) (cs' : Array Value) : Blk (w.setRow g cs') g t cs' := setRow_heap w g cs cs' t (0, 0) h
theorem below_setRow {B g : Nat} {a w : World} (h : Below B a w) (hg : B ≤ g) (cs : Array Value) : Below B a (w.setRow g cs) :=
  ⟨h.os, h.tape, h.output, by rw [setRow_size]; exact h.size, fun k hk => (setRow_other w g k cs (by omega)).trans (h.block k hk)⟩

theorem bk_copy (V : Value) : ∀ (l : List Rg), l.length ≤ 8 → ((bk V (fun _ => ⟨0, 0⟩)).toList.take 1 ++ l.flatMap cR ++ (bk V (fun _ => ⟨0, 0⟩)).toList.drop (1 + (l.flatMap cR).length)).toArray = bk V (sAt l) := by
  intro l h
  rcases l with _ | ⟨a, _ | ⟨b, _ | ⟨c, _ | ⟨d, _ | ⟨e, _ | ⟨f, _ | ⟨g, _ | ⟨i, _ | ⟨j, l⟩⟩⟩⟩⟩⟩⟩⟩⟩ <;> first | rfl | (simp at h <;> omega)
theorem zero16 : (Builtin.zeroCells (#[.int .i64 0, .int .i64 0]) 8).toList = [.int .i64 0, .int .i64 0, .int .i64 0, .int .i64 0, .int .i64 0, .int .i64 0, .int .i64 0, .int .i64 0, .int .i64 0, .int .i64 0, .int .i64 0, .int .i64 0, .int .i64 0, .int .i64 0, .int .i64 0, .int .i64 0] := by kernel_rfl

set_option maxRecDepth 100000 in
theorem newBook_any (w : World) (V : Value) (hV : ∃ A n c, V = .slice A n c) (A : Option Addr) (m c : Nat) (l : List Rg) (hl : RgS w w.heap.size A m l) (hm : m ≤ 8) (hm1 : 1 ≤ m) :
    Calls Try.prog 108 #[V, .slice A m c] w (fun e w' => ∃ g, e = .returned (.pointer (some ⟨g, 0, none⟩)) ∧ w.heap.size ≤ g ∧ Book w' g V (sAt l) ∧ Below w.heap.size w w') := by
  obtain ⟨VA, Vn, Vc, rfl⟩ := hV
  have hlen := hl.len
  have hb1 : Blk (w.alloc (.cells (bk (.slice VA Vn Vc) (fun _ => ⟨0, 0⟩)) 108)) w.heap.size 108 (bk (.slice VA Vn Vc) (fun _ => ⟨0, 0⟩)) := Blk.new _ _ _
  have hbel : Below w.heap.size w (w.alloc (.cells (bk (.slice VA Vn Vc) (fun _ => ⟨0, 0⟩)) 108)) := (Below.refl _ _).alloc (Nat.le_refl _) _
  have hcl := run_clear_sz (P := Try.prog) (w.alloc (.cells (bk (.slice VA Vn Vc) (fun _ => ⟨0, 0⟩)) 108)) 34 0 24 (.agg #[.int .i64 0, .int .i64 0]) w.heap.size 1 8 8 _ 108 (by kernel_rfl) (by go_simp) (by omega) hb1 _ zero16 (by simp [bk]) (by simp [Value.oneCell'])
  have hself : (w.alloc (.cells (bk (.slice VA Vn Vc) (fun _ => ⟨0, 0⟩)) 108)).setRow w.heap.size (bk (.slice VA Vn Vc) (fun _ => ⟨0, 0⟩)) = _ := setRow_self _ _ _ _ _ hb1
  rw [show ((bk (.slice VA Vn Vc) (fun _ => ⟨0, 0⟩)).toList.take 1 ++ _ ++ (bk (.slice VA Vn Vc) (fun _ => ⟨0, 0⟩)).toList.drop _).toArray = bk (.slice VA Vn Vc) (fun _ => ⟨0, 0⟩) from rfl, hself] at hcl
  obtain ⟨sb, off, hA, hsb, hsrc⟩ := hl.2 hm1
  have hcp := run_copy_sz (P := Try.prog) (w.alloc (.cells (bk (.slice VA Vn Vc) (fun _ => ⟨0, 0⟩)) 108)) 34 34 3 24 2 w.heap.size 1 8 8 ⟨sb, off, none⟩ m c _ 108 (l.flatMap cR) (by kernel_rfl) (by kernel_rfl) hb1
    (by rw [flat_len (s := 2) (fun _ => rfl), hlen, show Nat.min m 8 = m from Nat.min_eq_left hm]) (fun j v hj => by rw [show (⟨sb, off, none⟩ : Addr).add j = ⟨sb, off + j, none⟩ by unfold Addr.add; split <;> simp_all]; exact (World.cell?_alloc_lt _ _ _ hsb).trans (hsrc j v hj)) (by rw [flat_len (s := 2) (fun _ => rfl), hlen]; simp [bk]; omega)
    (by intro v hv; obtain ⟨r, -, hr⟩ := List.mem_flatMap.1 hv; simp only [cR, List.mem_cons, List.not_mem_nil, or_false] at hr; rcases hr with rfl | rfl <;> rfl)
  rw [bk_copy _ _ (by omega)] at hcp
  subst hA
  have hb2 := hb1.row (bk (.slice VA Vn Vc) (sAt l))
  have hbel2 := below_setRow hbel (Nat.le_refl _) (bk (.slice VA Vn Vc) (sAt l))
  generalize hX : (w.alloc (.cells (bk (.slice VA Vn Vc) (fun _ => ⟨0, 0⟩)) 108)).setRow w.heap.size (bk (.slice VA Vn Vc) (sAt l)) = X at *
  simp only [bk] at hcl hcp
  clear hb1 hbel hself
  go_enter Try.func108, Try.ntmps108
  go_wp2
  go_ret
  exact ⟨_, rfl, Nat.le_refl _, hb2, hbel2⟩
end Go.Proofs.Ytdcglphekafpdaa
namespace Go.Proofs.Ytdcglphekafpdaa
open Go.RowKit Go.Shelf
theorem checkScales_ok {row : List Mt} {sc : List Rg} (h : checkScales row sc = 0) : checkRow row = 0 ∧ sc.length = row.length + 1 ∧ sc.all okW = true := by
  unfold checkScales at h
  split at h
  · rename_i h0; exact absurd h h0
  · rename_i h0
    split at h
    · cases h
    · rename_i h1
      split at h
      · rename_i h2; exact ⟨by simpa using h0, by simpa using h1, h2⟩
      · cases h
theorem open_bad (w : World) (A A' : Option Addr) (n c n' c' : Nat) (row : List Mt) (sc : List Rg) (hr : MtS w w.heap.size A n row) (hn : n ≤ 12) (hr' : RgS w w.heap.size A' n' sc) (hn' : n' ≤ 12) (h0 : checkScales row sc ≠ 0) :
    Calls Try.prog 80 #[.slice A n c, .slice A' n' c'] w fun e w' => e = .returned (.tuple #[.pointer none, .int .i64 (checkScales row sc)]) ∧ Below w.heap.size w w' := by
  have hc : (checkScales row sc != 0) = true := by simp [h0]
  clear h0
  go_enter Try.func80, Try.ntmps80
  go_wp2_with (first | (go_at_call 30; refine (dCheckScales_any _ A A' n c n' c' row sc hr hn hr' hn').mono ?_; rintro e w1 ⟨rfl, hb1⟩))
  refine bodyPost_ret (v := .tuple #[.pointer none, .int .i64 (checkScales row sc)]) (by first | (simp [results, Try.results80, go_sem]; done) | (simp [results, Try.results80, go_sem, World.cell?_setCell_same', *]; done) | (simp [results, Try.results80, go_sem]; first | exact ⟨rfl, rfl⟩ | rfl)) rfl ⟨rfl, (by repeat' (first | with_reducible assumption | with_reducible exact Below.refl _ _ | refine Below.alloc ?_ ?_ _ | refine Below.setCell ?_ ?_ _ | refine Below.drew ?_ | refine below_drewN ?_ _ | (simp; done) | (simp; omega) | omega))⟩
theorem open_ok (w : World) (A A' : Option Addr) (n c n' c' : Nat) (row : List Mt) (sc : List Rg) (hr : MtS w w.heap.size A n row) (hn : n ≤ 12) (hr' : RgS w w.heap.size A' n' sc) (hn' : n' ≤ 12) (h0 : checkScales row sc = 0) :
    Calls Try.prog 80 #[.slice A n c, .slice A' n' c'] w fun e w' => ∃ g, e = .returned (.tuple #[.pointer (some ⟨g, 0, none⟩), .int .i64 0]) ∧ w.heap.size ≤ g ∧ Book w' g (.slice A n c) (sAt sc) ∧ Below w.heap.size w w' := by
  have hc := checkScales_ok h0
  have hlen := hr'.len
  have hlen2 := hr.len
  have hrow := checkRow_ok hc.1
  have hm1 : 1 ≤ n' := by omega
  have hm8 : n' ≤ 8 := by omega
  clear hc hrow hlen hlen2
  go_enter Try.func80, Try.ntmps80
  go_wp2_with (first | (go_at_call 30; refine (dCheckScales_any _ A A' n c n' c' row sc hr hn hr' hn').mono ?_; rintro e w1 ⟨rfl, hb1⟩; rw [h0]) | (go_at_call 108; refine (newBook_any w1 (.slice A n c) ⟨_, _, _, rfl⟩ A' n' c' sc (hr'.below hb1 hb1.size) hm8 hm1).mono ?_; rintro e w2 ⟨g, rfl, hg, hbk, hb2⟩))
  have hz := hb1.size
  refine bodyPost_ret (v := .tuple #[.pointer (some ⟨g, 0, none⟩), .int .i64 0]) (by first | (simp [results, Try.results80, go_sem]; done) | (simp [results, Try.results80, go_sem, World.cell?_setCell_same', *]; done) | (simp [results, Try.results80, go_sem]; first | exact ⟨rfl, rfl⟩ | rfl)) rfl ⟨g, rfl, by omega, hbk, hb1.trans (hb2.mono hz)⟩
end Go.Proofs.Ytdcglphekafpdaa
namespace Go.Proofs.Ytdcglphekafpdaa
open Go.RowKit Go.Shelf
theorem below_grown {B g : Nat} {a w w' : World} (h : Below B a w) (k : w.grownBy w' (some g)) (hg : B ≤ g) (hB : B ≤ a.heap.size) : Below B a w' :=
  ⟨k.os.trans h.os, k.tape.trans h.tape, k.output.trans h.output, Nat.le_trans h.size k.size, fun i hi => (k.block i (by have := h.size; omega) (fun e => by have := Option.some.inj e; omega)).trans (h.block i hi)⟩
theorem row_oks {row : List Mt} (h : row.all okM = true) : ∀ i, i < row.length → okM (mAt row i) = true := fun _ hi => mAt_ok h hi

/-- settle, by what is possible. -/
theorem settle_poss (w : World) (g : Nat) (A : Option Addr) (n c : Nat) (row : List Mt) (s : Nat → Rg) (hb : Book w g (.slice A n c) s) (hr : MtS w g A n row) (hn : n ≤ 7) (hok : row.all okM = true) (hs : okS s) (h0 : 1 ≤ n ∨ (s 0).lo ≤ (s 0).hi) :
    Calls Try.prog 81 #[.pointer (some ⟨g, 0, none⟩)] w fun e w' => e = .returned (.bool (poss n (mAt row) s (fun _ => false))) ∧ w.grownBy w' (some g) ∧ ∃ s', Book w' g (.slice A n c) s' ∧ (poss n (mAt row) s (fun _ => false) = true → Settled n (mAt row) s s') := by
  have hM : ∀ i, i < n → okM (mAt row i) = true := fun i hi => mAt_ok hok (by rw [hr.len]; exact hi)
  refine (settle_any w g A n c row s hb hr hn hok hs h0).mono ?_
  rintro e w' ⟨hgr, s', hb', h⟩
  have hp := poss_none hM hs
  rcases h with ⟨rfl, h⟩ | ⟨rfl, h⟩
  · have : poss n (mAt row) s (fun _ => false) = true := hp.2 (h.some hM)
    exact ⟨by rw [this], hgr, s', hb', fun _ => h⟩
  · have : poss n (mAt row) s (fun _ => false) = false := by
      cases hq : poss n (mAt row) s (fun _ => false) with
      | false => rfl
      | true => obtain ⟨T, hT⟩ := hp.1 hq; exact absurd hT (h T)
    exact ⟨by rw [this], hgr, s', hb', fun h => by rw [this] at h; cases h⟩

/-- Whether weights are a truth, or the error. -/
def truthE (row : List Mt) (sc : List Rg) (ws : List Int) : Int :=
  if checkScales row sc ≠ 0 then checkScales row sc else if ws.length ≠ sc.length then 15 else if ws.all (inR ⟨0, 1000000⟩) then (if isT row.length (mAt row) (sAt sc) (wAt ws) then 0 else 16) else 3

set_option maxRecDepth 100000 in
set_option maxHeartbeats 1000000 in
theorem dCheckTruth_any (w : World) (A A' A2 : Option Addr) (n c n' c' n2 c2 : Nat) (row : List Mt) (sc : List Rg) (ws : List Int) (hr : MtS w w.heap.size A n row) (hn : n ≤ 12) (hr' : RgS w w.heap.size A' n' sc) (hn' : n' ≤ 12)
    (hw : InS w w.heap.size A2 n2 ws) (hn2 : n2 ≤ 100) :
    Calls Try.prog 32 #[.slice A n c, .slice A' n' c', .slice A2 n2 c2] w fun e w' => e = .returned (.int .i64 (truthE row sc ws)) ∧ Below w.heap.size w w' := by
  by_cases h0 : checkScales row sc = 0
  · obtain ⟨k1, k2, k3⟩ := checkScales_ok h0
    obtain ⟨k4, k5, k6⟩ := checkRow_ok k1
    have hlen := hr.len
    have hlen' := hr'.len
    have hlen2 := hw.len
    by_cases h1 : n' = n2
    · have h1' : ((n2 : Int) != (n' : Int)) = false := by rw [h1]; simp
      cases h2 : ws.all (inR ⟨0, 1000000⟩)
      · have he : Hid (truthE row sc ws = 3) := by unfold truthE; rw [if_neg (by simp [h0]), if_neg (by omega), if_neg (by simp [h2])]; trivial
        have H2 := hid h2
        have H0 := hid h0
        clear h0 k1 k2 k3 k4 k5 k6 hlen hlen' hlen2 h1 h2
        go_enter Try.func32, Try.ntmps32
        go_wp2_with (first | (go_at_call 80; refine (open_ok _ A A' n c n' c' row sc hr hn hr' hn' H0.out).mono ?_; rintro e w1 ⟨g, rfl, hg, hbk, hb1⟩) | (go_at_call 74; refine (within_any A2 _ c2 ws 0 1000000 w1 (hw.below hb1 hb1.size) hn2).mono ?_; rw [H2.out]; rintro e w2 ⟨rfl, hb2⟩))
        refine bodyPost_ret (v := .int .i64 3) (by first | (simp [results, Try.results32, go_sem]; done) | (simp [results, Try.results32, go_sem, World.cell?_setCell_same', *]; done) | (simp [results, Try.results32, go_sem]; first | exact ⟨rfl, rfl⟩ | rfl)) rfl ⟨by rw [he.out], hb1.trans (hb2.mono hb1.size)⟩
      · have H2 := hid h2
        have H0 := hid h0
        have H3 := hid k3
        have H6 := hid k6
        have hN : Hid (row.length = n) := hid hlen
        have hn7 : n ≤ 7 := by omega
        have hn1 : 1 ≤ n := by omega
        have hnn : Hid (n' = n + 1) := hid (by omega)
        subst h1
        have hw2 : Hid (∀ j, j < n' → 0 ≤ wAt ws j ∧ wAt ws j ≤ 1000000) := hid fun j hj => by
          have hjl : j < ws.length := by omega
          have := List.all_eq_true.1 h2 _ (List.getElem_mem hjl)
          rw [wAt_of (List.getElem?_eq_getElem hjl)]
          simpa [inR] using this
        have he : Hid (truthE row sc ws = if isT row.length (mAt row) (sAt sc) (wAt ws) then 0 else 16) := by unfold truthE; rw [if_neg (by simp [h0]), if_neg (by omega), if_pos h2]; trivial
        clear h0 k1 k2 k3 k4 k5 k6 hlen hlen' hlen2 h2
        go_enter Try.func32, Try.ntmps32
        go_wp2_with (first | (go_at_call 80; refine (open_ok _ A A' n c n' c' row sc hr hn hr' hn' H0.out).mono ?_; rintro e w1 ⟨g, rfl, hg, hbk, hb1⟩) | (go_at_call 74; refine (within_any A2 _ c2 ws 0 1000000 w1 (hw.below hb1 hb1.size) hn2).mono ?_; rw [H2.out]; rintro e w2 ⟨rfl, hb2⟩))
        have hgl : g < w1.heap.size := Blk.lt hbk
        have hb2' := hb1.trans (hb2.mono hb1.size)
        have hbk2 : Book w2 g (.slice A n c) (sAt sc) := Blk.below hbk hb2 hgl
        have hs2 := hb2.size
        clear hbk
        go_loopw [33] (fun i wr => ∃ k : Nat, k ≤ n' ∧ i = .int .i64 k ∧ Book wr g (.slice A n c) (nrw (sAt sc) (wAt ws) k) ∧ Below w.heap.size w wr) (fun i _ => n' - (intOf i).toNat)
        case atStart => exact ⟨0, by omega, rfl, by rw [nrw_zero]; exact hbk2, hb2'⟩
        case round =>
          obtain ⟨k, hk, rfl, hbk, hbel⟩ := hrel
          have hsz := hbel.size
          by_cases hlt : k < n'
          · obtain ⟨b, off, x, rfl, hb, hm, c0⟩ := (hw.below hbel (Nat.le_refl _)).at_ hlt
            have Hm : Hid (wAt ws k = x) := hid (wAt_of hm)
            clear hm
            have hb' : b < wr.heap.size := by omega
            have hk8 : k < 8 := by have := hnn.out; omega
            have hk8i : (k : Int) < 8 := by omega
            have p0 := hbk.lo (i := k) hk8
            have p1 := hbk.hi (i := k) hk8
            rw [nrw_at] at p0 p1
            have hgl2 : g < wr.heap.size := Blk.lt hbk
            have hF : Hid (upd (nrw (sAt sc) (wAt ws) k) k (meet (sAt sc k) ⟨x, x⟩) = nrw (sAt sc) (wAt ws) (k + 1)) := by rw [← Hm.out]; exact hid (nrw_upd _ _ _)
            go_wp2_with (fail)
            refine wp_region_hd 15 (fun W' => Below wr.heap.size wr W') (by kernel_rfl) (by kernel_rfl) ((Below.refl _ _).drew) ?_
            simp only [List.take_succ_cons, List.take_zero, List.drop_succ_cons, List.drop_zero]
            iterate 11 (refine wpHd_val (v := ?_) (by rfl) (fun W hW => ?_) ?_; rotate_left; (· obtain ⟨hcW, hfW⟩ := bcell hW; go_simp; with_reducible rfl); simp only [Act.put, List.setIfInBounds_toArray, List.set_cons_zero, List.set_cons_succ])
            (refine wpHd_callB (by rfl) (fun W hW => meet_any (sAt sc k) ⟨x, x⟩ _) (fun W hW => ?_) ?_; (· obtain ⟨hcW, hfW⟩ := bcell hW; go_simp); simp only [Act.put, List.setIfInBounds_toArray, List.set_cons_zero, List.set_cons_succ])
            iterate 3 (refine wpHd_val (v := ?_) (by rfl) (fun W hW => ?_) ?_; rotate_left; (· obtain ⟨hcW, hfW⟩ := bcell hW; go_simp; with_reducible rfl); simp only [Act.put, List.setIfInBounds_toArray, List.set_cons_zero, List.set_cons_succ])
            refine wpHd_nil ?_
            intro W2 hW2
            have hbk3 : Book W2 g (.slice A n c) (nrw (sAt sc) (wAt ws) k) := Blk.below hbk hW2 hgl2
            have hbk4 := hbk3.set_ hk8 (meet (sAt sc k) ⟨x, x⟩)
            rw [hF.out] at hbk4
            have q0 := hbk3.lo (i := k) hk8
            have q1 := hbk3.hi (i := k) hk8
            have q2 := Blk.frozen hbk3 (1 + k * 2)
            have q3 := Blk.frozen hbk3 (1 + k * 2 + 1)
            have hbel4 := ((hbel.trans (hW2.mono hsz)).setCell (p := ⟨g, 1 + k * 2, none⟩) hg (.int .i64 (meet (sAt sc k) ⟨x, x⟩).lo)).setCell (p := ⟨g, 1 + k * 2 + 1, none⟩) hg (.int .i64 (meet (sAt sc k) ⟨x, x⟩).hi)
            clear p0 p1 c0
            go_wp2
            exact ⟨⟨k + 1, by omega, by go_num, hbk4, hbel4⟩, by simp [intOf]; omega⟩
          · obtain rfl : k = n' := by omega
            have hM : ∀ i, i < n → okM (mAt row i) = true := fun i hi => mAt_ok H6.out (by rw [hN.out]; exact hi)
            have hok := okS_nrw (okS_sAt H3.out) hw2.out
            have hP : poss n (mAt row) (nrw (sAt sc) (wAt ws) k) (fun _ => false) = isT row.length (mAt row) (sAt sc) (wAt ws) := by
              rw [hN.out, Bool.eq_iff_iff, isT_iff, poss_none hM hok, truth_nrw (by have := hnn.out; omega)]
            have hr3 : MtS wr g A n row := (hr.below hbel (Nat.le_refl _)).below (Below.refl _ _) hg
            have hgl3 : g < wr.heap.size := Blk.lt hbk
            cases hT : isT row.length (mAt row) (sAt sc) (wAt ws)
            · have he' : Hid (truthE row sc ws = 16) := by rw [he.out, hT]; trivial
              rw [hT] at hP
              have hP' := hid hP
              clear hT hP
              go_wp2_with (first | (go_at_call 81; refine (settle_poss wr g A n c row _ hbk hr3 hn7 H6.out hok (.inl hn1)).mono ?_; rw [hP'.out]; rintro e w3 ⟨rfl, hgr3, s3, hbk3, h3⟩))
              refine bodyPost_ret (v := .int .i64 16) (by first | (simp [results, Try.results32, go_sem]; done) | (simp [results, Try.results32, go_sem, World.cell?_setCell_same', *]; done) | (simp [results, Try.results32, go_sem]; first | exact ⟨rfl, rfl⟩ | rfl)) rfl ⟨by rw [he'.out], below_grown hbel hgr3 hg (Nat.le_refl _)⟩
            · have he' : Hid (truthE row sc ws = 0) := by rw [he.out, hT]; trivial
              rw [hT] at hP
              have hP' := hid hP
              clear hT hP
              go_wp2_with (first | (go_at_call 81; refine (settle_poss wr g A n c row _ hbk hr3 hn7 H6.out hok (.inl hn1)).mono ?_; rw [hP'.out]; rintro e w3 ⟨rfl, hgr3, s3, hbk3, h3⟩))
              refine bodyPost_ret (v := .int .i64 0) (by first | (simp [results, Try.results32, go_sem]; done) | (simp [results, Try.results32, go_sem, World.cell?_setCell_same', *]; done) | (simp [results, Try.results32, go_sem]; first | exact ⟨rfl, rfl⟩ | rfl)) rfl ⟨by rw [he'.out], below_grown hbel hgr3 hg (Nat.le_refl _)⟩
    · have h1' : ((n2 : Int) != (n' : Int)) = true := by rw [bne_iff_ne]; omega
      have he : Hid (truthE row sc ws = 15) := by unfold truthE; rw [if_neg (by simp [h0]), if_pos (by omega)]; trivial
      have H0 := hid h0
      clear h0 k1 k2 k3 k4 k5 k6 hlen hlen' hlen2 h1
      go_enter Try.func32, Try.ntmps32
      go_wp2_with (first | (go_at_call 80; refine (open_ok _ A A' n c n' c' row sc hr hn hr' hn' H0.out).mono ?_; rintro e w1 ⟨g, rfl, hg, hbk, hb1⟩))
      refine bodyPost_ret (v := .int .i64 15) (by first | (simp [results, Try.results32, go_sem]; done) | (simp [results, Try.results32, go_sem, World.cell?_setCell_same', *]; done) | (simp [results, Try.results32, go_sem]; first | exact ⟨rfl, rfl⟩ | rfl)) rfl ⟨by rw [he.out], hb1⟩
  · have he : Hid (truthE row sc ws = checkScales row sc) := by unfold truthE; rw [if_pos h0]; trivial
    have hc : (checkScales row sc != 0) = true := by simp [h0]
    have H0 := hid h0
    clear h0
    go_enter Try.func32, Try.ntmps32
    go_wp2_with (first | (go_at_call 80; refine (open_bad _ A A' n c n' c' row sc hr hn hr' hn' H0.out).mono ?_; rintro e w1 ⟨rfl, hb1⟩))
    refine bodyPost_ret (v := .int .i64 (checkScales row sc)) (by first | (simp [results, Try.results32, go_sem]; done) | (simp [results, Try.results32, go_sem, World.cell?_setCell_same', *]; done) | (simp [results, Try.results32, go_sem]; first | exact ⟨rfl, rfl⟩ | rfl)) rfl ⟨by rw [he.out], hb1⟩
end Go.Proofs.Ytdcglphekafpdaa
namespace Go.Proofs.Ytdcglphekafpdaa
open Go.RowKit Go.Shelf
theorem info24 : (Try.prog.info? 24).map (fun i => (i.zero, i.size, i.bytes)) = some (some (.agg #[.int .i64 0, .int .i64 0]), 2, 16) := by kernel_rfl
theorem info2 : (Try.prog.info? 2).map (fun i => (i.zero, i.size, i.bytes)) = some (some (.int .i64 0), 1, 8) := by kernel_rfl
theorem info3 : (Try.prog.info? 3).map (fun i => (i.zero, i.size, i.bytes)) = some (some (.int .i64 0), 1, 8) := by kernel_rfl
theorem under34 : Try.prog.underlying 34 = some (.slice 24) := by kernel_rfl
theorem under35 : Try.prog.underlying 35 = some (.slice 2) := by kernel_rfl
theorem under49 : Try.prog.underlying 49 = some (.slice 3) := by kernel_rfl
theorem sl_of_owns {w : World} {base : Nat} {e : TypeId} {size : Nat} {v : Value} {n : Nat} {xs : List Value} (h : w.ownsRow base e size v n xs) : ∃ A c, v = .slice A n c ∧ Sl w w.heap.size size A n xs := by
  obtain ⟨hl, ⟨rfl, rfl⟩ | ⟨g, cap, cur, rfl, hb, hg, hn, hc, hs, ht⟩⟩ := h
  · exact ⟨none, 0, rfl, hl, fun h => absurd h (by omega)⟩
  · refine ⟨_, cap, rfl, hl, fun hn0 => ⟨g, 0, rfl, (Array.getElem?_eq_some_iff.1 hg).1, fun j u hj => ?_⟩⟩
    have hjl : j < n * size := by rw [← hl]; exact (List.getElem?_eq_some_iff.1 hj).1
    rw [← ht, List.getElem?_take_of_lt hjl] at hj
    simp only [Nat.zero_add]
    exact (cell_of_row w g j cur e (0, 0) hg).trans (by simpa using hj)
theorem prefix_at {l1 l2 : List Value} (h : ∃ t, l1 ++ t = l2) {j : Nat} {v : Value} (hj : l1[j]? = some v) : l2[j]? = some v := by
  obtain ⟨t, rfl⟩ := h
  rw [List.getElem?_append_left (List.getElem?_eq_some_iff.1 hj).1]
  exact hj
theorem bk_flat (V : Value) (s : Nat → Rg) {m : Nat} (hm : m ≤ 8) {j : Nat} {v : Value} (hj : (((List.range m).map s).flatMap cR)[j]? = some v) : (bk V s)[1 + j]? = some v := by
  have h8 : (((List.range 8).map s).flatMap cR)[j]? = some v := by
    refine prefix_at ?_ hj
    have : m = 0 ∨ m = 1 ∨ m = 2 ∨ m = 3 ∨ m = 4 ∨ m = 5 ∨ m = 6 ∨ m = 7 ∨ m = 8 := by omega
    rcases this with rfl | rfl | rfl | rfl | rfl | rfl | rfl | rfl | rfl <;> exact ⟨_, rfl⟩
  have h1 : (bk V s).toList = V :: ((List.range 8).map s).flatMap cR := rfl
  rw [← Array.getElem?_toList, h1, Nat.add_comm, List.getElem?_cons_succ]
  exact h8
theorem range_btw {n : Nat} {s' r : Nat → Rg} (h : ∀ i, i ≤ n → s' i = r i) : (List.range (n + 1)).map s' = (List.range (n + 1)).map r :=
  List.map_congr_left fun i hi => h i (by have := List.mem_range.1 hi; omega)

theorem row_of_full {w : World} {base : Nat} {e : TypeId} {size g n : Nat} {xs : List Value} (h : w.ownsRow base e size (.slice (some ⟨g, 0, none⟩) n n) n xs) : ∃ cur, w.heap[g]? = some (.cells cur e (0, 0)) ∧ cur.size = n * size := by
  obtain ⟨hl, ⟨h1, _⟩ | ⟨g', cap, cur, h1, hb, hg, hn, hc, hs, ht⟩⟩ := h
  · cases h1
  · cases h1
    exact ⟨cur, hg, hs⟩
theorem copy_book {w : World} {g g4 : Nat} {V : Value} {s : Nat → Rg} {cur : Array Value} {n' : Nat} (hb : Book w g V s) (hcur : w.heap[g4]? = some (.cells cur 24 (0, 0))) (hcs : cur.size = n' * 2) (hn : n' ≤ 8) :
    (Builtin.copy_ #[34, 34] 3 #[.slice (some ⟨g4, 0, none⟩) n' n', .slice (some ⟨g, 1, none⟩) 8 8]).run Try.prog w = .ok (goInt n') (w.setRow g4 (((List.range n').map s).flatMap cR).toArray) ∧
    Blk (w.setRow g4 (((List.range n').map s).flatMap cR).toArray) g4 24 (((List.range n').map s).flatMap cR).toArray := by
  have hl : (((List.range n').map s).flatMap cR).length = n' * 2 := by rw [flat_len (s := 2) (fun _ => rfl)]; simp
  have := run_copy_sz (P := Try.prog) w 34 34 3 24 2 g4 0 n' n' ⟨g, 1, none⟩ 8 8 cur 24 (((List.range n').map s).flatMap cR) under34 (by kernel_rfl) hcur
    (by rw [hl, show Nat.min 8 n' = n' from Nat.min_eq_right hn])
    (fun j v hj => by rw [show (⟨g, 1, none⟩ : Addr).add j = ⟨g, 1 + j, none⟩ by unfold Addr.add; split <;> simp_all]; exact (Blk.cell hb _).trans (bk_flat V s hn hj)) (by rw [hl, hcs]; omega)
    (by intro v hv; obtain ⟨r, -, hr⟩ := List.mem_flatMap.1 hv; simp only [cR, List.mem_cons, List.not_mem_nil, or_false] at hr; rcases hr with rfl | rfl <;> rfl)
  rw [show Nat.min 8 n' = n' from Nat.min_eq_right hn, List.take_zero, List.nil_append, List.drop_of_length_le (by rw [Array.length_toList, hl, hcs]; omega), List.append_nil] at this
  exact ⟨this, setRow_heap w g4 cur _ 24 (0, 0) hcur⟩

theorem sl_of_blk {w : World} {g : Nat} {t : TypeId} {size n : Nat} {xs : List Value} (h : Blk w g t xs.toArray) (hl : xs.length = n * size) : Sl w w.heap.size size (some ⟨g, 0, none⟩) n xs :=
  ⟨hl, fun _ => ⟨g, 0, rfl, h.lt, fun j u hj => by rw [Nat.zero_add]; exact (Blk.cell h j).trans (by simpa using hj)⟩⟩
theorem below_grown' {B : Nat} {a w w' : World} (h : Below B a w) (k : w.grownBy w' none) (hB : B ≤ a.heap.size) : Below B a w' :=
  ⟨k.os.trans h.os, k.tape.trans h.tape, k.output.trans h.output, Nat.le_trans h.size k.size, fun i hi => (k.block i (by have := h.size; omega) (by simp)).trans (h.block i hi)⟩

def BtwPost (row : List Mt) (sc : List Rg) (w : World) (e : Ending) (w' : World) : Prop :=
  ∃ A m c, e = .returned (.tuple #[.slice A m c, .int .i64 (truthErr row sc)]) ∧ RgS w' w'.heap.size A m (btwL row sc) ∧ Below w.heap.size w w'

set_option maxRecDepth 100000 in
set_option maxHeartbeats 1000000 in
theorem dBetween_any (w : World) (A A' : Option Addr) (n c n' c' : Nat) (row : List Mt) (sc : List Rg) (hr : MtS w w.heap.size A n row) (hn : n ≤ 12) (hr' : RgS w w.heap.size A' n' sc) (hn' : n' ≤ 12) :
    Calls Try.prog 28 #[.slice A n c, .slice A' n' c'] w (BtwPost row sc w) := by
  by_cases h0 : checkScales row sc = 0
  · obtain ⟨k1, k2, k3⟩ := checkScales_ok h0
    obtain ⟨k4, k5, k6⟩ := checkRow_ok k1
    have hlen := hr.len
    have hlen' := hr'.len
    have H0 := hid h0
    have H6 := hid k6
    have H3 := hid k3
    have hN : Hid (row.length = n) := hid hlen
    have hn7 : n ≤ 7 := by omega
    have hn1 : 1 ≤ n := by omega
    have hn8 : n' ≤ 8 := by omega
    have hnn : Hid (n' = n + 1) := hid (by omega)
    have hM : ∀ i, i < n → okM (mAt row i) = true := fun i hi => mAt_ok H6.out (by rw [hN.out]; exact hi)
    have hM' := hid hM
    clear k1 k2 k3 k4 k5 k6 hlen hlen' hM
    cases hp : possB row sc
    · have he : Hid (truthErr row sc = 14) := by unfold truthErr; rw [if_neg (by simp [h0]), hp]; trivial
      have hl : Hid (btwL row sc = []) := by unfold btwL; rw [if_neg (by rw [he.out]; omega)]; trivial
      have hP : Hid (poss n (mAt row) (sAt sc) (fun _ => false) = false) := hid (by rw [← hN.out]; exact hp)
      clear h0 hp
      go_enter Try.func28, Try.ntmps28
      go_wp2_with (first | (go_at_call 80; refine (open_ok _ A A' n c n' c' row sc hr hn hr' hn' H0.out).mono ?_; rintro e w1 ⟨g, rfl, hg, hbk, hb1⟩) | (go_at_call 81; refine (settle_poss w1 g A n c row _ hbk ((hr.below hb1 (Nat.le_refl _)).below (Below.refl _ _) hg) hn7 H6.out (okS_sAt H3.out) (.inl hn1)).mono ?_; rw [hP.out]; rintro e w3 ⟨rfl, hgr3, s3, hbk3, h3⟩))
      refine bodyPost_ret (v := .tuple #[.slice none 0 0, .int .i64 14]) (by first | (simp [results, Try.results28, go_sem]; done) | (simp [results, Try.results28, go_sem, World.cell?_setCell_same', *]; done) | (simp [results, Try.results28, go_sem]; first | exact ⟨rfl, rfl⟩ | rfl)) rfl ⟨none, 0, 0, by rw [he.out], by rw [hl.out]; exact Sl.none_, below_grown hb1 hgr3 hg (Nat.le_refl _)⟩
    · have he : Hid (truthErr row sc = 0) := by unfold truthErr; rw [if_neg (by simp [h0]), hp]; trivial
      have hl : Hid (btwL row sc = btwAll row sc) := by unfold btwL; rw [if_pos he.out]; trivial
      have hP : Hid (poss n (mAt row) (sAt sc) (fun _ => false) = true) := hid (by rw [← hN.out]; exact hp)
      obtain ⟨i0, hi, hz0, hz1, hz2⟩ := info_parts info24
      clear h0 hp
      go_enter Try.func28, Try.ntmps28
      go_wp2_with (first | (go_at_call 80; refine (open_ok _ A A' n c n' c' row sc hr hn hr' hn' H0.out).mono ?_; rintro e w1 ⟨g, rfl, hg, hbk, hb1⟩) | (go_at_call 81; refine (settle_poss w1 g A n c row _ hbk ((hr.below hb1 (Nat.le_refl _)).below (Below.refl _ _) hg) hn7 H6.out (okS_sAt H3.out) (.inl hn1)).mono ?_; rw [hP.out]; rintro e w3 ⟨rfl, hgr3, s3, hbk3, h3⟩) | (at_make; refine wpList_make_full _ rfl _ _ 34 rfl w.heap.size 24 i0 _ 2 under34 hi hz0 hz1 _ _ _ _ n' rfl rfl rfl rfl (by rw [hz2]; omega) (by unfold maxLen; omega) (by have := hb1.size; have := hgr3.size; omega) ?_; intro w4 hown hgr4; obtain ⟨cur, hcur, hcs⟩ := row_of_full hown; have hbk4 := hbk3.grown hgr4 (by simp); obtain ⟨hcp, hbx⟩ := copy_book hbk4 hcur hcs hn8))
      have hS := (h3 trivial)
      have hlist : ((List.range n').map s3) = btwAll row sc := by
        unfold btwAll
        rw [hnn.out, hN.out]
        exact range_btw (settled_btw hM'.out (okS_sAt H3.out) hS)
      have hlz := hb1.size
      have hgz := hgr3.size
      have hgz4 := hgr4.size
      refine bodyPost_ret (v := .tuple #[.slice (some ⟨w3.heap.size, 0, none⟩) n' n', .int .i64 0]) (by first | (simp [results, Try.results28, go_sem]; done) | (simp [results, Try.results28, go_sem, World.cell?_setCell_same', *]; done) | (simp [results, Try.results28, go_sem]; first | exact ⟨rfl, rfl⟩ | rfl)) rfl ⟨_, n', n', by rw [he.out], ?_, ?_⟩
      · rw [hl.out, ← hlist]
        exact sl_of_blk hbx (by rw [flat_len (s := 2) (fun _ => rfl)]; simp)
      · exact below_setRow (below_grown' (below_grown hb1 hgr3 hg (Nat.le_refl _)) hgr4 (Nat.le_refl _)) (by omega) _
  · have he : Hid (truthErr row sc = checkScales row sc) := by unfold truthErr; rw [if_pos h0]; trivial
    have hl : Hid (btwL row sc = []) := by unfold btwL; rw [if_neg (by rw [he.out]; exact h0)]; trivial
    have hc : (checkScales row sc != 0) = true := by simp [h0]
    have H0 := hid h0
    clear h0
    go_enter Try.func28, Try.ntmps28
    go_wp2_with (first | (go_at_call 80; refine (open_bad _ A A' n c n' c' row sc hr hn hr' hn' H0.out).mono ?_; rintro e w1 ⟨rfl, hb1⟩))
    refine bodyPost_ret (v := .tuple #[.slice none 0 0, .int .i64 (checkScales row sc)]) (by first | (simp [results, Try.results28, go_sem]; done) | (simp [results, Try.results28, go_sem, World.cell?_setCell_same', *]; done) | (simp [results, Try.results28, go_sem]; first | exact ⟨rfl, rfl⟩ | rfl)) rfl ⟨none, 0, 0, by rw [he.out], by rw [hl.out]; exact Sl.none_, hb1⟩
end Go.Proofs.Ytdcglphekafpdaa
namespace Go.Proofs.Ytdcglphekafpdaa
open Go.RowKit Go.Shelf
theorem bk_set_hi (V : Value) (s : Nat → Rg) {i : Nat} (h : i < 8) (x : Int) : (bk V s).setIfInBounds (1 + i * 2 + 1) (.int .i64 x) = bk V (upd s i ⟨(s i).lo, x⟩) := by
  rcases lt8 h with rfl | rfl | rfl | rfl | rfl | rfl | rfl | rfl <;> rfl
theorem Book.set_hi {w : World} {g : Nat} {V : Value} {s : Nat → Rg} (h : Book w g V s) {i : Nat} (hi : i < 8) (x : Int) : Book (w.setCell ⟨g, 1 + i * 2 + 1, none⟩ (.int .i64 x)) g V (upd s i ⟨(s i).lo, x⟩) := by
  have := Blk.set_ h (1 + i * 2 + 1) (.int .i64 x)
  rw [bk_set_hi V s hi] at this
  exact this
theorem owns_below {w w' : World} {base : Nat} {e : TypeId} {size : Nat} {v : Value} {n : Nat} {xs : List Value} (h : w.ownsRow base e size v n xs) (hb : Below w.heap.size w w') : w'.ownsRow base e size v n xs :=
  h.kept (row := none) ⟨hb.os, hb.tape, hb.output, hb.size, fun k hk _ => hb.block k hk⟩ (by cases hv : v.ownBlock with | none => exact .inl rfl | some k => exact .inr (by simp))
/-- Between two rounds of Truth. -/
structure TInv (n : Nat) (M : Nat → Mt) (s : Nat → Rg) (k : Nat) (ts : List Int) (sk : Nat → Rg) : Prop where
  ok : okS sk
  settled : ∃ sb, Settled n M sb sk
  sub : Sub sk s
  len : ts.length = k
  eq : ∀ i, i < k → (sk i).lo = wAt ts i ∧ (sk i).hi = wAt ts i
theorem wAt_app (ts : List Int) (x : Int) (i : Nat) : wAt (ts ++ [x]) i = if i < ts.length then wAt ts i else if i = ts.length then x else 0 := by
  unfold wAt
  split
  · rename_i h; rw [List.getElem?_append_left h]
  · rename_i h
    rw [List.getElem?_append_right (by omega)]
    split
    · rename_i h2; subst h2; simp
    · rename_i h2; rw [List.getElem?_eq_none (by simp; omega)]; rfl
theorem TInv.round {n : Nat} {M : Nat → Mt} {s : Nat → Rg} {k : Nat} {ts : List Int} {sk : Nat → Rg} (h : TInv n M s k ts sk) (hM : ∀ i, i < n → okM (M i) = true) (hk : k ≤ n) :
    poss n M (upd sk k ⟨(sk k).lo, (sk k).lo⟩) (fun _ => false) = true ∧ okS (upd sk k ⟨(sk k).lo, (sk k).lo⟩) ∧
    ∀ s3, Settled n M (upd sk k ⟨(sk k).lo, (sk k).lo⟩) s3 → (s3 k).lo = (sk k).lo ∧ TInv n M s (k + 1) (ts ++ [(sk k).lo]) s3 := by
  have hok : okS (upd sk k ⟨(sk k).lo, (sk k).lo⟩) := okS_upd h.ok (h.ok k).1 (Int.le_refl _) (h.ok k).2.1
  obtain ⟨sb, hS⟩ := h.settled
  have hne := hS.ne hk
  obtain ⟨T, t1, t2⟩ := hS.wit hM hk (Int.le_refl (sk k).lo) hne
  have hT : Truth n M (upd sk k ⟨(sk k).lo, (sk k).lo⟩) T := ⟨fun i hi => by
    by_cases e : i = k
    · subst e; rw [upd_same]; simp only; omega
    · rw [upd_ne _ _ e]; exact t1.1 i hi, t1.2⟩
  refine ⟨(poss_none hM hok).2 ⟨T, hT⟩, hok, fun s3 h3 => ?_⟩
  have hsub := h3.nar.1
  have hne3 : ∀ i, i ≤ n → (s3 i).lo ≤ (s3 i).hi := fun i hi => h3.ne hi
  have hkk := hsub k
  rw [upd_same] at hkk
  have hnk := hne3 k hk
  have e1 : (s3 k).lo = (sk k).lo := by simp only at hkk; omega
  have e2 : (s3 k).hi = (sk k).lo := by simp only at hkk; omega
  have hsub2 : Sub s3 sk := fun i => by
    have := hsub i
    by_cases e : i = k
    · subst e; rw [upd_same] at this; simp only at this; omega
    · rwa [upd_ne _ _ e] at this
  refine ⟨e1, h3.ok, ⟨_, h3⟩, hsub2.trans h.sub, by simp [h.len], fun i hi => ?_⟩
  rw [wAt_app, h.len]
  by_cases hik : i < k
  · rw [if_pos hik]
    have a := h.eq i hik
    have b := hsub2 i
    have c := hne3 i (by omega)
    omega
  · obtain rfl : i = k := by omega
    rw [if_neg (by omega), if_pos rfl]
    exact ⟨e1, e2⟩
theorem TInv.last {n : Nat} {M : Nat → Mt} {s : Nat → Rg} {ts : List Int} {sk : Nat → Rg} (h : TInv n M s (n + 1) ts sk) (hM : ∀ i, i < n → okM (M i) = true) : isT n M s (wAt ts) = true := by
  rw [isT_iff]
  obtain ⟨sb, hS⟩ := h.settled
  obtain ⟨T, t1, _⟩ := hS.wit hM (j := 0) (by omega) (v := (sk 0).lo) (Int.le_refl _) hS.first
  have e : ∀ i, i ≤ n → T i = wAt ts i := fun i hi => by
    have := t1.1 i hi
    have := h.eq i (by omega)
    omega
  have t2 := truth_sub h.sub t1
  exact ⟨fun i hi => by have := t2.1 i hi; rwa [e i hi] at this, fun i hi => by have := t2.2 i hi; rwa [e i (by omega), e (i + 1) (by omega)] at this⟩

def TruthPost (row : List Mt) (sc : List Rg) (w : World) (e : Ending) (w' : World) : Prop :=
  ∃ A m c ts, e = .returned (.tuple #[.slice A m c, .int .i64 (truthErr row sc)]) ∧ InS w' w'.heap.size A m ts ∧ (truthErr row sc = 0 → ts.length = row.length + 1 ∧ isT row.length (mAt row) (sAt sc) (wAt ts) = true) ∧ (truthErr row sc ≠ 0 → ts = []) ∧ Below w.heap.size w w'

set_option maxRecDepth 100000 in
set_option maxHeartbeats 1000000 in
theorem dTruth_any (w : World) (A A' : Option Addr) (n c n' c' : Nat) (row : List Mt) (sc : List Rg) (hr : MtS w w.heap.size A n row) (hn : n ≤ 12) (hr' : RgS w w.heap.size A' n' sc) (hn' : n' ≤ 12) :
    Calls Try.prog 26 #[.slice A n c, .slice A' n' c'] w (TruthPost row sc w) := by
  by_cases h0 : checkScales row sc = 0
  · obtain ⟨k1, k2, k3⟩ := checkScales_ok h0
    obtain ⟨k4, k5, k6⟩ := checkRow_ok k1
    have hlen := hr.len
    have hlen' := hr'.len
    have H0 := hid h0
    have H6 := hid k6
    have H3 := hid k3
    have hN : Hid (row.length = n) := hid hlen
    have hn7 : n ≤ 7 := by omega
    have hn1 : 1 ≤ n := by omega
    have hn8 : n' ≤ 8 := by omega
    have hnn : Hid (n' = n + 1) := hid (by omega)
    have hM : ∀ i, i < n → okM (mAt row i) = true := fun i hi => mAt_ok H6.out (by rw [hN.out]; exact hi)
    have hM' := hid hM
    clear k1 k2 k3 k4 k5 k6 hlen hlen' hM
    cases hp : possB row sc
    · have he : Hid (truthErr row sc = 14) := by unfold truthErr; rw [if_neg (by simp [h0]), hp]; trivial
      have hP : Hid (poss n (mAt row) (sAt sc) (fun _ => false) = false) := hid (by rw [← hN.out]; exact hp)
      clear h0 hp
      go_enter Try.func26, Try.ntmps26
      go_wp2_with (first | (go_at_call 80; refine (open_ok _ A A' n c n' c' row sc hr hn hr' hn' H0.out).mono ?_; rintro e w1 ⟨g, rfl, hg, hbk, hb1⟩) | (go_at_call 81; refine (settle_poss w1 g A n c row _ hbk ((hr.below hb1 (Nat.le_refl _)).below (Below.refl _ _) hg) hn7 H6.out (okS_sAt H3.out) (.inl hn1)).mono ?_; rw [hP.out]; rintro e w3 ⟨rfl, hgr3, s3, hbk3, h3⟩))
      refine bodyPost_ret (v := .tuple #[.slice none 0 0, .int .i64 14]) (by first | (simp [results, Try.results26, go_sem]; done) | (simp [results, Try.results26, go_sem, World.cell?_setCell_same', *]; done) | (simp [results, Try.results26, go_sem]; first | exact ⟨rfl, rfl⟩ | rfl)) rfl ⟨none, 0, 0, [], by rw [he.out], Sl.none_, fun h => by (rw [he.out] at h; omega), fun _ => rfl, below_grown hb1 hgr3 hg (Nat.le_refl _)⟩
    · have he : Hid (truthErr row sc = 0) := by unfold truthErr; rw [if_neg (by simp [h0]), hp]; trivial
      have hP : Hid (poss n (mAt row) (sAt sc) (fun _ => false) = true) := hid (by rw [← hN.out]; exact hp)
      obtain ⟨i0, hi, hz0, hz1, hz2⟩ := info_parts info2
      clear h0 hp
      go_enter Try.func26, Try.ntmps26
      go_wp2_with (first | (go_at_call 80; refine (open_ok _ A A' n c n' c' row sc hr hn hr' hn' H0.out).mono ?_; rintro e w1 ⟨g, rfl, hg, hbk, hb1⟩) | (go_at_call 81; refine (settle_poss w1 g A n c row _ hbk ((hr.below hb1 (Nat.le_refl _)).below (Below.refl _ _) hg) hn7 H6.out (okS_sAt H3.out) (.inl hn1)).mono ?_; rw [hP.out]; rintro e w3 ⟨rfl, hgr3, s3, hbk3, h3⟩) | (at_make; refine wpList_make_own _ rfl _ _ 35 rfl w.heap.size 2 i0 _ 1 under35 hi hz0 hz1 _ _ _ n' rfl rfl rfl (by rw [hz2]; omega) (by unfold maxLen; omega) (by have := hb1.size; have := hgr3.size; omega) ?_; intro w4 hown hgr4))
      have hbk4 := hbk3.grown hgr4 (by simp)
      have hg3 : g < w3.heap.size := Blk.lt hbk3
      have hb4 := below_grown' (below_grown hb1 hgr3 hg (Nat.le_refl _)) hgr4 (Nat.le_refl _)
      have hS := h3 trivial
      clear h3 hbk hbk3
      generalize w3.heap.size = g8 at *
      go_loopw [8, 29] (fun v i wr => ∃ k : Nat, k ≤ n' ∧ i = .int .i64 k ∧ v = .slice (some ⟨g8, 0, none⟩) k n' ∧ ∃ ts sk, wr.ownsRow w.heap.size 2 1 v k (ts.flatMap cI) ∧ Book wr g (.slice A n c) sk ∧ Hid (TInv n (mAt row) (sAt sc) k ts sk) ∧ Below w.heap.size w wr) (fun _ i _ => n' - (intOf i).toNat)
      case atStart => exact ⟨0, by omega, rfl, rfl, [], s3, hown, hbk4, hid ⟨hS.ok, ⟨_, hS⟩, hS.nar.1, rfl, fun i hi => by omega⟩, hb4⟩
      case round =>
        obtain ⟨k, hk, rfl, rfl, ts, sk', hown', hbk, hI, hbel⟩ := hrel
        have hsz := hbel.size
        have hgw : g < wr.heap.size := Blk.lt hbk
        have hg8 : g8 < wr.heap.size := (hown'.lt g8 rfl).2
        by_cases hlt : k < n'
        · have hk8 : k < 8 := by omega
          have hk8i : (k : Int) < 8 := by omega
          have p0 := hbk.lo (i := k) hk8
          obtain ⟨r1, r2, r3⟩ := hI.out.round hM'.out (by have := hnn.out; omega)
          have R1 := hid r1
          have R3 := hid r3
          clear r1 r3
          go_wp2_with (fail)
          refine wp_region_hd 13 (fun W' => Below wr.heap.size wr W') (by kernel_rfl) (by kernel_rfl) ((Below.refl _ _).drew) ?_
          simp only [List.take_succ_cons, List.take_zero, List.drop_succ_cons, List.drop_zero]
          iterate 13 (refine wpHd_val (v := ?_) (by rfl) (fun W hW => ?_) ?_; rotate_left; (· obtain ⟨hcW, hfW⟩ := bcell hW; go_simp; with_reducible rfl); simp only [Act.put, List.setIfInBounds_toArray, List.set_cons_zero, List.set_cons_succ])
          refine wpHd_nil ?_
          intro W2 hW2
          have hbk2 : Book W2 g (.slice A n c) sk' := Blk.below hbk hW2 hgw
          have hbk3 := hbk2.set_hi hk8 (sk' k).lo
          have q1 := hbk2.hi (i := k) hk8
          have q3 := Blk.frozen hbk2 (1 + k * 2 + 1)
          have hown2 := ownsRow_setCell_other (owns_below hown' hW2) (a := ⟨g, 1 + k * 2 + 1, none⟩) (by simp [Value.ownBlock]; omega) (.int .i64 (sk' k).lo)
          have hbel3 := (hbel.trans (hW2.mono hsz)).setCell (p := ⟨g, 1 + k * 2 + 1, none⟩) hg (.int .i64 (sk' k).lo)
          have hg8' : g8 < W2.heap.size := by have := hW2.size; omega
          clear p0 hown'
          go_wp2_with (first | (go_at_call 81; refine (settle_poss _ g A n c row _ hbk3 ((hr.below hbel3 (Nat.le_refl _)).below (Below.refl _ _) hg) hn7 H6.out r2 (.inl hn1)).mono ?_; rw [R1.out]; rintro e w5 ⟨rfl, hgr5, s5, hbk5, h5⟩; obtain ⟨e5, I5⟩ := R3.out s5 (h5 rfl); have I5' := hid I5; clear I5 h5; have c5 := hbk5.lo (i := k) hk8; rw [e5] at c5; have hown5 := hown2.kept hgr5 (.inr (by simp [Value.ownBlock]; omega)); have hg5 : g < w5.heap.size := Blk.lt hbk5) | (at_builtin; refine wpList_append_fits _ rfl _ _ 35 rfl w.heap.size 2 i0 1 under35 hi hz1 g8 k n' (ts.flatMap cI) rfl (hown5.alloc _) ⟨w5.heap.size, 0, none⟩ 1 1 [.int .i64 (sk' k).lo] rfl rfl (fun j u hj => by cases j with | zero => simp at hj; subst hj; simp [Addr.add] | succ j => simp at hj) (fun u hu => by simp at hu; subst hu; rfl) (by omega) ?_; intro w6 hown6 hgr6))
          have hb8 := (hown6.lt g8 rfl).1
          have hbel5 := below_grown hbel3 hgr5 hg (Nat.le_refl _)
          exact ⟨⟨k + 1, by omega, by go_num, rfl, _, s5, by rw [List.flatMap_append]; exact hown6, (Blk.alloc hbk5 _).grown hgr6 (by simp; omega), I5', below_grown (hbel5.alloc hbel5.size _) hgr6 hb8 (Nat.le_refl _)⟩, by simp [intOf]; omega⟩
        · obtain rfl : k = n' := by omega
          have hfin : Hid (ts.length = row.length + 1 ∧ isT row.length (mAt row) (sAt sc) (wAt ts) = true) := by
            have hI' := hI.out
            have e1 := hnn.out
            subst e1
            rw [hN.out]
            exact hid ⟨hI'.len, hI'.last hM'.out⟩
          obtain ⟨Ao, co, e1, hSl⟩ := sl_of_owns hown'
          cases e1
          go_wp2
          refine bodyPost_ret (v := .tuple #[.slice (some ⟨g8, 0, none⟩) k k, .int .i64 0]) (by first | (simp [results, Try.results26, go_sem]; done) | (simp [results, Try.results26, go_sem, World.cell?_setCell_same', *]; done) | (simp [results, Try.results26, go_sem]; first | exact ⟨rfl, rfl⟩ | rfl)) rfl ⟨_, k, k, ts, by rw [he.out], hSl, fun _ => hfin.out, fun h => absurd he.out h, hbel⟩
  · have he : Hid (truthErr row sc = checkScales row sc) := by unfold truthErr; rw [if_pos h0]; trivial
    have hc : (checkScales row sc != 0) = true := by simp [h0]
    have H0 := hid h0
    clear h0
    go_enter Try.func26, Try.ntmps26
    go_wp2_with (first | (go_at_call 80; refine (open_bad _ A A' n c n' c' row sc hr hn hr' hn' H0.out).mono ?_; rintro e w1 ⟨rfl, hb1⟩))
    refine bodyPost_ret (v := .tuple #[.slice none 0 0, .int .i64 (checkScales row sc)]) (by first | (simp [results, Try.results26, go_sem]; done) | (simp [results, Try.results26, go_sem, World.cell?_setCell_same', *]; done) | (simp [results, Try.results26, go_sem]; first | exact ⟨rfl, rfl⟩ | rfl)) rfl ⟨none, 0, 0, [], by rw [he.out], Sl.none_, fun h => absurd (he.out.symm.trans h) H0.out, fun _ => rfl, hb1⟩
end Go.Proofs.Ytdcglphekafpdaa
