/- Texts of the proof, laid together by program. -/
import Derived.Test.YtolghmhodaphfaaMq
import Derived.Test.YtolghmhodaphfaaMp
import Derived.Test.YtolghmhodaphfaaMl
/- Walks: the law's orders, before. -/
namespace Go.Proofs.Ytolghmhodaphfaa
open Go.RowKit
attribute [local go_sem] Oper.semAt_some
def ordU (n f : Nat) : Nat := ((List.range f).map fun g => if 2 ≤ g ∧ n % g = 0 then oT (n / g) else 0).sum
theorem ordU_succ (n f : Nat) : ordU n (f + 1) = ordU n f + if 2 ≤ f ∧ n % f = 0 then oT (n / f) else 0 := by
  unfold ordU
  rw [List.range_succ, List.map_append, List.sum_append]
  simp
theorem ordU_bd (n f : Nat) : ordU n f ≤ f * 200 := by
  unfold ordU
  have h1 := sum_bd (List.range f) (fun g => if 2 ≤ g ∧ n % g = 0 then oT (n / g) else 0) 200 (fun j _ => by split; (· exact oT_bd _); omega)
  rw [List.length_range] at h1
  exact h1
theorem ordU_all : ∀ m : Fin 122, m.val < 2 ∨ ordU m.val (m.val + 1) = oT m.val := by decide +kernel
set_option maxRecDepth 10000 in
set_option maxHeartbeats 800000 in
theorem orders_any : ∀ (n : Nat), 1 ≤ n → n ≤ 121 → ∀ w : World, Calls Try.prog 57 #[.int .i64 n] w fun e w' => e = .returned (.int .i64 (oT n)) ∧ Below w.heap.size w w' := by
  intro n
  induction n using Nat.strongRecOn with
  | _ n ih =>
    intro h1 h2 w
    by_cases hn1 : n = 1
    · subst hn1
      go_enter Try.func57, Try.ntmps57
      go_wp2
      refine bodyPost_ret (v := .int .i64 1) (by first | (simp [results, Try.results57, go_sem]; done) | (simp [results, Try.results57, go_sem, *]; done) | (simp [results, Try.results57, go_sem, World.cell?_setCell_same', *]; done) | (simp [results, Try.results57, go_sem]; first | exact ⟨rfl, rfl⟩ | rfl)) rfl ⟨rfl, Below.refl _ _⟩
    · have dn : ((n : Int) == 1) = false := by simp; omega
      have hfin : Hid (ordU n (n + 1) = oT n) := hid ((ordU_all ⟨n, by omega⟩).resolve_left (by simp; omega))
      have h0 : ordU n 2 = 0 := by
        rw [ordU_succ, ordU_succ, if_neg (by omega), if_neg (by omega)]; rfl
      have H0 := hid h0
      clear h0
      go_enter Try.func57, Try.ntmps57
      go_wp2
      go_loopw [3, 4] (fun v x wr => ∃ f : Nat, 2 ≤ f ∧ f ≤ n + 1 ∧ x = .int .i64 f ∧ v = .int .i64 (ordU n f) ∧ Below w.heap.size w wr) (fun _ x _ => n + 1 - (intOf x).toNat)
      case atStart => exact ⟨2, by omega, by omega, rfl, by rw [H0.out]; rfl, Below.refl _ _⟩
      case round =>
        obtain ⟨f, hf2, hfn, rfl, rfl, hbw⟩ := hrel
        have hszw := hbw.size
        by_cases hlt : f < n + 1
        · have hle : (f : Int) ≤ n := by omega
          have z1 : ((n : Int).tmod f) = ((n % f : Nat) : Int) := by rw [Int.tmod_eq_emod_of_nonneg (by omega)]; exact (Int.natCast_emod n f).symm
          have z2 : ((n : Int).tdiv f) = ((n / f : Nat) : Int) := by rw [Int.tdiv_eq_ediv_of_nonneg (by omega)]; exact (Int.natCast_ediv n f).symm
          have hs := ordU_succ n f
          have hb := ordU_bd n f
          have hm := Nat.mod_lt n (show 0 < f by omega)
          have hdl : n / f ≤ n := Nat.div_le_self n f
          have hdlt : n / f < n := Nat.div_lt_self (by omega) (by omega)
          have hd1 : 1 ≤ n / f := (Nat.le_div_iff_mul_le (by omega)).2 (by omega)
          obtain ⟨r, hr⟩ : ∃ r, n % f = r := ⟨_, rfl⟩
          obtain ⟨q, hq⟩ : ∃ q, n / f = q := ⟨_, rfl⟩
          obtain ⟨t0, ht0⟩ : ∃ t0, ordU n f = t0 := ⟨_, rfl⟩
          rw [hr] at z1 hs hm
          rw [hq] at z2 hs hdl hd1 hdlt
          rw [ht0] at hs hb ⊢
          have hoq := oT_bd q
          have f0 : ((f : Int) == 0) = false := by simp; omega
          have f1 : ¬ (f : Int) = 0 := by omega
          have w1 : IntKind.i64.wrap (r : Int) = r := wrap_ok (by omega)
          have w2 : IntKind.i64.wrap (q : Int) = q := wrap_ok (by omega)
          have w3 : IntKind.i64.wrap ((f : Int) + 1) = (f : Int) + 1 := wrap_ok (by omega)
          by_cases hr0 : r = 0
          · subst hr0
            rw [if_pos ⟨hf2, rfl⟩] at hs
            have w4 : IntKind.i64.wrap ((t0 : Int) + (oT q : Int)) = (t0 : Int) + (oT q : Int) := wrap_ok (by omega)
            have Hs := hid hs
            have HIH := hid (ih q hdlt (by omega) (by omega))
            clear hs hr hq ht0
            go_wp2_with (first | (go_at_call 57; refine (HIH.out _).mono ?_; rintro e w2 ⟨rfl, hb2⟩))
            exact ⟨⟨f + 1, by omega, by omega, by go_num, by rw [Hs.out]; go_num, hbw.trans (hb2.mono hszw)⟩, by simp [intOf]; omega⟩
          · rw [if_neg (fun h => hr0 h.2)] at hs
            have dr : ((r : Int) == 0) = false := by simp; omega
            have Hs := hid hs
            clear hs hr hq ht0 ih
            go_wp2
            exact ⟨⟨f + 1, by omega, by omega, by go_num, by rw [Hs.out]; rfl, hbw⟩, by simp [intOf]; omega⟩
        · obtain rfl : f = n + 1 := by omega
          rw [hfin.out]
          have hle : ¬ ((n + 1 : Nat) : Int) ≤ n := by omega
          go_wp2
          refine bodyPost_ret (v := .int .i64 (oT n)) (by first | (simp [results, Try.results57, go_sem]; done) | (simp [results, Try.results57, go_sem, *]; done) | (simp [results, Try.results57, go_sem, World.cell?_setCell_same', *]; done) | (simp [results, Try.results57, go_sem]; first | exact ⟨rfl, rfl⟩ | rfl)) rfl ⟨rfl, hbw⟩
/-- A list comes before another one. -/
def beforeL : List Int → List Int → Bool
  | [], [] => false
  | [], _ :: _ => true
  | _ :: _, [] => false
  | x :: a, y :: b => if x = y then beforeL a b else decide (x < y)
theorem before_take : ∀ (k : Nat) (a b : List Int), a.take k = b.take k → beforeL a b = beforeL (a.drop k) (b.drop k)
  | 0, _, _, _ => rfl
  | k + 1, [], [], _ => rfl
  | k + 1, [], y :: b, h => by simp at h
  | k + 1, x :: a, [], h => by simp at h
  | k + 1, x :: a, y :: b, h => by
    simp only [List.take_succ_cons, List.cons.injEq] at h
    show (if x = y then beforeL a b else _) = beforeL (a.drop k) (b.drop k)
    rw [if_pos h.1, before_take k a b h.2]
theorem before_at {a b : List Int} {k : Nat} {x y : Int} (h : a.take k = b.take k) (hx : a[k]? = some x) (hy : b[k]? = some y) (hne : x ≠ y) : beforeL a b = decide (x < y) := by
  rw [before_take k a b h]
  have h1 := (List.getElem?_eq_some_iff.1 hx)
  have h2 := (List.getElem?_eq_some_iff.1 hy)
  obtain ⟨l1, e1⟩ := h1
  obtain ⟨l2, e2⟩ := h2
  rw [List.drop_eq_getElem_cons l1, List.drop_eq_getElem_cons l2, e1, e2]
  show (if x = y then _ else decide (x < y)) = _
  rw [if_neg hne]
theorem before_end {a b : List Int} {k : Nat} (h : a.take k = b.take k) (hk : k = a.length ∨ k = b.length) : beforeL a b = decide (a.length < b.length) := by
  rw [before_take k a b h]
  have hl := congrArg List.length h
  rw [List.length_take, List.length_take] at hl
  have hda : (a.drop k).length = a.length - k := List.length_drop
  have hdb : (b.drop k).length = b.length - k := List.length_drop
  cases h1 : a.drop k with
  | nil =>
    rw [h1] at hda
    cases h2 : b.drop k with
    | nil =>
      rw [h2] at hdb
      simp at hda hdb
      show false = _
      rw [eq_comm, decide_eq_false_iff_not]; omega
    | cons y b' =>
      rw [h2] at hdb
      simp at hda hdb
      show true = _
      rw [eq_comm, decide_eq_true_eq]; omega
  | cons x a' =>
    rw [h1] at hda
    cases h2 : b.drop k with
    | nil =>
      rw [h2] at hdb
      simp at hda hdb
      show false = _
      rw [eq_comm, decide_eq_false_iff_not]; omega
    | cons y b' =>
      rw [h2] at hdb
      simp at hda hdb
      omega
set_option maxRecDepth 10000 in
set_option maxHeartbeats 800000 in
theorem before_any (w : World) (A B : Option Addr) (n c m d : Nat) (a b : List Int) (ha : InS w w.heap.size A n a) (hb : InS w w.heap.size B m b) (hn : n ≤ 1000000) (hm : m ≤ 1000000) :
    Calls Try.prog 58 #[.slice A n c, .slice B m d] w fun e w' => e = .returned (.bool (beforeL a b)) ∧ Below w.heap.size w w' := by
  have la := hid ha.len
  have lb := hid hb.len
  go_enter Try.func58, Try.ntmps58
  go_wp2
  go_loopw [5] (fun i wr => ∃ k : Nat, k ≤ n ∧ k ≤ m ∧ i = .int .i64 k ∧ Hid (a.take k = b.take k) ∧ Below w.heap.size w wr) (fun i _ => n - (intOf i).toNat)
  case atStart => exact ⟨0, by omega, by omega, rfl, by simp [Hid], Below.refl _ _⟩
  case round =>
    obtain ⟨k, hk, hk', rfl, heq, hbel⟩ := hrel
    have hsz := hbel.size
    by_cases hlt : k < n
    · have hlti : (k : Int) < n := by omega
      have dlt : decide ((k : Int) < n) = true := decide_eq_true hlti
      by_cases hlt2 : k < m
      · have hlti2 : (k : Int) < m := by omega
        have dlt2 : decide ((k : Int) < m) = true := decide_eq_true hlti2
        obtain ⟨b1, o1, x, rfl, hb1, hx, c1⟩ := (ha.below hbel (Nat.le_refl _)).at_ hlt
        obtain ⟨b2, o2, y, rfl, hb2, hy, d1⟩ := (hb.below hbel (Nat.le_refl _)).at_ hlt2
        have HX := hid hx
        have HY := hid hy
        have hk0 : (0 : Int) ≤ k := by omega
        clear hx hy
        by_cases hxy : x = y
        · subst hxy
          have t1 : (x != x) = false := by simp
          go_wp2
          go_quiet (fail)
          go_wp2
          exact ⟨⟨k + 1, by omega, by omega, by go_num, take_eq_succ heq.out HX.out HY.out, below_drewN hbel _⟩, by simp [intOf]; omega⟩
        · have t1 : (x != y) = true := by simpa using hxy
          have hfin : Hid (beforeL a b = decide (x < y)) := hid (before_at heq.out HX.out HY.out hxy)
          clear hxy
          go_wp2
          go_quiet (fail)
          go_wp2
          go_quiet (fail)
          go_wp2
          go_ret
          exact ⟨by rw [hfin.out]; rfl, by first | exact below_drewN hbel _ | exact below_drewN (below_drewN hbel _) _⟩
      · have hnot : ¬ (k : Int) < m := by omega
        have dlt2 : decide ((k : Int) < m) = false := decide_eq_false hnot
        have hfin : Hid (beforeL a b = decide (n < m)) := hid (by rw [before_end heq.out (.inr (by have := lb.out; omega)), la.out, lb.out])
        go_wp2
        go_ret
        exact ⟨by rw [hfin.out]; rfl, hbel⟩
    · obtain rfl : k = n := by omega
      have hnot : ¬ (k : Int) < k := by omega
      have dlt : decide ((k : Int) < k) = false := decide_eq_false hnot
      have hfin : Hid (beforeL a b = decide (k < m)) := hid (by rw [before_end heq.out (.inl (by have := la.out; omega)), la.out, lb.out])
      go_wp2
      go_ret
      exact ⟨by rw [hfin.out]; rfl, hbel⟩
end Go.Proofs.Ytolghmhodaphfaa
/- Plain law: all perfect sets, one after another. No program in sight. -/
namespace Go.Proofs.Ytolghmhodaphfaa
def goodS (p a : Int) (s : List Kd) : Bool := checkSet s == 0 && (sumOf s == a && isPf p 1 s)
def chainS (p : Int) (ls : List (List Kd)) : Bool := (ls.zip (ls.drop 1)).all fun q => beforeL (factsL p q.1) (factsL p q.2)
theorem counted_one : ∀ a : Fin 61, a.val = 0 ∨ ((allSets 1 a.val).all (goodS 1 a.val) && chainS 1 (allSets 1 a.val)) = true := by decide +kernel
theorem counted_two : ∀ a : Fin 61, a.val = 0 ∨ ((allSets 2 a.val).all (goodS 2 a.val) && chainS 2 (allSets 2 a.val)) = true := by decide +kernel
theorem counted_facts {p a : Int} (hp : p = 1 ∨ p = 2) (h1 : 1 ≤ a) (h2 : a ≤ 60) : ofE p a 60 = 0 ∧ (∀ s ∈ allSets p a, checkSet s = 0 ∧ sumOf s = a ∧ perfE p s = 0 ∧ perfV p s = a) ∧
    (∀ (k : Nat) s t, (allSets p a)[k]? = some s → (allSets p a)[k + 1]? = some t → beforeL (factsL p s) (factsL p t) = true) ∧ ((allSets p a).length : Int) = countV p a ∧ countV p a = oT (p * a + 1).toNat := by
  obtain ⟨n, rfl⟩ : ∃ n : Nat, a = n := ⟨a.toNat, by omega⟩
  have ho : ofE p n 60 = 0 := by
    unfold ofE
    rw [if_neg (by rw [Bool.not_eq_false]; rw [inR_t]; omega), if_neg (by rw [Bool.not_eq_false]; rw [inR_t]; omega)]
  have hall : (allSets p n).all (goodS p n) = true ∧ chainS p (allSets p n) = true := by
    rcases hp with rfl | rfl
    · have := (counted_one ⟨n, by omega⟩).resolve_left (by simp; omega)
      rwa [Bool.and_eq_true] at this
    · have := (counted_two ⟨n, by omega⟩).resolve_left (by simp; omega)
      rwa [Bool.and_eq_true] at this
  refine ⟨ho, fun s hs => ?_, fun k s t hs ht => ?_, (all_go ho).2, ?_⟩
  · have h3 := List.all_eq_true.1 hall.1 s hs
    unfold goodS at h3
    simp only [Bool.and_eq_true, beq_iff_eq] at h3
    rcases perf_cases hp h3.1 with ⟨-, q2, q3, -⟩ | ⟨q1, -⟩
    · exact ⟨h3.1, h3.2.1, q2, by rw [q3, h3.2.1]⟩
    · rw [h3.2.2] at q1; cases q1
  · refine List.all_eq_true.1 hall.2 (s, t) (List.mem_of_getElem? (i := k) ?_)
    rw [List.getElem?_zip_eq_some]
    exact ⟨hs, by rw [List.getElem?_drop, Nat.add_comm]; exact ht⟩
  · unfold countV
    rw [if_pos ho, countN_eq (by rcases hp with rfl | rfl <;> omega) (by rcases hp with rfl | rfl <;> omega)]
end Go.Proofs.Ytolghmhodaphfaa
/- Plain law: all weights as many times as great; one more weight of a kind. No program in sight. -/
namespace Go.Proofs.Ytolghmhodaphfaa
def scK (t : Int) (ks : List Kd) : List Kd := ks.map fun k => ⟨t * k.wt, k.many⟩
theorem ways_sc (p t : Int) (ht : t ≠ 0) : ∀ (ks : List Kd) (a : Int), ways p (scK t ks) (t * a) = ways p ks a
  | [], a => by
    show (if t * a = 0 then (1 : Int) else 0) = if a = 0 then 1 else 0
    by_cases h : a = 0
    · rw [h, Int.mul_zero]
    · rw [if_neg h, if_neg (Int.mul_ne_zero ht h)]
  | k :: ks, a => by
    show sumR (leastK p k) k.many (fun n => ways p (scK t ks) (t * a - n * (t * k.wt))) = sumR (leastK p k) k.many fun n => ways p ks (a - n * k.wt)
    refine sumR_congr fun n _ _ => ?_
    rw [← ways_sc p t ht ks, Int.mul_sub, Int.mul_left_comm t n]
theorem ways_sc_no (p t : Int) : ∀ (ks : List Kd) (a : Int), a % t ≠ 0 → ways p (scK t ks) a = 0
  | [], a, h => by
    show (if a = 0 then (1 : Int) else 0) = 0
    rw [if_neg (fun e => h (by rw [e, Int.zero_emod]))]
  | k :: ks, a, h => by
    refine sumR_zero fun n _ _ => ways_sc_no p t ks _ ?_
    show (a - n * (t * k.wt)) % t ≠ 0
    rw [show n * (t * k.wt) = t * (n * k.wt) by rw [Int.mul_left_comm], Int.sub_mul_emod_self_left]
    exact h
theorem few_sc (p t : Int) (ht : t ≠ 0) : ∀ (ks : List Kd) (a : Int), fewO p (scK t ks) (t * a) = fewO p ks a
  | [], a => by
    show (if t * a = 0 then some (0 : Int) else none) = if a = 0 then some 0 else none
    by_cases h : a = 0
    · rw [h, Int.mul_zero]
    · rw [if_neg h, if_neg (Int.mul_ne_zero ht h)]
  | k :: ks, a => by
    show foldF (fun n => fewO p (scK t ks) (t * a - n * (t * k.wt))) (leastK p k) (k.many - leastK p k + 1).toNat = foldF (fun n => fewO p ks (a - n * k.wt)) (leastK p k) (k.many - leastK p k + 1).toNat
    congr 1
    funext n
    rw [← few_sc p t ht ks, Int.mul_sub, Int.mul_left_comm t n]
theorem times_facts {p t a : Int} (ht : 1 ≤ t) (ks : List Kd) : (a % t ≠ 0 → ways p (scK t ks) a = 0 ∧ fB p (scK t ks) a = false ∧ fI p (scK t ks) a = 0) ∧ (a % t = 0 → ways p (scK t ks) a = ways p ks (a / t) ∧ fB p (scK t ks) a = fB p ks (a / t) ∧ fI p (scK t ks) a = fI p ks (a / t)) := by
  constructor
  · intro h
    have h1 := ways_sc_no p t ks a h
    have h2 : fB p (scK t ks) a = false := by rw [fB_ways, h1]; rfl
    exact ⟨h1, h2, fI_none h2⟩
  · intro h
    obtain ⟨b, rfl⟩ := Int.dvd_of_emod_eq_zero h
    rw [Int.mul_ediv_cancel_left b (by omega)]
    have h1 := few_sc p t (by omega) ks b
    exact ⟨ways_sc p t (by omega) ks b, by unfold fB; rw [h1], by unfold fI; rw [h1]⟩
theorem scK_take {t : Int} {ks : List Kd} {k : Nat} {m : Kd} (h : ks[k]? = some m) : (scK t (ks.take (k + 1))).flatMap cK = (scK t (ks.take k)).flatMap cK ++ cK ⟨t * m.wt, m.many⟩ := by
  rw [take_snoc h]
  unfold scK
  rw [List.map_append, List.flatMap_append]; simp
theorem scK_len (t : Int) (ks : List Kd) : (scK t ks).length = ks.length := by simp [scK]
end Go.Proofs.Ytolghmhodaphfaa
/- Plain law: a set with more weights of its kinds. No program in sight. -/
namespace Go.Proofs.Ytolghmhodaphfaa
theorem sumR_sub {lo hi lo' hi' : Int} {f : Int → Int} (h : ∀ n, lo' ≤ n → n ≤ hi' → 0 ≤ f n) (h1 : lo' ≤ lo) (h2 : hi ≤ hi') (h3 : lo ≤ hi + 1) : sumR lo hi f ≤ sumR lo' hi' f := by
  rw [sumR_split (lo := lo') (hi := hi') hi f (by omega) (hi' - hi).toNat (by omega), sumR_split (lo := lo') (hi := hi) (lo - 1) f (by omega) (hi - (lo - 1)).toNat (by omega), show lo - 1 + 1 = lo by omega]
  have a1 := sumR_nonneg (lo := lo') (hi := lo - 1) (f := f) (fun n n1 n2 => h n n1 (by omega))
  have a2 := sumR_nonneg (lo := hi + 1) (hi := hi') (f := f) (fun n n1 n2 => h n (by omega) n2)
  omega
/-- The same weights, no fewer of each. -/
def MoreK : List Kd → List Kd → Prop
  | [], [] => True
  | k :: ks, x :: xs => x.wt = k.wt ∧ 1 ≤ k.wt ∧ 0 ≤ k.many ∧ k.many ≤ x.many ∧ MoreK ks xs
  | _, _ => False
theorem more_refl : ∀ {ks : List Kd}, (∀ k ∈ ks, posK k) → MoreK ks ks
  | [], _ => trivial
  | k :: ks, h => ⟨rfl, (h k (by simp)).1, (h k (by simp)).2, Int.le_refl _, more_refl fun x hx => h x (List.mem_cons_of_mem _ hx)⟩
theorem more_set {m : Kd} : ∀ {ks : List Kd} {j : Nat}, (∀ k ∈ ks, posK k) → ks[j]? = some m → MoreK ks (ks.set j ⟨m.wt, m.many + 1⟩)
  | [], j, _, h => by simp at h
  | k :: ks, 0, hk, h => by
    obtain rfl : k = m := by simpa using h
    have h1 := hk k (by simp)
    exact ⟨rfl, h1.1, h1.2, by show k.many ≤ k.many + 1; omega, more_refl fun x hx => hk x (List.mem_cons_of_mem _ hx)⟩
  | k :: ks, j + 1, hk, h => by
    have h1 := hk k (by simp)
    exact ⟨rfl, h1.1, h1.2, Int.le_refl _, more_set (fun x hx => hk x (List.mem_cons_of_mem _ hx)) (by simpa using h)⟩
theorem more_ways {p : Int} (hp : 1 ≤ p) : ∀ {ks xs : List Kd}, MoreK ks xs → ∀ a, ways p ks a ≤ ways p xs a
  | [], [], _, a => Int.le_refl _
  | k :: ks, x :: xs, ⟨h1, h2, h3, h4, h5⟩, a => by
    show sumR (leastK p k) k.many (fun n => ways p ks (a - n * k.wt)) ≤ sumR (leastK p x) x.many fun n => ways p xs (a - n * x.wt)
    have l0 : 0 ≤ (p - 1) * k.many := Int.mul_nonneg (by omega) h3
    have l1 : (p - 1) * k.many ≤ (p - 1) * x.many := Int.mul_le_mul_of_nonneg_left h4 (by omega)
    have e1 : leastK p k = -((p - 1) * k.many) := by have := least_mul (p := p) k 1; rw [Int.mul_one, Int.mul_one] at this; exact this
    have e2 : leastK p x = -((p - 1) * x.many) := by have := least_mul (p := p) x 1; rw [Int.mul_one, Int.mul_one] at this; exact this
    refine Int.le_trans (sumR_le (g := fun n => ways p xs (a - n * x.wt)) fun n _ _ => ?_) (sumR_sub (fun n _ _ => ways_nonneg p xs _) (by omega) h4 (by omega))
    rw [h1]
    exact more_ways hp h5 _
  | [], _ :: _, h, _ => h.elim
  | _ :: _, [], h, _ => h.elim
theorem more_lay {p : Int} (hp : 1 ≤ p) : ∀ {ks xs : List Kd} {l : List Int}, MoreK ks xs → LayOk p ks l → LayOk p xs l ∧ weighs xs l = weighs ks l
  | [], [], [], _, _ => ⟨trivial, rfl⟩
  | k :: ks, x :: xs, n :: l, ⟨h1, h2, h3, h4, h5⟩, ⟨g1, g2, g3⟩ => by
    obtain ⟨i1, i2⟩ := more_lay hp h5 g3
    have l1 : (p - 1) * k.many ≤ (p - 1) * x.many := Int.mul_le_mul_of_nonneg_left h4 (by omega)
    have e1 : leastK p k = -((p - 1) * k.many) := by have := least_mul (p := p) k 1; rw [Int.mul_one, Int.mul_one] at this; exact this
    have e2 : leastK p x = -((p - 1) * x.many) := by have := least_mul (p := p) x 1; rw [Int.mul_one, Int.mul_one] at this; exact this
    refine ⟨⟨by omega, by omega, i1⟩, ?_⟩
    show x.wt * n + weighs xs l = k.wt * n + weighs ks l
    rw [h1, i2]
  | [], [], _ :: _, _, h => h.elim
  | [], _ :: _, _, h, _ => h.elim
  | _ :: _, [], _, h, _ => h.elim
  | _ :: _, _ :: _, [], _, h => h.elim
theorem more_sum : ∀ {ks xs : List Kd}, MoreK ks xs → sumOf ks ≤ sumOf xs
  | [], [], _ => Int.le_refl _
  | k :: ks, x :: xs, ⟨h1, h2, h3, h4, h5⟩ => by
    have := more_sum h5
    have h6 : k.wt * k.many ≤ k.wt * x.many := Int.mul_le_mul_of_nonneg_left h4 (by omega)
    rw [(mem_sum ks).2, (mem_sum xs).2, h1]
    omega
  | [], _ :: _, h => h.elim
  | _ :: _, [], h => h.elim
theorem more_facts {p : Int} (hp : p = 1 ∨ p = 2) {ks xs : List Kd} (h0 : checkSet ks = 0) (hx : checkSet xs = 0) (hm : MoreK ks xs) (a : Int) : ways p ks a ≤ ways p xs a ∧ (fB p ks a = true → fB p xs a = true ∧ fI p xs a ≤ fI p ks a) ∧ uptoV p ks ≤ uptoV p xs := by
  have hp1 : 1 ≤ p := by omega
  refine ⟨more_ways hp1 hm a, fun h => ?_, ?_⟩
  · obtain ⟨l, h1, h2, h3⟩ := few_lay (fB_some h)
    obtain ⟨h4, h5⟩ := more_lay hp1 hm h1
    obtain ⟨y, h6, h7⟩ := few_least h4 (h5.trans h2)
    exact ⟨by unfold fB; rw [h6]; rfl, by have : fI p xs a = y := by unfold fI; rw [h6]; rfl
                                          omega⟩
  · obtain ⟨u1, u2, u3, -⟩ := upto_all hp h0
    obtain ⟨v1, v2, v3, v4⟩ := upto_all hp hx
    have hs := more_sum hm
    rcases Int.lt_or_le (uptoV p xs) (uptoV p ks) with h | h
    · have h1 := v4 (by omega)
      have h2 := u3 (uptoV p xs + 1).toNat (by omega)
      rw [show (((uptoV p xs + 1).toNat : Nat) : Int) = uptoV p xs + 1 by omega] at h2
      have h3 := more_ways hp1 hm (uptoV p xs + 1)
      omega
    · exact h
theorem flat_set {m : Kd} {v : Int} : ∀ {ks : List Kd} {j : Nat}, ks[j]? = some m → (ks.flatMap cK).set (j * 2 + 1) (.int .i64 v) = (ks.set j ⟨m.wt, v⟩).flatMap cK
  | [], j, h => by simp at h
  | k :: ks, 0, h => by
    obtain rfl : k = m := by simpa using h
    rfl
  | k :: ks, j + 1, h => by
    have ih := flat_set (v := v) (ks := ks) (j := j) (by simpa using h)
    show ((cK k ++ ks.flatMap cK).set ((j + 1) * 2 + 1) (.int .i64 v)) = cK k ++ (ks.set j ⟨m.wt, v⟩).flatMap cK
    rw [← ih, List.set_append_right _ _ (by show 2 ≤ _; omega)]
    congr 2
    show (j + 1) * 2 + 1 - 2 = _
    omega
theorem own_put {w : World} {base e size g n cap : Nat} {xs : List Value} (h : w.ownsRow base e size (.slice (some ⟨g, 0, none⟩) n cap) n xs) (i : Nat) (u : Value) : (w.setCell ⟨g, i, none⟩ u).ownsRow base e size (.slice (some ⟨g, 0, none⟩) n cap) n (xs.set i u) := by
  refine ⟨by rw [List.length_set]; exact h.1, .inr ?_⟩
  rcases h.2 with ⟨h1, -⟩ | ⟨g', cap', cur, e1, h1, h2, h3, h4, h5, h6⟩
  · cases h1
  · cases e1
    refine ⟨g, cap, cur.setIfInBounds i u, rfl, h1, Blk.set_ h2 i u, h3, h4, by simpa using h5, ?_⟩
    rw [Array.toList_setIfInBounds, List.take_set, h6]
end Go.Proofs.Ytolghmhodaphfaa
/- A nil slice among the arguments has no elements and no room. -/
namespace Go.Proofs.Ytolghmhodaphfaa
open Go.ChangeShapes Go.WideShapes Go.ChangeAt Go.RowKit Go.Deep
theorem open_nil {H : Type} {enc : TypeId × Value → H} {W : World} {t e : TypeId} (ht : Try.prog.underlying t = some (.slice e)) {A : Option Addr} {n c : Nat} {d : DataW H} {p : List MemPlace}
    (h : DataW.Trod enc Try.prog W 0 (fun _ => true) true t (.slice A n c) d p) : A = none → n = 0 ∧ c = 0 := by
  intro hA
  obtain ⟨fuel, hfu⟩ := h
  rcases open_slice ht hfu with ⟨e, _⟩ | ⟨a, len, cap, m, n', D, Pl, e, hb, hl, hm, hmm, hx, hi⟩
  · simp [Value.cells] at e
    exact ⟨e.2.1, e.2.2⟩
  · simp [Value.cells] at e
    rw [hA] at e
    simp at e
end Go.Proofs.Ytolghmhodaphfaa
