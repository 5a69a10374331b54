/- Texts of the proof, laid together by program. -/
import Derived.Test.YtiobmfggnacplaaMm
import Derived.Test.YtiobmfggnacplaaMh
set_option linter.unusedSimpArgs false
set_option linter.unusedVariables false
/- The words of a row: its cuts, its last word, the words of a least reading. Plain. -/
namespace Go.Proofs.Ytiobmfggnacplaa
/-! Cuts of words are good. -/
theorem starts_ups : ∀ (fs : List (List Int)) (a n : Nat), (∀ f ∈ fs, f ≠ []) → a + fs.flatten.length ≤ n → Ups n (starts a fs)
  | [], a, n, _, _ => trivial
  | [f], a, n, h, hn => by
    have h1 := List.length_pos_iff.2 (h f (by simp))
    simp at hn
    show a < n
    omega
  | f :: g :: r, a, n, h, hn => by
    have h1 := List.length_pos_iff.2 (h f (by simp))
    rw [List.flatten_cons, List.length_append] at hn
    refine ⟨by omega, ?_⟩
    exact starts_ups (g :: r) (a + f.length) n (fun x hx => h x (List.mem_cons_of_mem _ hx)) (by omega)
theorem cfl_ne : ∀ {fs : List (List Int)}, CFL fs → ∀ f ∈ fs, f ≠ []
  | [], _, f, h => by cases h
  | g :: r, h, f, hf => by
    rcases List.mem_cons.1 hf with rfl | h1
    · exact h.1.1
    · exact cfl_ne h.2.2 f h1
theorem cutsL_ups (l : List Int) : Ups l.length (cutsL l) := by
  unfold cutsL
  exact starts_ups _ 0 _ (cfl_ne (wordsL_cfl l)) (by rw [wordsL_flat]; omega)
theorem cutsL_zero {l : List Int} (h : l ≠ []) : ∃ r, cutsL l = 0 :: r := by
  unfold cutsL
  cases hw : wordsL l with
  | nil =>
    have := wordsL_flat l
    rw [hw] at this
    exact absurd this.symm h
  | cons f fs => exact ⟨_, rfl⟩
theorem cutsI_at {l : List Int} {i : Nat} {x : Int} (h : (cutsI l)[i]? = some x) : ∃ y : Nat, (cutsL l)[i]? = some y ∧ x = y := natI_at h
theorem cutE_self {K : Int} {l : List Int} (h : checkRim K l = 0) : cutE K l (cutsI l) = 0 := by
  have hl := (rim_good h).2.1
  obtain ⟨r, hr⟩ := cutsL_zero (l := l) (fun e => by rw [e] at hl; simp at hl)
  have hu := cutsL_ups l
  have h0 : (cutsI l).getD 0 1 = 0 := by unfold cutsI; rw [hr]; rfl
  have h1 : (cutsI l).all (inR 0 ((l.length : Int) - 1)) = true := by
    rw [List.all_eq_true]
    intro x hx
    obtain ⟨i, hi⟩ := List.getElem?_of_mem hx
    obtain ⟨y, hy, rfl⟩ := cutsI_at hi
    have := ups_all hu hy
    exact inR_t.2 ⟨by omega, by omega⟩
  have h2 : incB (cutsI l) = true := incB_yes fun i hi => by
    have hi1 : i < (cutsI l).length := by omega
    have hi2 : i + 1 < (cutsI l).length := by omega
    obtain ⟨y, hy, e1⟩ := cutsI_at (List.getElem?_eq_getElem hi1)
    obtain ⟨z, hz, e2⟩ := cutsI_at (List.getElem?_eq_getElem hi2)
    have := ups_at hu hy hz
    rw [List.getD_eq_getElem?_getD, List.getD_eq_getElem?_getD, List.getElem?_eq_getElem hi1, List.getElem?_eq_getElem hi2]
    simp only [Option.getD_some]
    omega
  unfold cutE
  rw [if_neg (by omega), if_neg (by rw [h0, h1, h2]; simp), if_neg (by simp)]
theorem cutE_eq {K : Int} {l cs : List Int} (h : cutE K l cs = 0) (hr : checkRim K l = 0) : cs = cutsI l := by
  unfold cutE at h
  rw [if_neg (by omega)] at h
  split at h
  · cases h
  · split at h
    · cases h
    · rename_i h2
      exact Classical.byContradiction fun e => h2 e
/-! The last word. -/
theorem last_start : ∀ (fs : List (List Int)) (g : List Int) (a : Nat), (starts a (fs ++ [g]))[fs.length]? = some (a + fs.flatten.length)
  | [], g, a => by simp [starts]
  | f :: r, g, a => by
    rw [List.cons_append, starts, List.length_cons, List.getElem?_cons_succ, last_start r g (a + f.length), List.flatten_cons, List.length_append]
    congr 1; omega
theorem last_least {l : List Int} (h : l ≠ []) : ∃ z : Nat, (cutsL l)[(cutsL l).length - 1]? = some z ∧ z < l.length ∧ ∀ i, i < l.length → bef (l.drop i) (l.drop z) = false := by
  have hne : wordsL l ≠ [] := fun e => by
    have := wordsL_flat l
    rw [e] at this
    exact h this.symm
  obtain ⟨fs, g, hfg⟩ : ∃ fs g, wordsL l = fs ++ [g] := ⟨_, _, (List.dropLast_concat_getLast hne).symm⟩
  have hc := wordsL_cfl l
  have hf := wordsL_flat l
  rw [hfg] at hc hf
  have hgn := cfl_ne hc g (by simp)
  have hlen : (cutsL l).length = fs.length + 1 := by unfold cutsL; rw [starts_len, hfg]; simp
  have hz := last_start fs g 0
  rw [Nat.zero_add] at hz
  have hdr : l.drop fs.flatten.length = g := by rw [← hf, List.flatten_append]; simp
  have hll : l.length = fs.flatten.length + g.length := by rw [← hf, List.flatten_append]; simp
  have hg1 := List.length_pos_iff.2 hgn
  refine ⟨fs.flatten.length, ?_, by omega, fun i hi => ?_⟩
  · rw [hlen, Nat.add_sub_cancel]; unfold cutsL; rw [hfg]; exact hz
  · rw [hdr]
    refine cfl_last hc (l.drop i) (fun e => ?_) (by rw [hf]; exact List.drop_suffix i l)
    have := congrArg List.length e
    simp at this; omega
/-! Repeated lists. -/
theorem rep_at {v : List Int} : ∀ (m i : Nat), i < m * v.length → (List.replicate m v).flatten[i]? = v[i % v.length]?
  | 0, i, h => by simp at h
  | m + 1, i, h => by
    rw [List.replicate_succ, List.flatten_cons]
    rcases Nat.lt_or_ge i v.length with h1 | h1
    · rw [List.getElem?_append_left h1, Nat.mod_eq_of_lt h1]
    · rw [List.getElem?_append_right h1, rep_at m (i - v.length) (by rw [Nat.succ_mul] at h; omega)]
      congr 1
      have := Nat.add_mod_right (i - v.length) v.length
      rw [Nat.sub_add_cancel h1] at this
      exact this.symm
theorem rep_len (m : Nat) (v : List Int) : (List.replicate m v).flatten.length = m * v.length := by simp
theorem rep_of_per {l : List Int} {p : Nat} (h0 : 0 < p) (hp : p ≤ l.length) (hd : l.length % p = 0) (h : rot l p = l) : l = (List.replicate (l.length / p) (l.take p)).flatten := by
  have hP := isP_rot hp h
  have hvl : (l.take p).length = p := by rw [List.length_take]; omega
  have hm : l.length / p * p = l.length := Nat.div_mul_cancel (Nat.dvd_of_mod_eq_zero hd)
  refine List.ext_getElem? fun i => ?_
  rcases Nat.lt_or_ge i l.length with h1 | h1
  · rw [rep_at _ _ (by rw [hvl, hm]; exact h1), hvl, List.getElem?_take, if_pos (Nat.mod_lt _ h0)]
    have h2 : i % p + i / p * p = i := by rw [Nat.mul_comm]; exact Nat.mod_add_div i p
    have := isP_mul hP (i / p) (i % p) (by rw [h2]; exact h1)
    rw [h2] at this
    exact this.symm
  · rw [List.getElem?_eq_none h1, List.getElem?_eq_none (by rw [rep_len, hvl, hm]; exact h1)]
theorem rot_comm {l : List Int} {j k : Nat} (hj : j ≤ l.length) (hk : k ≤ l.length) (h0 : 0 < l.length) : rot (rot l j) k = rot (rot l k) j := by
  rw [rot_rot hj hk h0, rot_rot hk hj h0, Nat.add_comm]
theorem find_congr' {α : Type} {p q : α → Bool} : ∀ {l : List α}, (∀ x ∈ l, p x = q x) → l.find? p = l.find? q
  | [], _ => rfl
  | a :: l, h => by
    rw [List.find?_cons, List.find?_cons, h a (by simp), find_congr' (fun x hx => h x (List.mem_cons_of_mem _ hx))]
theorem perL_congr {a b : List Int} (hl : a.length = b.length) (h : ∀ k, 0 < k → k < a.length → (rot a k = a ↔ rot b k = b)) : perL a = perL b := by
  unfold perL
  rw [← hl]
  congr 1
  refine find_congr' fun k hk => ?_
  have hk := List.mem_range.1 hk
  rcases Nat.eq_zero_or_pos k with h0 | h0
  · subst h0; rfl
  · have := h k h0 hk
    by_cases e : rot a k = a
    · simp [e, this.1 e]
    · have e2 : ¬ rot b k = b := fun h2 => e (this.2 h2)
      rw [decide_eq_false e, decide_eq_false e2]
theorem perL_turn {l : List Int} {s : Nat} (hs : s < l.length) : perL (rot l s) = perL l := by
  have h0 : 0 < l.length := by omega
  refine perL_congr (rot_len _ _) fun k hk0 hk => ?_
  rw [rot_len] at hk
  constructor
  · intro h
    rw [rot_comm (by omega) (by omega) h0] at h
    obtain ⟨j, hj, hb⟩ := rot_back hs rfl
    have h2 := congrArg (fun x => rot x j) h
    have h3 : rot (rot (rot l k) s) j = rot l k := by
      have e1 : rot (rot (rot l k) s) j = rot (rot (rot l s) j) k := by
        rw [rot_comm (l := l) (by omega) (by omega) h0, rot_comm (l := rot l s) (by rw [rot_len]; omega) (by rw [rot_len]; omega) (by rw [rot_len]; exact h0)]
      rw [e1, hb]
    rw [h3, hb] at h2
    exact h2
  · intro h
    rw [rot_comm (by omega) (by omega) h0, h]
/-- The first touches of a least reading, up to its period, are a word. -/
theorem wrd_least {l : List Int} (h0 : 0 < l.length) : Wrd ((least l).take (perL l)) ∧ least l = (List.replicate (l.length / perL l) ((least l).take (perL l))).flatten := by
  have hs := lstart_lt h0
  have hp : perL (least l) = perL l := perL_turn hs
  have hll := least_len l
  obtain ⟨hp1, hpn⟩ := perL_pos h0
  have hpr := perL_rot (least l)
  rw [hp] at hpr
  have hd := Nat.mod_eq_zero_of_dvd (perL_len h0)
  have hrep := rep_of_per (l := least l) hp1 (by rw [hll]; exact hpn) (by rw [hll]; exact hd) hpr
  rw [hll] at hrep
  refine ⟨?_, hrep⟩
  have hvl : ((least l).take (perL l)).length = perL l := by rw [List.length_take, hll]; omega
  refine ⟨fun e => by rw [e] at hvl; simp at hvl; omega, fun k hk0 hk => ?_⟩
  rw [hvl] at hk
  -- the turned one
  have hne : rot (least l) k ≠ least l := perL_min hk0 (by rw [hp]; exact hk)
  have hmin : bef (rot (least l) k) (least l) = false := by
    have := least_min (l := least l) (j := k) (by rw [hll]; omega)
    rw [show least (least l) = least l from least_rot hs] at this
    exact this
  have hlt : bef (least l) (rot (least l) k) = true := by
    rcases bef_total hmin with h | h
    · exact h
    · exact absurd h hne
  have htk : (rot (least l) k).take (perL l) = rot ((least l).take (perL l)) k := by
    refine List.ext_getElem? fun i => ?_
    rw [List.getElem?_take]
    split
    · rename_i hi
      have hP := isP_rot (l := least l) (by rw [hll]; exact hpn) hpr
      rw [rot_at (by rw [hll]; omega) (by rw [hll]; omega), rot_at (by rw [hvl]; omega) (by rw [hvl]; exact hi), hvl, hll, List.getElem?_take, if_pos (Nat.mod_lt _ hp1)]
      rcases Nat.lt_or_ge (i + k) l.length with h1 | h1
      · rw [Nat.mod_eq_of_lt h1]
        have h2 : (i + k) % perL l + (i + k) / perL l * perL l = i + k := by rw [Nat.mul_comm]; exact Nat.mod_add_div _ _
        have := isP_mul hP ((i + k) / perL l) ((i + k) % perL l) (by rw [h2, hll]; exact h1)
        rw [h2] at this
        exact this.symm
      · have e1 : (i + k) % l.length = i + k - l.length := by
          rw [Nat.mod_eq_sub_mod h1, Nat.mod_eq_of_lt (by omega)]
        have e2 : (i + k) % perL l = i + k - l.length := by
          obtain ⟨m, hm⟩ := Nat.dvd_of_mod_eq_zero hd
          rw [hm] at h1 ⊢
          have h4 := Nat.add_mul_mod_self_left (i + k - perL l * m) (perL l) m
          rw [Nat.sub_add_cancel h1] at h4
          rw [h4, Nat.mod_eq_of_lt (by
            have h5 : 1 ≤ m := by
              rcases Nat.eq_zero_or_pos m with h6 | h6
              · rw [h6] at hm; omega
              · exact h6
            have := Nat.le_mul_of_pos_right (perL l) h5
            omega)]
        rw [e1, e2]
    · rename_i hi
      rw [List.getElem?_eq_none (by rw [rot_len, hvl]; omega)]
  have hsp1 : (least l) = (least l).take (perL l) ++ (least l).drop (perL l) := (List.take_append_drop _ _).symm
  have hsp2 : rot (least l) k = rot ((least l).take (perL l)) k ++ (rot (least l) k).drop (perL l) := by rw [← htk, List.take_append_drop]
  rw [hsp2] at hlt
  have hlt2 : bef ((least l).take (perL l) ++ (least l).drop (perL l)) (rot ((least l).take (perL l)) k ++ (rot (least l) k).drop (perL l)) = true := by rw [← hsp1]; exact hlt
  refine bef_cut (by rw [rot_len]) hlt2 (fun e => hne ?_)
  -- equal beginnings: the turned one is the reading
  have hper2 : perL (rot (least l) k) = perL l := by rw [perL_turn (by rw [hll]; omega), hp]
  have hpr2 := perL_rot (rot (least l) k)
  rw [hper2] at hpr2
  have hrep2 := rep_of_per (l := rot (least l) k) hp1 (by rw [rot_len, hll]; exact hpn) (by rw [rot_len, hll]; exact hd) hpr2
  rw [rot_len, hll, htk, ← e] at hrep2
  rw [hrep2]; exact hrep.symm
theorem cfl_rep {v : List Int} (h : Wrd v) : ∀ m, CFL (List.replicate m v)
  | 0 => trivial
  | m + 1 => by
    rw [List.replicate_succ]
    refine ⟨h, fun g hg => ?_, cfl_rep h m⟩
    cases m with
    | zero => simp at hg
    | succ m => rw [List.replicate_succ] at hg; simp at hg; subst hg; exact bef_self _
theorem starts_rep (v : List Int) : ∀ (m a i : Nat), i < m → (starts a (List.replicate m v))[i]? = some (a + i * v.length)
  | 0, a, i, h => by omega
  | m + 1, a, i, h => by
    rw [List.replicate_succ, starts]
    cases i with
    | zero => simp
    | succ i =>
      rw [List.getElem?_cons_succ, starts_rep v m _ i (by omega), Nat.succ_mul]
      congr 1; omega
/-- The cuts of a least reading. -/
theorem cuts_least {l : List Int} (h0 : 0 < l.length) : (cutsL (least l)).length = l.length / perL l ∧ ∀ i, i < l.length / perL l → (cutsL (least l))[i]? = some (i * perL l) := by
  obtain ⟨hw, hr⟩ := wrd_least h0
  have hvl : ((least l).take (perL l)).length = perL l := by rw [List.length_take, least_len]; have := perL_pos h0; omega
  have hws : wordsL (least l) = List.replicate (l.length / perL l) ((least l).take (perL l)) := by
    have := wordsL_of (cfl_rep hw (l.length / perL l))
    rw [← hr] at this
    exact this
  unfold cutsL
  rw [hws]
  refine ⟨by rw [starts_len]; simp, fun i hi => ?_⟩
  rw [starts_rep _ _ _ _ hi, hvl, Nat.zero_add]
end Go.Proofs.Ytiobmfggnacplaa
