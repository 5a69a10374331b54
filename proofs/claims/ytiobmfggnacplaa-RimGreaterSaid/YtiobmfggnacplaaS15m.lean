/- The statement RimGreater holds: whatever the arguments, the law returns true and leaves its arguments as they were. -/
import Derived.Test.YtiobmfggnacplaaMm
import Derived.Test.YtiobmfggnacplaaMo
set_option linter.unusedSimpArgs false
set_option linter.unusedVariables false
namespace Go.Proofs.Ytiobmfggnacplaa
open Go.RowKit Go.Shelf
attribute [local go_sem] Oper.semAt_some
/-- The table of touches, as far as it stands: it rises. -/
def TB (w : World) (g k i nx : Nat) : Prop := ∃ cs : Array Value, Blk w g 3 cs ∧ cs.size = k ∧ ∃ T : Nat → Nat, (∀ u, u < i → cs[u]? = some (.int .i64 (T u : Int))) ∧ (∀ u, u < i → T u < nx) ∧ (∀ u v, u < v → v < i → T u < T v)
theorem TB.set_ {w : World} {g k i nx v : Nat} (h : TB w g k i nx) (hi : i < k) (hv : nx ≤ v) : TB (w.setCell ⟨g, i, none⟩ (.int .i64 (v : Int))) g k (i + 1) (v + 1) := by
  obtain ⟨cs, h1, h2, T, h3, h4, h5⟩ := h
  refine ⟨_, h1.set_ i _, by simpa using h2, fun u => if u = i then v else T u, fun u hu => ?_, fun u hu => ?_, fun a b hab hb => ?_⟩
  · show (cs.setIfInBounds i _)[u]? = some (.int .i64 (((if u = i then v else T u) : Nat) : Int))
    rw [Array.getElem?_setIfInBounds]
    by_cases e : i = u
    · subst e; rw [if_pos rfl, if_pos (by omega), if_pos rfl]
    · rw [if_neg e, if_neg (fun e2 => e e2.symm)]; exact h3 u (by omega)
  · simp only
    split
    · omega
    · have := h4 u (by omega); omega
  · simp only
    rw [if_neg (show ¬ a = i by omega)]
    split
    · have := h4 a (by omega); omega
    · exact h5 a b hab (by omega)
theorem TB.lt {w : World} {g k i nx : Nat} (h : TB w g k i nx) : g < w.heap.size := by obtain ⟨cs, h, -⟩ := h; exact h.lt
theorem TB.frozen {w : World} {g k i nx : Nat} (h : TB w g k i nx) (x : Nat) : w.frozen? ⟨g, x, none⟩ = false := by
  obtain ⟨cs, h1, -⟩ := h
  exact h1.frozen x
theorem TB.cell_some {w : World} {g k i nx : Nat} (h : TB w g k i nx) {x : Nat} (hx : x < k) : ∃ v, w.cell? ⟨g, x, none⟩ = some v := by
  obtain ⟨cs, h1, h2, -⟩ := h
  exact ⟨cs[x]'(by omega), by rw [h1.cell]; exact Array.getElem?_eq_getElem (by omega)⟩
theorem TB.map_ {w : World} {g k nx : Nat} (h : TB w g k k nx) (h4 : nx ≤ 4) : ∃ (TL : List Int) (G : Int → Int), InS w w.heap.size (some ⟨g, 0, none⟩) k TL ∧ Rises G k ∧ (∀ a, 0 ≤ a → a < (k : Int) → 0 ≤ G a ∧ G a < 4) ∧ ∀ u : Nat, u < k → TL[u]? = some (G u) := by
  obtain ⟨cs, h1, h2, T, h3, h5, h6⟩ := h
  refine ⟨(List.range k).map fun u => (T u : Int), fun a => (T a.toNat : Int), ⟨by rw [flatI_len', List.length_map, List.length_range, Nat.mul_one], fun _ => ⟨g, 0, rfl, h1.lt, fun j u hj => ?_⟩⟩, fun a b ha hak hb hbk hab => ?_, fun a ha hak => ?_, fun u hu => ?_⟩
  · rw [flatI_get] at hj
    rcases Nat.lt_or_ge j k with hjk | hjk
    · rw [List.getElem?_map, List.getElem?_range hjk] at hj
      cases hj
      rw [Nat.zero_add, h1.cell]; exact h3 j hjk
    · rw [List.getElem?_eq_none (by simpa using hjk)] at hj; cases hj
  · have := h6 a.toNat b.toNat (by omega) (by omega)
    show (T a.toNat : Int) < (T b.toNat : Int)
    omega
  · have := h5 a.toNat (by omega)
    show 0 ≤ (T a.toNat : Int) ∧ (T a.toNat : Int) < 4
    omega
  · rw [List.getElem?_map, List.getElem?_range hu]
    simp
set_option maxRecDepth 100000 in
set_option maxHeartbeats 40000000 in
theorem rimGreater_walk (w : World) (K : Int) (A0 : Option Addr) (n c0 : Nat) (l : List Int) (A1 : Option Addr) (n1 c1 : Nat) (by_ : List Nat) (h0 : InS w w.heap.size A0 n l) (hc0 : n ≤ c0) (h1 : U8S w w.heap.size A1 n1 by_) (hby : ∀ z ∈ by_, z < 256) :
    Calls Try.prog 15 #[.int .i64 K, .slice A0 n c0, .slice A1 n1 c1] w fun e w' => e = .returned (.bool true) ∧ Below w.heap.size w w' := by
  have H0 := hid h0
  have hl0 := hid h0.len
  have H1 := hid h1
  have Hby := hid hby
  clear h0 h1 hby
  cases hf0 : fineB K l
  · have Hf0 := hid hf0
    clear hf0
    go_enter Try.func15, Try.ntmps15
    obtain ⟨W0, rfl⟩ : ∃ W0 : World, W0 = w := ⟨_, rfl⟩
    skip
    skip
    have hbel : Below W0.heap.size W0 W0 := Below.refl _ _
    have hsz := hbel.size
    go_wp2_with (fail)
    refine (fineW_any K A0 n c0 l _ (H0.out.below (by repeat' (first | with_reducible assumption | with_reducible exact Below.refl _ _ | refine Below.alloc ?_ ?_ _ | refine Below.setCell ?_ ?_ _ | refine Below.drew ?_ | refine below_drewN ?_ _ | (simp; done) | (simp; omega) | omega)) (by first | (simp; done) | (simp; omega) | omega))).mono ?_
    rw [Hf0.out]
    rintro e W1 ⟨rfl, hb⟩
    have hst : Below W0.heap.size W0 W1 := Below.trans (by repeat' (first | with_reducible assumption | with_reducible exact Below.refl _ _ | refine Below.alloc ?_ ?_ _ | refine Below.setCell ?_ ?_ _ | refine Below.drew ?_ | refine below_drewN ?_ _ | (simp; done) | (simp; omega) | omega)) (hb.mono (by first | (simp; done) | (simp; omega) | omega))
    replace hbel := hbel.trans (hst.mono hsz)
    replace hsz := hbel.size
    replace H0 := hid (H0.out.below hst hst.size)
    replace H1 := hid (H1.out.below hst hst.size)
    clear hb hst
    obtain ⟨W0, rfl⟩ : ∃ W0 : World, W0 = W1 := ⟨_, rfl⟩
    go_wp2_with (fail)
    refine (works_any _).mono ?_
    rintro e W1 ⟨rfl, hb⟩
    have hst : Below W0.heap.size W0 W1 := Below.trans (by repeat' (first | with_reducible assumption | with_reducible exact Below.refl _ _ | refine Below.alloc ?_ ?_ _ | refine Below.setCell ?_ ?_ _ | refine Below.drew ?_ | refine below_drewN ?_ _ | (simp; done) | (simp; omega) | omega)) (hb.mono (by first | (simp; done) | (simp; omega) | omega))
    replace hbel := hbel.trans (hst.mono hsz)
    replace hsz := hbel.size
    replace H0 := hid (H0.out.below hst hst.size)
    replace H1 := hid (H1.out.below hst hst.size)
    clear hb hst
    obtain ⟨W0, rfl⟩ : ∃ W0 : World, W0 = W1 := ⟨_, rfl⟩
    go_wp2
    go_ret
    exact ⟨rfl, hbel⟩
  · have hok0 := fineB_t.1 hf0
    have Hf0 := hid hf0
    clear hf0
    by_cases hg : 10 < n1
    · have hgi : (10 : Int) < n1 := by omega
      go_enter Try.func15, Try.ntmps15
      obtain ⟨W0, rfl⟩ : ∃ W0 : World, W0 = w := ⟨_, rfl⟩
      skip
      skip
      have hbel : Below W0.heap.size W0 W0 := Below.refl _ _
      have hsz := hbel.size
      go_wp2_with (fail)
      refine (fineW_any K A0 n c0 l _ (H0.out.below (by repeat' (first | with_reducible assumption | with_reducible exact Below.refl _ _ | refine Below.alloc ?_ ?_ _ | refine Below.setCell ?_ ?_ _ | refine Below.drew ?_ | refine below_drewN ?_ _ | (simp; done) | (simp; omega) | omega)) (by first | (simp; done) | (simp; omega) | omega))).mono ?_
      rw [Hf0.out]
      rintro e W1 ⟨rfl, hb⟩
      have hst : Below W0.heap.size W0 W1 := Below.trans (by repeat' (first | with_reducible assumption | with_reducible exact Below.refl _ _ | refine Below.alloc ?_ ?_ _ | refine Below.setCell ?_ ?_ _ | refine Below.drew ?_ | refine below_drewN ?_ _ | (simp; done) | (simp; omega) | omega)) (hb.mono (by first | (simp; done) | (simp; omega) | omega))
      replace hbel := hbel.trans (hst.mono hsz)
      replace hsz := hbel.size
      replace H0 := hid (H0.out.below hst hst.size)
      replace H1 := hid (H1.out.below hst hst.size)
      clear hb hst
      obtain ⟨W0, rfl⟩ : ∃ W0 : World, W0 = W1 := ⟨_, rfl⟩
      go_wp2_with (fail)
      refine (works_any _).mono ?_
      rintro e W1 ⟨rfl, hb⟩
      have hst : Below W0.heap.size W0 W1 := Below.trans (by repeat' (first | with_reducible assumption | with_reducible exact Below.refl _ _ | refine Below.alloc ?_ ?_ _ | refine Below.setCell ?_ ?_ _ | refine Below.drew ?_ | refine below_drewN ?_ _ | (simp; done) | (simp; omega) | omega)) (hb.mono (by first | (simp; done) | (simp; omega) | omega))
      replace hbel := hbel.trans (hst.mono hsz)
      replace hsz := hbel.size
      replace H0 := hid (H0.out.below hst hst.size)
      replace H1 := hid (H1.out.below hst hst.size)
      clear hb hst
      obtain ⟨W0, rfl⟩ : ∃ W0 : World, W0 = W1 := ⟨_, rfl⟩
      go_wp2
      go_ret
      exact ⟨rfl, hbel⟩
    · have hgi : ¬ (10 : Int) < n1 := by omega
      have hg10 : n1 ≤ 10 := by omega
      have h64 := (rim_good hok0).2.1
      have hKm := rim_good hok0
      rw [hl0.out] at h64
      obtain ⟨k, rfl⟩ : ∃ k : Nat, K = k := ⟨K.toNat, by omega⟩
      have hk1 : 1 ≤ k := by have := hKm.1; omega
      have hk4 : k ≤ 4 := by have := hKm.1; omega
      have hin : InK (k : Int) l := hKm.2.2
      have hn1 : 1 ≤ n := h64.1
      have hn64 : n ≤ 64 := h64.2
      have Hin := hid hin
      have hE0 : Hid (decide (checkRim k l = 0) = true) := hid (decide_eq_true hok0)
      have HokE : Hid (checkRim k l = 0) := hid hok0
      have haV : Hid (leastV k l = least l) := hid (if_pos hok0)
      have hsK : Hid (leastK k l = lstart l) := hid (if_pos hok0)
      have hpV : Hid (perV k l = perL l) := hid (if_pos hok0)
      have hwV : Hid (wordsV k l = cutsI l) := hid (if_pos hok0)
      have hal : Hid ((least l).length = n) := hid (by rw [least_len, hl0.out])
      have hm64 : (cutsI l).length ≤ 64 := by have := cutsI_le l; rw [hl0.out] at this; omega
      obtain ⟨C, hC⟩ : ∃ C, cutsI l = C := ⟨_, rfl⟩
      obtain ⟨m, hm⟩ : ∃ m, C.length = m := ⟨_, rfl⟩
      have HC := hid hC
      have Hm := hid hm
      obtain ⟨p, hp⟩ : ∃ p, perL l = p := ⟨_, rfl⟩
      obtain ⟨s, hs⟩ : ∃ s, lstart l = s := ⟨_, rfl⟩
      have HP := hid hp
      have HS := hid hs
      obtain ⟨a, ha⟩ : ∃ a, least l = a := ⟨_, rfl⟩
      rw [hC, hm] at hm64
      rw [hC] at hwV
      rw [hp] at hpV
      rw [hs] at hsK
      rw [ha] at haV hal
      have hqr : Hid (eqI C C = true) := hid (eqI_t.2 rfl)
      obtain ⟨i0, hi0, hi1, hi2, hi3⟩ := info_parts' info3
      have I0 := hid hi0; have I1 := hid hi1; have I2 := hid hi2; have I3 := hid hi3
      have tss : ((s : Int) == (s : Int)) = true := by simp
      have tpp : ((p : Int) == (p : Int)) = true := by simp
      have hmk := fun w0 : World => make_i64 (L := k) (by omega) w0
      clear hC hm hp hs ha hi0 hi1 hi2 hi3 hin hKm h64 hok0 hg
      go_enter Try.func15, Try.ntmps15
      obtain ⟨W0, rfl⟩ : ∃ W0 : World, W0 = w := ⟨_, rfl⟩
      skip
      skip
      have hbel : Below W0.heap.size W0 W0 := Below.refl _ _
      have hsz := hbel.size
      go_wp2_with (fail)
      refine (fineW_any k A0 n c0 l _ (H0.out.below (by repeat' (first | with_reducible assumption | with_reducible exact Below.refl _ _ | refine Below.alloc ?_ ?_ _ | refine Below.setCell ?_ ?_ _ | refine Below.drew ?_ | refine below_drewN ?_ _ | (simp; done) | (simp; omega) | omega)) (by first | (simp; done) | (simp; omega) | omega))).mono ?_
      rw [Hf0.out]
      rintro e W1 ⟨rfl, hb⟩
      have hst : Below W0.heap.size W0 W1 := Below.trans (by repeat' (first | with_reducible assumption | with_reducible exact Below.refl _ _ | refine Below.alloc ?_ ?_ _ | refine Below.setCell ?_ ?_ _ | refine Below.drew ?_ | refine below_drewN ?_ _ | (simp; done) | (simp; omega) | omega)) (hb.mono (by first | (simp; done) | (simp; omega) | omega))
      replace hbel := hbel.trans (hst.mono hsz)
      replace hsz := hbel.size
      replace H0 := hid (H0.out.below hst hst.size)
      replace H1 := hid (H1.out.below hst hst.size)
      clear hb hst
      obtain ⟨W0, rfl⟩ : ∃ W0 : World, W0 = W1 := ⟨_, rfl⟩
      have hbt : TB (W0.alloc (.cells (madeCells #[.int .i64 0] k) 3)) W0.heap.size k 0 0 := ⟨_, Blk.new' rfl, by simp [madeCells], fun _ => 0, fun u hu => by omega, fun u hu => by omega, fun u v _ hv => by omega⟩
      have hb2 : Below W0.heap.size W0 (W0.alloc (.cells (madeCells #[.int .i64 0] k) 3)) := (Below.refl _ _).alloc (Nat.le_refl _) _
      have hlen1 := hid H1.out.len
      go_wp2_with (fail)
      clear hmk
      go_loopw [8, 9] (fun v i wr => ∃ e nx : Nat, e ≤ k ∧ i = .int .i64 (e : Int) ∧ v = .int .i64 (nx : Int) ∧ e ≤ nx ∧ nx + k ≤ 4 + e ∧ Hid (TB wr W0.heap.size k e nx) ∧ Below W0.heap.size W0 wr) (fun _ i _ => k - (intOf i).toNat)
      case atStart => exact ⟨0, 0, Nat.zero_le _, rfl, rfl, Nat.le_refl _, by omega, hid hbt, hb2⟩
      case round =>
        clear hbt hb2
        obtain ⟨e, nx, hek, rfl, rfl, hen, hnx, htb, hbr⟩ := hrel
        have hszr := hbr.size
        have lg := htb.out.lt
        by_cases hlt : e < k
        · have hlti : (e : Int) < k := by omega
          have he0 : (0 : Int) ≤ e := by omega
          have fz := htb.out.frozen e
          obtain ⟨vv, cv⟩ := htb.out.cell_some hlt
          by_cases hz : n1 = 0
          · have hst2 := htb.out.set_ hlt (Nat.le_refl nx)
            have hstB := hid hst2
            have hb9 : Below W0.heap.size W0 (wr.setCell ⟨W0.heap.size, e, none⟩ (.int .i64 (nx : Int))) := hbr.setCell (Nat.le_refl _) _
            have znx : IntKind.i64.wrap ((nx : Int) + 1) = (nx : Int) + 1 := IntWalk.i64_in _ (by omega)
            clear hst2
            subst hz
            go_wp2
            exact ⟨⟨e + 1, nx + 1, by omega, by go_num, by go_num, by omega, by omega, hstB, hb9⟩, by simp [intOf]; omega⟩
          · have hpos : (0 : Int) < n1 := by omega
            have hz0 : ¬ (n1 : Int) = 0 := by omega
            obtain ⟨jj, hjj⟩ : ∃ j, e % n1 = j := ⟨_, rfl⟩
            have hjl : jj < n1 := by rw [← hjj]; exact Nat.mod_lt _ (by omega)
            have hjli : (jj : Int) < n1 := by omega
            have hti : Int.tmod (e : Int) (n1 : Int) = (jj : Int) := by rw [← hjj]; exact (Int.ofNat_tmod e n1).symm
            obtain ⟨b7, off7, y7, e7, hb7, hy7, c7⟩ := (H1.out.below hbr hszr).at_ hjl
            subst e7
            have hy256 := Hby.out y7 (List.mem_of_getElem? hy7)
            obtain ⟨a1, ha1⟩ : ∃ a1 : Nat, 4 - k = a1 := ⟨_, rfl⟩
            have e1 : (4 : Int) - (k : Int) = (a1 : Int) := by omega
            have w1 : IntKind.i64.wrap (a1 : Int) = (a1 : Int) := IntWalk.i64_in _ (by omega)
            obtain ⟨d, hd⟩ : ∃ d : Nat, nx - e = d := ⟨_, rfl⟩
            have e2 : (nx : Int) - (e : Int) = (d : Int) := by omega
            have w2 : IntKind.i64.wrap (d : Int) = (d : Int) := IntWalk.i64_in _ (by omega)
            obtain ⟨a2, ha2⟩ : ∃ a2 : Nat, a1 - d = a2 := ⟨_, rfl⟩
            have e3 : (a1 : Int) - (d : Int) = (a2 : Int) := by omega
            have w3 : IntKind.i64.wrap (a2 : Int) = (a2 : Int) := IntWalk.i64_in _ (by omega)
            have w3' : IntKind.i64.wrap ((a2 : Int) + 1) = (a2 : Int) + 1 := IntWalk.i64_in _ (by omega)
            obtain ⟨q, hq⟩ : ∃ q, y7 % (a2 + 1) = q := ⟨_, rfl⟩
            have hql : q < a2 + 1 := by rw [← hq]; exact Nat.mod_lt _ (by omega)
            have htq : Int.tmod (y7 : Int) ((a2 : Int) + 1) = (q : Int) := by rw [← hq]; exact (Int.ofNat_tmod y7 (a2 + 1)).symm
            have wy : IntKind.i64.wrap (y7 : Int) = (y7 : Int) := IntWalk.i64_in _ (by omega)
            have ha30 : ¬ (a2 : Int) + 1 = 0 := by omega
            obtain ⟨v, hv⟩ : ∃ v, nx + q = v := ⟨_, rfl⟩
            have e5 : (nx : Int) + (q : Int) = (v : Int) := by omega
            have w5 : IntKind.i64.wrap (v : Int) = (v : Int) := IntWalk.i64_in _ (by omega)
            have w6 : IntKind.i64.wrap ((v : Int) + 1) = (v : Int) + 1 := IntWalk.i64_in _ (by omega)
            have hst2 := htb.out.set_ hlt (show nx ≤ v by omega)
            have hstB := hid hst2
            have hb9 : Below W0.heap.size W0 (wr.setCell ⟨W0.heap.size, e, none⟩ (.int .i64 (v : Int))) := hbr.setCell (Nat.le_refl _) _
            have hve : e ≤ v := by omega
            have hvk : v + 1 + k ≤ 4 + (e + 1) := by omega
            clear hst2 hjj hy7 ha1 hd ha2 hq hv
            go_wp2
            exact ⟨⟨e + 1, v + 1, by omega, by go_num, by go_num, by omega, hvk, hstB, hb9⟩, by simp [intOf]; omega⟩
        · obtain rfl : k = e := by omega
          have hlti : ¬ (k : Int) < k := by omega
          obtain ⟨TL, G, hT, hR, hG4, hTG⟩ := htb.out.map_ (by omega)
          have hbel9 := hbel.trans (hbr.mono hsz)
          replace H0 := hid (H0.out.below hbr hszr)
          have HT := hid hT
          have HTG := hid hTG
          have hxin := Hin.out
          have hokX : checkRim 4 (l.map G) = 0 := by
            refine checkRim_ok (K := 4) (by decide) (by decide) (by rw [List.length_map, hl0.out]; omega) (by rw [List.length_map, hl0.out]; omega) (fun v hv => ?_)
            obtain ⟨u, hu, rfl⟩ := List.mem_map.1 hv
            exact hG4 u (hxin u hu).1 (hxin u hu).2
          have hEX : Hid (decide (checkRim 4 (l.map G) = 0) = true) := hid (decide_eq_true hokX)
          have HokX : Hid (checkRim 4 (l.map G) = 0) := hid hokX
          have haX : Hid (leastV 4 (l.map G) = least (l.map G)) := hid (if_pos hokX)
          have hsX : Hid (leastK 4 (l.map G) = s) := hid (by unfold leastK; rw [if_pos hokX, lstart_map hR hxin, HS.out])
          have hpX : Hid (perV 4 (l.map G) = p) := hid (by unfold perV; rw [if_pos hokX, per_map hR hxin, HP.out])
          have hwX : Hid (wordsV 4 (l.map G) = C) := hid (by unfold wordsV; rw [if_pos hokX]; unfold cutsI; rw [cuts_map hR hxin]; exact HC.out)
          have haXl : Hid ((least (l.map G)).length = n) := hid (by rw [least_len, List.length_map, hl0.out])
          obtain ⟨aX, haXe⟩ : ∃ aX, least (l.map G) = aX := ⟨_, rfl⟩
          rw [haXe] at haX haXl
          clear htb hbr hbel hsz hT hTG hR hG4 hokX haXe hxin lg H1 hlt hszr
          obtain ⟨g, hgg⟩ : ∃ g, W0.heap.size = g := ⟨_, rfl⟩
          rw [hgg] at HT ⊢
          clear hgg
          obtain ⟨W0, rfl⟩ : ∃ W0 : World, W0 = wr := ⟨_, rfl⟩
          have hbel := hbel9
          have hsz := hbel.size
          clear hbel9
          go_wp2_with (fail)
          go_loopw [10, 11] (fun v i wr => ∃ e : Nat, e ≤ n ∧ i = .int .i64 (e : Int) ∧ Below W0.heap.size W0 wr ∧ Hid (wr.ownsRow W0.heap.size 3 1 v e (((l.take e).map G).flatMap cI))) (fun _ i _ => n - (intOf i).toNat)
          case atStart => exact ⟨0, Nat.zero_le _, rfl, Below.refl _ _, hid (World.ownsRow_nil _ _ _ _)⟩
          case round =>
            obtain ⟨e, hen', rfl, hbr, hown⟩ := hrel
            have hszr := hbr.size
            by_cases hlt : e < n
            · have hlti : (e : Int) < n := by omega
              have he0 : (0 : Int) ≤ e := by omega
              obtain ⟨b7, off7, y7, e7, hb7, hy7, c7⟩ := (H0.out.below hbr hszr).at_ hlt
              subst e7
              have hyk := Hin.out y7 (List.mem_of_getElem? hy7)
              obtain ⟨u, rfl⟩ : ∃ u : Nat, y7 = u := ⟨y7.toNat, by omega⟩
              have huk : u < k := by omega
              have huki : (u : Int) < k := by omega
              have hu0 : (0 : Int) ≤ u := by omega
              obtain ⟨b8, off8, v8, e8, hb8, hv8, c8⟩ := (HT.out.below hbr hszr).at_ huk
              cases e8
              rw [HTG.out u huk] at hv8
              cases hv8
              rw [Nat.zero_add] at c8
              have hf : ((l.take (e + 1)).map G).flatMap cI = ((l.take e).map G).flatMap cI ++ [.int .i64 (G u)] := by
                rw [List.take_add_one, hy7, List.map_append, List.flatMap_append]; rfl
              have Hf := hid hf
              obtain ⟨gu, hgu⟩ : ∃ gu, G u = gu := ⟨_, rfl⟩
              rw [hgu] at c8 Hf
              clear hf hy7 hgu hyk
              go_wp2_with (at_builtin; refine wpList_append_own _ rfl _ _ 22 rfl W0.heap.size 3 i0 _ 1 8 under22 I0.out I1.out I2.out I3.out rfl (by decide) _ e _ rfl (hown.out.alloc (.cells #[.int .i64 gu] 3)) ⟨wr.heap.size, 0, none⟩ 1 1 [.int .i64 gu] rfl rfl (fun j u hj => World.news_of_block (Blk.new' (by simp)) j u hj) (one1 _) (by unfold maxLen; omega) (by omega) (by simp; omega) ?_; intro v' w3 ho3 hg3 hv3)
              have hb3 : Below W0.heap.size W0 w3 := (hbr.alloc hszr _).grown hg3 (by simp; omega) (fun r hr => (World.ownsRow.lt hown.out r hr).1)
              exact ⟨⟨e + 1, by omega, by go_num, hb3, hid (by rw [Hf.out]; exact ho3)⟩, by simp [intOf]; omega⟩
            · obtain rfl : n = e := by omega
              have hlti : ¬ (n : Int) < n := by omega
              have hox2 := hown.out
              rw [List.take_of_length_le (by rw [hl0.out]; omega)] at hox2
              obtain ⟨AX, cX, rfl, hX⟩ := sl_of_owns hox2
              have hcX := own_capN hox2
              have HX : Hid (InS wr wr.heap.size AX n (l.map G)) := hid hX
              have hbel9 := hbel.trans (hbr.mono hsz)
              replace H0 := hid (H0.out.below hbr hszr)
              clear hown hox2 hX hbel hsz hlt hbr hszr HT
              obtain ⟨W0, rfl⟩ : ∃ W0 : World, W0 = wr := ⟨_, rfl⟩
              have hbel := hbel9
              have hsz := hbel.size
              clear hbel9
              go_wp2_with (fail)
              refine (words_any k A0 n c0 l _ (H0.out.below (by repeat' (first | with_reducible assumption | with_reducible exact Below.refl _ _ | refine Below.alloc ?_ ?_ _ | refine Below.setCell ?_ ?_ _ | refine Below.drew ?_ | refine below_drewN ?_ _ | (simp; done) | (simp; omega) | omega)) (by first | (simp; done) | (simp; omega) | omega)) (by omega)).mono ?_
              rw [HokE.out, hwV.out, Hm.out]
              rintro e W1 ⟨Bw, cw, rfl, hr, hb⟩
              have hr1 := hr.1
              clear hr
              have hst : Below W0.heap.size W0 W1 := Below.trans (by repeat' (first | with_reducible assumption | with_reducible exact Below.refl _ _ | refine Below.alloc ?_ ?_ _ | refine Below.setCell ?_ ?_ _ | refine Below.drew ?_ | refine below_drewN ?_ _ | (simp; done) | (simp; omega) | omega)) (hb.mono (by first | (simp; done) | (simp; omega) | omega))
              replace hbel := hbel.trans (hst.mono hsz)
              replace hsz := hbel.size
              replace H0 := hid (H0.out.below hst hst.size)
              replace HX := hid (HX.out.below hst hst.size)
              have Hw := hid hr1
              clear hr1
              clear hb hst
              obtain ⟨W0, rfl⟩ : ∃ W0 : World, W0 = W1 := ⟨_, rfl⟩
              go_wp2_with (fail)
              refine (words_any 4 AX n cX (l.map G) _ (HX.out.below (by repeat' (first | with_reducible assumption | with_reducible exact Below.refl _ _ | refine Below.alloc ?_ ?_ _ | refine Below.setCell ?_ ?_ _ | refine Below.drew ?_ | refine below_drewN ?_ _ | (simp; done) | (simp; omega) | omega)) (by first | (simp; done) | (simp; omega) | omega)) (by omega)).mono ?_
              rw [HokX.out, hwX.out, Hm.out]
              rintro e W1 ⟨Bx, cx, rfl, hr, hb⟩
              have hr1 := hr.1
              clear hr
              have hst : Below W0.heap.size W0 W1 := Below.trans (by repeat' (first | with_reducible assumption | with_reducible exact Below.refl _ _ | refine Below.alloc ?_ ?_ _ | refine Below.setCell ?_ ?_ _ | refine Below.drew ?_ | refine below_drewN ?_ _ | (simp; done) | (simp; omega) | omega)) (hb.mono (by first | (simp; done) | (simp; omega) | omega))
              replace hbel := hbel.trans (hst.mono hsz)
              replace hsz := hbel.size
              replace H0 := hid (H0.out.below hst hst.size)
              replace HX := hid (HX.out.below hst hst.size)
              replace Hw := hid (Hw.out.below hst hst.size)
              have Hx := hid hr1
              clear hr1
              clear hb hst
              obtain ⟨W0, rfl⟩ : ∃ W0 : World, W0 = W1 := ⟨_, rfl⟩
              go_wp2_with (fail)
              refine (periodF_any k A0 n c0 l _ (H0.out.below (by repeat' (first | with_reducible assumption | with_reducible exact Below.refl _ _ | refine Below.alloc ?_ ?_ _ | refine Below.setCell ?_ ?_ _ | refine Below.drew ?_ | refine below_drewN ?_ _ | (simp; done) | (simp; omega) | omega)) (by first | (simp; done) | (simp; omega) | omega)) (by omega) hc0).mono ?_
              rw [hpV.out, HokE.out]
              rintro e W1 ⟨rfl, hb⟩
              have hst : Below W0.heap.size W0 W1 := Below.trans (by repeat' (first | with_reducible assumption | with_reducible exact Below.refl _ _ | refine Below.alloc ?_ ?_ _ | refine Below.setCell ?_ ?_ _ | refine Below.drew ?_ | refine below_drewN ?_ _ | (simp; done) | (simp; omega) | omega)) (hb.mono (by first | (simp; done) | (simp; omega) | omega))
              replace hbel := hbel.trans (hst.mono hsz)
              replace hsz := hbel.size
              replace H0 := hid (H0.out.below hst hst.size)
              replace HX := hid (HX.out.below hst hst.size)
              replace Hw := hid (Hw.out.below hst hst.size)
              replace Hx := hid (Hx.out.below hst hst.size)
              clear hb hst
              obtain ⟨W0, rfl⟩ : ∃ W0 : World, W0 = W1 := ⟨_, rfl⟩
              go_wp2_with (fail)
              refine (periodF_any 4 AX n cX (l.map G) _ (HX.out.below (by repeat' (first | with_reducible assumption | with_reducible exact Below.refl _ _ | refine Below.alloc ?_ ?_ _ | refine Below.setCell ?_ ?_ _ | refine Below.drew ?_ | refine below_drewN ?_ _ | (simp; done) | (simp; omega) | omega)) (by first | (simp; done) | (simp; omega) | omega)) (by omega) hcX).mono ?_
              rw [hpX.out, HokX.out]
              rintro e W1 ⟨rfl, hb⟩
              have hst : Below W0.heap.size W0 W1 := Below.trans (by repeat' (first | with_reducible assumption | with_reducible exact Below.refl _ _ | refine Below.alloc ?_ ?_ _ | refine Below.setCell ?_ ?_ _ | refine Below.drew ?_ | refine below_drewN ?_ _ | (simp; done) | (simp; omega) | omega)) (hb.mono (by first | (simp; done) | (simp; omega) | omega))
              replace hbel := hbel.trans (hst.mono hsz)
              replace hsz := hbel.size
              replace H0 := hid (H0.out.below hst hst.size)
              replace HX := hid (HX.out.below hst hst.size)
              replace Hw := hid (Hw.out.below hst hst.size)
              replace Hx := hid (Hx.out.below hst hst.size)
              clear hb hst
              obtain ⟨W0, rfl⟩ : ∃ W0 : World, W0 = W1 := ⟨_, rfl⟩
              go_wp2_with (fail)
              refine (lawLeast_any k A0 n c0 l _ (H0.out.below (by repeat' (first | with_reducible assumption | with_reducible exact Below.refl _ _ | refine Below.alloc ?_ ?_ _ | refine Below.setCell ?_ ?_ _ | refine Below.drew ?_ | refine below_drewN ?_ _ | (simp; done) | (simp; omega) | omega)) (by first | (simp; done) | (simp; omega) | omega)) (by omega) hc0).mono ?_
              rw [hE0.out, haV.out, hsK.out]
              rintro e W1 ⟨Ba, ma, ca, rfl, hr, hb⟩
              have hr0 := hr.1.len
              obtain rfl : n = ma := by rw [← hr0, hal.out]
              have hr1 := hr.1
              clear hr hr0
              have hst : Below W0.heap.size W0 W1 := Below.trans (by repeat' (first | with_reducible assumption | with_reducible exact Below.refl _ _ | refine Below.alloc ?_ ?_ _ | refine Below.setCell ?_ ?_ _ | refine Below.drew ?_ | refine below_drewN ?_ _ | (simp; done) | (simp; omega) | omega)) (hb.mono (by first | (simp; done) | (simp; omega) | omega))
              replace hbel := hbel.trans (hst.mono hsz)
              replace hsz := hbel.size
              replace H0 := hid (H0.out.below hst hst.size)
              replace HX := hid (HX.out.below hst hst.size)
              replace Hw := hid (Hw.out.below hst hst.size)
              replace Hx := hid (Hx.out.below hst hst.size)
              have Ha := hid hr1
              clear hr1
              clear hb hst
              obtain ⟨W0, rfl⟩ : ∃ W0 : World, W0 = W1 := ⟨_, rfl⟩
              go_wp2_with (fail)
              refine (lawLeast_any 4 AX n cX (l.map G) _ (HX.out.below (by repeat' (first | with_reducible assumption | with_reducible exact Below.refl _ _ | refine Below.alloc ?_ ?_ _ | refine Below.setCell ?_ ?_ _ | refine Below.drew ?_ | refine below_drewN ?_ _ | (simp; done) | (simp; omega) | omega)) (by first | (simp; done) | (simp; omega) | omega)) (by omega) hcX).mono ?_
              rw [hEX.out, haX.out, hsX.out]
              rintro e W1 ⟨Bb, mb, cb, rfl, hr, hb⟩
              have hr0 := hr.1.len
              obtain rfl : n = mb := by rw [← hr0, haXl.out]
              have hr1 := hr.1
              clear hr hr0
              have hst : Below W0.heap.size W0 W1 := Below.trans (by repeat' (first | with_reducible assumption | with_reducible exact Below.refl _ _ | refine Below.alloc ?_ ?_ _ | refine Below.setCell ?_ ?_ _ | refine Below.drew ?_ | refine below_drewN ?_ _ | (simp; done) | (simp; omega) | omega)) (hb.mono (by first | (simp; done) | (simp; omega) | omega))
              replace hbel := hbel.trans (hst.mono hsz)
              replace hsz := hbel.size
              replace H0 := hid (H0.out.below hst hst.size)
              replace HX := hid (HX.out.below hst hst.size)
              replace Hw := hid (Hw.out.below hst hst.size)
              replace Hx := hid (Hx.out.below hst hst.size)
              replace Ha := hid (Ha.out.below hst hst.size)
              have Hb := hid hr1
              clear hr1
              clear hb hst
              obtain ⟨W0, rfl⟩ : ∃ W0 : World, W0 = W1 := ⟨_, rfl⟩
              go_wp2_with (fail)
              refine (ints_any _ Bw Bx m cw m cx C C (Hw.out.below (by repeat' (first | with_reducible assumption | with_reducible exact Below.refl _ _ | refine Below.alloc ?_ ?_ _ | refine Below.setCell ?_ ?_ _ | refine Below.drew ?_ | refine below_drewN ?_ _ | (simp; done) | (simp; omega) | omega)) (by first | (simp; done) | (simp; omega) | omega)) (Hx.out.below (by repeat' (first | with_reducible assumption | with_reducible exact Below.refl _ _ | refine Below.alloc ?_ ?_ _ | refine Below.setCell ?_ ?_ _ | refine Below.drew ?_ | refine below_drewN ?_ _ | (simp; done) | (simp; omega) | omega)) (by first | (simp; done) | (simp; omega) | omega)) (by omega)).mono ?_
              rw [hqr.out]
              rintro e W1 ⟨rfl, hb⟩
              have hst : Below W0.heap.size W0 W1 := Below.trans (by repeat' (first | with_reducible assumption | with_reducible exact Below.refl _ _ | refine Below.alloc ?_ ?_ _ | refine Below.setCell ?_ ?_ _ | refine Below.drew ?_ | refine below_drewN ?_ _ | (simp; done) | (simp; omega) | omega)) (hb.mono (by first | (simp; done) | (simp; omega) | omega))
              replace hbel := hbel.trans (hst.mono hsz)
              replace hsz := hbel.size
              replace H0 := hid (H0.out.below hst hst.size)
              replace HX := hid (HX.out.below hst hst.size)
              replace Hw := hid (Hw.out.below hst hst.size)
              replace Hx := hid (Hx.out.below hst hst.size)
              replace Ha := hid (Ha.out.below hst hst.size)
              replace Hb := hid (Hb.out.below hst hst.size)
              clear hb hst
              obtain ⟨W0, rfl⟩ : ∃ W0 : World, W0 = W1 := ⟨_, rfl⟩
              go_wp2_with (fail)
              refine (works_any _).mono ?_
              rintro e W1 ⟨rfl, hb⟩
              have hst : Below W0.heap.size W0 W1 := Below.trans (by repeat' (first | with_reducible assumption | with_reducible exact Below.refl _ _ | refine Below.alloc ?_ ?_ _ | refine Below.setCell ?_ ?_ _ | refine Below.drew ?_ | refine below_drewN ?_ _ | (simp; done) | (simp; omega) | omega)) (hb.mono (by first | (simp; done) | (simp; omega) | omega))
              replace hbel := hbel.trans (hst.mono hsz)
              replace hsz := hbel.size
              replace H0 := hid (H0.out.below hst hst.size)
              replace HX := hid (HX.out.below hst hst.size)
              replace Hw := hid (Hw.out.below hst hst.size)
              replace Hx := hid (Hx.out.below hst hst.size)
              replace Ha := hid (Ha.out.below hst hst.size)
              replace Hb := hid (Hb.out.below hst hst.size)
              clear hb hst
              obtain ⟨W0, rfl⟩ : ∃ W0 : World, W0 = W1 := ⟨_, rfl⟩
              go_wp2
              go_ret
              exact ⟨rfl, hbel⟩

section
open Go.ChangeShapes Go.WideShapes Go.ChangeAt Go.RowKit
set_option maxRecDepth 100000 in
theorem rimGreater_lifted (os : Os) (started : os.Started) (H : Type) (enc : TypeId × Value → H) :
    ReturnsInHanded {} Try.checked os 15 .any (Rows.rimGreaterSpec.pre6 enc Try.prog Try.f15 Rows.rimGreaterRow.domain false) (Rows.rimGreaterSpec.post enc Try.prog Try.f15 false true false false) := by
  refine returnsInHanded_of_change (C := Try.checked) ownKx started (by kernel_rfl) Try.func15
    (ChangeSpec.witness6 (enc := enc) (C := Try.checked) false ⟨#[], #[.int .i64 0, .slice none 0 0, .slice none 0 0], []⟩ 8 (by kernel_rfl) (by kernel_rfl) (by kernel_rfl) (by kernel_rfl)) ?_
  intro W base args ds gs before hval0 hW hcnd _
  have hval : ∀ (j : Nat) t v, Try.f15.params[j]? = some t → args[j]? = some v → Value.okWide Try.prog W .any base t v := hval0
  have hW' := hW
  obtain ⟨p, q, hA0, hV, rfl, hfz, hnd⟩ := hW
  have hA : DataW.TrodAll enc Try.prog W 0 (fun _ => true) true Try.f15.params.toList args.toList ds p := hA0
  have hlt : ∀ x ∈ p, x.block < W.heap.size := fun x hx => hW'.lt x (List.mem_append_left _ hx)
  have hAll : ∀ W', Below W.heap.size W W' → DataW.TrodAll enc Try.prog W' 0 (fun b => decide (b < W.heap.size)) true Try.f15.params.toList args.toList ds p := fun W' hb => all_below laidOut hb (readable_of (by kernel_rfl)) hlt hA
  rw [Try.params15] at hA hval
  obtain ⟨v0, v1, v2, d0, d1, d2, p0, p1, p2, rfl, rfl, rfl, h0, h1, h2⟩ := trodAll_three hA
  obtain ⟨rfl, rfl⟩ := trodVars_none hV
  clear hA0 hval0
  obtain ⟨x0, rfl, rfl, rfl, wx0⟩ := open_int Try.underlying3 (hval 0 3 v0 rfl rfl) h0
  obtain ⟨A1, n1, c1, rfl⟩ := okWide_slice Try.underlying22 (hval 1 22 v1 rfl rfl)
  obtain ⟨hc1, l1, hl1, hr1⟩ := open_ins Try.underlying22 Try.underlying3 (by kernel_rfl) h1
  obtain ⟨A2, n2, c2, rfl⟩ := okWide_slice Try.underlying59 (hval 2 59 v2 rfl rfl)
  obtain ⟨hc2, l2, hl2, hr2, hu2⟩ := open_u8s h2
  refine (rimGreater_walk W x0 A1 n1 c1 l1 A2 n2 c2 l2 hr1 hc1 hr2 hu2).mono fun e W' ⟨he, hb⟩ => ?_
  subst he
  exact ⟨_, rfl, ⟨_, _, _, [], _, [], hW', trodAll_cons_mk (shut_bool Try.underlying4 _) trodAll_mk0, hAll W' hb, rfl, hb.frame _, fun h => by cases h⟩⟩
/-- The law: whatever the input, it returns true, and the input reads as it did. -/
theorem rimGreater_holds : Rows.RimGreaterSaid :=
  OpenClaim.holds_of_wide 15 Try.f15 rfl rfl rfl rfl rfl rfl rfl ⟨rfl, rfl, rfl, rfl, rfl⟩ rfl rfl rfl rfl rfl (by kernel_rfl) Try.func15 (by kernel_rfl)
    (of_decide_eq_true (by kernel_rfl)) (by unfold Func.isWrapper; first | (rw [if_pos (by decide +kernel)]; kernel_rfl) | (rw [if_neg (by decide +kernel)]; exact ⟨rfl, rfl⟩))
    (fun os started H enc _ => rimGreater_lifted os started H enc)
end
end Go.Proofs.Ytiobmfggnacplaa

