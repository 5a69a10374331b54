/- Texts of the proof, laid together by program. -/
import Derived.Test.YtdcglphekafpdaaMe
namespace Go.Proofs.Ytdcglphekafpdaa
open Go.RowKit Go.Shelf
/-- Some scales left free. -/
def frS (s : Nat → Rg) (ws : List Int) : Nat → Rg := ws.foldl (fun s i => upd s i.toNat ⟨0, 1000000⟩) s
theorem frS_take {s : Nat → Rg} {ws : List Int} {k : Nat} {x : Int} (h : ws[k]? = some x) : frS s (ws.take (k + 1)) = upd (frS s (ws.take k)) x.toNat ⟨0, 1000000⟩ := by
  rw [List.take_add_one, h]
  simp [frS]
theorem okS_frS : ∀ (ws : List Int) (s : Nat → Rg), okS s → okS (frS s ws)
  | [], s, h => h
  | x :: ws, s, h => okS_frS ws (upd s x.toNat ⟨0, 1000000⟩) (okS_upd h (by simp) (by simp) (by simp))
theorem listB_at {l : List Int} {below : Int} (h : listB l below = true) {k : Nat} (hk : k < l.length) : 0 ≤ wAt l k ∧ wAt l k < below := by
  have := List.all_eq_true.1 h k (List.mem_range.2 hk)
  simp only [listK, Bool.and_eq_true, decide_eq_true_eq] at this
  exact this.1

set_option maxRecDepth 100000 in
set_option maxHeartbeats 1000000 in
theorem without_any (w : World) (g : Nat) (A A2 : Option Addr) (n c n2 c2 : Nat) (row : List Mt) (s : Nat → Rg) (ws : List Int) (hb : Book w g (.slice A n c) s) (hr : MtS w w.heap.size A n row) (hn : n ≤ 7) (hn1 : 1 ≤ n) (hok : row.all okM = true) (hs : okS s)
    (hw : InS w w.heap.size A2 n2 ws) (hn2 : n2 ≤ 100) (hwl : listB ws ((n : Int) + 1) = true) :
    Calls Try.prog 95 #[.pointer (some ⟨g, 0, none⟩), .slice A2 n2 c2] w fun e w' => e = .returned (.bool (poss n (mAt row) (frS s ws) (fun _ => false))) ∧ Below w.heap.size w w' := by
  have hlen := hid hw.len
  have hok' := hid hok
  have hwl' := hid hwl
  have hs' := hid (okS_frS ws s hs)
  have hg := Blk.lt hb
  have e17 : w.cell? ⟨g, 0, none⟩ = some (.slice A n c) := Blk.cell hb 0
  have q1 : (w).cell? ⟨g, 1, none⟩ = some (.int .i64 (s 0).lo) := Blk.cell hb 1; have q2 : (w).cell? ⟨g, 2, none⟩ = some (.int .i64 (s 0).hi) := Blk.cell hb 2; have q3 : (w).cell? ⟨g, 3, none⟩ = some (.int .i64 (s 1).lo) := Blk.cell hb 3; have q4 : (w).cell? ⟨g, 4, none⟩ = some (.int .i64 (s 1).hi) := Blk.cell hb 4; have q5 : (w).cell? ⟨g, 5, none⟩ = some (.int .i64 (s 2).lo) := Blk.cell hb 5; have q6 : (w).cell? ⟨g, 6, none⟩ = some (.int .i64 (s 2).hi) := Blk.cell hb 6; have q7 : (w).cell? ⟨g, 7, none⟩ = some (.int .i64 (s 3).lo) := Blk.cell hb 7; have q8 : (w).cell? ⟨g, 8, none⟩ = some (.int .i64 (s 3).hi) := Blk.cell hb 8; have q9 : (w).cell? ⟨g, 9, none⟩ = some (.int .i64 (s 4).lo) := Blk.cell hb 9; have q10 : (w).cell? ⟨g, 10, none⟩ = some (.int .i64 (s 4).hi) := Blk.cell hb 10; have q11 : (w).cell? ⟨g, 11, none⟩ = some (.int .i64 (s 5).lo) := Blk.cell hb 11; have q12 : (w).cell? ⟨g, 12, none⟩ = some (.int .i64 (s 5).hi) := Blk.cell hb 12; have q13 : (w).cell? ⟨g, 13, none⟩ = some (.int .i64 (s 6).lo) := Blk.cell hb 13; have q14 : (w).cell? ⟨g, 14, none⟩ = some (.int .i64 (s 6).hi) := Blk.cell hb 14; have q15 : (w).cell? ⟨g, 15, none⟩ = some (.int .i64 (s 7).lo) := Blk.cell hb 15; have q16 : (w).cell? ⟨g, 16, none⟩ = some (.int .i64 (s 7).hi) := Blk.cell hb 16
  clear hok hwl
  go_enter Try.func95, Try.ntmps95
  go_wp2
  clear q1 q2 q3 q4 q5 q6 q7 q8 q9 q10 q11 q12 q13 q14 q15 q16 e17
  have hb1 : Book (w.alloc (.cells (bk (.slice A n c) s) 108)) w.heap.size (.slice A n c) s := Blk.new _ _ _
  have hbel1 : Below w.heap.size w (w.alloc (.cells (bk (.slice A n c) s) 108)) := (Below.refl _ _).alloc (Nat.le_refl _) _
  have hsz1 : w.heap.size < (w.alloc (.cells (bk (.slice A n c) s) 108)).heap.size := by simp
  obtain ⟨W1, hW1⟩ : ∃ W1, w.alloc (.cells (bk (.slice A n c) s) 108) = W1 := ⟨_, rfl⟩
  have hW1' := hW1
  simp only [bk] at hW1'
  rw [hW1'] at *
  rw [hW1] at hb1 hbel1 hsz1
  clear hW1 hW1' hb hg
  go_loopw [13] (fun i wr => ∃ k : Nat, k ≤ n2 ∧ i = .int .i64 k ∧ Book wr w.heap.size (.slice A n c) (frS s (ws.take k)) ∧ Below w.heap.size w wr) (fun i _ => n2 - (intOf i).toNat)
  case atStart => exact ⟨0, by omega, rfl, hb1, hbel1⟩
  case round =>
    obtain ⟨k, hk, rfl, hbk, hbel⟩ := hrel
    have hsz := hbel.size
    have hgw : w.heap.size < wr.heap.size := Blk.lt hbk
    by_cases hlt : k < n2
    · obtain ⟨b, off, x, rfl, hb, hm, c0⟩ := (hw.below hbel (Nat.le_refl _)).at_ hlt
      have hx := listB_at hwl'.out (k := k) (by rw [hlen.out]; exact hlt)
      rw [wAt_of hm] at hx
      obtain ⟨y, rfl⟩ : ∃ y : Nat, x = (y : Int) := ⟨x.toNat, by omega⟩
      have hF : Hid (frS s (ws.take (k + 1)) = upd (frS s (ws.take k)) y ⟨0, 1000000⟩) := hid (by rw [frS_take hm]; rfl)
      clear hm
      have hy8 : y < 8 := by omega
      have hy8i : (y : Int) < 8 := by omega
      have q0 := hbk.lo (i := y) hy8
      have q1 := hbk.hi (i := y) hy8
      have q2 := Blk.frozen hbk (1 + y * 2)
      have q3 := Blk.frozen hbk (1 + y * 2 + 1)
      have hbk4 := hbk.set_ hy8 ⟨0, 1000000⟩
      rw [← hF.out] at hbk4
      have hbel4 := (hbel.setCell (p := ⟨w.heap.size, 1 + y * 2, none⟩) (Nat.le_refl _) (.int .i64 0)).setCell (p := ⟨w.heap.size, 1 + y * 2 + 1, none⟩) (Nat.le_refl _) (.int .i64 1000000)
      clear hx
      go_wp2
      exact ⟨⟨k + 1, by omega, by go_num, hbk4, hbel4⟩, by simp [intOf]; omega⟩
    · obtain rfl : k = n2 := by omega
      rw [List.take_of_length_le (by rw [hlen.out]; omega)] at hbk
      have hr3 : MtS wr w.heap.size A n row := hr.below hbel (Nat.le_refl _)
      go_wp2_with (first | (go_at_call 81; refine (settle_poss wr w.heap.size A n c row _ hbk hr3 hn hok'.out hs'.out (.inl hn1)).mono ?_; rintro e w3 ⟨rfl, hgr3, s3, hbk3, h3⟩))
      go_ret
      exact ⟨rfl, below_grown hbel hgr3 (Nat.le_refl _) (Nat.le_refl _)⟩
end Go.Proofs.Ytdcglphekafpdaa
namespace Go.Proofs.Ytdcglphekafpdaa
open Go.RowKit Go.Shelf
def freeL (sc : List Rg) (ws : List Int) : List Rg := ws.foldl (fun l i => l.set i.toNat ⟨0, 1000000⟩) sc
theorem freeL_len : ∀ (ws : List Int) (sc : List Rg), (freeL sc ws).length = sc.length
  | [], _ => rfl
  | x :: ws, sc => by have := freeL_len ws (sc.set x.toNat ⟨0, 1000000⟩); rw [List.length_set] at this; exact this
theorem sAt_set (l : List Rg) {i : Nat} (h : i < l.length) (r : Rg) : sAt (l.set i r) = upd (sAt l) i r := by
  funext j
  unfold sAt upd
  rw [List.getElem?_set]
  by_cases e : i = j
  · subst e; simp [h]
  · rw [if_neg e, if_neg (fun h => e h.symm)]
theorem sAt_freeL : ∀ (ws : List Int) (sc : List Rg), (∀ x ∈ ws, 0 ≤ x ∧ x < sc.length) → sAt (freeL sc ws) = frS (sAt sc) ws
  | [], _, _ => rfl
  | x :: ws, sc, h => by
    have h1 := h x (by simp)
    have := sAt_freeL ws (sc.set x.toNat ⟨0, 1000000⟩) (fun y hy => by rw [List.length_set]; exact h y (by simp [hy]))
    rw [sAt_set sc (by omega)] at this
    exact this
theorem freeL_ok : ∀ (ws : List Int) (sc : List Rg), sc.all okW = true → (freeL sc ws).all okW = true
  | [], _, h => h
  | x :: ws, sc, h => freeL_ok ws _ (List.all_eq_true.2 fun r hr => by
    rcases List.mem_or_eq_of_mem_set hr with h1 | rfl
    · exact List.all_eq_true.1 h r h1
    · rfl)
theorem freeL_take {sc : List Rg} {ws : List Int} {k : Nat} {x : Int} (h : ws[k]? = some x) : freeL sc (ws.take (k + 1)) = (freeL sc (ws.take k)).set x.toNat ⟨0, 1000000⟩ := by
  rw [List.take_add_one, h]
  simp [freeL]
theorem listB_mem {l : List Int} {below : Int} (h : listB l below = true) : ∀ x ∈ l, 0 ≤ x ∧ x < below := fun x hx => by
  obtain ⟨k, hk, e⟩ := List.mem_iff_getElem.1 hx
  have := listB_at h hk
  rwa [wAt_of (List.getElem?_eq_getElem hk), e] at this

theorem own_form' {w : World} {base : Nat} {e : TypeId} {size : Nat} {v : Value} {n : Nat} {xs : List Value} (h : w.ownsRow base e size v n xs) (hn : 1 ≤ n) : ∃ g cap, v = .slice (some ⟨g, 0, none⟩) n cap ∧ base ≤ g := by
  obtain ⟨_, ⟨_, h⟩ | ⟨g, cap, cur, hv, hb, _⟩⟩ := h
  · omega
  · exact ⟨g, cap, hv, hb⟩
theorem add_at (b off j : Nat) : (⟨b, off, none⟩ : Addr).add j = ⟨b, off + j, none⟩ := by unfold Addr.add; split <;> simp_all
theorem one_flat (l : List Rg) : ∀ u ∈ l.flatMap cR, u.oneCell' = true := by
  intro v hv
  obtain ⟨r, -, hr⟩ := List.mem_flatMap.1 hv
  simp only [cR, List.mem_cons, List.not_mem_nil, or_false] at hr
  rcases hr with rfl | rfl <;> rfl
def wrongE (row : List Mt) (sc : List Rg) (ws : List Int) : Int :=
  if checkScales row sc ≠ 0 then checkScales row sc else if listB ws sc.length then (if poss row.length (mAt row) (frS (sAt sc) ws) (fun _ => false) then 0 else 14) else 3

set_option maxRecDepth 100000 in
set_option maxHeartbeats 1000000 in
theorem free_any (w : World) (A A2 : Option Addr) (n c n2 c2 : Nat) (sc : List Rg) (ws : List Int) (hr : RgS w w.heap.size A n sc) (hn : n ≤ 12) (hn1 : 1 ≤ n) (hw : InS w w.heap.size A2 n2 ws) (hn2 : n2 ≤ 100) (hwl : listB ws n = true) :
    Calls Try.prog 97 #[.slice A n c, .slice A2 n2 c2] w fun e w' => ∃ v, e = .returned v ∧ w'.ownsRow w.heap.size 24 2 v n ((freeL sc ws).flatMap cR) ∧ Below w.heap.size w w' := by
  have hlen := hid hw.len
  have hlenR := hid hr.len
  have hwl' := hid hwl
  clear hwl
  obtain ⟨i0, hi, hz0, hz1, hz2⟩ := info_parts info24
  obtain ⟨b, off, rfl, hb, hcs⟩ := hr.2 hn1
  go_enter Try.func97, Try.ntmps97
  go_wp2_with (first | (at_builtin; refine wpList_append_own _ rfl _ _ 34 rfl w.heap.size 24 i0 _ 2 16 under34 hi hz0 hz1 hz2 rfl (by decide) _ 0 [] rfl (World.ownsRow_made w #[] 0 (Nat.le_refl _) (by omega) rfl) ⟨b, off, none⟩ n c (sc.flatMap cR) rfl (by rw [flat_len (s := 2) (fun _ => rfl), hlenR.out]) (fun j u hj => by rw [add_at]; exact (World.cell?_alloc_lt _ _ _ hb).trans (hcs j u hj)) (one_flat sc) (by unfold maxLen; omega) (by omega) (by simp) ?_; intro v1 w1 hown hgr _))
  rw [Nat.zero_add, List.nil_append] at hown
  obtain ⟨g, cap, rfl, hg⟩ := own_form' hown hn1
  have hbel1 := below_own ((Below.refl _ w).alloc (Nat.le_refl _) (.cells #[] 24)) (World.ownsRow_made w #[] 0 (base := w.heap.size) (size := 2) (e := 24) (Nat.le_refl _) (by omega) rfl).lt hgr (Nat.le_refl _)
  go_loopw [6] (fun i wr => ∃ k : Nat, k ≤ n2 ∧ i = .int .i64 k ∧ wr.ownsRow w.heap.size 24 2 (.slice (some ⟨g, 0, none⟩) n cap) n ((freeL sc (ws.take k)).flatMap cR) ∧ Below w.heap.size w wr) (fun i _ => n2 - (intOf i).toNat)
  case atStart => exact ⟨0, by omega, rfl, hown, hbel1⟩
  case round =>
    obtain ⟨k, hk, rfl, hown, hbel⟩ := hrel
    have hsz := hbel.size
    by_cases hlt : k < n2
    · obtain ⟨b2, off2, x, rfl, hb2, hm, c0⟩ := (hw.below hbel (Nat.le_refl _)).at_ hlt
      have hx := listB_at hwl'.out (k := k) (by rw [hlen.out]; exact hlt)
      rw [wAt_of hm] at hx
      obtain ⟨y, rfl⟩ : ∃ y : Nat, x = (y : Int) := ⟨x.toNat, by omega⟩
      have hF : Hid (freeL sc (ws.take (k + 1)) = (freeL sc (ws.take k)).set y ⟨0, 1000000⟩) := hid (by rw [freeL_take hm]; rfl)
      clear hm
      have hyn : y < n := by omega
      have hyni : (y : Int) < n := by omega
      have l2 : b2 < wr.heap.size := by omega
      have hgl : g < wr.heap.size := (hown.lt g rfl).2
      clear hx
      go_wp2_with (fail)
      refine wp_region_hd 7 (fun W' => Below wr.heap.size wr W') (by kernel_rfl) (by kernel_rfl) ((Below.refl _ _).drew) ?_
      simp only [List.take_succ_cons, List.take_zero, List.drop_succ_cons, List.drop_zero]
      iterate 5 (refine wpHd_val (v := ?_) (by rfl) (fun W hW => ?_) ?_; rotate_left; (· obtain ⟨hcW, hfW⟩ := bcell hW; go_simp; with_reducible rfl); simp only [Act.put, List.setIfInBounds_toArray, List.set_cons_zero, List.set_cons_succ])
      (refine wpHd_callB (by rfl) (fun W hW => all_any _) (fun W hW => ?_) ?_; (· obtain ⟨hcW, hfW⟩ := bcell hW; go_simp); simp only [Act.put, List.setIfInBounds_toArray, List.set_cons_zero, List.set_cons_succ])
      (refine wpHd_val (v := ?_) (by rfl) (fun W hW => ?_) ?_; rotate_left; (· obtain ⟨hcW, hfW⟩ := bcell hW; go_simp; with_reducible rfl); simp only [Act.put, List.setIfInBounds_toArray, List.set_cons_zero, List.set_cons_succ])
      refine wpHd_nil ?_
      intro W2 hW2
      have hown2 := owns_below hown hW2
      obtain ⟨q0, q1, q2, q3⟩ := own_at hown2 (k := y) (r := sAt (freeL sc (ws.take k)) y) (by
        unfold sAt
        rw [List.getElem?_eq_getElem (by rw [freeL_len, hlenR.out]; exact hyn)]; rfl)
      have hown4 := ((hown2.stored (y * 2) (.int .i64 0)).1.stored (y * 2 + 1) (.int .i64 1000000)).1
      rw [set_flat ⟨0, 1000000⟩, ← hF.out] at hown4
      have hbel4 := ((hbel.trans (hW2.mono hsz)).setCell (p := ⟨g, y * 2, none⟩) hg (.int .i64 0)).setCell (p := ⟨g, y * 2 + 1, none⟩) hg (.int .i64 1000000)
      go_wp2
      exact ⟨⟨k + 1, by omega, by go_num, hown4, hbel4⟩, by simp [intOf]; omega⟩
    · obtain rfl : k = n2 := by omega
      rw [List.take_of_length_le (by rw [hlen.out]; omega)] at hown
      go_wp2
      refine bodyPost_ret (v := .slice (some ⟨g, 0, none⟩) n cap) (by first | (simp [results, Try.results97, go_sem]; done) | (simp [results, Try.results97, go_sem, World.cell?_setCell_same', *]; done) | (simp [results, Try.results97, go_sem]; first | exact ⟨rfl, rfl⟩ | rfl)) rfl ⟨_, rfl, hown, hbel⟩
end Go.Proofs.Ytdcglphekafpdaa
namespace Go.Proofs.Ytdcglphekafpdaa
open Go.RowKit Go.Shelf
theorem possB_free {row : List Mt} {sc : List Rg} {ws : List Int} (h : listB ws sc.length = true) : possB row (freeL sc ws) = poss row.length (mAt row) (frS (sAt sc) ws) (fun _ => false) := by
  unfold possB
  rw [sAt_freeL ws sc (listB_mem h)]

set_option maxRecDepth 100000 in
set_option maxHeartbeats 1000000 in
theorem refCheckWrong_any (w : World) (A A' A2 : Option Addr) (n c n' c' n2 c2 : Nat) (row : List Mt) (sc : List Rg) (ws : List Int) (hr : MtS w w.heap.size A n row) (hn : n ≤ 12) (hr' : RgS w w.heap.size A' n' sc) (hn' : n' ≤ 12)
    (hw : InS w w.heap.size A2 n2 ws) (hn2 : n2 ≤ 100) :
    Calls Try.prog 44 #[.slice A n c, .slice A' n' c', .slice A2 n2 c2] w fun e w' => e = .returned (.int .i64 (wrongE row sc ws)) ∧ Below w.heap.size w w' := by
  by_cases h0 : checkScales row sc = 0
  · obtain ⟨k1, k2, k3⟩ := checkScales_ok h0
    obtain ⟨k4, k5, k6⟩ := checkRow_ok k1
    have hlen := hr.len
    have hlen' := hr'.len
    have hc : (checkScales row sc != 0) = false := by simp [h0]
    have H6 := hid k6
    have hn7 : n ≤ 7 := by omega
    have hn1 : 1 ≤ n' := by omega
    have hnn : Hid (n' = n + 1) := hid (by omega)
    have hF3 : Hid ((freeL sc ws).all okW = true) := hid (freeL_ok ws sc k3)
    cases hl : listB ws n'
    · have he : Hid (wrongE row sc ws = 3) := by unfold wrongE; rw [if_neg (by simp [h0]), hlen', hl]; trivial
      have Hl := hid hl
      clear h0 k1 k2 k3 k4 k5 k6 hlen hlen' hl
      go_enter Try.func44, Try.ntmps44
      go_wp2_with (first | (go_at_call 31; refine (checkScales_any _ A A' n c n' c' row sc (hr.below (by repeat' (first | with_reducible assumption | with_reducible exact Below.refl _ _ | refine Below.alloc ?_ ?_ _ | refine Below.setCell ?_ ?_ _ | refine Below.drew ?_ | refine below_drewN ?_ _ | (simp; done) | (simp; omega) | omega)) (by first | (simp; done) | (simp; omega) | omega)) hn (hr'.below (by repeat' (first | with_reducible assumption | with_reducible exact Below.refl _ _ | refine Below.alloc ?_ ?_ _ | refine Below.setCell ?_ ?_ _ | refine Below.drew ?_ | refine below_drewN ?_ _ | (simp; done) | (simp; omega) | omega)) (by first | (simp; done) | (simp; omega) | omega)) hn').mono ?_; rintro e w1 ⟨rfl, hb1⟩; have hbel : Below w.heap.size w w1 := Below.trans (by repeat' (first | with_reducible assumption | with_reducible exact Below.refl _ _ | refine Below.alloc ?_ ?_ _ | refine Below.setCell ?_ ?_ _ | refine Below.drew ?_ | refine below_drewN ?_ _ | (simp; done) | (simp; omega) | omega)) (hb1.mono (by first | (simp; done) | (simp; omega) | omega)); have hsz := hbel.size) | (go_at_call 60; refine (isList_any _ A2 n2 c2 ws _ (hw.below hbel hsz) hn2).mono ?_; rw [Hl.out]; rintro e w2 ⟨rfl, hb2⟩))
      go_ret
      exact ⟨by rw [he.out]; rfl, hbel.trans (hb2.mono hsz)⟩
    · have hpf := possB_free (row := row) (sc := sc) (ws := ws) (by rw [hlen']; exact hl)
      cases hp : possB row (freeL sc ws)
      · have he : Hid (wrongE row sc ws = 14) := by unfold wrongE; rw [if_neg (by simp [h0]), hlen', hl, ← hpf, hp]; trivial
        have Hl := hid hl
        have Hp := hid hp
        clear h0 k1 k2 k3 k4 k5 k6 hlen hlen' hl hp hpf
        go_enter Try.func44, Try.ntmps44
        go_wp2_with (first | (go_at_call 31; refine (checkScales_any _ A A' n c n' c' row sc (hr.below (by repeat' (first | with_reducible assumption | with_reducible exact Below.refl _ _ | refine Below.alloc ?_ ?_ _ | refine Below.setCell ?_ ?_ _ | refine Below.drew ?_ | refine below_drewN ?_ _ | (simp; done) | (simp; omega) | omega)) (by first | (simp; done) | (simp; omega) | omega)) hn (hr'.below (by repeat' (first | with_reducible assumption | with_reducible exact Below.refl _ _ | refine Below.alloc ?_ ?_ _ | refine Below.setCell ?_ ?_ _ | refine Below.drew ?_ | refine below_drewN ?_ _ | (simp; done) | (simp; omega) | omega)) (by first | (simp; done) | (simp; omega) | omega)) hn').mono ?_; rintro e w1 ⟨rfl, hb1⟩; have hbel : Below w.heap.size w w1 := Below.trans (by repeat' (first | with_reducible assumption | with_reducible exact Below.refl _ _ | refine Below.alloc ?_ ?_ _ | refine Below.setCell ?_ ?_ _ | refine Below.drew ?_ | refine below_drewN ?_ _ | (simp; done) | (simp; omega) | omega)) (hb1.mono (by first | (simp; done) | (simp; omega) | omega)); have hsz := hbel.size) | (go_at_call 60; refine (isList_any _ A2 n2 c2 ws _ (hw.below hbel hsz) hn2).mono ?_; rw [Hl.out]; rintro e w2 ⟨rfl, hb2⟩; have hbel2 := hbel.trans (hb2.mono hsz); have hsz2 := hbel2.size) | (go_at_call 97; refine (free_any _ A' A2 n' c' n2 c2 sc ws (hr'.below hbel2 hsz2) hn' hn1 (hw.below hbel2 hsz2) hn2 Hl.out).mono ?_; rintro e w3 ⟨v, rfl, hown, hb3⟩; obtain ⟨Af, cf, rfl, hSf⟩ := sl_of_owns hown; have hbel3 := hbel2.trans (hb3.mono hsz2); have hsz3 := hbel3.size) | (go_at_call 82; refine (isPossible_any _ A Af n c n' cf row (freeL sc ws) (hr.below hbel3 hsz3) hn7 hSf hnn.out H6.out hF3.out).mono ?_; rw [Hp.out]; rintro e w4 ⟨rfl, hb4⟩))
        go_ret
        exact ⟨by rw [he.out]; rfl, hbel3.trans (hb4.mono hsz3)⟩
      · have he : Hid (wrongE row sc ws = 0) := by unfold wrongE; rw [if_neg (by simp [h0]), hlen', hl, ← hpf, hp]; trivial
        have Hl := hid hl
        have Hp := hid hp
        clear h0 k1 k2 k3 k4 k5 k6 hlen hlen' hl hp hpf
        go_enter Try.func44, Try.ntmps44
        go_wp2_with (first | (go_at_call 31; refine (checkScales_any _ A A' n c n' c' row sc (hr.below (by repeat' (first | with_reducible assumption | with_reducible exact Below.refl _ _ | refine Below.alloc ?_ ?_ _ | refine Below.setCell ?_ ?_ _ | refine Below.drew ?_ | refine below_drewN ?_ _ | (simp; done) | (simp; omega) | omega)) (by first | (simp; done) | (simp; omega) | omega)) hn (hr'.below (by repeat' (first | with_reducible assumption | with_reducible exact Below.refl _ _ | refine Below.alloc ?_ ?_ _ | refine Below.setCell ?_ ?_ _ | refine Below.drew ?_ | refine below_drewN ?_ _ | (simp; done) | (simp; omega) | omega)) (by first | (simp; done) | (simp; omega) | omega)) hn').mono ?_; rintro e w1 ⟨rfl, hb1⟩; have hbel : Below w.heap.size w w1 := Below.trans (by repeat' (first | with_reducible assumption | with_reducible exact Below.refl _ _ | refine Below.alloc ?_ ?_ _ | refine Below.setCell ?_ ?_ _ | refine Below.drew ?_ | refine below_drewN ?_ _ | (simp; done) | (simp; omega) | omega)) (hb1.mono (by first | (simp; done) | (simp; omega) | omega)); have hsz := hbel.size) | (go_at_call 60; refine (isList_any _ A2 n2 c2 ws _ (hw.below hbel hsz) hn2).mono ?_; rw [Hl.out]; rintro e w2 ⟨rfl, hb2⟩; have hbel2 := hbel.trans (hb2.mono hsz); have hsz2 := hbel2.size) | (go_at_call 97; refine (free_any _ A' A2 n' c' n2 c2 sc ws (hr'.below hbel2 hsz2) hn' hn1 (hw.below hbel2 hsz2) hn2 Hl.out).mono ?_; rintro e w3 ⟨v, rfl, hown, hb3⟩; obtain ⟨Af, cf, rfl, hSf⟩ := sl_of_owns hown; have hbel3 := hbel2.trans (hb3.mono hsz2); have hsz3 := hbel3.size) | (go_at_call 82; refine (isPossible_any _ A Af n c n' cf row (freeL sc ws) (hr.below hbel3 hsz3) hn7 hSf hnn.out H6.out hF3.out).mono ?_; rw [Hp.out]; rintro e w4 ⟨rfl, hb4⟩))
        go_ret
        exact ⟨by rw [he.out]; rfl, hbel3.trans (hb4.mono hsz3)⟩
  · have he : Hid (wrongE row sc ws = checkScales row sc) := by unfold wrongE; rw [if_pos h0]; trivial
    have hc : (checkScales row sc != 0) = true := by simp [h0]
    clear h0
    go_enter Try.func44, Try.ntmps44
    go_wp2_with (first | (go_at_call 31; refine (checkScales_any _ A A' n c n' c' row sc (hr.below (by repeat' (first | with_reducible assumption | with_reducible exact Below.refl _ _ | refine Below.alloc ?_ ?_ _ | refine Below.setCell ?_ ?_ _ | refine Below.drew ?_ | refine below_drewN ?_ _ | (simp; done) | (simp; omega) | omega)) (by first | (simp; done) | (simp; omega) | omega)) hn (hr'.below (by repeat' (first | with_reducible assumption | with_reducible exact Below.refl _ _ | refine Below.alloc ?_ ?_ _ | refine Below.setCell ?_ ?_ _ | refine Below.drew ?_ | refine below_drewN ?_ _ | (simp; done) | (simp; omega) | omega)) (by first | (simp; done) | (simp; omega) | omega)) hn').mono ?_; rintro e w1 ⟨rfl, hb1⟩; have hbel : Below w.heap.size w w1 := Below.trans (by repeat' (first | with_reducible assumption | with_reducible exact Below.refl _ _ | refine Below.alloc ?_ ?_ _ | refine Below.setCell ?_ ?_ _ | refine Below.drew ?_ | refine below_drewN ?_ _ | (simp; done) | (simp; omega) | omega)) (hb1.mono (by first | (simp; done) | (simp; omega) | omega)); have hsz := hbel.size))
    go_ret
    exact ⟨by rw [he.out]; rfl, hbel⟩

set_option maxRecDepth 100000 in
set_option maxHeartbeats 1000000 in
theorem dCheckWrong_any (w : World) (A A' A2 : Option Addr) (n c n' c' n2 c2 : Nat) (row : List Mt) (sc : List Rg) (ws : List Int) (hr : MtS w w.heap.size A n row) (hn : n ≤ 12) (hr' : RgS w w.heap.size A' n' sc) (hn' : n' ≤ 12)
    (hw : InS w w.heap.size A2 n2 ws) (hn2 : n2 ≤ 100) :
    Calls Try.prog 43 #[.slice A n c, .slice A' n' c', .slice A2 n2 c2] w fun e w' => e = .returned (.int .i64 (wrongE row sc ws)) ∧ Below w.heap.size w w' := by
  by_cases h0 : checkScales row sc = 0
  · obtain ⟨k1, k2, k3⟩ := checkScales_ok h0
    obtain ⟨k4, k5, k6⟩ := checkRow_ok k1
    have hlen := hr.len
    have hlen' := hr'.len
    have H0 := hid h0
    have H6 := hid k6
    have H3 := hid k3
    have hn7 : n ≤ 7 := by omega
    have hn1 : 1 ≤ n := by omega
    have hn1000 : (n' : Int) ≤ 1000 := by omega
    have hn0 : (0 : Int) ≤ n' := by omega
    cases hl : listB ws n'
    · have he : Hid (wrongE row sc ws = 3) := by unfold wrongE; rw [if_neg (by simp [h0]), hlen', hl]; trivial
      have Hl := hid hl
      clear h0 k1 k2 k3 k4 k5 k6 hlen hlen' hl
      go_enter Try.func43, Try.ntmps43
      go_wp2_with (first | (go_at_call 80; refine (open_ok _ A A' n c n' c' row sc hr hn hr' hn' H0.out).mono ?_; rintro e w1 ⟨g, rfl, hg, hbk, hb1⟩) | (go_at_call 100; refine (rising_any _ A2 n2 c2 ws _ (hw.below hb1 hb1.size) hn2 hn0 hn1000).mono ?_; rw [Hl.out]; rintro e w2 ⟨rfl, hb2⟩))
      refine bodyPost_ret (v := .int .i64 3) (by first | (simp [results, Try.results43, go_sem]; done) | (simp [results, Try.results43, go_sem, World.cell?_setCell_same', *]; done) | (simp [results, Try.results43, go_sem]; first | exact ⟨rfl, rfl⟩ | rfl)) rfl ⟨by rw [he.out], hb1.trans (hb2.mono hb1.size)⟩
    · have Hl := hid hl
      have Hl1 : Hid (listB ws ((n : Int) + 1) = true) := hid (by rw [show (n : Int) + 1 = n' by omega]; exact hl)
      cases hp : poss n (mAt row) (frS (sAt sc) ws) (fun _ => false)
      · have he : Hid (wrongE row sc ws = 14) := by unfold wrongE; rw [if_neg (by simp [h0]), hlen', hl, hlen, hp]; trivial
        have Hp := hid hp
        clear h0 k1 k2 k3 k4 k5 k6 hlen hlen' hl hp
        go_enter Try.func43, Try.ntmps43
        go_wp2_with (first | (go_at_call 80; refine (open_ok _ A A' n c n' c' row sc hr hn hr' hn' H0.out).mono ?_; rintro e w1 ⟨g, rfl, hg, hbk, hb1⟩; have hgl := Blk.lt hbk) | (go_at_call 100; refine (rising_any _ A2 n2 c2 ws _ (hw.below hb1 hb1.size) hn2 hn0 hn1000).mono ?_; rw [Hl.out]; rintro e w2 ⟨rfl, hb2⟩; have hbel2 := hb1.trans (hb2.mono hb1.size); have hsz2 := hbel2.size) | (go_at_call 95; refine (without_any _ g A A2 n c n2 c2 row (sAt sc) ws (Blk.below hbk hb2 hgl) (hr.below hbel2 hsz2) hn7 hn1 H6.out (okS_sAt H3.out) (hw.below hbel2 hsz2) hn2 Hl1.out).mono ?_; rw [Hp.out]; rintro e w3 ⟨rfl, hb3⟩))
        refine bodyPost_ret (v := .int .i64 14) (by first | (simp [results, Try.results43, go_sem]; done) | (simp [results, Try.results43, go_sem, World.cell?_setCell_same', *]; done) | (simp [results, Try.results43, go_sem]; first | exact ⟨rfl, rfl⟩ | rfl)) rfl ⟨by rw [he.out], hbel2.trans (hb3.mono hsz2)⟩
      · have he : Hid (wrongE row sc ws = 0) := by unfold wrongE; rw [if_neg (by simp [h0]), hlen', hl, hlen, hp]; trivial
        have Hp := hid hp
        clear h0 k1 k2 k3 k4 k5 k6 hlen hlen' hl hp
        go_enter Try.func43, Try.ntmps43
        go_wp2_with (first | (go_at_call 80; refine (open_ok _ A A' n c n' c' row sc hr hn hr' hn' H0.out).mono ?_; rintro e w1 ⟨g, rfl, hg, hbk, hb1⟩; have hgl := Blk.lt hbk) | (go_at_call 100; refine (rising_any _ A2 n2 c2 ws _ (hw.below hb1 hb1.size) hn2 hn0 hn1000).mono ?_; rw [Hl.out]; rintro e w2 ⟨rfl, hb2⟩; have hbel2 := hb1.trans (hb2.mono hb1.size); have hsz2 := hbel2.size) | (go_at_call 95; refine (without_any _ g A A2 n c n2 c2 row (sAt sc) ws (Blk.below hbk hb2 hgl) (hr.below hbel2 hsz2) hn7 hn1 H6.out (okS_sAt H3.out) (hw.below hbel2 hsz2) hn2 Hl1.out).mono ?_; rw [Hp.out]; rintro e w3 ⟨rfl, hb3⟩))
        refine bodyPost_ret (v := .int .i64 0) (by first | (simp [results, Try.results43, go_sem]; done) | (simp [results, Try.results43, go_sem, World.cell?_setCell_same', *]; done) | (simp [results, Try.results43, go_sem]; first | exact ⟨rfl, rfl⟩ | rfl)) rfl ⟨by rw [he.out], hbel2.trans (hb3.mono hsz2)⟩
  · have he : Hid (wrongE row sc ws = checkScales row sc) := by unfold wrongE; rw [if_pos h0]; trivial
    have hc : (checkScales row sc != 0) = true := by simp [h0]
    have H0 := hid h0
    clear h0
    go_enter Try.func43, Try.ntmps43
    go_wp2_with (first | (go_at_call 80; refine (open_bad _ A A' n c n' c' row sc hr hn hr' hn' H0.out).mono ?_; rintro e w1 ⟨rfl, hb1⟩))
    refine bodyPost_ret (v := .int .i64 (checkScales row sc)) (by first | (simp [results, Try.results43, go_sem]; done) | (simp [results, Try.results43, go_sem, World.cell?_setCell_same', *]; done) | (simp [results, Try.results43, go_sem]; first | exact ⟨rfl, rfl⟩ | rfl)) rfl ⟨by rw [he.out], hb1⟩
end Go.Proofs.Ytdcglphekafpdaa
namespace Go.Proofs.Ytdcglphekafpdaa
open Go.RowKit Go.Shelf
def maskOf (ws : List Int) (i : Nat) : Bool := ws.any fun x => x == (i : Int)
def bitsN (ws : List Int) : Nat := ws.foldl (fun a x => a ||| 2 ^ x.toNat) 0
theorem bitsN_take {ws : List Int} {k : Nat} {x : Int} (h : ws[k]? = some x) : bitsN (ws.take (k + 1)) = bitsN (ws.take k) ||| 2 ^ x.toNat := by
  rw [List.take_add_one, h]
  simp [bitsN]
theorem bitsN_lt : ∀ (ws : List Int) (a : Nat), a < 128 → (∀ x ∈ ws, x.toNat < 7) → ws.foldl (fun a x => a ||| 2 ^ x.toNat) a < 128
  | [], a, h, _ => h
  | x :: ws, a, h, h1 => bitsN_lt ws _ (Nat.or_lt_two_pow (n := 7) h (Nat.pow_lt_pow_right (by omega) (h1 x (by simp)))) (fun y hy => h1 y (by simp [hy]))
theorem bitsN_mask : ∀ (ws : List Int) (a : Nat), (∀ x ∈ ws, 0 ≤ x) → ∀ i, (ws.foldl (fun a x => a ||| 2 ^ x.toNat) a).testBit i = (a.testBit i || maskOf ws i)
  | [], a, _, i => by simp [maskOf]
  | x :: ws, a, h, i => by
    have h0 := h x (by simp)
    rw [List.foldl_cons, bitsN_mask ws _ (fun y hy => h y (by simp [hy])) i, Nat.testBit_or, Nat.testBit_two_pow]
    have : decide (x.toNat = i) = (x == (i : Int)) := by
      rw [Bool.eq_iff_iff]; simp only [decide_eq_true_eq, beq_iff_eq]; omega
    rw [this]
    simp [maskOf, Bool.or_assoc]
theorem or_all : ((List.range 128).all fun a => (List.range 7).all fun y => bits BinOp.or IntKind.i64 (a : Int) ((2 ^ y : Nat) : Int) == ((a ||| 2 ^ y : Nat) : Int)) = true := by kernel_rfl
theorem or_bit {a y : Nat} (ha : a < 128) (hy : y < 7) : bits BinOp.or IntKind.i64 (a : Int) ((2 ^ y : Nat) : Int) = ((a ||| 2 ^ y : Nat) : Int) := by
  have h1 := List.all_eq_true.1 or_all a (List.mem_range.2 ha)
  have h2 := List.all_eq_true.1 h1 y (List.mem_range.2 hy)
  exact beq_iff_eq.1 h2

theorem wrap_all : ((List.range 7).all fun y => wrap64 ((2 : Int) ^ y) == ((2 ^ y : Nat) : Int)) = true := by kernel_rfl
theorem wrap_pow {y : Nat} (hy : y < 7) : wrap64 (2 ^ y) = ((2 ^ y : Nat) : Int) := beq_iff_eq.1 (List.all_eq_true.1 wrap_all y (List.mem_range.2 hy))

set_option maxRecDepth 100000 in
set_option maxHeartbeats 1000000 in
theorem bits_any (w : World) (A : Option Addr) (n c : Nat) (l : List Int) (hl : InS w w.heap.size A n l) (hn : n ≤ 100) (hb : listB l 7 = true) :
    Calls Try.prog 99 #[.slice A n c] w fun e w' => e = .returned (.int .i64 (bitsN l)) ∧ Below w.heap.size w w' := by
  have hlen := hid hl.len
  have hb' := hid hb
  clear hb
  go_enter Try.func99, Try.ntmps99
  go_wp2
  go_loopw [3, 4] (fun a i wr => ∃ k : Nat, k ≤ n ∧ i = .int .i64 k ∧ a = .int .i64 (bitsN (l.take k)) ∧ Below w.heap.size w wr) (fun _ i _ => n - (intOf i).toNat)
  case atStart => exact ⟨0, by omega, rfl, rfl, Below.refl _ _⟩
  case round =>
    obtain ⟨k, hk, rfl, rfl, hbel⟩ := hrel
    by_cases hlt : k < n
    · obtain ⟨b, off, x, rfl, hb, hm, c0⟩ := (hl.below hbel (Nat.le_refl _)).at_ hlt
      have hx := listB_at hb'.out (k := k) (by rw [hlen.out]; exact hlt)
      rw [wAt_of hm] at hx
      obtain ⟨y, rfl⟩ : ∃ y : Nat, x = (y : Int) := ⟨x.toNat, by omega⟩
      have hF : Hid (bitsN (l.take (k + 1)) = bitsN (l.take k) ||| 2 ^ y) := hid (by rw [bitsN_take hm]; rfl)
      have hlt128 : bitsN (l.take k) < 128 := bitsN_lt _ 0 (by omega) (fun z hz => by have := listB_mem hb'.out z (List.mem_of_mem_take hz); omega)
      have hor := or_bit hlt128 (show y < 7 by omega)
      clear hm
      generalize bitsN (l.take k) = a at *
      have hy7 : (y : Int) < 7 := by omega
      go_wp2
      exact ⟨⟨k + 1, by omega, by go_num, by rw [hF.out, ← hor, wrap_pow (show y < 7 by omega)], hbel⟩, by simp [intOf]; omega⟩
    · obtain rfl : k = n := by omega
      rw [List.take_of_length_le (by rw [hlen.out]; omega)]
      go_wp2
      go_ret
      exact ⟨rfl, hbel⟩
end Go.Proofs.Ytdcglphekafpdaa
namespace Go.Proofs.Ytdcglphekafpdaa
open Go.RowKit Go.Shelf
def meltsE (row : List Mt) (sc : List Rg) (ws : List Int) : Int :=
  if checkScales row sc ≠ 0 then checkScales row sc else if listB ws row.length then (if poss row.length (mAt row) (sAt sc) (maskOf ws) then 0 else 14) else 3
theorem bits_mask {ws : List Int} {b : Int} (h : listB ws b = true) : (fun i => (bitsN ws).testBit i) = maskOf ws := by
  funext i
  have := bitsN_mask ws 0 (fun x hx => (listB_mem h x hx).1) i
  simpa [bitsN] using this
theorem listB_le {l : List Int} {a b : Int} (h : listB l a = true) (hab : a ≤ b) : listB l b = true := by
  refine List.all_eq_true.2 fun k hk => ?_
  have := List.all_eq_true.1 h k hk
  simp only [listK, Bool.and_eq_true, decide_eq_true_eq] at this ⊢
  exact ⟨⟨this.1.1, by omega⟩, this.2⟩

set_option maxRecDepth 100000 in
set_option maxHeartbeats 1000000 in
theorem refCheckMelts_any (w : World) (A A' A2 : Option Addr) (n c n' c' n2 c2 : Nat) (row : List Mt) (sc : List Rg) (ws : List Int) (hr : MtS w w.heap.size A n row) (hn : n ≤ 12) (hr' : RgS w w.heap.size A' n' sc) (hn' : n' ≤ 12)
    (hw : InS w w.heap.size A2 n2 ws) (hn2 : n2 ≤ 100) :
    Calls Try.prog 46 #[.slice A n c, .slice A' n' c', .slice A2 n2 c2] w fun e w' => e = .returned (.int .i64 (meltsE row sc ws)) ∧ Below w.heap.size w w' := by
  by_cases h0 : checkScales row sc = 0
  · obtain ⟨k1, k2, k3⟩ := checkScales_ok h0
    obtain ⟨k4, k5, k6⟩ := checkRow_ok k1
    have hlen := hr.len
    have hlen' := hr'.len
    have hc : (checkScales row sc != 0) = false := by simp [h0]
    have H6 := hid k6
    have H3 := hid k3
    have hn7 : n ≤ 7 := by omega
    have hnn : Hid (n' = n + 1) := hid (by omega)
    cases hl : listB ws n
    · have he : Hid (meltsE row sc ws = 3) := by unfold meltsE; rw [if_neg (by simp [h0]), hlen, hl]; trivial
      have Hl := hid hl
      clear h0 k1 k2 k3 k4 k5 k6 hlen hlen' hl
      go_enter Try.func46, Try.ntmps46
      go_wp2_with (first | (go_at_call 31; refine (checkScales_any _ A A' n c n' c' row sc (hr.below (by repeat' (first | with_reducible assumption | with_reducible exact Below.refl _ _ | refine Below.alloc ?_ ?_ _ | refine Below.setCell ?_ ?_ _ | refine Below.drew ?_ | refine below_drewN ?_ _ | (simp; done) | (simp; omega) | omega)) (by first | (simp; done) | (simp; omega) | omega)) hn (hr'.below (by repeat' (first | with_reducible assumption | with_reducible exact Below.refl _ _ | refine Below.alloc ?_ ?_ _ | refine Below.setCell ?_ ?_ _ | refine Below.drew ?_ | refine below_drewN ?_ _ | (simp; done) | (simp; omega) | omega)) (by first | (simp; done) | (simp; omega) | omega)) hn').mono ?_; rintro e w1 ⟨rfl, hb1⟩; have hbel : Below w.heap.size w w1 := Below.trans (by repeat' (first | with_reducible assumption | with_reducible exact Below.refl _ _ | refine Below.alloc ?_ ?_ _ | refine Below.setCell ?_ ?_ _ | refine Below.drew ?_ | refine below_drewN ?_ _ | (simp; done) | (simp; omega) | omega)) (hb1.mono (by first | (simp; done) | (simp; omega) | omega)); have hsz := hbel.size) | (go_at_call 60; refine (isList_any _ A2 n2 c2 ws _ (hw.below hbel hsz) hn2).mono ?_; rw [Hl.out]; rintro e w2 ⟨rfl, hb2⟩))
      go_ret
      exact ⟨by rw [he.out]; rfl, hbel.trans (hb2.mono hsz)⟩
    · have hl7 : Hid (listB ws 7 = true) := hid (listB_le hl (by omega))
      have hmk : Hid (bitsN ws < 128) := hid (bitsN_lt _ 0 (by omega) (fun z hz => by have := listB_mem hl7.out z hz; omega))
      cases hp : poss row.length (mAt row) (sAt sc) (maskOf ws)
      · have he : Hid (meltsE row sc ws = 14) := by unfold meltsE; rw [if_neg (by simp [h0]), hp, hlen, hl]; trivial
        have hL : Hid ((fwdL row.length (mAt row) (sAt sc) (fun i => (bitsN ws).testBit i)).length = 0) := hid (by rw [bits_mask hl, fwdL_len, hp]; rfl)
        have Hl := hid hl
        clear h0 k1 k2 k3 k4 k5 k6 hlen hlen' hl hp
        go_enter Try.func46, Try.ntmps46
        go_wp2_with (first | (go_at_call 31; refine (checkScales_any _ A A' n c n' c' row sc (hr.below (by repeat' (first | with_reducible assumption | with_reducible exact Below.refl _ _ | refine Below.alloc ?_ ?_ _ | refine Below.setCell ?_ ?_ _ | refine Below.drew ?_ | refine below_drewN ?_ _ | (simp; done) | (simp; omega) | omega)) (by first | (simp; done) | (simp; omega) | omega)) hn (hr'.below (by repeat' (first | with_reducible assumption | with_reducible exact Below.refl _ _ | refine Below.alloc ?_ ?_ _ | refine Below.setCell ?_ ?_ _ | refine Below.drew ?_ | refine below_drewN ?_ _ | (simp; done) | (simp; omega) | omega)) (by first | (simp; done) | (simp; omega) | omega)) hn').mono ?_; rintro e w1 ⟨rfl, hb1⟩; have hbel : Below w.heap.size w w1 := Below.trans (by repeat' (first | with_reducible assumption | with_reducible exact Below.refl _ _ | refine Below.alloc ?_ ?_ _ | refine Below.setCell ?_ ?_ _ | refine Below.drew ?_ | refine below_drewN ?_ _ | (simp; done) | (simp; omega) | omega)) (hb1.mono (by first | (simp; done) | (simp; omega) | omega)); have hsz := hbel.size) | (go_at_call 60; refine (isList_any _ A2 n2 c2 ws _ (hw.below hbel hsz) hn2).mono ?_; rw [Hl.out]; rintro e w2 ⟨rfl, hb2⟩; have hbel2 := hbel.trans (hb2.mono hsz); have hsz2 := hbel2.size) | (go_at_call 99; refine (bits_any _ A2 n2 c2 ws (hw.below hbel2 hsz2) hn2 hl7.out).mono ?_; rintro e w3 ⟨rfl, hb3⟩; have hbel3 := hbel2.trans (hb3.mono hsz2); have hsz3 := hbel3.size) | (go_at_call 83; refine (forward_any _ A A' n c n' c' (bitsN ws) row sc (hr.below hbel3 hsz3) hn7 (hr'.below hbel3 hsz3) hnn.out H6.out H3.out hmk.out).mono ?_; rintro e w4 ⟨v, rfl, hown, hb4⟩; obtain ⟨Ao, co, rfl, hSl⟩ := sl_of_owns hown; rw [hL.out]))
        go_ret
        exact ⟨by rw [he.out]; rfl, hbel3.trans (hb4.mono hsz3)⟩
      · have he : Hid (meltsE row sc ws = 0) := by unfold meltsE; rw [if_neg (by simp [h0]), hp, hlen, hl]; trivial
        have hL : Hid ((fwdL row.length (mAt row) (sAt sc) (fun i => (bitsN ws).testBit i)).length = n + 1) := hid (by rw [bits_mask hl, fwdL_len, hp, hlen]; rfl)
        have hz : (((n + 1 : Nat) : Int) == 0) = false := by simp; omega
        have Hl := hid hl
        clear h0 k1 k2 k3 k4 k5 k6 hlen hlen' hl hp
        go_enter Try.func46, Try.ntmps46
        go_wp2_with (first | (go_at_call 31; refine (checkScales_any _ A A' n c n' c' row sc (hr.below (by repeat' (first | with_reducible assumption | with_reducible exact Below.refl _ _ | refine Below.alloc ?_ ?_ _ | refine Below.setCell ?_ ?_ _ | refine Below.drew ?_ | refine below_drewN ?_ _ | (simp; done) | (simp; omega) | omega)) (by first | (simp; done) | (simp; omega) | omega)) hn (hr'.below (by repeat' (first | with_reducible assumption | with_reducible exact Below.refl _ _ | refine Below.alloc ?_ ?_ _ | refine Below.setCell ?_ ?_ _ | refine Below.drew ?_ | refine below_drewN ?_ _ | (simp; done) | (simp; omega) | omega)) (by first | (simp; done) | (simp; omega) | omega)) hn').mono ?_; rintro e w1 ⟨rfl, hb1⟩; have hbel : Below w.heap.size w w1 := Below.trans (by repeat' (first | with_reducible assumption | with_reducible exact Below.refl _ _ | refine Below.alloc ?_ ?_ _ | refine Below.setCell ?_ ?_ _ | refine Below.drew ?_ | refine below_drewN ?_ _ | (simp; done) | (simp; omega) | omega)) (hb1.mono (by first | (simp; done) | (simp; omega) | omega)); have hsz := hbel.size) | (go_at_call 60; refine (isList_any _ A2 n2 c2 ws _ (hw.below hbel hsz) hn2).mono ?_; rw [Hl.out]; rintro e w2 ⟨rfl, hb2⟩; have hbel2 := hbel.trans (hb2.mono hsz); have hsz2 := hbel2.size) | (go_at_call 99; refine (bits_any _ A2 n2 c2 ws (hw.below hbel2 hsz2) hn2 hl7.out).mono ?_; rintro e w3 ⟨rfl, hb3⟩; have hbel3 := hbel2.trans (hb3.mono hsz2); have hsz3 := hbel3.size) | (go_at_call 83; refine (forward_any _ A A' n c n' c' (bitsN ws) row sc (hr.below hbel3 hsz3) hn7 (hr'.below hbel3 hsz3) hnn.out H6.out H3.out hmk.out).mono ?_; rintro e w4 ⟨v, rfl, hown, hb4⟩; obtain ⟨Ao, co, rfl, hSl⟩ := sl_of_owns hown; rw [hL.out]))
        go_ret
        exact ⟨by rw [he.out]; rfl, hbel3.trans (hb4.mono hsz3)⟩
  · have he : Hid (meltsE row sc ws = checkScales row sc) := by unfold meltsE; rw [if_pos h0]; trivial
    have hc : (checkScales row sc != 0) = true := by simp [h0]
    clear h0
    go_enter Try.func46, Try.ntmps46
    go_wp2_with (first | (go_at_call 31; refine (checkScales_any _ A A' n c n' c' row sc (hr.below (by repeat' (first | with_reducible assumption | with_reducible exact Below.refl _ _ | refine Below.alloc ?_ ?_ _ | refine Below.setCell ?_ ?_ _ | refine Below.drew ?_ | refine below_drewN ?_ _ | (simp; done) | (simp; omega) | omega)) (by first | (simp; done) | (simp; omega) | omega)) hn (hr'.below (by repeat' (first | with_reducible assumption | with_reducible exact Below.refl _ _ | refine Below.alloc ?_ ?_ _ | refine Below.setCell ?_ ?_ _ | refine Below.drew ?_ | refine below_drewN ?_ _ | (simp; done) | (simp; omega) | omega)) (by first | (simp; done) | (simp; omega) | omega)) hn').mono ?_; rintro e w1 ⟨rfl, hb1⟩; have hbel : Below w.heap.size w w1 := Below.trans (by repeat' (first | with_reducible assumption | with_reducible exact Below.refl _ _ | refine Below.alloc ?_ ?_ _ | refine Below.setCell ?_ ?_ _ | refine Below.drew ?_ | refine below_drewN ?_ _ | (simp; done) | (simp; omega) | omega)) (hb1.mono (by first | (simp; done) | (simp; omega) | omega)); have hsz := hbel.size))
    go_ret
    exact ⟨by rw [he.out]; rfl, hbel⟩
end Go.Proofs.Ytdcglphekafpdaa
namespace Go.Proofs.Ytdcglphekafpdaa
open Go.RowKit Go.Shelf
theorem flat_drop {α : Type} {f : α → List Value} {s : Nat} (hf : ∀ x, (f x).length = s) : ∀ (l : List α) (k : Nat), (l.flatMap f).drop (k * s) = (l.drop k).flatMap f
  | [], k => by simp
  | x :: l, 0 => by simp
  | x :: l, k + 1 => by
    rw [List.flatMap_cons, List.drop_succ_cons, Nat.succ_mul, Nat.add_comm, ← List.drop_drop, List.drop_left' (hf x)]
    exact flat_drop hf l k
theorem flat_take {α : Type} {f : α → List Value} {s : Nat} (hf : ∀ x, (f x).length = s) : ∀ (l : List α) (k : Nat), (l.flatMap f).take (k * s) = (l.take k).flatMap f
  | [], k => by simp
  | x :: l, 0 => by simp
  | x :: l, k + 1 => by
    rw [List.flatMap_cons, List.take_succ_cons, List.flatMap_cons, Nat.succ_mul, Nat.add_comm, List.take_append, List.take_of_length_le (by rw [hf]; omega), hf, Nat.add_sub_cancel_left, flat_take hf l k]
/-- A part of a row. -/
def sub (row : List Mt) (a b : Nat) : List Mt := (row.drop a).take (b - a)
theorem mts_sub {w : World} {B b off n : Nat} {row : List Mt} (h : MtS w B (some ⟨b, off, none⟩) n row) {x y : Nat} (hxy : x ≤ y) (hy : y ≤ n) (hn : 0 < n) : MtS w B (some ⟨b, off + x * 4, none⟩) (y - x) (sub row x y) := by
  have hl := h.len
  refine ⟨by rw [flat_len (s := 4) (fun _ => rfl)]; simp [sub]; omega, fun _ => ⟨b, off + x * 4, rfl, ?_, fun j u hj => ?_⟩⟩
  · obtain ⟨b', off', e, hb, _⟩ := h.2 hn
    cases e; exact hb
  · obtain ⟨b', off', e, hb, hc⟩ := h.2 hn
    cases e
    have h1 : ((sub row x y).flatMap cM)[j]? = some u := hj
    unfold sub at h1
    rw [← flat_take (s := 4) (fun _ => rfl), ← flat_drop (s := 4) (fun _ => rfl)] at h1
    have hj4 : j < (y - x) * 4 := by
      have := (List.getElem?_eq_some_iff.1 h1).1
      rw [List.length_take] at this
      omega
    rw [List.getElem?_take_of_lt hj4, List.getElem?_drop] at h1
    have := hc _ _ h1
    rwa [← Nat.add_assoc] at this
def sideV (row : List Mt) (sc : List Rg) (a b : Nat) : Int :=
  if (sAt sc b).hi < (leftOf (sub row a b) (sAt sc a)).lo then 1 else if (leftOf (sub row a b) (sAt sc a)).hi < (sAt sc b).lo then 2 else 0
set_option maxRecDepth 100000 in
set_option maxHeartbeats 1000000 in
theorem side_any (w : World) (A A' : Option Addr) (n c n' c' : Nat) (row : List Mt) (sc : List Rg) (x y : Nat) (hr : MtS w w.heap.size A n row) (hn : n ≤ 7) (hn1 : 1 ≤ n) (hc : n ≤ c) (hr' : RgS w w.heap.size A' n' sc) (hnn : n' = n + 1)
    (hok : row.all okM = true) (hoks : sc.all okW = true) (hxy : x < y) (hy : y ≤ n) :
    Calls Try.prog 63 #[.slice A n c, .slice A' n' c', .int .i64 x, .int .i64 y] w fun e w' => e = .returned (.int .i64 (sideV row sc x y)) ∧ Below w.heap.size w w' := by
  obtain ⟨b, off, rfl, hb, _⟩ := hr.2 hn1
  have hsub := mts_sub hr (Nat.le_of_lt hxy) hy hn1
  obtain ⟨b', off', r, rfl, hb', hm', d0, d1⟩ := hr'.at_ (k := x) (by omega)
  obtain ⟨b2, off2, q, e2, hb2, hm2, g0, g1⟩ := hr'.at_ (k := y) (by omega)
  cases e2
  have hrk := okR_t.1 (List.all_eq_true.1 hoks r (List.mem_of_getElem? hm'))
  have hV : Hid (sideV row sc x y = if q.hi < (leftOf (sub row x y) r).lo then 1 else if (leftOf (sub row x y) r).hi < q.lo then 2 else 0) := hid (by
    unfold sideV; rw [sAt_of hm', sAt_of hm2])
  have hsok : Hid ((sub row x y).all okM = true) := hid (List.all_eq_true.2 fun m hm => List.all_eq_true.1 hok m (List.mem_of_mem_drop (List.mem_of_mem_take hm)))
  clear hm' hm2 hok hoks
  have x0 : (0 : Int) ≤ x := by omega
  have x1 : (x : Int) ≤ y := by omega
  have x2 : (y : Int) ≤ c := by omega
  have x3 : (x : Int) < n' := by omega
  have x4 : (y : Int) < n' := by omega
  have x5 : ¬ c = x := by omega
  have hnn' := hid hnn
  clear hnn
  go_enter Try.func63, Try.ntmps63
  go_wp2_with (fail)
  refine wp_region_el [0, 1, 2, 3, 4, 5, 6, 7, 8] 2 (by kernel_rfl) (by kernel_rfl) (fun Y hY => ?_)
  have hYX : Below w.heap.size w Y := by rw [hY]; exact (Below.refl _ _).drew
  clear hY
  obtain ⟨hcY, hfY⟩ := bcell hYX
  replace d0 := (hcY _ _ hb').trans d0
  replace d1 := (hcY _ _ hb').trans d1
  have hsY := hYX.size
  have l1 : b' < Y.heap.size := by omega
  clear hcY hfY
  simp only [pick, List.getElem?_toArray, List.getElem?_cons_zero, List.getElem?_cons_succ]
  iterate 8 (refine wpE_val (v := ?_) (by rfl) (fun W hW => ?_) ?_; rotate_left; (· obtain ⟨hcW, hfW⟩ := bcell hW; go_simp; with_reducible rfl); simp only [Act.put, List.setIfInBounds_toArray, List.set_cons_zero, List.set_cons_succ])
  (refine wpE_call (by rfl) (fun W hW => leftOf_any W _ (y - x) (c - x) (sub row x y) r ((hsub.below hYX hsY).below hW hW.size) (by omega) hsok.out hrk.1 hrk.2.1 hrk.2.2) (fun W hW => ?_) ?_; (· obtain ⟨hcW, hfW⟩ := bcell hW; go_simp); simp only [Act.put, List.setIfInBounds_toArray, List.set_cons_zero, List.set_cons_succ])
  simp only [wpE]
  (refine wpM_one 9 _ (by simp only [List.getElem?_toArray, List.getElem?_cons_zero, List.getElem?_cons_succ]; rfl) (by kernel_rfl) (by rfl) ?_)
  intro X1 hX1 hX1'
  (go_simp; simp only [LUpon, Act.put]; try simp only [List.setIfInBounds_toArray, List.set_cons_zero, List.set_cons_succ])
  refine ⟨hX1'.alloc hX1'.size _, ?_⟩
  have b9 : Blk (X1.alloc (.cells #[.int .i64 0, .int .i64 0] 24)) X1.heap.size 24 #[.int .i64 0, .int .i64 0] := Blk.new _ _ _
  have hB9 : Y.heap.size ≤ X1.heap.size := hX1'.size
  generalize X1.heap.size = B9 at *
  generalize X1.alloc (.cells #[.int .i64 0, .int .i64 0] 24) = X1b at *
  (refine wpM_one 10 _ (by simp only [List.getElem?_toArray, List.getElem?_cons_zero, List.getElem?_cons_succ]; rfl) (by kernel_rfl) (by rfl) ?_)
  intro X2 hX2 hX2'
  replace b9 := b9.below hX2 b9.lt
  have f0 := b9.frozen 0
  have f1 := b9.frozen 1
  have r0 := b9.cell 0
  have r1 := b9.cell 1
  have hlt2 := b9.lt
  (go_simp; simp only [LUpon, Act.put]; try simp only [List.setIfInBounds_toArray, List.set_cons_zero, List.set_cons_succ])
  refine ⟨(hX2'.setCell hB9 _).setCell hB9 _, ?_⟩
  replace b9 := b9.set2 (a := .int .i64 (leftOf (sub row x y) r).lo) (b := .int .i64 (leftOf (sub row x y) r).hi)
  clear f0 f1 r0 r1
  generalize (X2.setCell ⟨B9, 0, none⟩ (.int .i64 (leftOf (sub row x y) r).lo)).setCell ⟨B9, 1, none⟩ (.int .i64 (leftOf (sub row x y) r).hi) = X2b at *
  refine wpM_end (by kernel_rfl) ?_
  intro X3 hX3 hX3'
  replace b9 := b9.below hX3 b9.lt
  have hX : Below w.heap.size w X3 := hYX.trans (hX3'.mono hsY)
  clear hX3 hX3' hX2 hX2' hX1 hX1' hlt2
  obtain ⟨hc3, _⟩ := bcell hX
  replace g0 := (hc3 _ _ hb2).trans g0
  replace g1 := (hc3 _ _ hb2).trans g1
  clear hc3 d0 d1
  have hs3 := hX.size
  generalize leftOf (sub row x y) r = L at *
  have hbz : B9 < X3.heap.size := b9.lt
  have r0 := b9.cell 0
  have r1 := b9.cell 1
  have l2 : b' < X3.heap.size := by omega
  clear hsub
  by_cases k1 : q.hi < L.lo
  · have k1' : decide (q.hi < L.lo) = true := decide_eq_true k1
    have hfin : Hid (sideV row sc x y = 1) := hid (by rw [hV.out, if_pos k1])
    go_wp2_with (fail)
    refine wp_region_hd_all (fun W' => Below X3.heap.size X3 W') (by kernel_rfl) (by kernel_rfl) ((Below.refl _ _).drew) ?_
    iterate 8 (refine wpHd_val (v := ?_) (by rfl) (fun W hW => ?_) ?_; rotate_left; (· obtain ⟨hcW, hfW⟩ := bcell hW; go_simp; with_reducible rfl); simp only [Act.put, List.setIfInBounds_toArray, List.set_cons_zero, List.set_cons_succ])
    refine wpHd_nil ?_
    intro W4 hW4
    go_wp2
    go_ret
    exact ⟨by rw [hfin.out]; rfl, hX.trans (hW4.mono hs3)⟩
  · have k1' : decide (q.hi < L.lo) = false := decide_eq_false k1
    go_wp2_with (fail)
    refine wp_region_hd_all (fun W' => Below X3.heap.size X3 W') (by kernel_rfl) (by kernel_rfl) ((Below.refl _ _).drew) ?_
    iterate 8 (refine wpHd_val (v := ?_) (by rfl) (fun W hW => ?_) ?_; rotate_left; (· obtain ⟨hcW, hfW⟩ := bcell hW; go_simp; with_reducible rfl); simp only [Act.put, List.setIfInBounds_toArray, List.set_cons_zero, List.set_cons_succ])
    refine wpHd_nil ?_
    intro W4 hW4
    obtain ⟨hc4, _⟩ := bcell hW4
    replace r0 := (hc4 _ _ hbz).trans r0
    replace r1 := (hc4 _ _ hbz).trans r1
    replace g0 := (hc4 _ _ l2).trans g0
    replace g1 := (hc4 _ _ l2).trans g1
    have hs4 := hW4.size
    have l3 : b' < W4.heap.size := by omega
    have l4 : B9 < W4.heap.size := by omega
    clear hc4
    have hX4 := hX.trans (hW4.mono hs3)
    by_cases k2 : L.hi < q.lo
    · have k2' : decide (L.hi < q.lo) = true := decide_eq_true k2
      have hfin : Hid (sideV row sc x y = 2) := hid (by rw [hV.out, if_neg (by omega), if_pos k2])
      go_wp2_with (fail)
      refine wp_region_hd_all (fun W' => Below W4.heap.size W4 W') (by kernel_rfl) (by kernel_rfl) ((Below.refl _ _).drew) ?_
      iterate 8 (refine wpHd_val (v := ?_) (by rfl) (fun W hW => ?_) ?_; rotate_left; (· obtain ⟨hcW, hfW⟩ := bcell hW; go_simp; with_reducible rfl); simp only [Act.put, List.setIfInBounds_toArray, List.set_cons_zero, List.set_cons_succ])
      refine wpHd_nil ?_
      intro W5 hW5
      go_wp2
      go_ret
      exact ⟨by rw [hfin.out]; rfl, hX4.trans (hW5.mono hX4.size)⟩
    · have k2' : decide (L.hi < q.lo) = false := decide_eq_false k2
      have hfin : Hid (sideV row sc x y = 0) := hid (by rw [hV.out, if_neg (by omega), if_neg (by omega)])
      go_wp2_with (fail)
      refine wp_region_hd_all (fun W' => Below W4.heap.size W4 W') (by kernel_rfl) (by kernel_rfl) ((Below.refl _ _).drew) ?_
      iterate 8 (refine wpHd_val (v := ?_) (by rfl) (fun W hW => ?_) ?_; rotate_left; (· obtain ⟨hcW, hfW⟩ := bcell hW; go_simp; with_reducible rfl); simp only [Act.put, List.setIfInBounds_toArray, List.set_cons_zero, List.set_cons_succ])
      refine wpHd_nil ?_
      intro W5 hW5
      go_wp2
      go_ret
      exact ⟨by rw [hfin.out]; rfl, hX4.trans (hW5.mono hX4.size)⟩
end Go.Proofs.Ytdcglphekafpdaa
namespace Go.Proofs.Ytdcglphekafpdaa
open Go.RowKit Go.Shelf
/-- How two scales contradict each other, or the error. -/
def clashV (row : List Mt) (sc : List Rg) (x y : Int) : Int := if checkScales row sc ≠ 0 then 0 else if x < 0 ∨ y ≤ x ∨ (sc.length : Int) ≤ y then 0 else sideV row sc x.toNat y.toNat
def clashE (row : List Mt) (sc : List Rg) (x y : Int) : Int := if checkScales row sc ≠ 0 then checkScales row sc else if x < 0 ∨ y ≤ x ∨ (sc.length : Int) ≤ y then 2 else if sideV row sc x.toNat y.toNat = 0 then 5 else 0
set_option maxRecDepth 100000 in
set_option maxHeartbeats 1000000 in
theorem refCheckClash_any (w : World) (A A' : Option Addr) (n c n' c' : Nat) (row : List Mt) (sc : List Rg) (x y : Int) (hr : MtS w w.heap.size A n row) (hn : n ≤ 12) (hc : n ≤ c) (hr' : RgS w w.heap.size A' n' sc) (hn' : n' ≤ 12) :
    Calls Try.prog 36 #[.slice A n c, .slice A' n' c', .int .i64 x, .int .i64 y] w fun e w' => e = .returned (.tuple #[.int .i64 (clashV row sc x y), .int .i64 (clashE row sc x y)]) ∧ Below w.heap.size w w' := by
  by_cases h0 : checkScales row sc = 0
  · obtain ⟨k1, k2, k3⟩ := checkScales_ok h0
    obtain ⟨k4, k5, k6⟩ := checkRow_ok k1
    have hlen := hr.len
    have hlen' := hr'.len
    have hz : (checkScales row sc != 0) = false := by simp [h0]
    have H6 := hid k6
    have H3 := hid k3
    have hn7 : n ≤ 7 := by omega
    have hn1 : 1 ≤ n := by omega
    have hnn : Hid (n' = n + 1) := hid (by omega)
    by_cases hb : x < 0 ∨ y ≤ x ∨ (n' : Int) ≤ y
    · have hv : Hid (clashV row sc x y = 0) := by unfold clashV; rw [if_neg (by simp [h0]), if_pos (by rw [hlen']; exact hb)]; trivial
      have he : Hid (clashE row sc x y = 2) := by unfold clashE; rw [if_neg (by simp [h0]), if_pos (by rw [hlen']; exact hb)]; trivial
      clear h0 k1 k2 k3 k4 k5 k6 hlen hlen'
      by_cases g1 : x < 0
      · clear hb
        go_enter Try.func36, Try.ntmps36
        go_wp2_with (first | (go_at_call 31; refine (checkScales_any _ A A' n c n' c' row sc (hr.below (by repeat' (first | with_reducible assumption | with_reducible exact Below.refl _ _ | refine Below.alloc ?_ ?_ _ | refine Below.setCell ?_ ?_ _ | refine Below.drew ?_ | refine below_drewN ?_ _ | (simp; done) | (simp; omega) | omega)) (by first | (simp; done) | (simp; omega) | omega)) hn (hr'.below (by repeat' (first | with_reducible assumption | with_reducible exact Below.refl _ _ | refine Below.alloc ?_ ?_ _ | refine Below.setCell ?_ ?_ _ | refine Below.drew ?_ | refine below_drewN ?_ _ | (simp; done) | (simp; omega) | omega)) (by first | (simp; done) | (simp; omega) | omega)) hn').mono ?_; rintro e w1 ⟨rfl, hb1⟩; have hbel : Below w.heap.size w w1 := Below.trans (by repeat' (first | with_reducible assumption | with_reducible exact Below.refl _ _ | refine Below.alloc ?_ ?_ _ | refine Below.setCell ?_ ?_ _ | refine Below.drew ?_ | refine below_drewN ?_ _ | (simp; done) | (simp; omega) | omega)) (hb1.mono (by first | (simp; done) | (simp; omega) | omega)); have hsz := hbel.size))
        refine bodyPost_ret (v := .tuple #[.int .i64 0, .int .i64 2]) (by first | (simp [results, Try.results36, go_sem]; done) | (simp [results, Try.results36, go_sem, World.cell?_setCell_same', *]; done) | (simp [results, Try.results36, go_sem]; first | exact ⟨rfl, rfl⟩ | rfl)) rfl ⟨by rw [hv.out, he.out], hbel⟩
      · by_cases g2 : y ≤ x
        · clear hb
          go_enter Try.func36, Try.ntmps36
          go_wp2_with (first | (go_at_call 31; refine (checkScales_any _ A A' n c n' c' row sc (hr.below (by repeat' (first | with_reducible assumption | with_reducible exact Below.refl _ _ | refine Below.alloc ?_ ?_ _ | refine Below.setCell ?_ ?_ _ | refine Below.drew ?_ | refine below_drewN ?_ _ | (simp; done) | (simp; omega) | omega)) (by first | (simp; done) | (simp; omega) | omega)) hn (hr'.below (by repeat' (first | with_reducible assumption | with_reducible exact Below.refl _ _ | refine Below.alloc ?_ ?_ _ | refine Below.setCell ?_ ?_ _ | refine Below.drew ?_ | refine below_drewN ?_ _ | (simp; done) | (simp; omega) | omega)) (by first | (simp; done) | (simp; omega) | omega)) hn').mono ?_; rintro e w1 ⟨rfl, hb1⟩; have hbel : Below w.heap.size w w1 := Below.trans (by repeat' (first | with_reducible assumption | with_reducible exact Below.refl _ _ | refine Below.alloc ?_ ?_ _ | refine Below.setCell ?_ ?_ _ | refine Below.drew ?_ | refine below_drewN ?_ _ | (simp; done) | (simp; omega) | omega)) (hb1.mono (by first | (simp; done) | (simp; omega) | omega)); have hsz := hbel.size))
          refine bodyPost_ret (v := .tuple #[.int .i64 0, .int .i64 2]) (by first | (simp [results, Try.results36, go_sem]; done) | (simp [results, Try.results36, go_sem, World.cell?_setCell_same', *]; done) | (simp [results, Try.results36, go_sem]; first | exact ⟨rfl, rfl⟩ | rfl)) rfl ⟨by rw [hv.out, he.out], hbel⟩
        · have g3 : (n' : Int) ≤ y := by omega
          clear hb
          go_enter Try.func36, Try.ntmps36
          go_wp2_with (first | (go_at_call 31; refine (checkScales_any _ A A' n c n' c' row sc (hr.below (by repeat' (first | with_reducible assumption | with_reducible exact Below.refl _ _ | refine Below.alloc ?_ ?_ _ | refine Below.setCell ?_ ?_ _ | refine Below.drew ?_ | refine below_drewN ?_ _ | (simp; done) | (simp; omega) | omega)) (by first | (simp; done) | (simp; omega) | omega)) hn (hr'.below (by repeat' (first | with_reducible assumption | with_reducible exact Below.refl _ _ | refine Below.alloc ?_ ?_ _ | refine Below.setCell ?_ ?_ _ | refine Below.drew ?_ | refine below_drewN ?_ _ | (simp; done) | (simp; omega) | omega)) (by first | (simp; done) | (simp; omega) | omega)) hn').mono ?_; rintro e w1 ⟨rfl, hb1⟩; have hbel : Below w.heap.size w w1 := Below.trans (by repeat' (first | with_reducible assumption | with_reducible exact Below.refl _ _ | refine Below.alloc ?_ ?_ _ | refine Below.setCell ?_ ?_ _ | refine Below.drew ?_ | refine below_drewN ?_ _ | (simp; done) | (simp; omega) | omega)) (hb1.mono (by first | (simp; done) | (simp; omega) | omega)); have hsz := hbel.size))
          refine bodyPost_ret (v := .tuple #[.int .i64 0, .int .i64 2]) (by first | (simp [results, Try.results36, go_sem]; done) | (simp [results, Try.results36, go_sem, World.cell?_setCell_same', *]; done) | (simp [results, Try.results36, go_sem]; first | exact ⟨rfl, rfl⟩ | rfl)) rfl ⟨by rw [hv.out, he.out], hbel⟩
    · obtain ⟨X, rfl⟩ : ∃ X : Nat, x = (X : Int) := ⟨x.toNat, by omega⟩
      obtain ⟨Y, rfl⟩ : ∃ Y : Nat, y = (Y : Int) := ⟨y.toNat, by omega⟩
      have hv : Hid (clashV row sc X Y = sideV row sc X Y) := by unfold clashV; rw [if_neg (by simp [h0]), if_neg (by rw [hlen']; exact hb)]; trivial
      have he : Hid (clashE row sc X Y = if sideV row sc X Y = 0 then 5 else 0) := by unfold clashE; rw [if_neg (by simp [h0]), if_neg (by rw [hlen']; exact hb)]; trivial
      have g1 : ¬ (X : Int) < 0 := by omega
      have g2 : ¬ (Y : Int) ≤ X := by omega
      have g3 : ¬ (n' : Int) ≤ Y := by omega
      have hxy : Hid (X < Y) := hid (by omega)
      have hyn : Hid (Y ≤ n) := hid (by have := hnn.out; omega)
      clear h0 k1 k2 k3 k4 k5 k6 hlen hlen' hb
      by_cases hs : sideV row sc X Y = 0
      · have hs' := hid hs
        have hcs : (sideV row sc X Y == 0) = true := by simp [hs]
        clear hs
        go_enter Try.func36, Try.ntmps36
        go_wp2_with (first | (go_at_call 31; refine (checkScales_any _ A A' n c n' c' row sc (hr.below (by repeat' (first | with_reducible assumption | with_reducible exact Below.refl _ _ | refine Below.alloc ?_ ?_ _ | refine Below.setCell ?_ ?_ _ | refine Below.drew ?_ | refine below_drewN ?_ _ | (simp; done) | (simp; omega) | omega)) (by first | (simp; done) | (simp; omega) | omega)) hn (hr'.below (by repeat' (first | with_reducible assumption | with_reducible exact Below.refl _ _ | refine Below.alloc ?_ ?_ _ | refine Below.setCell ?_ ?_ _ | refine Below.drew ?_ | refine below_drewN ?_ _ | (simp; done) | (simp; omega) | omega)) (by first | (simp; done) | (simp; omega) | omega)) hn').mono ?_; rintro e w1 ⟨rfl, hb1⟩; have hbel : Below w.heap.size w w1 := Below.trans (by repeat' (first | with_reducible assumption | with_reducible exact Below.refl _ _ | refine Below.alloc ?_ ?_ _ | refine Below.setCell ?_ ?_ _ | refine Below.drew ?_ | refine below_drewN ?_ _ | (simp; done) | (simp; omega) | omega)) (hb1.mono (by first | (simp; done) | (simp; omega) | omega)); have hsz := hbel.size) | (go_at_call 63; refine (side_any _ A A' n c n' c' row sc X Y (hr.below hbel hsz) hn7 hn1 hc (hr'.below hbel hsz) hnn.out H6.out H3.out hxy.out hyn.out).mono ?_; rintro e w2 ⟨rfl, hb2⟩))
        refine bodyPost_ret (v := .tuple #[.int .i64 0, .int .i64 5]) (by first | (simp [results, Try.results36, go_sem]; done) | (simp [results, Try.results36, go_sem, World.cell?_setCell_same', *]; done) | (simp [results, Try.results36, go_sem]; first | exact ⟨rfl, rfl⟩ | rfl)) rfl ⟨by rw [hv.out, he.out, if_pos hs'.out, hs'.out], hbel.trans (hb2.mono hsz)⟩
      · have hs' := hid hs
        have hcs : (sideV row sc X Y == 0) = false := by simp [hs]
        clear hs
        go_enter Try.func36, Try.ntmps36
        go_wp2_with (first | (go_at_call 31; refine (checkScales_any _ A A' n c n' c' row sc (hr.below (by repeat' (first | with_reducible assumption | with_reducible exact Below.refl _ _ | refine Below.alloc ?_ ?_ _ | refine Below.setCell ?_ ?_ _ | refine Below.drew ?_ | refine below_drewN ?_ _ | (simp; done) | (simp; omega) | omega)) (by first | (simp; done) | (simp; omega) | omega)) hn (hr'.below (by repeat' (first | with_reducible assumption | with_reducible exact Below.refl _ _ | refine Below.alloc ?_ ?_ _ | refine Below.setCell ?_ ?_ _ | refine Below.drew ?_ | refine below_drewN ?_ _ | (simp; done) | (simp; omega) | omega)) (by first | (simp; done) | (simp; omega) | omega)) hn').mono ?_; rintro e w1 ⟨rfl, hb1⟩; have hbel : Below w.heap.size w w1 := Below.trans (by repeat' (first | with_reducible assumption | with_reducible exact Below.refl _ _ | refine Below.alloc ?_ ?_ _ | refine Below.setCell ?_ ?_ _ | refine Below.drew ?_ | refine below_drewN ?_ _ | (simp; done) | (simp; omega) | omega)) (hb1.mono (by first | (simp; done) | (simp; omega) | omega)); have hsz := hbel.size) | (go_at_call 63; refine (side_any _ A A' n c n' c' row sc X Y (hr.below hbel hsz) hn7 hn1 hc (hr'.below hbel hsz) hnn.out H6.out H3.out hxy.out hyn.out).mono ?_; rintro e w2 ⟨rfl, hb2⟩))
        refine bodyPost_ret (v := .tuple #[.int .i64 (sideV row sc X Y), .int .i64 0]) (by first | (simp [results, Try.results36, go_sem]; done) | (simp [results, Try.results36, go_sem, World.cell?_setCell_same', *]; done) | (simp [results, Try.results36, go_sem]; first | exact ⟨rfl, rfl⟩ | rfl)) rfl ⟨by rw [hv.out, he.out, if_neg hs'.out], hbel.trans (hb2.mono hsz)⟩
  · have hv : Hid (clashV row sc x y = 0) := by unfold clashV; rw [if_pos h0]; trivial
    have he : Hid (clashE row sc x y = checkScales row sc) := by unfold clashE; rw [if_pos h0]; trivial
    have hz : (checkScales row sc != 0) = true := by simp [h0]
    clear h0
    go_enter Try.func36, Try.ntmps36
    go_wp2_with (first | (go_at_call 31; refine (checkScales_any _ A A' n c n' c' row sc (hr.below (by repeat' (first | with_reducible assumption | with_reducible exact Below.refl _ _ | refine Below.alloc ?_ ?_ _ | refine Below.setCell ?_ ?_ _ | refine Below.drew ?_ | refine below_drewN ?_ _ | (simp; done) | (simp; omega) | omega)) (by first | (simp; done) | (simp; omega) | omega)) hn (hr'.below (by repeat' (first | with_reducible assumption | with_reducible exact Below.refl _ _ | refine Below.alloc ?_ ?_ _ | refine Below.setCell ?_ ?_ _ | refine Below.drew ?_ | refine below_drewN ?_ _ | (simp; done) | (simp; omega) | omega)) (by first | (simp; done) | (simp; omega) | omega)) hn').mono ?_; rintro e w1 ⟨rfl, hb1⟩; have hbel : Below w.heap.size w w1 := Below.trans (by repeat' (first | with_reducible assumption | with_reducible exact Below.refl _ _ | refine Below.alloc ?_ ?_ _ | refine Below.setCell ?_ ?_ _ | refine Below.drew ?_ | refine below_drewN ?_ _ | (simp; done) | (simp; omega) | omega)) (hb1.mono (by first | (simp; done) | (simp; omega) | omega)); have hsz := hbel.size))
    refine bodyPost_ret (v := .tuple #[.int .i64 0, .int .i64 (checkScales row sc)]) (by first | (simp [results, Try.results36, go_sem]; done) | (simp [results, Try.results36, go_sem, World.cell?_setCell_same', *]; done) | (simp [results, Try.results36, go_sem]; first | exact ⟨rfl, rfl⟩ | rfl)) rfl ⟨by rw [hv.out, he.out], hbel⟩
end Go.Proofs.Ytdcglphekafpdaa
namespace Go.Proofs.Ytdcglphekafpdaa
open Go.RowKit Go.Shelf
/-- Two scales that contradict each other. -/
def opp (row : List Mt) (sc : List Rg) (i k : Nat) : Bool := decide (i < k) && sideV row sc i k != 0
def firstC (row : List Mt) (sc : List Rg) : Option (Nat × Nat) :=
  match (List.range (row.length + 1)).find? (fun i => (List.range (row.length + 1)).any (opp row sc i)) with
  | none => none
  | some i => ((List.range (row.length + 1)).find? (opp row sc i)).map fun k => (i, k)
theorem firstC_some {row : List Mt} {sc : List Rg} {i k : Nat} (hk : k ≤ row.length) (h : opp row sc i k = true) (h1 : ∀ a, a < i → ∀ b, b ≤ row.length → opp row sc a b = false) (h2 : ∀ b, b < k → opp row sc i b = false) : firstC row sc = some (i, k) := by
  have hik : i < k := by simp only [opp, Bool.and_eq_true, decide_eq_true_eq] at h; exact h.1
  have e1 : (List.range (row.length + 1)).find? (fun i => (List.range (row.length + 1)).any (opp row sc i)) = some i := by
    rw [List.find?_range_eq_some]
    refine ⟨List.any_eq_true.2 ⟨k, List.mem_range.2 (by omega), h⟩, List.mem_range.2 (by omega), fun a ha => ?_⟩
    have : (List.range (row.length + 1)).any (opp row sc a) = false := by
      rw [List.any_eq_false]
      intro b hb
      rw [h1 a ha b (by have := List.mem_range.1 hb; omega)]; simp
    rw [this]; rfl
  have e2 : (List.range (row.length + 1)).find? (opp row sc i) = some k := by
    rw [List.find?_range_eq_some]
    exact ⟨h, List.mem_range.2 (by omega), fun b hb => by rw [h2 b hb]; rfl⟩
  unfold firstC
  rw [e1]
  simp only [e2, Option.map_some]
theorem firstC_none {row : List Mt} {sc : List Rg} (h : ∀ a b, b ≤ row.length → opp row sc a b = false) : firstC row sc = none := by
  have e1 : (List.range (row.length + 1)).find? (fun i => (List.range (row.length + 1)).any (opp row sc i)) = none := by
    rw [List.find?_eq_none]
    intro a _ h1
    obtain ⟨b, hb, h2⟩ := List.any_eq_true.1 h1
    rw [h a b (by have := List.mem_range.1 hb; omega)] at h2
    cases h2
  unfold firstC
  rw [e1]
def clashR (row : List Mt) (sc : List Rg) : Value :=
  if checkScales row sc ≠ 0 then .tuple #[.int .i64 0, .int .i64 0, .int .i64 (checkScales row sc)] else
  match firstC row sc with
  | none => .tuple #[.int .i64 0, .int .i64 0, .int .i64 5]
  | some p => .tuple #[.int .i64 p.1, .int .i64 p.2, .int .i64 0]
theorem side_pos {row : List Mt} {sc : List Rg} {x y : Nat} : (0 < sideV row sc x y) ↔ sideV row sc x y ≠ 0 := by
  unfold sideV
  split
  · simp
  · split <;> simp
set_option maxRecDepth 100000 in
set_option maxHeartbeats 1000000 in
theorem refClash_any (w : World) (A A' : Option Addr) (n c n' c' : Nat) (row : List Mt) (sc : List Rg) (hr : MtS w w.heap.size A n row) (hn : n ≤ 12) (hc : n ≤ c) (hr' : RgS w w.heap.size A' n' sc) (hn' : n' ≤ 12) :
    Calls Try.prog 38 #[.slice A n c, .slice A' n' c'] w fun e w' => e = .returned (clashR row sc) ∧ Below w.heap.size w w' := by
  by_cases h0 : checkScales row sc = 0
  · obtain ⟨k1, k2, k3⟩ := checkScales_ok h0
    obtain ⟨k4, k5, k6⟩ := checkRow_ok k1
    have hlen := hid hr.len
    have hlen' := hr'.len
    have hz : (checkScales row sc != 0) = false := by simp [h0]
    have H6 := hid k6
    have H3 := hid k3
    have hn7 : n ≤ 7 := by have := hlen.out; omega
    have hn1 : 1 ≤ n := by have := hlen.out; omega
    have hnn : Hid (n' = n + 1) := hid (by have := hlen.out; omega)
    have Hs : Hid (∀ i k, firstC row sc = some (i, k) → clashR row sc = .tuple #[.int .i64 i, .int .i64 k, .int .i64 0]) := hid fun i k h => by
      unfold clashR; rw [if_neg (by simp [h0]), h]
    have Hn : Hid (firstC row sc = none → clashR row sc = .tuple #[.int .i64 0, .int .i64 0, .int .i64 5]) := hid fun h => by
      unfold clashR; rw [if_neg (by simp [h0]), h]
    clear h0 k1 k2 k3 k4 k5 k6 hlen'
    go_enter Try.func38, Try.ntmps38
    go_wp2_with (first | (go_at_call 31; refine (checkScales_any _ A A' n c n' c' row sc (hr.below (by repeat' (first | with_reducible assumption | with_reducible exact Below.refl _ _ | refine Below.alloc ?_ ?_ _ | refine Below.setCell ?_ ?_ _ | refine Below.drew ?_ | refine below_drewN ?_ _ | (simp; done) | (simp; omega) | omega)) (by first | (simp; done) | (simp; omega) | omega)) hn (hr'.below (by repeat' (first | with_reducible assumption | with_reducible exact Below.refl _ _ | refine Below.alloc ?_ ?_ _ | refine Below.setCell ?_ ?_ _ | refine Below.drew ?_ | refine below_drewN ?_ _ | (simp; done) | (simp; omega) | omega)) (by first | (simp; done) | (simp; omega) | omega)) hn').mono ?_; rintro e w1 ⟨rfl, hb1⟩; have hbel : Below w.heap.size w w1 := Below.trans (by repeat' (first | with_reducible assumption | with_reducible exact Below.refl _ _ | refine Below.alloc ?_ ?_ _ | refine Below.setCell ?_ ?_ _ | refine Below.drew ?_ | refine below_drewN ?_ _ | (simp; done) | (simp; omega) | omega)) (hb1.mono (by first | (simp; done) | (simp; omega) | omega)); have hsz := hbel.size))
    go_loopw [7] (fun i wr => ∃ x : Nat, x ≤ n' ∧ i = .int .i64 x ∧ Hid (∀ a, a < x → ∀ b, b ≤ n → opp row sc a b = false) ∧ Below w.heap.size w wr) (fun i _ => n' - (intOf i).toNat)
    case atStart => exact ⟨0, by omega, rfl, hid (fun a ha => by omega), hbel⟩
    case round =>
      obtain ⟨x, hx, rfl, hall, hbel⟩ := hrel
      have hsz := hbel.size
      by_cases hlt : x < n'
      · have l6 : IntKind.i64.wrap ((x : Int) + 1) = (x : Int) + 1 := IntWalk.i64_in _ (by omega)
        go_wp2
        go_loopw [8] (fun j wr => ∃ y : Nat, x < y ∧ y ≤ n' ∧ j = .int .i64 y ∧ Hid (∀ b, b < y → opp row sc x b = false) ∧ Below w.heap.size w wr) (fun j _ => n' - (intOf j).toNat)
        case atStart => exact ⟨x + 1, by omega, by omega, by go_num, hid (fun b hb => by unfold opp; rw [decide_eq_false (by omega)]; rfl), hbel⟩
        case round =>
          obtain ⟨y, hxy, hy, rfl, hall2, hbel⟩ := hrel
          have hsz := hbel.size
          by_cases hlt2 : y < n'
          · have hyn : Hid (y ≤ n) := hid (by have := hnn.out; omega)
            have hxy' := hid hxy
            by_cases hs : 0 < sideV row sc x y
            · have hfin : Hid (clashR row sc = .tuple #[.int .i64 x, .int .i64 y, .int .i64 0]) := hid (Hs.out x y (firstC_some (by rw [hlen.out]; exact hyn.out) (by unfold opp; rw [decide_eq_true hxy]; simpa using side_pos.1 hs) (by rw [hlen.out]; exact hall.out) hall2.out))
              go_wp2_with (first | (go_at_call 63; refine (side_any _ A A' n c n' c' row sc x y (hr.below hbel hsz) hn7 hn1 hc (hr'.below hbel hsz) hnn.out H6.out H3.out hxy'.out hyn.out).mono ?_; rintro e w2 ⟨rfl, hb2⟩))
              refine bodyPost_ret (v := .tuple #[.int .i64 x, .int .i64 y, .int .i64 0]) (by first | (simp [results, Try.results38, go_sem]; done) | (simp [results, Try.results38, go_sem, World.cell?_setCell_same', *]; done) | (simp [results, Try.results38, go_sem]; first | exact ⟨rfl, rfl⟩ | rfl)) rfl ⟨by rw [hfin.out], hbel.trans (hb2.mono hsz)⟩
            · have hs' : sideV row sc x y = 0 := by
                rcases Decidable.em (sideV row sc x y = 0) with h | h
                · exact h
                · exact absurd (side_pos.2 h) hs
              have Hs0 := hid hs'
              clear hs'
              go_wp2_with (first | (go_at_call 63; refine (side_any _ A A' n c n' c' row sc x y (hr.below hbel hsz) hn7 hn1 hc (hr'.below hbel hsz) hnn.out H6.out H3.out hxy'.out hyn.out).mono ?_; rintro e w2 ⟨rfl, hb2⟩))
              exact ⟨⟨y + 1, by omega, by omega, by go_num, hid (fun b hb => by
                rcases Nat.lt_or_ge b y with h | h
                · exact hall2.out b h
                · obtain rfl : b = y := by omega
                  unfold opp; rw [Hs0.out]; simp), hbel.trans (hb2.mono hsz)⟩, by simp [intOf]; omega⟩
          · obtain rfl : y = n' := by omega
            have l6 : IntKind.i64.wrap ((x : Int) + 1) = (x : Int) + 1 := IntWalk.i64_in _ (by omega)
            go_wp2
            exact ⟨⟨x + 1, by omega, by go_num, hid (fun a ha b hb => by
              rcases Nat.lt_or_ge a x with h | h
              · exact hall.out a h b hb
              · obtain rfl : a = x := by omega
                exact hall2.out b (by have := hnn.out; omega)), hbel⟩, by simp [intOf]; omega⟩
      · obtain rfl : x = n' := by omega
        have hfin : Hid (clashR row sc = .tuple #[.int .i64 0, .int .i64 0, .int .i64 5]) := hid (Hn.out (firstC_none (fun a b hb => by
          rw [hlen.out] at hb
          rcases Nat.lt_or_ge a x with h | h
          · exact hall.out a h b hb
          · unfold opp; rw [decide_eq_false (by have := hnn.out; omega)]; rfl)))
        go_wp2
        refine bodyPost_ret (v := .tuple #[.int .i64 0, .int .i64 0, .int .i64 5]) (by first | (simp [results, Try.results38, go_sem]; done) | (simp [results, Try.results38, go_sem, World.cell?_setCell_same', *]; done) | (simp [results, Try.results38, go_sem]; first | exact ⟨rfl, rfl⟩ | rfl)) rfl ⟨by rw [hfin.out], hbel⟩
  · have hz : (checkScales row sc != 0) = true := by simp [h0]
    have he : Hid (clashR row sc = .tuple #[.int .i64 0, .int .i64 0, .int .i64 (checkScales row sc)]) := by unfold clashR; rw [if_pos h0]; trivial
    clear h0
    go_enter Try.func38, Try.ntmps38
    go_wp2_with (first | (go_at_call 31; refine (checkScales_any _ A A' n c n' c' row sc (hr.below (by repeat' (first | with_reducible assumption | with_reducible exact Below.refl _ _ | refine Below.alloc ?_ ?_ _ | refine Below.setCell ?_ ?_ _ | refine Below.drew ?_ | refine below_drewN ?_ _ | (simp; done) | (simp; omega) | omega)) (by first | (simp; done) | (simp; omega) | omega)) hn (hr'.below (by repeat' (first | with_reducible assumption | with_reducible exact Below.refl _ _ | refine Below.alloc ?_ ?_ _ | refine Below.setCell ?_ ?_ _ | refine Below.drew ?_ | refine below_drewN ?_ _ | (simp; done) | (simp; omega) | omega)) (by first | (simp; done) | (simp; omega) | omega)) hn').mono ?_; rintro e w1 ⟨rfl, hb1⟩; have hbel : Below w.heap.size w w1 := Below.trans (by repeat' (first | with_reducible assumption | with_reducible exact Below.refl _ _ | refine Below.alloc ?_ ?_ _ | refine Below.setCell ?_ ?_ _ | refine Below.drew ?_ | refine below_drewN ?_ _ | (simp; done) | (simp; omega) | omega)) (hb1.mono (by first | (simp; done) | (simp; omega) | omega)); have hsz := hbel.size))
    refine bodyPost_ret (v := .tuple #[.int .i64 0, .int .i64 0, .int .i64 (checkScales row sc)]) (by first | (simp [results, Try.results38, go_sem]; done) | (simp [results, Try.results38, go_sem, World.cell?_setCell_same', *]; done) | (simp [results, Try.results38, go_sem]; first | exact ⟨rfl, rfl⟩ | rfl)) rfl ⟨by rw [he.out], hbel⟩
end Go.Proofs.Ytdcglphekafpdaa
