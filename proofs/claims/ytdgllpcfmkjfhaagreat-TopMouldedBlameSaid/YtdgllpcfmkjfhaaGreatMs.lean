/- Texts of the proof, laid together by program. -/
import Derived.Test.YtdgllpcfmkjfhaaGreatMg
import Derived.WalkKit
import Derived.Maps.OwnIn
import Derived.Maps.OwnSet
import Derived.Maps.OwnOps
import Derived.Test.YtdgllpcfmkjfhaaGreatMf
set_option linter.unusedSimpArgs false
set_option linter.unusedVariables false
/- Walks: mould: ranges of numbers; rising lists. -/
namespace Go.Proofs.YtdgllpcfmkjfhaaGreat.Bl
open Go.RowKit Go.Shelf
attribute [local go_sem] Oper.semAt_some
set_option maxHeartbeats 400000 in
theorem mwclo_any (x lo hi : Int) (b1 b2 : Nat) (w : World) (c1 : w.cell? ⟨b1, 0, none⟩ = some (.int .i64 lo)) (c2 : w.cell? ⟨b2, 0, none⟩ = some (.int .i64 hi)) :
    Calls Tryz.prog 133 #[.int .i64 x, .pointer (some ⟨b1, 0, none⟩), .pointer (some ⟨b2, 0, none⟩)] w fun e w' => e = .returned (.bool (!inR lo hi x)) ∧ w = w' := by
  have e : Hid (inR lo hi x = decide (lo ≤ x ∧ x ≤ hi)) := rfl
  by_cases h1 : x < lo <;> by_cases h2 : hi < x
  all_goals
    go_enter Tryz.func133, Tryz.ntmps133
    go_wp2
    go_ret
    refine ⟨?_, rfl⟩
    rw [e.out]
    first | (rw [decide_eq_true (by omega)]; rfl) | (rw [decide_eq_false (by omega)]; rfl)
set_option maxRecDepth 100000 in
set_option maxHeartbeats 400000 in
theorem mwithin_any (A : Option Addr) (n c : Nat) (l : List Int) (lo hi : Int) (w : World) (hl : InS w w.heap.size A n l) (hn : n ≤ 1000000) :
    Calls Tryz.prog 82 #[.int .i64 lo, .int .i64 hi, .slice A n c] w fun e w' => e = .returned (.bool (l.all (inR lo hi))) ∧ Below w.heap.size w w' := by
  have eg : ∀ args w, (callFunc 133 args).run Tryz.prog w = .ok (.enter 133 args) w := enters_of Tryz.func133 (by kernel_rfl) rfl
  have HN := hid (any_not_all (inR lo hi) l)
  have HE := hid eg
  have HL := hid hl
  clear eg hl
  obtain ⟨bv, hbv⟩ : ∃ bv, l.all (inR lo hi) = bv := ⟨_, rfl⟩
  rw [hbv] at HN ⊢
  clear hbv
  go_enter Tryz.func82, Tryz.ntmps82
  go_wp2_with (go_at_call 79; refine (conFI_any 133 #[.pointer (some ⟨w.heap.size, 0, none⟩), .pointer (some ⟨w.heap.size + 1, 0, none⟩)] HE.out (fun x => !inR lo hi x) A n c l _ (HL.out.below (by repeat' (first | with_reducible assumption | with_reducible exact Below.refl _ _ | refine Below.alloc ?_ ?_ _ | refine Below.setCell ?_ ?_ _ | refine Below.drew ?_ | refine below_drewN ?_ _ | (simp; done) | (simp; omega) | omega)) (by first | (simp; done) | (simp; omega) | omega)) hn (fun x _ => mwclo_any x lo hi _ _ _ (by go_simp) (by go_simp))).mono ?_; rw [HN.out]; rintro e w1 ⟨rfl, rfl⟩)
  refine bodyPost_ret (v := .bool bv) (by first | (simp [results, Tryz.results82, go_sem]; done) | (simp [results, Tryz.results82, go_sem, *]; done) | (simp [results, Tryz.results82, go_sem, World.cell?_setCell_same', *]; done) | (simp [results, Tryz.results82, go_sem]; first | exact ⟨rfl, rfl⟩ | rfl)) rfl ⟨rfl, (by repeat' (first | with_reducible assumption | with_reducible exact Below.refl _ _ | refine Below.alloc ?_ ?_ _ | refine Below.setCell ?_ ?_ _ | refine Below.drew ?_ | refine below_drewN ?_ _ | (simp; done) | (simp; omega) | omega))⟩
set_option maxRecDepth 10000 in
set_option maxHeartbeats 1600000 in
theorem mrising_any (A : Option Addr) (n c : Nat) (l : List Int) (below : Int) (w : World) (hl : InS w w.heap.size A n l) (hn : n ≤ 1000000) (h0 : 0 ≤ below) (h1 : below ≤ 1000) :
    Calls Tryz.prog 40 #[.slice A n c, .int .i64 below] w fun e w' => e = .returned (.bool (isL below 0 l)) ∧ Below w.heap.size w w' := by
  have hlen := hid hl.len
  have HL := hid hl
  clear hl
  obtain ⟨bv, hbv⟩ : ∃ bv, isL below 0 l = bv := ⟨_, rfl⟩
  have Hbv := hid hbv
  rw [hbv]
  clear hbv
  go_enter Tryz.func40, Tryz.ntmps40
  go_wp2
  go_loopw [5, 10] (fun nx i wr => ∃ k : Nat, k ≤ n ∧ i = .int .i64 k ∧ nx = .int .i64 (lastL (l.take k) + 1) ∧ Hid (isL below 0 (l.take k) = true) ∧ Below w.heap.size w wr) (fun _ i _ => n - (intOf i).toNat)
  case atStart => exact ⟨0, by omega, rfl, rfl, hid (by simp [isL]), Below.refl _ _⟩
  case round =>
    obtain ⟨k, hk, rfl, rfl, hall, hbw⟩ := hrel
    have hszw := hbw.size
    obtain ⟨nx, hnx⟩ : ∃ nx, lastL (l.take k) + 1 = nx := ⟨_, rfl⟩
    have Hnx := hid hnx
    rw [hnx]
    clear hnx
    by_cases hlt : k < n
    · obtain ⟨b, off, x, rfl, hb, hm, c0⟩ := (HL.out.below hbw hszw).at_ hlt
      have Hm := hid hm
      have hlti : (k : Int) < n := by omega
      have z1 : IntKind.i64.wrap (below - 1) = below - 1 := IntWalk.i64_in _ (by omega)
      have Ht : Hid (isL below 0 (l.take (k + 1)) = inR nx (below - 1) x) := hid (by
        rw [isL_take hm, hall.out, Hnx.out, Bool.true_and]
        unfold inR
        congr 1
        rw [eq_iff_iff]; omega)
      clear hm
      cases hx : inR nx (below - 1) x
      · have Hx := hid ((all_one (p := inR nx (below - 1)) x).trans hx)
        have Hf : Hid (isL below 0 l = false) := hid (isL_off (by rw [Ht.out]; exact hx))
        clear hx
        go_wp2_with (go_at_call 82; refine (mwithin_any _ 1 1 [x] nx (below - 1) _ (inS_lit1 x (by first | (simp; done) | (simp; omega) | omega) (by first | (simp; done) | (simp; omega) | omega)) (by omega)).mono ?_; rw [Hx.out]; rintro e w1 ⟨rfl, hb1⟩)
        refine bodyPost_ret (v := .bool false) (by first | (simp [results, Tryz.results40, go_sem]; done) | (simp [results, Tryz.results40, go_sem, *]; done) | (simp [results, Tryz.results40, go_sem, World.cell?_setCell_same', *]; done) | (simp [results, Tryz.results40, go_sem]; first | exact ⟨rfl, rfl⟩ | rfl)) rfl ⟨by rw [← Hbv.out, Hf.out], Below.trans (B := w.heap.size) (hbw.alloc hszw _) (hb1.mono (by simp; omega))⟩
      · have Hx := hid ((all_one (p := inR nx (below - 1)) x).trans hx)
        have Hs : Hid (isL below 0 (l.take (k + 1)) = true) := hid (by rw [Ht.out]; exact hx)
        have Hl : Hid (lastL (l.take (k + 1)) = x) := hid (lastL_take Hm.out)
        have hxr := inR_t.1 hx
        have z2 : IntKind.i64.wrap (x + 1) = x + 1 := by
          rcases Int.lt_or_le x (-1000000) with h5 | h5
          · exact absurd (isL_bd Hs.out x (by rw [List.take_add_one, Hm.out]; simp)).1 (by omega)
          · exact IntWalk.i64_in _ (by omega)
        clear hx
        go_wp2_with (go_at_call 82; refine (mwithin_any _ 1 1 [x] nx (below - 1) _ (inS_lit1 x (by first | (simp; done) | (simp; omega) | omega) (by first | (simp; done) | (simp; omega) | omega)) (by omega)).mono ?_; rw [Hx.out]; rintro e w1 ⟨rfl, hb1⟩)
        exact ⟨⟨k + 1, by omega, by go_num, by rw [Hl.out], Hs, Below.trans (B := w.heap.size) (hbw.alloc hszw _) (hb1.mono (by simp; omega))⟩, by simp [intOf]; omega⟩
    · obtain rfl : k = n := by omega
      have Hf : Hid (isL below 0 l = true) := hid (by have := hall.out; rwa [List.take_of_length_le (by rw [hlen.out]; exact Nat.le_refl _)] at this)
      go_wp2
      refine bodyPost_ret (v := .bool true) (by first | (simp [results, Tryz.results40, go_sem]; done) | (simp [results, Tryz.results40, go_sem, *]; done) | (simp [results, Tryz.results40, go_sem, World.cell?_setCell_same', *]; done) | (simp [results, Tryz.results40, go_sem]; first | exact ⟨rfl, rfl⟩ | rfl)) rfl ⟨by rw [← Hbv.out, Hf.out], hbw⟩
end Go.Proofs.YtdgllpcfmkjfhaaGreat.Bl
/- Walks: mould: wants in memory; searches among them; whether two clash. -/
namespace Go.Proofs.YtdgllpcfmkjfhaaGreat.Bl
open Go.RowKit Go.Shelf
attribute [local go_sem] Oper.semAt_some
def cW (p : Int × Int) : List Value := [.int .i64 p.1, .int .i64 p.2]
def WtS (w : World) (B : Nat) (A : Option Addr) (n : Nat) (ws : List (Int × Int)) : Prop := Sl w B 2 A n (ws.flatMap cW)
theorem WtS.len {w : World} {B n : Nat} {A : Option Addr} {ws : List (Int × Int)} (h : WtS w B A n ws) : ws.length = n := by
  have := h.1; rw [flat_len (s := 2) (fun _ => rfl)] at this; omega
theorem WtS.below {w w' : World} {B B' n : Nat} {A : Option Addr} {ws : List (Int × Int)} (h : WtS w B A n ws) (hb : Below B w w') (hB : B ≤ B') : WtS w' B' A n ws := Sl.below' h hb hB
theorem WtS.at_ {w : World} {B n : Nat} {A : Option Addr} {ws : List (Int × Int)} (h : WtS w B A n ws) {k : Nat} (hk : k < n) : ∃ b off p q, A = some ⟨b, off, none⟩ ∧ b < B ∧ ws[k]? = some (p, q) ∧
    w.cell? ⟨b, off + k * 2, none⟩ = some (.int .i64 p) ∧ w.cell? ⟨b, off + k * 2 + 1, none⟩ = some (.int .i64 q) := by
  obtain ⟨b, off, hA, hb, hc⟩ := h.2 (by omega)
  have hl : k < ws.length := by rw [h.len]; exact hk
  have hm : ws[k]? = some ws[k] := List.getElem?_eq_getElem hl
  refine ⟨b, off, ws[k].1, ws[k].2, hA, hb, hm, ?_, ?_⟩
  · have := hc (k * 2 + 0) _ (by rw [flat_at (s := 2) (f := cW) (fun _ => rfl) ws k 0 _ hm (by omega)]; rfl)
    simpa using this
  · have := hc (k * 2 + 1) _ (by rw [flat_at (s := 2) (f := cW) (fun _ => rfl) ws k 1 _ hm (by omega)]; rfl)
    rw [Nat.add_assoc]; exact this
def clW (ws : List (Int × Int)) (i k : Nat) : Bool := (ws.getD i (0, 0)).1 == (ws.getD k (0, 0)).1 || (ws.getD i (0, 0)).2 == (ws.getD k (0, 0)).2
theorem getD_of {ws : List (Int × Int)} {k : Nat} {x : Int × Int} (h : ws[k]? = some x) : ws.getD k (0, 0) = x := by rw [List.getD_eq_getElem?_getD, h]; rfl
def MDesk (w : World) (g : Nat) (S M : Int) (A : Option Addr) (n c gm : Nat) (ws : List (Int × Int)) : Prop := Blk w g 104 #[.int .i64 S, .int .i64 M, .slice A n c, .map (some gm)] ∧ WtS w w.heap.size A n ws
theorem MDesk.below {w w' : World} {g : Nat} {S M : Int} {A : Option Addr} {n c gm : Nat} {ws : List (Int × Int)} (h : MDesk w g S M A n c gm ws) (hb : Below w.heap.size w w') : MDesk w' g S M A n c gm ws := ⟨h.1.below hb h.1.lt, h.2.below hb hb.size⟩
set_option maxRecDepth 100000 in
set_option maxHeartbeats 4000000 in
theorem clash_any (g : Nat) (S M : Int) (A : Option Addr) (n c gm : Nat) (ws : List (Int × Int)) (i k : Nat) (w : World) (hd : MDesk w g S M A n c gm ws) (hi : i < n) (hk : k < n) (hn : n ≤ 1000000) :
    Calls Tryz.prog 30 #[.pointer (some ⟨g, 0, none⟩), .int .i64 (i : Int), .int .i64 (k : Int)] w fun e w' => e = .returned (.bool (clW ws i k)) ∧ Below w.heap.size w w' := by
  obtain ⟨b, off, p, q, hA, hb, hm, c0, c1⟩ := hd.2.at_ hi
  obtain ⟨b2, off2, p2, q2, hA2, hb2, hm2, d0, d1⟩ := hd.2.at_ hk
  rw [hA] at hA2
  obtain ⟨rfl, rfl⟩ : b = b2 ∧ off = off2 := by cases hA2; exact ⟨rfl, rfl⟩
  subst hA
  have c2 : w.cell? ⟨g, 2, none⟩ = some (.slice (some ⟨b, off, none⟩) n c) := hd.1.cell 2
  have lg := hd.1.lt
  have hv : Hid (clW ws i k = (p == p2 || q == q2)) := hid (by unfold clW; rw [getD_of hm, getD_of hm2])
  have hii : (i : Int) < n := by omega
  have hki : (k : Int) < n := by omega
  clear hd hm hm2 hA2
  by_cases hp : p = p2
  · subst hp
    go_enter Tryz.func30, Tryz.ntmps30
    go_wp2
    refine wp_region_hd_all (fun W => Below w.heap.size w W) (by kernel_rfl) (by kernel_rfl) ((Below.refl _ _).drew) ?_
    iterate 20 (refine wpHd_val (v := ?_) (by rfl) (fun W hW => ?_) ?_; rotate_left; (· obtain ⟨hcW, hfW⟩ := bcell hW; go_simp; with_reducible rfl); simp only [Act.put, List.setIfInBounds_toArray, List.set_cons_zero, List.set_cons_succ])
    iterate 19 (refine wpHd_not (by rfl) ?_; simp only [Act.put, List.setIfInBounds_toArray, List.set_cons_zero, List.set_cons_succ])
    iterate 2 (refine wpHd_val (v := ?_) (by rfl) (fun W hW => ?_) ?_; rotate_left; (· obtain ⟨hcW, hfW⟩ := bcell hW; go_simp; with_reducible rfl); simp only [Act.put, List.setIfInBounds_toArray, List.set_cons_zero, List.set_cons_succ])
    refine wpHd_nil ?_
    intro W9 hW9
    have hv' : clW ws i k = true := by rw [hv.out]; simp
    go_wp2
    refine bodyPost_ret (v := .bool true) (by first | (simp [results, Tryz.results30, go_sem]; done) | (simp [results, Tryz.results30, go_sem, *]; done) | (simp [results, Tryz.results30, go_sem, World.cell?_setCell_same', *]; done) | (simp [results, Tryz.results30, go_sem]; first | exact ⟨rfl, rfl⟩ | rfl)) rfl ⟨by rw [hv'], hW9⟩
  · obtain ⟨r, hr⟩ : ∃ r, (q == q2) = r := ⟨_, rfl⟩
    have hv' : Hid (clW ws i k = r) := hid (by rw [hv.out, hr]; simp [hp])
    have hpf : (p == p2) = false := by simp [hp]
    go_enter Tryz.func30, Tryz.ntmps30
    go_wp2
    refine wp_region_hd_all (fun W => Below w.heap.size w W) (by kernel_rfl) (by kernel_rfl) ((Below.refl _ _).drew) ?_
    iterate 41 (refine wpHd_val (v := ?_) (by rfl) (fun W hW => ?_) ?_; rotate_left; (· obtain ⟨hcW, hfW⟩ := bcell hW; go_simp; with_reducible rfl); simp only [Act.put, List.setIfInBounds_toArray, List.set_cons_zero, List.set_cons_succ])
    refine wpHd_nil ?_
    intro W9 hW9
    go_wp2
    refine bodyPost_ret (v := .bool r) (by first | (simp [results, Tryz.results30, go_sem]; done) | (simp [results, Tryz.results30, go_sem, *]; done) | (simp [results, Tryz.results30, go_sem, World.cell?_setCell_same', *]; done) | (simp [results, Tryz.results30, go_sem]; first | exact ⟨rfl, rfl⟩ | rfl)) rfl ⟨by rw [hv'.out], hW9⟩
end Go.Proofs.YtdgllpcfmkjfhaaGreat.Bl
/- Walks: mould: searches among wants; a valid book. -/
namespace Go.Proofs.YtdgllpcfmkjfhaaGreat.Bl
open Go.RowKit Go.Shelf
attribute [local go_sem] Oper.semAt_some
set_option maxHeartbeats 800000 in
theorem idxFW_any (g : Nat) (cb : Array Value) (eg : ∀ args w, (callFunc g args).run Tryz.prog w = .ok (.enter g args) w) (p : Int × Int → Bool) (A : Option Addr) (n c : Nat) (ls : List (Int × Int)) (w : World) (hl : WtS w w.heap.size A n ls) (hn : n ≤ 1000000) (hp : ∀ x ∈ ls, ∀ (W : World), Below w.heap.size w W → Calls Tryz.prog g (#[.agg #[.int .i64 x.1, .int .i64 x.2]] ++ cb) W fun e w' => e = .returned (.bool (p x)) ∧ Below W.heap.size W w') :
    Calls Tryz.prog 83 #[.slice A n c, .func (.func g) #[] cb] w fun e w' => e = .returned (.int .i64 (idxA p ls)) ∧ Below w.heap.size w w' := by
  have hlen := hid hl.len
  have HL := hid hl
  have HP := hid hp
  clear hp hl
  obtain ⟨iv, hiv⟩ : ∃ iv, idxA p ls = iv := ⟨_, rfl⟩
  have Hiv := hid hiv
  rw [hiv]
  clear hiv
  go_enter Tryz.func83, Tryz.ntmps83
  go_wp2
  go_loopw [8] (fun i wr => ∃ k : Nat, k ≤ n ∧ i = .int .i64 k ∧ Hid ((ls.take k).any p = false) ∧ Below w.heap.size w wr) (fun i _ => n - (intOf i).toNat)
  case atStart => exact ⟨0, by omega, rfl, hid (by simp), Below.refl _ _⟩
  case round =>
    obtain ⟨k, hk, rfl, hno, hbw⟩ := hrel
    have hszw := hbw.size
    by_cases hlt : k < n
    · obtain ⟨b, off, xp, xq, rfl, hb, hm, c0, c1⟩ := (HL.out.below hbw hszw).at_ hlt
      have Hm := hid hm
      have hlti : (k : Int) < n := by omega
      have hc := HP.out (xp, xq) (List.mem_of_getElem? hm) wr hbw
      clear hm
      cases hx : p (xp, xq)
      · have Hs := hid (any_off hno.out Hm.out hx)
        rw [hx] at hc
        clear hx
        go_wp2_with (go_at_fn g; refine hc.mono ?_; rintro e w1 ⟨rfl, hb1⟩)
        exact ⟨⟨k + 1, by omega, by go_num, Hs, hbw.trans (hb1.mono hszw)⟩, by simp [intOf]; omega⟩
      · have Hf := hid (idxA_hit hno.out Hm.out hx)
        rw [hx] at hc
        clear hx
        go_wp2_with (go_at_fn g; refine hc.mono ?_; rintro e w1 ⟨rfl, hb1⟩)
        refine bodyPost_ret (v := .int .i64 k) (by first | (simp [results, Tryz.results83, go_sem]; done) | (simp [results, Tryz.results83, go_sem, *]; done) | (simp [results, Tryz.results83, go_sem, World.cell?_setCell_same', *]; done) | (simp [results, Tryz.results83, go_sem]; first | exact ⟨rfl, rfl⟩ | rfl)) rfl ⟨by rw [← Hiv.out, Hf.out], hbw.trans (hb1.mono hszw)⟩
    · obtain rfl : k = n := by omega
      have Hf : Hid (idxA p ls = -1) := hid (idxA_none (by have := hno.out; rwa [List.take_of_length_le (by rw [hlen.out]; exact Nat.le_refl _)] at this))
      go_wp2
      refine bodyPost_ret (v := .int .i64 (-1)) (by first | (simp [results, Tryz.results83, go_sem]; done) | (simp [results, Tryz.results83, go_sem, *]; done) | (simp [results, Tryz.results83, go_sem, World.cell?_setCell_same', *]; done) | (simp [results, Tryz.results83, go_sem]; first | exact ⟨rfl, rfl⟩ | rfl)) rfl ⟨by rw [← Hiv.out, Hf.out], hbw⟩
theorem conFW_any (g : Nat) (cb : Array Value) (eg : ∀ args w, (callFunc g args).run Tryz.prog w = .ok (.enter g args) w) (p : Int × Int → Bool) (A : Option Addr) (n c : Nat) (ls : List (Int × Int)) (w : World) (hl : WtS w w.heap.size A n ls) (hn : n ≤ 1000000) (hp : ∀ x ∈ ls, ∀ (W : World), Below w.heap.size w W → Calls Tryz.prog g (#[.agg #[.int .i64 x.1, .int .i64 x.2]] ++ cb) W fun e w' => e = .returned (.bool (p x)) ∧ Below W.heap.size W w') :
    Calls Tryz.prog 41 #[.slice A n c, .func (.func g) #[] cb] w fun e w' => e = .returned (.bool (ls.any p)) ∧ Below w.heap.size w w' := by
  have hc := idxFW_any g cb eg p A n c ls w hl hn hp
  have HD := hid (idxA_dec p ls)
  obtain ⟨iv, hiv⟩ : ∃ iv, idxA p ls = iv := ⟨_, rfl⟩
  obtain ⟨bv, hbv⟩ : ∃ bv, ls.any p = bv := ⟨_, rfl⟩
  rw [hiv, hbv] at HD
  rw [hiv] at hc
  rw [hbv]
  clear hiv hbv hp hl
  go_enter Tryz.func41, Tryz.ntmps41
  go_wp2_with (go_at_call 83; refine hc.mono ?_; rintro e w1 ⟨rfl, hb1⟩)
  refine bodyPost_ret (v := .bool (decide (0 ≤ iv))) (by first | (simp [results, Tryz.results41, go_sem]; done) | (simp [results, Tryz.results41, go_sem, *]; done) | (simp [results, Tryz.results41, go_sem, World.cell?_setCell_same', *]; done) | (simp [results, Tryz.results41, go_sem]; first | exact ⟨rfl, rfl⟩ | rfl)) rfl ⟨by rw [HD.out], hb1⟩

set_option maxRecDepth 100000 in
set_option maxHeartbeats 1600000 in
theorem mstray_any (p q S M : Int) (gb : Nat) (w : World) (c0 : w.cell? ⟨gb, 0, none⟩ = some (.int .i64 S)) (c1 : w.cell? ⟨gb, 1, none⟩ = some (.int .i64 M)) (lg : gb < w.heap.size) (hp : 0 ≤ p ∧ p < S) (hq : 0 ≤ q ∧ q < M) (hS : S ≤ 1000) (hM : M ≤ 1000) :
    Calls Tryz.prog 81 #[.agg #[.int .i64 p, .int .i64 q], .pointer (some ⟨gb, 0, none⟩)] w fun e w' => e = .returned (.bool false) ∧ Below w.heap.size w w' := by
  have z1 : IntKind.i64.wrap (S - 1) = S - 1 := IntWalk.i64_in _ (by omega)
  have z2 : IntKind.i64.wrap (M - 1) = M - 1 := IntWalk.i64_in _ (by omega)
  have H1 := hid ((all_one (p := inR 0 (S - 1)) p).trans (inR_t.2 ⟨hp.1, by omega⟩))
  have H2 := hid ((all_one (p := inR 0 (M - 1)) q).trans (inR_t.2 ⟨hq.1, by omega⟩))
  go_enter Tryz.func81, Tryz.ntmps81
  go_wp2_with (fail)
  refine (mwithin_any _ 1 1 [p] 0 (S - 1) _ (inS_lit1 p (by first | (simp; done) | (simp; omega) | omega) (by first | (simp; done) | (simp; omega) | omega)) (by omega)).mono ?_
  rw [H1.out]
  rintro e w1 ⟨rfl, hb1⟩
  have hbel : Below w.heap.size w w1 := Below.trans (by repeat' (first | with_reducible assumption | with_reducible exact Below.refl _ _ | refine Below.alloc ?_ ?_ _ | refine Below.setCell ?_ ?_ _ | refine Below.drew ?_ | refine below_drewN ?_ _ | (simp; done) | (simp; omega) | omega)) (hb1.mono (by first | (simp; done) | (simp; omega) | omega))
  have d1 : w1.cell? ⟨gb, 1, none⟩ = some (.int .i64 M) := (hb1.cell (p := ⟨gb, 1, none⟩) (by first | (simp; done) | (simp; omega) | omega)).trans (by go_simp)
  have d2 : w1.cell? ⟨w.heap.size, 1, none⟩ = some (.int .i64 q) := (hb1.cell (p := ⟨w.heap.size, 1, none⟩) (by first | (simp; done) | (simp; omega) | omega)).trans (by go_simp)
  have hq0 : w.heap.size < w1.heap.size := (by have := hb1.size; simp at this; omega)
  have lg1 : gb < w1.heap.size := by omega
  clear hb1
  go_wp2_with (go_at_call 82; refine (mwithin_any _ 1 1 [q] 0 (M - 1) _ (inS_lit1 q (by first | (simp; done) | (simp; omega) | omega) (by first | (simp; done) | (simp; omega) | omega)) (by omega)).mono ?_; rw [H2.out]; rintro e w2 ⟨rfl, hb2⟩; have hbel2 : Below w1.heap.size w1 w2 := Below.trans (by repeat' (first | with_reducible assumption | with_reducible exact Below.refl _ _ | refine Below.alloc ?_ ?_ _ | refine Below.setCell ?_ ?_ _ | refine Below.drew ?_ | refine below_drewN ?_ _ | (simp; done) | (simp; omega) | omega)) (hb2.mono (by first | (simp; done) | (simp; omega) | omega)))
  refine bodyPost_ret (v := .bool false) (by first | (simp [results, Tryz.results81, go_sem]; done) | (simp [results, Tryz.results81, go_sem, *]; done) | (simp [results, Tryz.results81, go_sem, World.cell?_setCell_same', *]; done) | (simp [results, Tryz.results81, go_sem]; first | exact ⟨rfl, rfl⟩ | rfl)) rfl ⟨rfl, hbel.trans (hbel2.mono hbel.size)⟩
structure MBook (S M : Int) (ws : List (Int × Int)) : Prop where
  s : 1 ≤ S ∧ S ≤ 6
  m : 1 ≤ M ∧ M ≤ 6
  n : ws.length ≤ 14
  w : ∀ x ∈ ws, (0 ≤ x.1 ∧ x.1 < S) ∧ 0 ≤ x.2 ∧ x.2 < M
set_option maxRecDepth 100000 in
set_option maxHeartbeats 4000000 in
theorem mCheckBook_any (S M : Int) (A : Option Addr) (n c : Nat) (ws : List (Int × Int)) (w : World) (hl : WtS w w.heap.size A n ws) (hb : MBook S M ws) :
    Calls Tryz.prog 38 #[.agg #[.int .i64 S, .int .i64 M, .slice A n c]] w fun e w' => e = .returned (.int .i64 0) ∧ Below w.heap.size w w' := by
  have eg : ∀ args w, (callFunc 81 args).run Tryz.prog w = .ok (.enter 81 args) w := enters_of Tryz.func81 (by kernel_rfl) rfl
  have hlen := hl.len
  have hs := hb.s
  have hm := hb.m
  have hn : n ≤ 14 := by have := hb.n; omega
  have hni : (n : Int) ≤ 14 := by omega
  have HW := hid hb.w
  have HL := hid hl
  have HE := hid eg
  have H1 := hid ((all_one (p := inR 1 6) S).trans (inR_t.2 hs))
  have H2 := hid ((all_one (p := inR 1 6) M).trans (inR_t.2 hm))
  clear hl hb eg hlen
  go_enter Tryz.func38, Tryz.ntmps38
  go_wp2_with (fail)
  refine (mwithin_any _ 1 1 [S] 1 6 _ (inS_lit1 S (by first | (simp; done) | (simp; omega) | omega) (by first | (simp; done) | (simp; omega) | omega)) (by omega)).mono ?_
  rw [H1.out]
  rintro e w1 ⟨rfl, hb1⟩
  have hbel : Below w.heap.size w w1 := Below.trans (by repeat' (first | with_reducible assumption | with_reducible exact Below.refl _ _ | refine Below.alloc ?_ ?_ _ | refine Below.setCell ?_ ?_ _ | refine Below.drew ?_ | refine below_drewN ?_ _ | (simp; done) | (simp; omega) | omega)) (hb1.mono (by first | (simp; done) | (simp; omega) | omega))
  have c0 : w1.cell? ⟨w.heap.size, 0, none⟩ = some (.int .i64 S) := (hb1.cell (p := ⟨w.heap.size, 0, none⟩) (by first | (simp; done) | (simp; omega) | omega)).trans (by go_simp)
  have c1 : w1.cell? ⟨w.heap.size, 1, none⟩ = some (.int .i64 M) := (hb1.cell (p := ⟨w.heap.size, 1, none⟩) (by first | (simp; done) | (simp; omega) | omega)).trans (by go_simp)
  have c2 : w1.cell? ⟨w.heap.size, 2, none⟩ = some (.slice A n c) := (hb1.cell (p := ⟨w.heap.size, 2, none⟩) (by first | (simp; done) | (simp; omega) | omega)).trans (by go_simp)
  have hq0 : w.heap.size < w1.heap.size := (by have := hb1.size; simp at this; omega)
  clear hb1
  go_wp2_with (fail)
  refine (mwithin_any _ 1 1 [M] 1 6 _ (inS_lit1 M (by first | (simp; done) | (simp; omega) | omega) (by first | (simp; done) | (simp; omega) | omega)) (by omega)).mono ?_
  rw [H2.out]
  rintro e w2 ⟨rfl, hb2⟩
  have hbel2 : Below w1.heap.size w1 w2 := Below.trans (by repeat' (first | with_reducible assumption | with_reducible exact Below.refl _ _ | refine Below.alloc ?_ ?_ _ | refine Below.setCell ?_ ?_ _ | refine Below.drew ?_ | refine below_drewN ?_ _ | (simp; done) | (simp; omega) | omega)) (hb2.mono (by first | (simp; done) | (simp; omega) | omega))
  have d0 : w2.cell? ⟨w.heap.size, 0, none⟩ = some (.int .i64 S) := (hbel2.cell (p := ⟨w.heap.size, 0, none⟩) hq0).trans c0
  have d1 : w2.cell? ⟨w.heap.size, 1, none⟩ = some (.int .i64 M) := (hbel2.cell (p := ⟨w.heap.size, 1, none⟩) hq0).trans c1
  have d2 : w2.cell? ⟨w.heap.size, 2, none⟩ = some (.slice A n c) := (hbel2.cell (p := ⟨w.heap.size, 2, none⟩) hq0).trans c2
  have hq2 : w.heap.size < w2.heap.size := by have := hbel2.size; omega
  have hb02 := hbel.trans (hbel2.mono hbel.size)
  have hc := conFW_any 81 #[.pointer (some ⟨w.heap.size, 0, none⟩)] HE.out (fun _ => false) A n c ws w2 (HL.out.below hb02 hb02.size) (by omega) (fun x hx W hW => mstray_any x.1 x.2 S M w.heap.size W ((hW.cell (p := ⟨w.heap.size, 0, none⟩) hq2).trans d0) ((hW.cell (p := ⟨w.heap.size, 1, none⟩) hq2).trans d1) (Nat.lt_of_lt_of_le hq2 hW.size) (HW.out x hx).1 (HW.out x hx).2 (by omega) (by omega))
  rw [show ws.any (fun _ => false) = false by simp] at hc
  clear c0 c1 c2 hb2 d0 d1 hbel hbel2
  go_wp2_with (go_at_call 41; refine hc.mono ?_; rintro e w3 ⟨rfl, hb3⟩)
  refine bodyPost_ret (v := .int .i64 0) (by first | (simp [results, Tryz.results38, go_sem]; done) | (simp [results, Tryz.results38, go_sem, *]; done) | (simp [results, Tryz.results38, go_sem, World.cell?_setCell_same', *]; done) | (simp [results, Tryz.results38, go_sem]; first | exact ⟨rfl, rfl⟩ | rfl)) rfl ⟨rfl, hb02.trans (hb3.mono hb02.size)⟩
end Go.Proofs.YtdgllpcfmkjfhaaGreat.Bl
/- Walks: mould: the desk of a valid book. -/
namespace Go.Proofs.YtdgllpcfmkjfhaaGreat.Bl
open Go.RowKit Go.Shelf
attribute [local go_sem] Oper.semAt_some
set_option maxRecDepth 100000 in
set_option maxHeartbeats 1600000 in
theorem mopen_any (S M : Int) (A : Option Addr) (n c : Nat) (ws : List (Int × Int)) (w : World) (hl : WtS w w.heap.size A n ws) (hb : MBook S M ws) :
    Calls Tryz.prog 25 #[.agg #[.int .i64 S, .int .i64 M, .slice A n c]] w fun e w' => ∃ g gm, e = .returned (.tuple #[.pointer (some ⟨g, 0, none⟩), .int .i64 0]) ∧ w.heap.size ≤ gm ∧ gm < g ∧ MDesk w' g S M A n c gm ws ∧ w'.heap[gm]? = some (.map #[] 0) ∧ Below w.heap.size w w' := by
  have HL := hid hl
  have HB := hid hb
  clear hl hb
  have hmm := @run_makeMap Tryz.prog
  go_enter Tryz.func25, Tryz.ntmps25
  go_wp2_with (go_at_call 38; refine (mCheckBook_any S M A n c ws _ (HL.out.below (by repeat' (first | with_reducible assumption | with_reducible exact Below.refl _ _ | refine Below.alloc ?_ ?_ _ | refine Below.setCell ?_ ?_ _ | refine Below.drew ?_ | refine below_drewN ?_ _ | (simp; done) | (simp; omega) | omega)) (by first | (simp; done) | (simp; omega) | omega)) HB.out).mono ?_; rintro e w1 ⟨rfl, hb1⟩; have hbel : Below w.heap.size w w1 := Below.trans (by repeat' (first | with_reducible assumption | with_reducible exact Below.refl _ _ | refine Below.alloc ?_ ?_ _ | refine Below.setCell ?_ ?_ _ | refine Below.drew ?_ | refine below_drewN ?_ _ | (simp; done) | (simp; omega) | omega)) (hb1.mono (by first | (simp; done) | (simp; omega) | omega)); have c0 : w1.cell? ⟨w.heap.size, 0, none⟩ = some (.int .i64 S) := (hb1.cell (p := ⟨w.heap.size, 0, none⟩) (by first | (simp; done) | (simp; omega) | omega)).trans (by go_simp); have c1 : w1.cell? ⟨w.heap.size, 1, none⟩ = some (.int .i64 M) := (hb1.cell (p := ⟨w.heap.size, 1, none⟩) (by first | (simp; done) | (simp; omega) | omega)).trans (by go_simp); have c2 : w1.cell? ⟨w.heap.size, 2, none⟩ = some (.slice A n c) := (hb1.cell (p := ⟨w.heap.size, 2, none⟩) (by first | (simp; done) | (simp; omega) | omega)).trans (by go_simp); have hq0 : w.heap.size < w1.heap.size := (by have := hb1.size; simp at this; omega); clear hb1)
  refine bodyPost_ret (v := .tuple #[.pointer (some ⟨w1.heap.size + 1, 0, none⟩), .int .i64 0]) (by first | (simp [results, Tryz.results25, go_sem]; done) | (simp [results, Tryz.results25, go_sem, *]; done) | (simp [results, Tryz.results25, go_sem, World.cell?_setCell_same', *]; done) | (simp [results, Tryz.results25, go_sem]; first | exact ⟨rfl, rfl⟩ | rfl)) rfl ⟨w1.heap.size + 1, w1.heap.size, rfl, by omega, by omega, ⟨Blk.new' (by simp), HL.out.below (by repeat' (first | with_reducible assumption | with_reducible exact Below.refl _ _ | refine Below.alloc ?_ ?_ _ | refine Below.setCell ?_ ?_ _ | refine Below.drew ?_ | refine below_drewN ?_ _ | (simp; done) | (simp; omega) | omega)) (by first | (simp; done) | (simp; omega) | omega)⟩, ?_, (by repeat' (first | with_reducible assumption | with_reducible exact Below.refl _ _ | refine Below.alloc ?_ ?_ _ | refine Below.setCell ?_ ?_ _ | refine Below.drew ?_ | refine below_drewN ?_ _ | (simp; done) | (simp; omega) | omega))⟩
  exact (Below.heap_alloc _ _ _ (by simp)).trans (heap_alloc_new w1 _)
end Go.Proofs.YtdgllpcfmkjfhaaGreat.Bl
/- Plain law: as many wants as there can be of which no two clash: a search by alternating ways, and a cover of as many. -/
namespace Go.Proofs.YtdgllpcfmkjfhaaGreat.Bl
section
abbrev By := Nat → Option Nat
def upO (b : By) (m : Nat) (x : Option Nat) : By := fun k => if k = m then x else b k
def upB (z : Nat → Bool) (m : Nat) : Nat → Bool := fun k => k == m || z k
theorem upB_self (z : Nat → Bool) (m : Nat) : upB z m m = true := by simp [upB]
theorem upB_le {z : Nat → Bool} {m k : Nat} (h : z k = true) : upB z m k = true := by simp [upB, h]
theorem upB_ne {z : Nat → Bool} {m k : Nat} (h : k ≠ m) : upB z m k = z k := by simp [upB, h]
theorem upO_self (b : By) (m : Nat) (x : Option Nat) : upO b m x m = x := by simp [upO]
theorem upO_ne {b : By} {m k : Nat} {x : Option Nat} (h : k ≠ m) : upO b m x k = b k := by simp [upO, h]
variable (S M : Nat → Nat) (L : List Nat)
def seekGo (rec : Nat → By → (Nat → Bool) → Bool × By × (Nat → Bool)) (s : Nat) : List Nat → By → (Nat → Bool) → Bool × By × (Nat → Bool)
  | [], b, z => (false, b, z)
  | i :: l, b, z => if S i ≠ s ∨ z (M i) = true then seekGo rec s l b z else
    match b (M i) with
    | none => (true, upO b (M i) (some i), upB z (M i))
    | some o => match rec (S o) b (upB z (M i)) with
      | (true, b2, z2) => (true, upO b2 (M i) (some i), z2)
      | (false, b2, z2) => seekGo rec s l b2 z2
def seekP : Nat → Nat → By → (Nat → Bool) → Bool × By × (Nat → Bool)
  | 0, _, b, z => (false, b, z)
  | f + 1, s, b, z => seekGo S M (seekP f) s L b z
def un (N : Nat) (z : Nat → Bool) : Nat := ((List.range N).filter fun m => !z m).length
theorem un_le {N : Nat} {z z' : Nat → Bool} (h : ∀ m, z m = true → z' m = true) : un N z' ≤ un N z := by
  unfold un
  induction N with
  | zero => simp
  | succ N ih =>
    rw [List.range_succ, List.filter_append, List.filter_append, List.length_append, List.length_append]
    have : ((List.filter (fun m => !z' m) [N]).length) ≤ ((List.filter (fun m => !z m) [N]).length) := by
      cases hz : z N
      · simp only [List.filter_cons, hz]
        cases z' N <;> simp
      · simp [List.filter_cons, h N hz]
    omega
theorem un_lt {N : Nat} {z z' : Nat → Bool} (h : ∀ m, z m = true → z' m = true) {k : Nat} (hk : k < N) (h0 : z k = false) (h1 : z' k = true) : un N z' < un N z := by
  unfold un
  induction N with
  | zero => omega
  | succ N ih =>
    rw [List.range_succ, List.filter_append, List.filter_append, List.length_append, List.length_append]
    by_cases e : k = N
    · subst e
      have := un_le (N := k) h
      unfold un at this
      simp only [List.filter_cons, h0, h1]
      simp
      omega
    · have h2 := ih (by omega)
      have : ((List.filter (fun m => !z' m) [N]).length) ≤ ((List.filter (fun m => !z m) [N]).length) := by
        cases hz : z N
        · simp only [List.filter_cons, hz]
          cases z' N <;> simp
        · simp [List.filter_cons, h N hz]
      omega
def Shut (b : By) (z z' : Nat → Bool) : Prop := ∀ m, z' m = true → z m = false → ∃ o, b m = some o ∧ ∀ j ∈ L, S j = S o → z' (M j) = true
structure Fails (b : By) (z : Nat → Bool) (b' : By) (z' : Nat → Bool) : Prop where
  same : b' = b
  le : ∀ m, z m = true → z' m = true
  shut : Shut S M L b z z'
variable {S M L}
theorem go_false {N f : Nat} (hM : ∀ i ∈ L, M i < N) {rec : Nat → By → (Nat → Bool) → Bool × By × (Nat → Bool)} (hrec : ∀ s b z b' z', un N z < f → rec s b z = (false, b', z') → Fails S M L b z b' z' ∧ ∀ i ∈ L, S i = s → z' (M i) = true) (s : Nat) :
    ∀ (l : List Nat) (b : By) (z : Nat → Bool) (b' : By) (z' : Nat → Bool), (∀ i ∈ l, i ∈ L) → un N z < f + 1 → seekGo S M rec s l b z = (false, b', z') → Fails S M L b z b' z' ∧ ∀ i ∈ l, S i = s → z' (M i) = true
  | [], b, z, b', z', _, _, h => by
    simp only [seekGo, Prod.mk.injEq, true_and] at h
    obtain ⟨rfl, rfl⟩ := h
    exact ⟨⟨rfl, fun _ h => h, fun m h h' => by rw [h] at h'; cases h'⟩, fun i hi => by cases hi⟩
  | i :: l, b, z, b', z', hl, hu, h => by
    unfold seekGo at h
    split at h
    · rename_i hs
      obtain ⟨h1, h2⟩ := go_false hM hrec s l b z b' z' (fun j hj => hl j (List.mem_cons_of_mem _ hj)) hu h
      refine ⟨h1, fun j hj hjs => ?_⟩
      rcases List.mem_cons.1 hj with rfl | hj
      · rcases hs with hs | hs
        · exact absurd hjs hs
        · exact h1.le _ hs
      · exact h2 j hj hjs
    · rename_i hs
      have hs1 : S i = s := Classical.byContradiction fun h => hs (.inl h)
      have hz : z (M i) = false := by
        cases hz : z (M i)
        · rfl
        · exact absurd (.inr hz) hs
      have hmi : M i < N := hM i (hl i (List.mem_cons_self ..))
      have hlt : un N (upB z (M i)) < un N z := un_lt (fun m h => upB_le h) hmi hz (upB_self _ _)
      split at h
      · cases h
      · rename_i o ho
        split at h
        · cases h
        · rename_i b2 z2 hr
          obtain ⟨h1, h2⟩ := hrec (S o) b (upB z (M i)) b2 z2 (by omega) hr
          have hb := h1.same
          subst hb
          have hz2 : ∀ m, z m = true → z2 m = true := fun m hm => h1.le m (upB_le hm)
          obtain ⟨h3, h4⟩ := go_false hM hrec s l b2 z2 b' z' (fun j hj => hl j (List.mem_cons_of_mem _ hj)) (by have := un_le (N := N) hz2; omega) h
          refine ⟨⟨h3.same, fun m hm => h3.le m (hz2 m hm), fun m hm hm0 => ?_⟩, fun j hj hjs => ?_⟩
          · cases hm2 : z2 m
            · exact h3.shut m hm hm2
            · by_cases e : m = M i
              · subst e
                exact ⟨o, ho, fun j hj hjo => h3.le _ (h2 j hj hjo)⟩
              · obtain ⟨o', ho', hc⟩ := h1.shut m hm2 (by rw [upB_ne e]; exact hm0)
                exact ⟨o', ho', fun j hj hjo => h3.le _ (hc j hj hjo)⟩
          · rcases List.mem_cons.1 hj with rfl | hj
            · exact h3.le _ (h1.le _ (upB_self _ _))
            · exact h4 j hj hjs
theorem seek_false {N : Nat} (hM : ∀ i ∈ L, M i < N) : ∀ (f s : Nat) (b : By) (z : Nat → Bool) (b' : By) (z' : Nat → Bool), un N z < f → seekP S M L f s b z = (false, b', z') → Fails S M L b z b' z' ∧ ∀ i ∈ L, S i = s → z' (M i) = true
  | 0, _, _, _, _, _, h, _ => by omega
  | f + 1, s, b, z, b', z', hu, h => go_false hM (seek_false hM f) s L b z b' z' (fun _ h => h) hu h
structure Mt (S M : Nat → Nat) (L : List Nat) (b : By) : Prop where
  of : ∀ m i, b m = some i → i ∈ L ∧ M i = m
  one : ∀ m m' i j, b m = some i → b m' = some j → S i = S j → m = m'
def Served (S : Nat → Nat) (b : By) (t : Nat) : Prop := ∃ m i, b m = some i ∧ S i = t
structure More (S M : Nat → Nat) (L : List Nat) (b0 b1 : By) (s m0 : Nat) : Prop where
  mt : Mt S M L b1
  new : b0 m0 = none
  dom : ∀ m, b1 m = none ↔ b0 m = none ∧ m ≠ m0
  served : ∀ t, Served S b1 t ↔ Served S b0 t ∨ t = s
def mixB (z : Nat → Bool) (b0 b : By) : By := fun m => if z m = true then b0 m else b m
theorem more_put {b0 : By} (h0 : Mt S M L b0) {s i : Nat} (hi : i ∈ L) (hs : S i = s) (hn : ¬ Served S b0 s) (hb : b0 (M i) = none) : More S M L b0 (upO b0 (M i) (some i)) s (M i) := by
  refine ⟨⟨fun m j h => ?_, fun m m' j k h h' e => ?_⟩, hb, fun m => ?_, fun t => ?_⟩
  · by_cases e : m = M i
    · rw [e, upO_self] at h; cases h; exact ⟨hi, e.symm⟩
    · rw [upO_ne e] at h; exact h0.of m j h
  · by_cases e1 : m = M i
    · by_cases e2 : m' = M i
      · rw [e1, e2]
      · rw [e1, upO_self] at h; cases h
        rw [upO_ne e2] at h'
        exact absurd ⟨m', k, h', by rw [← e, hs]⟩ hn
    · rw [upO_ne e1] at h
      by_cases e2 : m' = M i
      · rw [e2, upO_self] at h'; cases h'
        exact absurd ⟨m, j, h, by rw [e, hs]⟩ hn
      · rw [upO_ne e2] at h'
        exact h0.one m m' j k h h' e
  · by_cases e : m = M i
    · rw [e, upO_self]; simp
    · rw [upO_ne e]; simp [e]
  · constructor
    · rintro ⟨m, j, h, rfl⟩
      by_cases e : m = M i
      · rw [e, upO_self] at h; cases h; exact .inr hs
      · rw [upO_ne e] at h; exact .inl ⟨m, j, h, rfl⟩
    · rintro (⟨m, j, h, rfl⟩ | rfl)
      · have e : m ≠ M i := fun e => by rw [e, hb] at h; cases h
        exact ⟨m, j, by rw [upO_ne e]; exact h, rfl⟩
      · exact ⟨M i, i, upO_self _ _ _, hs⟩
structure Wins (S M : Nat → Nat) (L : List Nat) (s : Nat) (b : By) (z : Nat → Bool) (b' : By) : Prop where
  old : ∀ m, z m = true → b' m = b m
  more : ∀ b0, (∀ m, z m = false → b0 m = b m) → Mt S M L b0 → ¬ Served S b0 s → ∃ m0, z m0 = false ∧ More S M L b0 (mixB z b0 b') s m0
theorem go_true {N f : Nat} (hM : ∀ i ∈ L, M i < N) {rec : Nat → By → (Nat → Bool) → Bool × By × (Nat → Bool)} (hrec : ∀ s b z b' z', un N z < f → rec s b z = (false, b', z') → Fails S M L b z b' z' ∧ ∀ i ∈ L, S i = s → z' (M i) = true)
    (hrec' : ∀ s b z b' z', un N z < f → rec s b z = (true, b', z') → Wins S M L s b z b') (s : Nat) :
    ∀ (l : List Nat) (b : By) (z : Nat → Bool) (b' : By) (z' : Nat → Bool), (∀ i ∈ l, i ∈ L) → un N z < f + 1 → seekGo S M rec s l b z = (true, b', z') → Wins S M L s b z b'
  | [], b, z, b', z', _, _, h => by simp [seekGo] at h
  | i :: l, b, z, b', z', hl, hu, h => by
    unfold seekGo at h
    have hi := hl i (List.mem_cons_self ..)
    have hl' : ∀ j ∈ l, j ∈ L := fun j hj => hl j (List.mem_cons_of_mem _ hj)
    split at h
    · exact go_true hM hrec hrec' s l b z b' z' hl' hu h
    · rename_i hs
      have hs1 : S i = s := Classical.byContradiction fun h => hs (.inl h)
      have hz : z (M i) = false := by
        cases hz : z (M i)
        · rfl
        · exact absurd (.inr hz) hs
      have hlt : un N (upB z (M i)) < un N z := un_lt (fun m h => upB_le h) (hM i hi) hz (upB_self _ _)
      split at h
      · rename_i hb
        simp only [Prod.mk.injEq, true_and] at h
        obtain ⟨rfl, -⟩ := h
        refine ⟨fun m hm => upO_ne (fun e => by rw [e, hz] at hm; cases hm), fun b0 e0 h0 hn => ⟨M i, hz, ?_⟩⟩
        have e : mixB z b0 (upO b (M i) (some i)) = upO b0 (M i) (some i) := by
          funext m
          unfold mixB
          by_cases em : m = M i
          · rw [em, hz, upO_self, upO_self]; simp
          · rw [upO_ne em, upO_ne em]
            cases hzm : z m
            · simp [e0 m hzm]
            · simp
        rw [e]
        exact more_put h0 hi hs1 hn (by rw [e0 _ hz]; exact hb)
      · rename_i o ho
        split at h
        · rename_i b2 z2 hr
          simp only [Prod.mk.injEq, true_and] at h
          obtain ⟨rfl, -⟩ := h
          have hW := hrec' (S o) b (upB z (M i)) b2 z2 (by omega) hr
          refine ⟨fun m hm => ?_, fun b0 e0 h0 hn => ?_⟩
          · have e : m ≠ M i := fun e => by rw [e, hz] at hm; cases hm
            rw [upO_ne e]
            exact hW.old m (upB_le hm)
          · have hbo : b0 (M i) = some o := by rw [e0 _ hz]; exact ho
            have h0' : Mt S M L (upO b0 (M i) none) := ⟨fun m j h => by
              by_cases e : m = M i
              · rw [e, upO_self] at h; cases h
              · rw [upO_ne e] at h; exact h0.of m j h, fun m m' j k h h' e => by
              by_cases e1 : m = M i
              · rw [e1, upO_self] at h; cases h
              · by_cases e2 : m' = M i
                · rw [e2, upO_self] at h'; cases h'
                · rw [upO_ne e1] at h; rw [upO_ne e2] at h'
                  exact h0.one m m' j k h h' e⟩
            have hsv : ∀ t, Served S (upO b0 (M i) none) t ↔ Served S b0 t ∧ t ≠ S o := fun t => by
              constructor
              · rintro ⟨m, j, h, rfl⟩
                by_cases e : m = M i
                · rw [e, upO_self] at h; cases h
                · rw [upO_ne e] at h
                  exact ⟨⟨m, j, h, rfl⟩, fun e' => e (h0.one m (M i) j o h hbo e')⟩
              · rintro ⟨⟨m, j, h, rfl⟩, hne⟩
                have e : m ≠ M i := fun e => by rw [e, hbo] at h; cases h; exact hne rfl
                exact ⟨m, j, by rw [upO_ne e]; exact h, rfl⟩
            obtain ⟨m0, hm0, hmore⟩ := hW.more (upO b0 (M i) none) (fun m hm => by
              have e : m ≠ M i := fun e => by rw [e, upB_self] at hm; cases hm
              rw [upO_ne e]
              rw [upB_ne e] at hm
              exact e0 m hm) h0' (fun hh => ((hsv _).1 hh).2 rfl)
            have hm0i : m0 ≠ M i := fun e => by rw [e, upB_self] at hm0; cases hm0
            rw [upB_ne hm0i] at hm0
            refine ⟨m0, hm0, ?_⟩
            have hbi : mixB (upB z (M i)) (upO b0 (M i) none) b2 (M i) = none := by
              unfold mixB; rw [upB_self, if_pos rfl, upO_self]
            have e : mixB z b0 (upO b2 (M i) (some i)) = upO (mixB (upB z (M i)) (upO b0 (M i) none) b2) (M i) (some i) := by
              funext m
              by_cases em : m = M i
              · unfold mixB; rw [em, hz, upO_self, upO_self]; simp
              · rw [upO_ne em]
                unfold mixB
                rw [upB_ne em, upO_ne em, upO_ne em]
            have hserved : ∀ t, Served S (mixB (upB z (M i)) (upO b0 (M i) none) b2) t ↔ Served S b0 t := fun t => by
              rw [hmore.served t, hsv t]
              constructor
              · rintro (⟨h, -⟩ | rfl)
                · exact h
                · exact ⟨M i, o, hbo, rfl⟩
              · intro h
                by_cases e : t = S o
                · exact .inr e
                · exact .inl ⟨h, e⟩
            have hP := more_put hmore.mt hi hs1 (fun hh => hn ((hserved s).1 hh)) hbi
            rw [e]
            refine ⟨hP.mt, ?_, fun m => ?_, fun t => ?_⟩
            · have := hmore.new
              rwa [upO_ne hm0i] at this
            · rw [hP.dom m, hmore.dom m]
              by_cases em : m = M i
              · rw [em, hbo]; simp
              · rw [upO_ne em]; simp [em]
            · rw [hP.served t, hserved t]
        · rename_i b2 z2 hr
          obtain ⟨h1, -⟩ := hrec (S o) b (upB z (M i)) b2 z2 (by omega) hr
          have hb := h1.same
          subst hb
          have hz2 : ∀ m, z m = true → z2 m = true := fun m hm => h1.le m (upB_le hm)
          have hW := go_true hM hrec hrec' s l b2 z2 b' z' hl' (by have := un_le (N := N) hz2; omega) h
          refine ⟨fun m hm => hW.old m (hz2 m hm), fun b0 e0 h0 hn => ?_⟩
          obtain ⟨m0, hm0, hmore⟩ := hW.more b0 (fun m hm => e0 m (by
            cases hzm : z m
            · rfl
            · rw [hz2 m hzm] at hm; cases hm)) h0 hn
          have e : mixB z b0 b' = mixB z2 b0 b' := by
            funext m
            unfold mixB
            cases hzm : z m
            · cases hzm2 : z2 m
              · rfl
              · simp [hW.old m hzm2, e0 m hzm]
            · simp [hz2 m hzm]
          refine ⟨m0, ?_, by rw [e]; exact hmore⟩
          cases hzm : z m0
          · rfl
          · rw [hz2 m0 hzm] at hm0; cases hm0
theorem seek_true {N : Nat} (hM : ∀ i ∈ L, M i < N) : ∀ (f s : Nat) (b : By) (z : Nat → Bool) (b' : By) (z' : Nat → Bool), un N z < f → seekP S M L f s b z = (true, b', z') → Wins S M L s b z b'
  | 0, _, _, _, _, _, h, _ => by omega
  | f + 1, s, b, z, b', z', hu, h => go_true hM (seek_false hM f) (seek_true hM f) s L b z b' z' (fun _ h => h) hu h
end
end Go.Proofs.YtdgllpcfmkjfhaaGreat.Bl
/- Plain law: the search over all shops leaves a day's list, and a cover of as many. -/
namespace Go.Proofs.YtdgllpcfmkjfhaaGreat.Bl
section
variable {S M : Nat → Nat} {L : List Nat}
def Closed (S M : Nat → Nat) (L : List Nat) (b : By) (U : Nat → Bool) : Prop := ∀ m, U m = true → ∃ o, b m = some o ∧ ∀ j ∈ L, S j = S o → U (M j) = true
theorem go_out {N f : Nat} (hM : ∀ i ∈ L, M i < N) {U : Nat → Bool} {rec : Nat → By → (Nat → Bool) → Bool × By × (Nat → Bool)} (hrec : ∀ s b z b' z', un N z < f → rec s b z = (false, b', z') → Fails S M L b z b' z' ∧ ∀ i ∈ L, S i = s → z' (M i) = true)
    (hrec' : ∀ s b z b' z', un N z < f → Closed S M L b U → rec s b z = (true, b', z') → (∃ i ∈ L, S i = s ∧ U (M i) = false) ∧ ∀ m, U m = true → b' m = b m) (s : Nat) :
    ∀ (l : List Nat) (b : By) (z : Nat → Bool) (b' : By) (z' : Nat → Bool), (∀ i ∈ l, i ∈ L) → un N z < f + 1 → Closed S M L b U → seekGo S M rec s l b z = (true, b', z') → (∃ i ∈ L, S i = s ∧ U (M i) = false) ∧ ∀ m, U m = true → b' m = b m
  | [], b, z, b', z', _, _, _, h => by simp [seekGo] at h
  | i :: l, b, z, b', z', hl, hu, hU, h => by
    unfold seekGo at h
    have hi := hl i (List.mem_cons_self ..)
    have hl' : ∀ j ∈ l, j ∈ L := fun j hj => hl j (List.mem_cons_of_mem _ hj)
    split at h
    · exact go_out hM hrec hrec' s l b z b' z' hl' hu hU h
    · rename_i hs
      have hs1 : S i = s := Classical.byContradiction fun h => hs (.inl h)
      have hz : z (M i) = false := by
        cases hz : z (M i)
        · rfl
        · exact absurd (.inr hz) hs
      have hlt : un N (upB z (M i)) < un N z := un_lt (fun m h => upB_le h) (hM i hi) hz (upB_self _ _)
      split at h
      · rename_i hb
        simp only [Prod.mk.injEq, true_and] at h
        obtain ⟨rfl, -⟩ := h
        have hUi : U (M i) = false := by
          cases hUi : U (M i)
          · rfl
          · obtain ⟨o, ho, -⟩ := hU _ hUi
            rw [hb] at ho; cases ho
        exact ⟨⟨i, hi, hs1, hUi⟩, fun m hm => upO_ne (fun e => by rw [e, hUi] at hm; cases hm)⟩
      · rename_i o ho
        split at h
        · rename_i b2 z2 hr
          simp only [Prod.mk.injEq, true_and] at h
          obtain ⟨rfl, -⟩ := h
          obtain ⟨⟨j, hj, hjo, hUj⟩, hsame⟩ := hrec' (S o) b (upB z (M i)) b2 z2 (by omega) hU hr
          have hUi : U (M i) = false := by
            cases hUi : U (M i)
            · rfl
            · obtain ⟨o', ho', hc⟩ := hU _ hUi
              rw [ho] at ho'; cases ho'
              rw [hc j hj hjo] at hUj; cases hUj
          exact ⟨⟨i, hi, hs1, hUi⟩, fun m hm => by rw [upO_ne (fun e => by rw [e, hUi] at hm; cases hm)]; exact hsame m hm⟩
        · rename_i b2 z2 hr
          obtain ⟨h1, -⟩ := hrec (S o) b (upB z (M i)) b2 z2 (by omega) hr
          have hb := h1.same
          subst hb
          have hz2 : ∀ m, z m = true → z2 m = true := fun m hm => h1.le m (upB_le hm)
          exact go_out hM hrec hrec' s l b2 z2 b' z' hl' (by have := un_le (N := N) hz2; omega) hU h
theorem seek_out {N : Nat} (hM : ∀ i ∈ L, M i < N) {U : Nat → Bool} : ∀ (f s : Nat) (b : By) (z : Nat → Bool) (b' : By) (z' : Nat → Bool), un N z < f → Closed S M L b U → seekP S M L f s b z = (true, b', z') → (∃ i ∈ L, S i = s ∧ U (M i) = false) ∧ ∀ m, U m = true → b' m = b m
  | 0, _, _, _, _, _, h, _, _ => by omega
  | f + 1, s, b, z, b', z', hu, hU, h => go_out hM (seek_false hM f) (seek_out hM f) s L b z b' z' (fun _ h => h) hu hU h
def none0 : Nat → Bool := fun _ => false
theorem un_none (N : Nat) : un N none0 = N := by
  unfold un none0
  have : (List.range N).filter (fun _ => !false) = List.range N := List.filter_eq_self.2 fun _ _ => rfl
  rw [this, List.length_range]
def matchP (S M : Nat → Nat) (L : List Nat) (N : Nat) (shops : List Nat) : By := shops.foldl (fun b s => (seekP S M L (N + 1) s b none0).2.1) fun _ => none
structure Done (S M : Nat → Nat) (L : List Nat) (b : By) (done : List Nat) : Prop where
  mt : Mt S M L b
  in_ : ∀ t, Served S b t → t ∈ done
  cov : ∃ U, Closed S M L b U ∧ ∀ s ∈ done, Served S b s ∨ ∀ j ∈ L, S j = s → U (M j) = true
theorem done_step {N : Nat} (hM : ∀ i ∈ L, M i < N) {b : By} {done : List Nat} {s : Nat} (hs : s ∉ done) (h : Done S M L b done) : Done S M L (seekP S M L (N + 1) s b none0).2.1 (done ++ [s]) := by
  obtain ⟨r, hr⟩ : ∃ r, seekP S M L (N + 1) s b none0 = r := ⟨_, rfl⟩
  obtain ⟨v, b', z'⟩ := r
  rw [hr]
  show Done S M L b' (done ++ [s])
  have hu : un N none0 < N + 1 := by rw [un_none]; omega
  obtain ⟨U, hU, hcov⟩ := h.cov
  cases v
  · obtain ⟨h1, h2⟩ := seek_false hM _ _ _ _ _ _ hu hr
    have e := h1.same
    subst e
    refine ⟨h.mt, fun t ht => List.mem_append.2 (.inl (h.in_ t ht)), fun m => U m || z' m, fun m (hm : (U m || z' m) = true) => ?_, fun t ht => ?_⟩
    · show ∃ o, b' m = some o ∧ ∀ j ∈ L, S j = S o → (U (M j) || z' (M j)) = true
      cases hUm : U m
      · rw [hUm] at hm
        obtain ⟨o, ho, hc⟩ := h1.shut m (by simpa using hm) rfl
        exact ⟨o, ho, fun j hj hjo => by simp [hc j hj hjo]⟩
      · obtain ⟨o, ho, hc⟩ := hU m hUm
        exact ⟨o, ho, fun j hj hjo => by simp [hc j hj hjo]⟩
    · rcases List.mem_append.1 ht with ht | ht
      · exact (hcov t ht).imp id fun hc j hj hjs => by simp [hc j hj hjs]
      · rw [List.mem_singleton.1 ht]
        exact .inr fun j hj hjs => by simp [h2 j hj hjs]
  · have hns : ¬ Served S b s := fun hh => hs (h.in_ s hh)
    have hW := seek_true hM _ _ _ _ _ _ hu hr
    obtain ⟨m0, -, hmore⟩ := hW.more b (fun _ _ => rfl) h.mt hns
    have e : mixB none0 b b' = b' := by funext m; simp [mixB, none0]
    rw [e] at hmore
    obtain ⟨-, hout⟩ := seek_out hM _ _ _ _ _ _ hu hU hr
    refine ⟨hmore.mt, fun t ht => ?_, U, fun m hm => ?_, fun t ht => ?_⟩
    · rcases (hmore.served t).1 ht with ht | rfl
      · exact List.mem_append.2 (.inl (h.in_ t ht))
      · simp
    · obtain ⟨o, ho, hc⟩ := hU m hm
      exact ⟨o, by rw [hout m hm]; exact ho, hc⟩
    · rcases List.mem_append.1 ht with ht | ht
      · exact (hcov t ht).imp (fun hh => (hmore.served t).2 (.inl hh)) id
      · rw [List.mem_singleton.1 ht]
        exact .inl ((hmore.served s).2 (.inr rfl))
theorem done_fold {N : Nat} (hM : ∀ i ∈ L, M i < N) : ∀ (l done : List Nat) (b : By), (done ++ l).Nodup → Done S M L b done → Done S M L (l.foldl (fun b s => (seekP S M L (N + 1) s b none0).2.1) b) (done ++ l)
  | [], done, b, _, h => by simpa using h
  | s :: l, done, b, hn, h => by
    have hs : s ∉ done := fun hh => by
      have := (List.nodup_append.1 hn).2.2 s hh s (List.mem_cons_self ..)
      exact this rfl
    have h1 := done_step hM hs h
    have := done_fold hM l (done ++ [s]) _ (by simpa using hn) h1
    simpa using this
theorem matchP_done {N : Nat} (hM : ∀ i ∈ L, M i < N) (n : Nat) : Done S M L (matchP S M L N (List.range n)) (List.range n) := by
  have := done_fold (S := S) hM (List.range n) [] (fun _ => none) (by simpa using List.nodup_range) ⟨⟨(fun m i h => by cases h), (fun m m' i j h => by cases h)⟩, (fun t ⟨m, i, h, _⟩ => by cases h), fun _ => false, (fun m h => by cases h), (fun s hs => by cases hs)⟩
  unfold matchP
  simpa using this
end
end Go.Proofs.YtdgllpcfmkjfhaaGreat.Bl
/- Plain law: as many moulds as the search serves are had by wants of which no two clash, and as many shops and moulds cover all wants: so no list is longer. -/
namespace Go.Proofs.YtdgllpcfmkjfhaaGreat.Bl
section
variable {S M : Nat → Nat} {L : List Nat}
def Free (S M : Nat → Nat) (I : List Nat) : Prop := I.Pairwise fun i j => S i ≠ S j ∧ M i ≠ M j
theorem pig {α : Type} {f : Nat → α} [DecidableEq α] : ∀ {I : List Nat} {C : List α}, I.Pairwise (fun i j => f i ≠ f j) → (∀ i ∈ I, f i ∈ C) → I.length ≤ C.length
  | [], _, _, _ => Nat.zero_le _
  | i :: I, C, h, hC => by
    obtain ⟨h1, h2⟩ := List.pairwise_cons.1 h
    have hi := hC i (List.mem_cons_self ..)
    have := pig (I := I) (C := C.erase (f i)) h2 fun j hj => (List.mem_erase_of_ne (Ne.symm (h1 j hj))).2 (hC j (List.mem_cons_of_mem _ hj))
    rw [List.length_erase_of_mem hi] at this
    have hp : 0 < C.length := List.length_pos_of_mem hi
    rw [List.length_cons]
    omega
def Cov (S M : Nat → Nat) (L : List Nat) (C D : List Nat) : Prop := ∀ j ∈ L, S j ∈ C ∨ M j ∈ D
theorem weak {I C D : List Nat} (hI : Free S M I) (hL : ∀ i ∈ I, i ∈ L) (h : Cov S M L C D) : I.length ≤ C.length + D.length := by
  classical
  have := pig (f := fun i => if S i ∈ C then (true, S i) else (false, M i)) (I := I) (C := C.map (fun c => (true, c)) ++ D.map (fun d => (false, d))) (List.Pairwise.imp (fun {i j} h e => by
    by_cases h1 : S i ∈ C
    · by_cases h2 : S j ∈ C
      · rw [if_pos h1, if_pos h2] at e; exact h.1 (Prod.mk.inj e).2
      · rw [if_pos h1, if_neg h2] at e; cases (Prod.mk.inj e).1
    · by_cases h2 : S j ∈ C
      · rw [if_neg h1, if_pos h2] at e; cases (Prod.mk.inj e).1
      · rw [if_neg h1, if_neg h2] at e; exact h.2 (Prod.mk.inj e).2) hI) (fun i hi => by
    by_cases h1 : S i ∈ C
    · rw [if_pos h1]; simp [h1]
    · rw [if_neg h1]
      rcases h i (hL i hi) with h2 | h2
      · exact absurd h2 h1
      · simp [h2])
  simpa using this
def hadL (b : By) (N : Nat) : List Nat := (List.range N).filterMap b
theorem had_free {b : By} (h : Mt S M L b) (N : Nat) : Free S M (hadL b N) ∧ ∀ i ∈ hadL b N, i ∈ L := by
  constructor
  · unfold Free hadL
    rw [List.pairwise_filterMap]
    refine List.Pairwise.imp (fun {m m'} hne i hi j hj => ⟨fun e => hne (h.one m m' i j hi hj e), fun e => hne ?_⟩) List.nodup_range
    rw [← (h.of m i hi).2, ← (h.of m' j hj).2, e]
  · intro i hi
    obtain ⟨m, -, hm⟩ := List.mem_filterMap.1 hi
    exact (h.of m i hm).1
theorem filter_split {α : Type} (p : α → Bool) : ∀ l : List α, l.length = (l.filter p).length + (l.filter fun x => !p x).length
  | [] => rfl
  | a :: l => by
    have := filter_split p l
    cases h : p a
    · simp [h]; omega
    · simp [h]; omega
theorem konig {N n : Nat} (hM : ∀ i ∈ L, M i < N) (hS : ∀ i ∈ L, S i < n) : ∃ C D : List Nat, (∀ c ∈ C, c < n) ∧ (∀ d ∈ D, d < N) ∧ C.Nodup ∧ D.Nodup ∧ Cov S M L C D ∧ C.length + D.length = (hadL (matchP S M L N (List.range n)) N).length := by
  obtain ⟨b, hb⟩ : ∃ b, matchP S M L N (List.range n) = b := ⟨_, rfl⟩
  have hD := matchP_done (S := S) hM n
  rw [hb] at hD ⊢
  obtain ⟨U, hU, hcov⟩ := hD.cov
  have hdom : ∀ m i, b m = some i → m < N := fun m i h => by
    obtain ⟨h1, h2⟩ := hD.mt.of m i h
    rw [← h2]; exact hM i h1
  refine ⟨((hadL b N).filter fun i => !U (M i)).map S, (List.range N).filter U, fun c hc => ?_, fun d hd => List.mem_range.1 (List.mem_filter.1 hd).1, ?_, List.Nodup.sublist List.filter_sublist List.nodup_range, fun j hj => ?_, ?_⟩
  · obtain ⟨i, hi, rfl⟩ := List.mem_map.1 hc
    exact hS i ((had_free hD.mt N).2 i (List.mem_filter.1 hi).1)
  · have := List.Pairwise.sublist (List.filter_sublist (p := fun i => !U (M i))) (had_free (S := S) (M := M) hD.mt N).1
    exact List.pairwise_map.2 (List.Pairwise.imp (fun h => h.1) this)
  · cases hUj : U (M j)
    · left
      rcases hcov (S j) (List.mem_range.2 (hS j hj)) with ⟨m, i, hm, hi⟩ | hc
      · have hUm : U m = false := by
          cases hUm : U m
          · rfl
          · obtain ⟨o, ho, hc⟩ := hU m hUm
            rw [hm] at ho; cases ho
            rw [hc j hj hi.symm] at hUj; cases hUj
        refine List.mem_map.2 ⟨i, List.mem_filter.2 ⟨List.mem_filterMap.2 ⟨m, List.mem_range.2 (hdom m i hm), hm⟩, ?_⟩, hi⟩
        rw [(hD.mt.of m i hm).2, hUm]; rfl
      · rw [hc j hj rfl] at hUj; cases hUj
    · exact .inr (List.mem_filter.2 ⟨List.mem_range.2 (hM j hj), hUj⟩)
  · rw [List.length_map]
    have h1 := filter_split (fun i => U (M i)) (hadL b N)
    have h2 : ((hadL b N).filter fun i => U (M i)).length = ((List.range N).filter U).length := by
      unfold hadL
      generalize List.range N = l
      induction l with
      | nil => rfl
      | cons m l ih =>
        cases hm : b m with
        | none =>
          have : U m = false := by
            cases hUm : U m
            · rfl
            · obtain ⟨o, ho, -⟩ := hU m hUm
              rw [hm] at ho; cases ho
          rw [List.filterMap_cons_none hm, List.filter_cons, this]
          simpa using ih
        | some i =>
          have e := (hD.mt.of m i hm).2
          rw [List.filterMap_cons_some hm, List.filter_cons, List.filter_cons, e]
          cases U m
          · simpa using ih
          · simpa using ih
    omega
end
end Go.Proofs.YtdgllpcfmkjfhaaGreat.Bl
/- Which want a mould has, in a map. -/
namespace Go.Proofs.YtdgllpcfmkjfhaaGreat.Bl
open Go.RowKit Go.WideMaps
open Go.Maps (Keyed)
attribute [local go_sem] Oper.semAt_some
theorem underI' : Tryz.prog.underlying 3 = some (.int .i64) := by kernel_rfl
theorem underMI : Tryz.prog.underlying 59 = some (.map 3 3) := by kernel_rfl
theorem KI : Keyed Tryz.prog 3 := Maps.int_keyed underI'
def kI (m : Nat) : Lit := .int .i64 (m : Int)
theorem wfI {m : Nat} (h : m < 1000000) : (Lit.int .i64 (m : Int)).wf = true := by
  simp [Lit.wf, IntKind.min, IntKind.max, IntKind.signed, IntKind.bits]
  omega
theorem key_kI {m : Nat} (h : m < 1000000) : keyOf Tryz.prog 3 (.int .i64 (m : Int)) = some (kI m) := Maps.keyOf_int_mk underI' (wfI h)
theorem kI_ne {m k : Nat} (h : m ≠ k) : kI m ≠ kI k := fun e => h (by
  unfold kI at e
  injection e with _ e; omega)
abbrev OMi (w : World) (mp n : Nat) (D : DataW Unit) : Prop := w.ownsMap Tryz.prog 3 (plainElem (H := Unit) Tryz.prog 3) mp n D
structure HadM (N : Nat) (b : By) (D : DataW Unit) : Prop where
  has : ∀ m, m < N → Maps.has D (kI m) = (b m).isSome
  at_ : ∀ m i, m < N → b m = some i → ∀ z, D.atKey (kI m) z = .lit (.int .i64 (i : Int))
  keys : ∃ es : List (Lit × DataW Unit), D = .map es ∧ ∀ p ∈ es, ∃ m, m < N ∧ p.1 = kI m
theorem HadM.isMap {N : Nat} {b : By} {D : DataW Unit} (h : HadM N b D) : Maps.IsMap D := by obtain ⟨es, e, -⟩ := h.keys; exact ⟨es, e⟩
theorem HadM.nil (N : Nat) : HadM N (fun _ => none) (.map []) := ⟨fun m _ => by simp [Maps.has], fun m i _ h => (by cases h), [], rfl, fun p hp => by cases hp⟩
theorem HadM.put {N : Nat} {b : By} {D : DataW Unit} (h : HadM N b D) {m i : Nat} (hm : m < N) (hN : N ≤ 1000000) : HadM N (upO b m (some i)) (D.put (kI m) (.lit (.int .i64 (i : Int)))) := by
  have hk := KI.key (key_kI (show m < 1000000 by omega))
  refine ⟨fun k hkN => ?_, fun k j hkN hj z => ?_, ?_⟩
  · by_cases e : k = m
    · subst e
      rw [Maps.has_put_same h.isMap hk, upO_self]; rfl
    · rw [Maps.has_put_other (kI_ne e), h.has k hkN, upO_ne e]
  · by_cases e : k = m
    · subst e
      rw [upO_self] at hj; cases hj
      exact Maps.atKey_put_same h.isMap hk _ z
    · rw [upO_ne e] at hj
      rw [Maps.atKey_put_other (kI_ne e)]
      exact h.at_ k j hkN hj z
  · obtain ⟨es, rfl, h2⟩ := h.keys
    refine ⟨_, rfl, fun p hp => ?_⟩
    rcases Go.ChangeMaps.mem_insert_iff.1 hp with rfl | hp
    · exact ⟨m, hm, rfl⟩
    · exact h2 p (List.mem_filter.1 hp).1
theorem om_sizeI {w : World} {mp n k : Nat} {D : DataW Unit} (h : OMi w mp n D) (hk : Maps.size D ≤ k) : OMi w mp k D := by
  obtain ⟨es, clock, h1, h2, h3, rfl⟩ := h
  refine ⟨es, clock, h1, h2, ?_, rfl⟩
  rw [Maps.size_eq, length_sorted] at hk
  simpa using hk
theorem HadM.small {N : Nat} {b : By} {D : DataW Unit} (h : HadM N b D) (ht : Maps.Tidy D) : Maps.size D ≤ N := by
  obtain ⟨es, rfl, h2⟩ := h.keys
  obtain ⟨es', e, h3⟩ := ht
  cases e
  have hc : ∀ p : Lit × DataW Unit, ∃ m, p ∈ es → m < N ∧ p.1 = kI m := fun p => by
    by_cases hp : p ∈ es
    · obtain ⟨m, h4⟩ := h2 p hp; exact ⟨m, fun _ => h4⟩
    · exact ⟨0, fun h => absurd h hp⟩
  have hn : (es.map fun p => Classical.choose (hc p)).Nodup := by
    rw [List.nodup_iff_pairwise_ne, List.pairwise_map]
    refine h3.imp_of_mem (fun {a b} ha hb hab e => hab ?_)
    have q1 := (Classical.choose_spec (hc a) ha).2
    have q2 := (Classical.choose_spec (hc b) hb).2
    rw [q1, q2, e]
  have hlt : ∀ x ∈ es.map (fun p => Classical.choose (hc p)), x < N := fun x hx => by
    obtain ⟨p, hp, rfl⟩ := List.mem_map.1 hx
    exact (Classical.choose_spec (hc p) hp).1
  have hle : (es.map fun p => Classical.choose (hc p)).length ≤ N := by
    have := pig (f := fun x : Nat => x) (C := List.range N) hn fun x hx => List.mem_range.2 (hlt x hx)
    simpa using this
  rw [Maps.size_eq]
  simpa using hle
def ByW (w : World) (mp N : Nat) (b : By) : Prop := ∃ D, OMi w mp N D ∧ HadM N b D
theorem ByW.isMap {w : World} {mp N : Nat} {b : By} (h : ByW w mp N b) : ∃ es c, w.heap[mp]? = some (.map es c) := by
  obtain ⟨D, ⟨es, c, h1, -⟩, -⟩ := h
  exact ⟨es, c, h1⟩
theorem ByW.kept {w w' : World} {mp N : Nat} {b : By} (h : ByW w mp N b) (hb : w'.heap[mp]? = w.heap[mp]?) : ByW w' mp N b := by
  obtain ⟨D, ⟨es, c, h1, h2⟩, h3⟩ := h
  exact ⟨D, ⟨es, c, hb.trans h1, h2⟩, h3⟩
theorem ByW.lt {w : World} {mp N : Nat} {b : By} (h : ByW w mp N b) : mp < w.heap.size := by
  obtain ⟨es, c, h1⟩ := h.isMap
  exact (Array.getElem?_eq_some_iff.1 h1).1
theorem ByW.below {w w' : World} {mp N : Nat} {b : By} (h : ByW w mp N b) (hb : Below w.heap.size w w') : ByW w' mp N b := h.kept (hb.block mp h.lt)
theorem ByW.new {w : World} {mp N : Nat} (h : w.heap[mp]? = some (.map #[] 0)) : ByW w mp N fun _ => none := by
  obtain ⟨es, c, h1, h2, h3, h4⟩ := World.ownsMap_made (H := Unit) w Tryz.prog 3 (plainElem (H := Unit) Tryz.prog 3)
  have e : (w.alloc (.map #[] 0)).heap[w.heap.size]? = some (.map #[] 0) := World.alloc_heap_new w _
  rw [e] at h1
  cases h1
  exact ⟨_, ⟨#[], 0, h, h2, by simp, h4⟩, HadM.nil N⟩
theorem ByW.put {w : World} {mp N k m i : Nat} {b : By} {D : DataW Unit} (hm : m < N) (hN : N ≤ 1000000) (hh : HadM N b D) (h : OMi w mp k (D.put (kI m) (.lit (.int .i64 (i : Int))))) : ByW w mp N (upO b m (some i)) := by
  have h2 := hh.put (i := i) hm hN
  exact ⟨_, om_sizeI h (h2.small (World.ownsMap.tidy h KI)), h2⟩
theorem zeroI (W : World) : (zeroValue 3).run Tryz.prog W = .ok (.int .i64 0) W := by go_simp
theorem look_by {w : World} {mp N m : Nat} {b : By} (h : ByW w mp N b) (hm : m < N) (hN : N ≤ 1000000) :
    (Instr.lookup 59 (.map (some mp)) (.int .i64 (m : Int)) true).run Tryz.prog w = .ok (.tuple #[.int .i64 (((b m).getD 0 : Nat) : Int), .bool (b m).isSome]) w := by
  obtain ⟨D, hown, hh⟩ := h
  obtain ⟨v, ps, hrun, hv⟩ := World.ownsMap.look_ok hown KI underMI (zeroI w) (zd := .lit (.int .i64 0)) (zp := []) (plainElem_int underI' (by decide)) (key_kI (show m < 1000000 by omega))
  obtain ⟨c', rfl, hc, -⟩ := plainElem_int_inv underI' hv
  have hc' := congrArg Prod.fst hc
  simp only at hc'
  rw [hh.has m hm] at hrun
  cases hb : b m with
  | none =>
    have hno : Maps.has D (kI m) = false := by rw [hh.has m hm, hb]; rfl
    rw [Maps.atKey_of_not_has hno] at hc'
    cases hc'
    rw [hb] at hrun
    exact hrun
  | some i =>
    rw [hh.at_ m i hm hb] at hc'
    cases hc'
    rw [hb] at hrun
    exact hrun
end Go.Proofs.YtdgllpcfmkjfhaaGreat.Bl
/- Plain law: the first one of the longest lists, want by want. -/
namespace Go.Proofs.YtdgllpcfmkjfhaaGreat.Bl
section
variable (S M : Nat → Nat) (N n : Nat)
def nu (L : List Nat) : Nat := (hadL (matchP S M L N (List.range n)) N).length
def restW (i : Nat) (L : List Nat) : List Nat := L.filter fun k => !(decide (k ≤ i) || (S i == S k || M i == M k))
def stepW (most : Nat) (x : List Nat × List Nat) (i : Nat) : List Nat × List Nat := if x.2.contains i && x.1.length + 1 + nu S M N n (restW S M i x.2) == most then (x.1 ++ [i], restW S M i x.2) else x
def listW (k : Nat) : List Nat := ((List.range k).foldl (stepW S M N n (nu S M N n (List.range k))) ([], List.range k)).1
variable {S M N n}
theorem nu_has {L : List Nat} (hM : ∀ i ∈ L, M i < N) : ∃ I, Free S M I ∧ (∀ i ∈ I, i ∈ L) ∧ I.length = nu S M N n L := by
  have hD := matchP_done (S := S) hM n
  obtain ⟨h1, h2⟩ := had_free hD.mt N
  exact ⟨_, h1, h2, rfl⟩
theorem nu_most {L I : List Nat} (hM : ∀ i ∈ L, M i < N) (hS : ∀ i ∈ L, S i < n) (hI : Free S M I) (hL : ∀ i ∈ I, i ∈ L) : I.length ≤ nu S M N n L := by
  obtain ⟨C, D, -, -, -, -, hc, hl⟩ := konig hM hS
  have := weak hI hL hc
  unfold nu
  omega
theorem mem_rest {i j : Nat} {L : List Nat} : j ∈ restW S M i L ↔ j ∈ L ∧ i < j ∧ S i ≠ S j ∧ M i ≠ M j := by
  unfold restW
  rw [List.mem_filter]
  simp
def Day (S M : Nat → Nat) (k : Nat) (l : List Nat) : Prop := l.Pairwise (· < ·) ∧ (∀ i ∈ l, i < k) ∧ Free S M l
theorem free_app {a b : List Nat} : Free S M (a ++ b) ↔ Free S M a ∧ Free S M b ∧ ∀ i ∈ a, ∀ j ∈ b, S i ≠ S j ∧ M i ≠ M j := List.pairwise_append
structure GoI (S M : Nat → Nat) (N n k most i : Nat) (x : List Nat × List Nat) : Prop where
  day : Day S M k x.1
  low : ∀ o ∈ x.1, o < i
  in_ : ∀ j ∈ x.2, j < k ∧ ∀ o ∈ x.1, S o ≠ S j ∧ M o ≠ M j
  all : ∀ j, j < k → i ≤ j → (∀ o ∈ x.1, S o ≠ S j ∧ M o ≠ M j) → j ∈ x.2
  sum : x.1.length + nu S M N n (x.2.filter fun j => decide (i ≤ j)) = most
  first : ∀ l, Day S M k l → l.length = most → (∃ p u v a b, x.1 = p ++ u :: a ∧ l = p ++ v :: b ∧ u < v) ∨ ∃ l', l = x.1 ++ l' ∧ ∀ j ∈ l', i ≤ j
theorem goI_step {k most i : Nat} {x : List Nat × List Nat} (hk : i < k) (hM : ∀ j, j < k → M j < N) (hS : ∀ j, j < k → S j < n) (h : GoI S M N n k most i x) : GoI S M N n k most (i + 1) (stepW S M N n most x i) := by
  obtain ⟨out, left⟩ := x
  have hleft := h.in_
  have hrM : ∀ j ∈ restW S M i left, M j < N := fun j hj => hM j (hleft j (mem_rest.1 hj).1).1
  have hrS : ∀ j ∈ restW S M i left, S j < n := fun j hj => hS j (hleft j (mem_rest.1 hj).1).1
  have hfM : ∀ q, ∀ j ∈ left.filter (fun j => decide (q ≤ j)), M j < N := fun q j hj => hM j (hleft j (List.mem_filter.1 hj).1).1
  have hfS : ∀ q, ∀ j ∈ left.filter (fun j => decide (q ≤ j)), S j < n := fun q j hj => hS j (hleft j (List.mem_filter.1 hj).1).1
  -- one more than what follows i
  have hle : i ∈ left → nu S M N n (restW S M i left) + 1 ≤ nu S M N n (left.filter fun j => decide (i ≤ j)) := fun hi => by
    obtain ⟨I, h1, h2, h3⟩ := nu_has (S := S) (n := n) hrM
    rw [← h3]
    refine nu_most (I := i :: I) (hfM i) (hfS i) (List.pairwise_cons.2 ⟨fun j hj => (mem_rest.1 (h2 j hj)).2.2, h1⟩) fun j hj => ?_
    rw [List.mem_filter]
    rcases List.mem_cons.1 hj with rfl | hj
    · exact ⟨hi, by simp⟩
    · obtain ⟨q1, q2, -⟩ := mem_rest.1 (h2 j hj)
      exact ⟨q1, by simpa using Nat.le_of_lt q2⟩
  unfold stepW
  by_cases hc : (left.contains i && out.length + 1 + nu S M N n (restW S M i left) == most) = true
  · rw [if_pos hc]
    rw [Bool.and_eq_true, beq_iff_eq] at hc
    obtain ⟨hc1, hc2⟩ := hc
    have hi : i ∈ left := by simpa using hc1
    have hio := (hleft i hi).2
    refine ⟨⟨?_, fun j hj => ?_, free_app.2 ⟨h.day.2.2, by simp [Free], fun o ho j hj => by rw [List.mem_singleton.1 hj]; exact hio o ho⟩⟩, fun o ho => ?_, fun j hj => ?_, fun j hj hij hno => ?_, ?_, fun l hl hlen => ?_⟩
    · exact List.pairwise_append.2 ⟨h.day.1, by simp, fun o ho j hj => by rw [List.mem_singleton.1 hj]; exact h.low o ho⟩
    · rcases List.mem_append.1 hj with hj | hj
      · exact h.day.2.1 j hj
      · rw [List.mem_singleton.1 hj]; exact hk
    · rcases List.mem_append.1 ho with ho | ho
      · have := h.low o ho; omega
      · rw [List.mem_singleton.1 ho]; omega
    · obtain ⟨q1, q2, q3⟩ := mem_rest.1 hj
      refine ⟨(hleft j q1).1, fun o ho => ?_⟩
      rcases List.mem_append.1 ho with ho | ho
      · exact (hleft j q1).2 o ho
      · rw [List.mem_singleton.1 ho]; exact q3
    · exact mem_rest.2 ⟨h.all j hj (by omega) fun o ho => hno o (List.mem_append.2 (.inl ho)), by omega, hno i (by simp)⟩
    · have e : (restW S M i left).filter (fun j => decide (i + 1 ≤ j)) = restW S M i left := List.filter_eq_self.2 fun j hj => by
        have := (mem_rest.1 hj).2.1
        exact decide_eq_true (by omega)
      show (out ++ [i]).length + nu S M N n ((restW S M i left).filter fun j => decide (i + 1 ≤ j)) = most
      rw [e, List.length_append]
      simpa using hc2
    · rcases h.first l hl hlen with ⟨p, u, v, a, b, h1, h2, h3⟩ | ⟨l', h1, h2⟩
      · exact .inl ⟨p, u, v, a ++ [i], b, by show out ++ [i] = _; rw [show out = p ++ u :: a from h1]; simp, h2, h3⟩
      · cases l' with
        | nil =>
          rw [h1] at hlen
          have : out.length = most := by simpa using hlen
          omega
        | cons y b =>
          have hy := h2 y (List.mem_cons_self ..)
          rcases Nat.eq_or_lt_of_le hy with e | hlt
          · subst e
            refine .inr ⟨b, by rw [h1]; simp, fun j hj => ?_⟩
            have := hl.1
            rw [h1] at this
            exact (List.pairwise_cons.1 (List.pairwise_append.1 this).2.1).1 j hj
          · exact .inl ⟨out, i, y, [], b, rfl, h1, hlt⟩
  · rw [if_neg hc]
    rw [Bool.and_eq_true, beq_iff_eq] at hc
    have hne : i ∈ left → out.length + 1 + nu S M N n (restW S M i left) ≠ most := fun hi he => hc ⟨by simpa using hi, he⟩
    have hsum := h.sum
    simp only at hsum
    have hstep : nu S M N n (left.filter fun j => decide (i + 1 ≤ j)) = nu S M N n (left.filter fun j => decide (i ≤ j)) := by
      by_cases hi : i ∈ left
      · obtain ⟨I, h1, h2, h3⟩ := nu_has (S := S) (n := n) (hfM i)
        have hnot : i ∉ I := fun hiI => by
          have hp := List.perm_cons_erase hiI
          have h1' : Free S M (i :: I.erase i) := (hp.pairwise_iff (fun {a b} h => ⟨Ne.symm h.1, Ne.symm h.2⟩)).1 h1
          obtain ⟨q1, q2⟩ := List.pairwise_cons.1 h1'
          have := nu_most hrM hrS q2 fun j hj => by
            have hjI := h2 j (List.mem_of_mem_erase hj)
            rw [List.mem_filter] at hjI
            have hji : j ≠ i := fun e => (q1 j hj).1 (by rw [e])
            have : i ≤ j := by simpa using hjI.2
            exact mem_rest.2 ⟨hjI.1, by omega, q1 j hj⟩
          rw [List.length_erase_of_mem hiI] at this
          have hpos := List.length_pos_of_mem hiI
          have := hle hi
          have := hne hi
          omega
        refine Nat.le_antisymm ?_ ?_
        · obtain ⟨I', h1', h2', h3'⟩ := nu_has (S := S) (n := n) (hfM (i + 1))
          rw [← h3']
          refine nu_most (hfM i) (hfS i) h1' fun j hj => ?_
          obtain ⟨q1, q2⟩ := List.mem_filter.1 (h2' j hj)
          have : i + 1 ≤ j := by simpa using q2
          exact List.mem_filter.2 ⟨q1, by simp; omega⟩
        · rw [← h3]
          refine nu_most (hfM (i + 1)) (hfS (i + 1)) h1 fun j hj => ?_
          obtain ⟨q1, q2⟩ := List.mem_filter.1 (h2 j hj)
          have : i ≤ j := by simpa using q2
          have hji : j ≠ i := fun e => hnot (e ▸ hj)
          exact List.mem_filter.2 ⟨q1, by simp; omega⟩
      · congr 1
        refine List.filter_congr fun j hj => ?_
        have : j ≠ i := fun e => hi (e ▸ hj)
        rw [decide_eq_decide]; omega
    refine ⟨h.day, fun o ho => by have := h.low o ho; omega, h.in_, fun j hj hij hno => h.all j hj (by omega) hno, ?_, fun l hl hlen => ?_⟩
    · show out.length + nu S M N n (left.filter fun j => decide (i + 1 ≤ j)) = most
      rw [hstep]; exact hsum
    · rcases h.first l hl hlen with h1 | ⟨l', h1, h2⟩
      · exact .inl h1
      · refine .inr ⟨l', h1, fun j hj => ?_⟩
        have hj0 := h2 j hj
        rcases Nat.eq_or_lt_of_le hj0 with e | hlt
        · exfalso
          subst e
          -- i stands in l': it is its first one
          cases l' with
          | nil => cases hj
          | cons y b =>
            have hinc := hl.1
            rw [h1] at hinc
            have hyb := List.pairwise_cons.1 (List.pairwise_append.1 hinc).2.1
            have hyi : y = i := by
              rcases List.mem_cons.1 hj with e | hj
              · exact e.symm
              · have := hyb.1 i hj
                have := h2 y (List.mem_cons_self ..)
                omega
            subst hyi
            have hfree := hl.2.2
            rw [h1] at hfree
            obtain ⟨f1, f2, f3⟩ := free_app.1 hfree
            obtain ⟨f4, f5⟩ := List.pairwise_cons.1 f2
            have hi : y ∈ left := h.all y hk (Nat.le_refl _) fun o ho => f3 o ho y (List.mem_cons_self ..)
            have := nu_most hrM hrS f5 fun j hj => by
              have hjk : j < k := hl.2.1 j (by rw [h1]; simp [hj])
              have hyj := hyb.1 j hj
              exact mem_rest.2 ⟨h.all j hjk (by omega) fun o ho => f3 o ho j (List.mem_cons_of_mem _ hj), hyj, f4 j hj⟩
            have h4 := hle hi
            have h5 := hne hi
            rw [h1, List.length_append, List.length_cons] at hlen
            simp only at hlen
            omega
        · exact hlt
theorem goI_fold {k most : Nat} (hM : ∀ j, j < k → M j < N) (hS : ∀ j, j < k → S j < n) : ∀ (i : Nat) (x : List Nat × List Nat), i ≤ k → GoI S M N n k most 0 x → GoI S M N n k most i ((List.range i).foldl (stepW S M N n most) x)
  | 0, x, _, h => h
  | i + 1, x, hi, h => by
    rw [List.range_succ, List.foldl_append]
    exact goI_step (by omega) hM hS (goI_fold hM hS i x (by omega) h)
theorem before_diff {p : List Int} {u v : Int} {a b : List Int} (h : u < v) : before (p ++ v :: b) (p ++ u :: a) = false := by
  induction p with
  | nil =>
    show before (v :: b) (u :: a) = false
    rw [before_cons, if_neg (by omega)]
    simp; omega
  | cons x p ih =>
    show before (x :: (p ++ v :: b)) (x :: (p ++ u :: a)) = false
    rw [before_cons, if_pos rfl]; exact ih
def toI (l : List Nat) : List Int := l.map fun i : Nat => (i : Int)
theorem list_best {k : Nat} (hM : ∀ j, j < k → M j < N) (hS : ∀ j, j < k → S j < n) : Day S M k (listW S M N n k) ∧ (listW S M N n k).length = nu S M N n (List.range k) ∧
    ∀ l, Day S M k l → l.length < (listW S M N n k).length ∨ (l.length = (listW S M N n k).length ∧ before (toI l) (toI (listW S M N n k)) = false) := by
  have hrM : ∀ j ∈ List.range k, M j < N := fun j hj => hM j (List.mem_range.1 hj)
  have hrS : ∀ j ∈ List.range k, S j < n := fun j hj => hS j (List.mem_range.1 hj)
  have hmost : ∀ l, Day S M k l → l.length ≤ nu S M N n (List.range k) := fun l hl => nu_most hrM hrS hl.2.2 fun i hi => List.mem_range.2 (hl.2.1 i hi)
  have h0 : GoI S M N n k (nu S M N n (List.range k)) 0 ([], List.range k) := by
    refine ⟨⟨List.Pairwise.nil, fun i hi => (by cases hi), List.Pairwise.nil⟩, fun o ho => (by cases ho), fun j hj => ⟨List.mem_range.1 hj, fun o ho => (by cases ho)⟩, fun j hj _ _ => List.mem_range.2 hj, ?_, fun l hl hlen => .inr ⟨l, rfl, fun _ _ => Nat.zero_le _⟩⟩
    have e : (List.range k).filter (fun j => decide (0 ≤ j)) = List.range k := List.filter_eq_self.2 fun j _ => by simp
    show 0 + nu S M N n ((List.range k).filter fun j => decide (0 ≤ j)) = _
    rw [e, Nat.zero_add]
  have h := goI_fold hM hS k ([], List.range k) (Nat.le_refl _) h0
  obtain ⟨out, hout⟩ : ∃ out, listW S M N n k = out := ⟨_, rfl⟩
  obtain ⟨x, hx⟩ : ∃ x, (List.range k).foldl (stepW S M N n (nu S M N n (List.range k))) ([], List.range k) = x := ⟨_, rfl⟩
  rw [hx] at h
  have hxo : x.1 = out := by rw [← hout, ← hx]; rfl
  rw [hout]
  have hlen : out.length = nu S M N n (List.range k) := by
    have hs := h.sum
    have e : x.2.filter (fun j => decide (k ≤ j)) = [] := List.filter_eq_nil_iff.2 fun j hj => by
      have := (h.in_ j hj).1
      simp; omega
    obtain ⟨I, -, h2, h3⟩ := nu_has (S := S) (M := M) (N := N) (n := n) (L := []) (fun i hi => by cases hi)
    have hI : I = [] := by
      cases I with
      | nil => rfl
      | cons i I => exact absurd (h2 i (List.mem_cons_self ..)) (by simp)
    rw [e, ← h3, hI, hxo] at hs
    simpa using hs
  refine ⟨hxo ▸ h.day, hlen, fun l hl => ?_⟩
  have hle := hmost l hl
  rcases Nat.lt_or_ge l.length out.length with hlt | hge
  · exact .inl hlt
  · refine .inr ⟨by omega, ?_⟩
    rcases h.first l hl (by omega) with ⟨p, u, v, a, b, h1, h2, h3⟩ | ⟨l', h1, -⟩
    · rw [hxo] at h1
      rw [h1, h2]
      unfold toI
      rw [List.map_append, List.map_append, List.map_cons, List.map_cons]
      exact before_diff (by omega)
    · rw [hxo] at h1
      have : l' = [] := by
        rw [h1, List.length_append] at hge hle
        exact List.eq_nil_of_length_eq_zero (by omega)
      rw [h1, this, List.append_nil]
      exact before_irr _
end
end Go.Proofs.YtdgllpcfmkjfhaaGreat.Bl
/- Walks: mould: the search for a shop's mould. -/
namespace Go.Proofs.YtdgllpcfmkjfhaaGreat.Bl
open Go.RowKit Go.Shelf Go.WideMaps
attribute [local go_sem] Oper.semAt_some
def Gr (Ds : List Nat) (w w' : World) : Prop := w'.os = w.os ∧ w'.tape = w.tape ∧ w'.output = w.output ∧ w.heap.size ≤ w'.heap.size ∧ ∀ r, r < w.heap.size → r ∉ Ds → w'.heap[r]? = w.heap[r]?
theorem Gr.refl (Ds : List Nat) (w : World) : Gr Ds w w := ⟨rfl, rfl, rfl, Nat.le_refl _, fun _ _ _ => rfl⟩
theorem Gr.size {Ds : List Nat} {w w' : World} (h : Gr Ds w w') : w.heap.size ≤ w'.heap.size := h.2.2.2.1
theorem Gr.trans {Ds : List Nat} {a b c : World} (h : Gr Ds a b) (h' : Gr Ds b c) : Gr Ds a c :=
  ⟨h'.1.trans h.1, h'.2.1.trans h.2.1, h'.2.2.1.trans h.2.2.1, Nat.le_trans h.size h'.size, fun r hr hn => (h'.2.2.2.2 r (Nat.lt_of_lt_of_le hr h.size) hn).trans (h.2.2.2.2 r hr hn)⟩
theorem Gr.below {Ds : List Nat} {w w' : World} (h : Below w.heap.size w w') : Gr Ds w w' := ⟨h.os, h.tape, h.output, h.size, fun r hr _ => h.block r hr⟩
theorem Gr.grown {Ds : List Nat} {w w' : World} {g : Nat} (h : w.grownBy w' (some g)) (hg : g ∈ Ds) : Gr Ds w w' := ⟨h.os, h.tape, h.output, h.size, fun r hr hn => h.block r hr fun e => hn (by cases e; exact hg)⟩
theorem Gr.set {Ds : List Nat} {w : World} {g i : Nat} (hg : g ∈ Ds) (u : Value) : Gr Ds w (w.setCell ⟨g, i, none⟩ u) := ⟨rfl, rfl, rfl, by simp, fun r _ hn => Below.heap_setCell w ⟨g, i, none⟩ u r (fun e => hn (by rw [e]; exact hg))⟩
theorem blk_gr {w w' : World} {gm gz p t : Nat} {cs : Array Value} (h : Blk w p t cs) (hg : Gr [gm, gz] w w') (hm : ∃ es c, w.heap[gm]? = some (.map es c)) (hz : p ≠ gz) : Blk w' p t cs := by
  refine (hg.2.2.2.2 p h.lt fun hh => ?_).trans h
  rcases List.mem_cons.1 hh with e | hh
  · obtain ⟨es, c, hm⟩ := hm
    unfold Blk at h
    rw [e, hm] at h; cases h
  · exact hz (List.mem_singleton.1 hh)
theorem sl_gr {w w' : World} {gm gz B s n : Nat} {A : Option Addr} {xs : List Value} (h : Sl w B s A n xs) (hg : Gr [gm, gz] w w') (hm : ∃ es c, w.heap[gm]? = some (.map es c)) (hz : B ≤ gz) (hB : B ≤ w.heap.size) : Sl w' B s A n xs :=
  ⟨h.1, fun hn => by
    obtain ⟨b, off, e, hb, hc⟩ := h.2 hn
    refine ⟨b, off, e, hb, fun j u hu => ?_⟩
    have hcell := hc j u hu
    refine (World.cell?_of_block (hg.2.2.2.2 b (by omega) fun hh => ?_)).trans hcell
    rcases List.mem_cons.1 hh with e' | hh
    · obtain ⟨es, c, hm⟩ := hm
      have e' : b = gm := e'
      simp [World.cell?, e', hm] at hcell
    · have := List.mem_singleton.1 hh
      have : b = gz := this
      omega⟩
def sF (ws : List (Int × Int)) (i : Nat) : Nat := (ws.getD i (0, 0)).1.toNat
def mF (ws : List (Int × Int)) (i : Nat) : Nat := (ws.getD i (0, 0)).2.toNat
structure Fx (W : World) (B1 gm gz p2 p3 p4 p5 g : Nat) (S M : Int) (A : Option Addr) (n c : Nat) (L : List Nat) (Aw : Option Addr) (k cw gh : Nat) (ws : List (Int × Int)) : Prop where
  b2 : Blk W p2 34 #[.slice A n c]
  b3 : Blk W p3 56 #[.pointer (some ⟨g, 0, none⟩)]
  b4 : Blk W p4 59 #[.map (some gm)]
  b5 : Blk W p5 105 #[.func (.func 71) #[] #[.pointer (some ⟨p2, 0, none⟩), .pointer (some ⟨p3, 0, none⟩), .pointer (some ⟨p4, 0, none⟩), .pointer (some ⟨p5, 0, none⟩)]]
  lt : p2 < B1 ∧ p3 < B1 ∧ p4 < B1 ∧ p5 < B1 ∧ g < B1
  l : InS W B1 A n (toI L)
  d : Blk W g 104 #[.int .i64 S, .int .i64 M, .slice Aw k cw, .map (some gh)]
  w : WtS W B1 Aw k ws
  z : B1 ≤ gz
theorem Fx.gr {W W' : World} {B1 gm gz p2 p3 p4 p5 g : Nat} {S M : Int} {A : Option Addr} {n c : Nat} {L : List Nat} {Aw : Option Addr} {k cw gh : Nat} {ws : List (Int × Int)} (h : Fx W B1 gm gz p2 p3 p4 p5 g S M A n c L Aw k cw gh ws) (hg : Gr [gm, gz] W W') (hm : ∃ es c, W.heap[gm]? = some (.map es c)) (hz : B1 ≤ W.heap.size) : Fx W' B1 gm gz p2 p3 p4 p5 g S M A n c L Aw k cw gh ws := by
  obtain ⟨l2, l3, l4, l5, lg⟩ := h.lt
  have hz1 := h.z
  exact ⟨blk_gr h.b2 hg hm (by omega), blk_gr h.b3 hg hm (by omega), blk_gr h.b4 hg hm (by omega), blk_gr h.b5 hg hm (by omega), h.lt, sl_gr h.l hg hm hz1 hz, blk_gr h.d hg hm (by omega), sl_gr h.w hg hm hz1 hz, hz1⟩
def zA (N : Nat) (z : Nat → Bool) : Array Value := ((List.range N).map fun m => Value.int .i64 (if z m = true then 1 else 0)).toArray
def SeenW (W : World) (gz N : Nat) (z : Nat → Bool) : Prop := Blk W gz 3 (zA N z)
theorem zA_at {N m : Nat} {z : Nat → Bool} (h : m < N) : (zA N z)[m]? = some (.int .i64 (if z m = true then 1 else 0)) := by
  unfold zA
  simp [h]
theorem zA_put {N m : Nat} {z : Nat → Bool} (h : m < N) : (zA N z).setIfInBounds m (.int .i64 1) = zA N (upB z m) := by
  refine Array.ext_getElem? fun j => ?_
  by_cases hj : j < N
  · rw [zA_at hj]
    by_cases e : m = j
    · subst e
      rw [Array.getElem?_setIfInBounds_self_of_lt (by simp [zA]; exact h), upB_self]; rfl
    · rw [Array.getElem?_setIfInBounds_ne e, zA_at hj, upB_ne (Ne.symm e)]
  · have h1 : (zA N (upB z m)).size = N := by simp [zA]
    have h2 : (zA N z).size = N := by simp [zA]
    rw [Array.getElem?_eq_none (by simp [h2]; omega), Array.getElem?_eq_none (by omega)]
theorem SeenW.put {W : World} {gz N m : Nat} {z : Nat → Bool} (h : SeenW W gz N z) (hm : m < N) : SeenW (W.setCell ⟨gz, m, none⟩ (.int .i64 1)) gz N (upB z m) := by
  have := Blk.set_ h m (.int .i64 1)
  unfold SeenW
  rw [← zA_put hm]; exact this
end Go.Proofs.YtdgllpcfmkjfhaaGreat.Bl
/- Walks: mould: the search for a shop's mould, by itself. -/
namespace Go.Proofs.YtdgllpcfmkjfhaaGreat.Bl
open Go.RowKit Go.Shelf Go.WideMaps
attribute [local go_sem] Oper.semAt_some
theorem toI_at {L : List Nat} {j : Nat} {x : Int} (h : (toI L)[j]? = some x) : ∃ i : Nat, L[j]? = some i ∧ x = (i : Int) := by
  unfold toI at h
  rw [List.getElem?_map] at h
  cases hi : L[j]? with
  | none => rw [hi] at h; cases h
  | some i => rw [hi] at h; exact ⟨i, rfl, (Option.some.inj h).symm⟩
theorem drop_step {L : List Nat} {j i : Nat} (h : L[j]? = some i) : L.drop j = i :: L.drop (j + 1) := by
  obtain ⟨hj, e⟩ := List.getElem?_eq_some_iff.1 h
  rw [List.drop_eq_getElem_cons hj, e]
theorem go_skip {S M : Nat → Nat} {rec : Nat → By → (Nat → Bool) → Bool × By × (Nat → Bool)} {s i : Nat} {l : List Nat} {b : By} {z : Nat → Bool} (h : S i ≠ s ∨ z (M i) = true) : seekGo S M rec s (i :: l) b z = seekGo S M rec s l b z := by
  rw [seekGo, if_pos h]
theorem go_free {S M : Nat → Nat} {rec : Nat → By → (Nat → Bool) → Bool × By × (Nat → Bool)} {s i : Nat} {l : List Nat} {b : By} {z : Nat → Bool} (h1 : S i = s) (h2 : z (M i) = false) (h3 : b (M i) = none) : seekGo S M rec s (i :: l) b z = (true, upO b (M i) (some i), upB z (M i)) := by
  rw [seekGo, if_neg (by rw [h2]; simp [h1]), h3]
theorem go_had {S M : Nat → Nat} {rec : Nat → By → (Nat → Bool) → Bool × By × (Nat → Bool)} {s i o : Nat} {l : List Nat} {b b2 : By} {z z2 : Nat → Bool} {v : Bool} (h1 : S i = s) (h2 : z (M i) = false) (h3 : b (M i) = some o) (h4 : rec (S o) b (upB z (M i)) = (v, b2, z2)) :
    seekGo S M rec s (i :: l) b z = if v = true then (true, upO b2 (M i) (some i), z2) else seekGo S M rec s l b2 z2 := by
  rw [seekGo, if_neg (by rw [h2]; simp [h1]), h3]
  simp only
  rw [h4]
  cases v <;> rfl
set_option maxRecDepth 100000 in
set_option maxHeartbeats 16000000 in
theorem seek_rec (B1 gm gz p2 p3 p4 p5 g : Nat) (S M : Int) (A : Option Addr) (n c : Nat) (L : List Nat) (Aw : Option Addr) (k cw gh : Nat) (ws : List (Int × Int)) (N : Nat) (hn : n ≤ 1000000) (hN : N ≤ 1000) (hk : k ≤ 1000000) (hL : ∀ i ∈ L, i < k) (hM : ∀ i ∈ L, mF ws i < N) (hws : ∀ x ∈ ws, (0 ≤ x.1 ∧ x.1 ≤ 1000) ∧ 0 ≤ x.2) :
    ∀ (f s : Nat) (b : By) (z : Nat → Bool) (W : World), un N z < f → s ≤ 1000 → (∀ m o, b m = some o → o < k) → Fx W B1 gm gz p2 p3 p4 p5 g S M A n c L Aw k cw gh ws → ByW W gm N b → SeenW W gz N z →
      Calls Tryz.prog 71 #[.int .i64 (s : Int), .slice (some ⟨gz, 0, none⟩) N N, .pointer (some ⟨p2, 0, none⟩), .pointer (some ⟨p3, 0, none⟩), .pointer (some ⟨p4, 0, none⟩), .pointer (some ⟨p5, 0, none⟩)] W fun e W' =>
        e = .returned (.bool (seekP (sF ws) (mF ws) L f s b z).1) ∧ Gr [gm, gz] W W' ∧ ByW W' gm N (seekP (sF ws) (mF ws) L f s b z).2.1 ∧ SeenW W' gz N (seekP (sF ws) (mF ws) L f s b z).2.2 := by
  intro f
  induction f with
  | zero => intro s b z W hu; omega
  | succ f ih =>
    intro s b z W hu hs hbk hF hB hZ
    obtain ⟨R, hR⟩ : ∃ R, seekP (sF ws) (mF ws) L (f + 1) s b z = R := ⟨_, rfl⟩
    have hR0 : Hid (seekGo (sF ws) (mF ws) (seekP (sF ws) (mF ws) L f) s (L.drop 0) b z = R) := hid (by rw [List.drop_zero]; exact hR)
    rw [hR]
    have IH := hid ih
    have HF := hid hF
    have HB := hid hB
    have HZ := hid hZ
    have HL := hid hL
    have HM := hid hM
    have HWS := hid hws
    have HU := hid hu
    have HBK := hid hbk
    have hlen : Hid (L.length = n) := hid (by have := hF.l.len; unfold toI at this; simpa using this)
    have c2 := hF.b2.cell 0
    have l2 := hF.b2.lt
    clear ih hF hB hZ hL hM hws hu hbk hR
    go_enter Tryz.func71, Tryz.ntmps71
    go_wp2
    clear c2 l2
    go_loopw [16] (fun iv wr => ∃ (j : Nat) (bj : By) (zj : Nat → Bool), j ≤ n ∧ iv = .int .i64 j ∧ Hid (seekGo (sF ws) (mF ws) (seekP (sF ws) (mF ws) L f) s (L.drop j) bj zj = R) ∧ Hid (un N zj < f + 1) ∧ Hid (∀ m o, bj m = some o → o < k) ∧ Hid (Fx wr B1 gm gz p2 p3 p4 p5 g S M A n c L Aw k cw gh ws) ∧ Hid (ByW wr gm N bj) ∧ Hid (SeenW wr gz N zj) ∧ Hid (Gr [gm, gz] W wr)) (fun iv _ => n - (intOf iv).toNat)
    case atStart => exact ⟨0, b, z, by omega, rfl, hR0, HU, HBK, HF, HB, HZ, hid (Gr.refl _ _)⟩
    case round =>
      clear HF HB HZ HU hR0 HBK
      obtain ⟨j, bj, zj, hj, rfl, hgo, hu, hbk, hF, hB, hZ, hgr⟩ := hrel
      by_cases hlt : j < n
      · obtain ⟨bA, oA, x, rfl, hbA, hx, cA⟩ := hF.out.l.at_ hlt
        obtain ⟨i, hi, rfl⟩ := toI_at hx
        have hiL : i ∈ L := List.mem_of_getElem? hi
        have hik := HL.out i hiL
        obtain ⟨bW, oW, p, q, rfl, hbW, hw, cW0, cW1⟩ := hF.out.w.at_ hik
        obtain ⟨⟨hp0, hp1⟩, hq0⟩ := HWS.out (p, q) (List.mem_of_getElem? hw)
        obtain ⟨sh, rfl⟩ : ∃ sh : Nat, p = sh := ⟨p.toNat, by omega⟩
        obtain ⟨mo, rfl⟩ : ∃ mo : Nat, q = mo := ⟨q.toNat, by have : 0 ≤ q := hq0; omega⟩
        have hsh : Hid (sF ws i = sh) := hid (by unfold sF; rw [getD_of hw]; simp)
        have hmo : Hid (mF ws i = mo) := hid (by unfold mF; rw [getD_of hw]; simp)
        have hmoN : mo < N := by have := HM.out i hiL; rw [hmo.out] at this; exact this
        have Hgo := hid (show seekGo (sF ws) (mF ws) (seekP (sF ws) (mF ws) L f) s (i :: L.drop (j + 1)) bj zj = R by rw [← drop_step hi]; exact hgo.out)
        clear hgo
        have Hi := hid hiL
        have hlti : (j : Int) < n := by omega
        have hiki : (i : Int) < k := by omega
        have c3 := hF.out.b3.cell 0
        have c4 := hF.out.b4.cell 0
        have c5 := hF.out.b5.cell 0
        have cd := hF.out.d.cell 2
        have cz := (Blk.cell hZ.out mo).trans (zA_at hmoN)
        have fz := Blk.frozen hZ.out mo
        have l3 := hF.out.b3.lt
        have l4 := hF.out.b4.lt
        have l5 := hF.out.b5.lt
        have lg := hF.out.d.lt
        have lz := Blk.lt hZ.out
        have hz1 := hF.out.z
        have lW : bW < wr.heap.size := by omega
        have lA : bA < wr.heap.size := by omega
        clear hi hx hw hp0 hp1 hq0 hiL hbA hbW
        have hmoi : (mo : Int) < N := by omega
        by_cases h1 : sh = s
        · subst h1
          cases hz : zj mo
          · rw [hz] at cz
            simp only [Bool.false_eq_true, if_false] at cz
            have Hz := hid hz
            obtain ⟨W5, hW5⟩ : ∃ W5, (wr.alloc (.cells #[.int .i64 (sh : Int), .int .i64 (mo : Int)] 33)).setCell ⟨gz, mo, none⟩ (.int .i64 1) = W5 := ⟨_, rfl⟩
            have hgr5 : Gr [gm, gz] wr W5 := by rw [← hW5]; exact (Gr.below ((Below.refl _ _).alloc (Nat.le_refl _) _)).trans (Gr.set (by simp) _)
            have hZ5 : Hid (SeenW W5 gz N (upB zj mo)) := hid (by rw [← hW5]; exact SeenW.put (Blk.alloc hZ.out _) hmoN)
            have hne : gm ≠ gz := fun e => by
              obtain ⟨es, cc, hm⟩ := hB.out.isMap
              have := hZ.out
              unfold SeenW Blk at this
              rw [← e, hm] at this; cases this
            have hB5 : Hid (ByW W5 gm N bj) := hid (by rw [← hW5]; exact (hB.out.below ((Below.refl _ _).alloc (Nat.le_refl _) _)).kept (Below.heap_setCell _ _ _ _ hne))
            have hF5 := hid (hF.out.gr hgr5 hB.out.isMap (by omega))
            have hlk := look_by hB5.out hmoN (by omega)
            have q3 := hF5.out.b3.cell 0
            have q4 := hF5.out.b4.cell 0
            have q5 := hF5.out.b5.cell 0
            have qd := hF5.out.d.cell 2
            have m3 := hF5.out.b3.lt
            have m4 := hF5.out.b4.lt
            have m5 := hF5.out.b5.lt
            have mg := hF5.out.d.lt
            have BE : Hid (Blk W5 wr.heap.size 33 #[.int .i64 (sh : Int), .int .i64 (mo : Int)]) := hid (by rw [← hW5]; exact (Blk.new' rfl).far (by simp; omega) _)
            have e1 := BE.out.cell 1
            have le := BE.out.lt
            clear hz
            cases hb : bj mo with
            | none =>
              rw [hb] at hlk
              simp only [Option.getD_none, Option.isSome_none] at hlk
              have hR : Hid (R = (true, upO bj mo (some i), upB zj mo)) := hid (by rw [← Hgo.out, go_free hsh.out (by rw [hmo.out]; exact Hz.out) (by rw [hmo.out]; exact hb), hmo.out])
              go_wp2
              refine wp_region_hd 14 (fun W => Below W5.heap.size W5 W) (by kernel_rfl) (by kernel_rfl) ((Below.refl _ _).drew) ?_
              iterate 3 (refine wpHd_val (v := ?_) (by rfl) (fun W hW => ?_) ?_; rotate_left; (· obtain ⟨hcW, hfW⟩ := bcell hW; go_simp; with_reducible rfl); simp only [Act.put, List.setIfInBounds_toArray, List.set_cons_zero, List.set_cons_succ])
              iterate 11 (refine wpHd_not (by rfl) ?_; simp only [Act.put, List.setIfInBounds_toArray, List.set_cons_zero, List.set_cons_succ])
              refine wpHd_nil ?_
              intro W9 hW9
              have r4 : W9.cell? ⟨p4, 0, none⟩ = some (.map (some gm)) := (hW9.cell (p := ⟨p4, 0, none⟩) m4).trans q4
              have re : W9.cell? ⟨wr.heap.size, 1, none⟩ = some (.int .i64 (mo : Int)) := (hW9.cell (p := ⟨wr.heap.size, 1, none⟩) le).trans e1
              have s4 := Nat.lt_of_lt_of_le m4 hW9.size
              have se := Nat.lt_of_lt_of_le le hW9.size
              obtain ⟨D, hown, hh⟩ := hB5.out.below hW9
              have Hown := hid hown
              have Hh := hid hh
              have HgrW : Hid (Gr [gm, gz] W W9) := hid (hgr.out.trans (hgr5.trans (Gr.below hW9)))
              have HZ9 : Hid (SeenW W9 gz N (upB zj mo)) := hid (Blk.below hZ5.out hW9 (Blk.lt hZ5.out))
              clear hown hh hW9 q3 q4 q5 qd m3 m4 m5 mg e1 le hlk c3 c4 c5 cd cz fz l3 l4 l5 lg lz cA cW0 cW1 hW5 hgr5
              go_wp2_with (at_mapUpdate; refine wpList_mapUpdate_own _ rfl _ _ _ 59 rfl 3 3 KI underMI _ gm N D rfl Hown.out (by unfold maxLen; omega) _ _ (kI mo) rfl rfl (key_kI (by omega)) _ [] (plainElem_int underI' (wfI (by omega))) ?_; intro W3 hmap3 hgr3)
              refine bodyPost_ret (v := .bool true) (by first | (simp [results, Tryz.results71, go_sem]; done) | (simp [results, Tryz.results71, go_sem, *]; done) | (simp [results, Tryz.results71, go_sem, World.cell?_setCell_same', *]; done) | (simp [results, Tryz.results71, go_sem]; first | exact ⟨rfl, rfl⟩ | rfl)) rfl ⟨by rw [hR.out], HgrW.out.trans (Gr.grown hgr3 (by simp)), by rw [hR.out]; exact ByW.put hmoN (by omega) Hh.out hmap3, by rw [hR.out]; exact Blk.grown HZ9.out hgr3 (fun e => hne (Option.some.inj e).symm)⟩
            | some o =>
              rw [hb] at hlk
              simp only [Option.getD_some, Option.isSome_some] at hlk
              have hok := hbk.out mo o hb
              obtain ⟨bW', oW', p', q', hA', -, hw', d0, -⟩ := hF5.out.w.at_ hok
              cases hA'
              obtain ⟨⟨hp0, hp1⟩, -⟩ := HWS.out (p', q') (List.mem_of_getElem? hw')
              obtain ⟨so, rfl⟩ : ∃ so : Nat, p' = so := ⟨p'.toNat, by omega⟩
              have hso : Hid (sF ws o = so) := hid (by unfold sF; rw [getD_of hw']; simp)
              have hsoi : so ≤ 1000 := by have : (so : Int) ≤ 1000 := hp1; omega
              have hoki : (o : Int) < k := by omega
              have lW5 : bW < W5.heap.size := by have := hgr5.size; omega
              have hun : Hid (un N (upB zj mo) < f) := hid (by
                have := un_lt (N := N) (z := zj) (z' := upB zj mo) (fun m h => upB_le h) hmoN Hz.out (upB_self _ _)
                have := hu.out
                omega)
              obtain ⟨r, hr⟩ : ∃ r, seekP (sF ws) (mF ws) L f so bj (upB zj mo) = r := ⟨_, rfl⟩
              obtain ⟨v, b2, z2⟩ := r
              have Hr := hid hr
              have hhad := hid (go_had (S := sF ws) (M := mF ws) (rec := seekP (sF ws) (mF ws) L f) (s := sh) (i := i) (l := L.drop (j + 1)) (b := bj) (z := zj) (o := o) (b2 := b2) (z2 := z2) (v := v) hsh.out (by rw [hmo.out]; exact Hz.out) (by rw [hmo.out]; exact hb) (by rw [hso.out, hmo.out]; exact hr))
              have hzW : gz < wr.heap.size := lz
              have hmW : gm < wr.heap.size := hB.out.lt
              clear hw' hp0 hp1 hr hb
              go_wp2
              refine wp_region_hd 14 (fun W => Below W5.heap.size W5 W) (by kernel_rfl) (by kernel_rfl) ((Below.refl _ _).drew) ?_
              iterate 14 (refine wpHd_val (v := ?_) (by rfl) (fun W hW => ?_) ?_; rotate_left; (· obtain ⟨hcW, hfW⟩ := bcell hW; go_simp; with_reducible rfl); simp only [Act.put, List.setIfInBounds_toArray, List.set_cons_zero, List.set_cons_succ])
              refine wpHd_nil ?_
              intro W9 hW9
              have hm5' := hB5.out.isMap
              have hz5s : gz ≤ W5.heap.size := by have := hgr5.size; omega
              have Hg9 : Hid (Gr [gm, gz] W5 W9) := hid (Gr.below hW9)
              have hF9 := hid (hF5.out.gr Hg9.out hm5' (by omega))
              have hB9 := hid (hB5.out.below hW9)
              have HZ9 : Hid (SeenW W9 gz N (upB zj mo)) := hid (Blk.below hZ5.out hW9 (Blk.lt hZ5.out))
              have BE9 := hid (BE.out.below hW9 le)
              have hrec := IH.out so bj (upB zj mo) W9 hun.out hsoi hbk.out hF9.out hB9.out HZ9.out
              rw [Hr.out] at hrec
              have HgrW : Hid (Gr [gm, gz] W W9) := hid (hgr.out.trans (hgr5.trans Hg9.out))
              have hz9s : gz ≤ W9.heap.size := by have := hW9.size; omega
              clear hW9 q3 q4 q5 qd m3 m4 m5 mg e1 le hlk c3 c4 c5 cd cz fz l3 l4 l5 lg lz cA cW0 cW1 hW5 hgr5 d0 lW5 hm5' hz5s
              cases v
              · simp only [Bool.false_eq_true, if_false] at hhad
                obtain ⟨hfail, -⟩ := seek_false (S := sF ws) (M := mF ws) (L := L) HM.out f so bj (upB zj mo) b2 z2 hun.out Hr.out
                have hb2 := hfail.same
                have hu2 : Hid (un N z2 < f + 1) := hid (by have := un_le (N := N) hfail.le; have := hun.out; omega)
                have hstep := hid (hhad.out.symm.trans Hgo.out)
                have hbk2 : Hid (∀ m o, b2 m = some o → o < k) := hid (by rw [hb2]; exact hbk.out)
                clear hfail hb2
                have HgrX0 := HgrW
                go_wp2_with (fail)
                refine hrec.mono ?_
                rintro e W10 ⟨rfl, hg10, hB10, hZ10⟩
                clear hrec
                go_wp2
                exact ⟨⟨j + 1, b2, z2, by omega, by go_num, hstep, hu2, hbk2, hid (hF9.out.gr hg10 hB9.out.isMap (by omega)), hid hB10, hid hZ10, hid (HgrW.out.trans hg10)⟩, by simp [intOf]; omega⟩
              · simp only [if_true] at hhad
                have hR : Hid (R = (true, upO b2 mo (some i), z2)) := hid (by rw [← Hgo.out, hhad.out, hmo.out])
                go_wp2_with (fail)
                refine hrec.mono ?_
                rintro e W10 ⟨rfl, hg10, hB10, hZ10⟩
                have hF10 := hF9.out.gr hg10 hB9.out.isMap (by omega)
                have BE10 := blk_gr BE9.out hg10 hB9.out.isMap (by omega)
                have r4 := hF10.b4.cell 0
                have s4 := hF10.b4.lt
                have re := BE10.cell 1
                have se := BE10.lt
                obtain ⟨D, hown, hh⟩ := hB10
                have Hown := hid hown
                have Hh := hid hh
                have HZ10 := hid hZ10
                have HgrX : Hid (Gr [gm, gz] W W10) := hid (HgrW.out.trans hg10)
                clear hown hh hZ10 hg10 hF10 BE10 hrec
                go_wp2_with (at_mapUpdate; refine wpList_mapUpdate_own _ rfl _ _ _ 59 rfl 3 3 KI underMI _ gm N D rfl Hown.out (by unfold maxLen; omega) _ _ (kI mo) rfl rfl (key_kI (by omega)) _ [] (plainElem_int underI' (wfI (by omega))) ?_; intro W3 hmap3 hgr3)
                refine bodyPost_ret (v := .bool true) (by first | (simp [results, Tryz.results71, go_sem]; done) | (simp [results, Tryz.results71, go_sem, *]; done) | (simp [results, Tryz.results71, go_sem, World.cell?_setCell_same', *]; done) | (simp [results, Tryz.results71, go_sem]; first | exact ⟨rfl, rfl⟩ | rfl)) rfl ⟨by rw [hR.out], HgrX.out.trans (Gr.grown hgr3 (by simp)), by rw [hR.out]; exact ByW.put hmoN (by omega) Hh.out hmap3, by rw [hR.out]; exact Blk.grown HZ10.out hgr3 (fun e => hne (Option.some.inj e).symm)⟩
          · rw [hz] at cz
            simp only [if_true] at cz
            have hstep := hid ((go_skip (S := sF ws) (M := mF ws) (rec := seekP (sF ws) (mF ws) L f) (s := sh) (i := i) (l := L.drop (j + 1)) (b := bj) (z := zj) (.inr (by rw [hmo.out]; exact hz))).symm.trans Hgo.out)
            clear hz
            go_wp2
            have hgr1 : Gr [gm, gz] wr (wr.alloc (.cells #[.int .i64 (sh : Int), .int .i64 (mo : Int)] 33)) := Gr.below ((Below.refl _ _).alloc (Nat.le_refl _) _)
            exact ⟨⟨j + 1, bj, zj, by omega, by go_num, hstep, hu, hbk, hid (hF.out.gr hgr1 hB.out.isMap (by omega)), hid (hB.out.below ((Below.refl _ _).alloc (Nat.le_refl _) _)), hid (Blk.alloc hZ.out _), hid (hgr.out.trans hgr1)⟩, by simp [intOf]; omega⟩
        · have h1i : ¬ (sh : Int) = s := by omega
          have hstep := hid ((go_skip (S := sF ws) (M := mF ws) (rec := seekP (sF ws) (mF ws) L f) (s := s) (i := i) (l := L.drop (j + 1)) (b := bj) (z := zj) (.inl (by rw [hsh.out]; exact h1))).symm.trans Hgo.out)
          go_wp2
          have hgr1 : Gr [gm, gz] wr (wr.alloc (.cells #[.int .i64 (sh : Int), .int .i64 (mo : Int)] 33)) := Gr.below ((Below.refl _ _).alloc (Nat.le_refl _) _)
          exact ⟨⟨j + 1, bj, zj, by omega, by go_num, hstep, hu, hbk, hid (hF.out.gr hgr1 hB.out.isMap (by omega)), hid (hB.out.below ((Below.refl _ _).alloc (Nat.le_refl _) _)), hid (Blk.alloc hZ.out _), hid (hgr.out.trans hgr1)⟩, by simp [intOf]; omega⟩
      · obtain rfl : j = n := by omega
        have hf : Hid (R = (false, bj, zj)) := hid (by
          have := hgo.out
          rw [List.drop_of_length_le (by rw [hlen.out]; exact Nat.le_refl _)] at this
          exact this.symm)
        go_wp2
        refine bodyPost_ret (v := .bool false) (by first | (simp [results, Tryz.results71, go_sem]; done) | (simp [results, Tryz.results71, go_sem, *]; done) | (simp [results, Tryz.results71, go_sem, World.cell?_setCell_same', *]; done) | (simp [results, Tryz.results71, go_sem]; first | exact ⟨rfl, rfl⟩ | rfl)) rfl ⟨by rw [hf.out], hgr.out, by rw [hf.out]; exact hB.out, by rw [hf.out]; exact hZ.out⟩
end Go.Proofs.YtdgllpcfmkjfhaaGreat.Bl
/- Walks: mould: as many wants as there can be of which no two clash. -/
namespace Go.Proofs.YtdgllpcfmkjfhaaGreat.Bl
open Go.RowKit Go.Shelf Go.WideMaps
attribute [local go_sem] Oper.semAt_some
@[go_sem] theorem run_store_fn (P : Program) (a : Addr) (f : Fn) (x y : Array Value) (m : Mode) (w : World) : (store a (.func f x y) m).run P w = stored P w a (.func f x y) m := run_store P w a _ m rfl
def MS (w0 : World) (gm p5 p3 g : Nat) (fv : Value) (M : Int) (W : World) : Prop :=
  Gr [gm] w0 W ∧ W.cell? ⟨p5, 0, none⟩ = some fv ∧ W.cell? ⟨p3, 0, none⟩ = some (.pointer (some ⟨g, 0, none⟩)) ∧ W.cell? ⟨g, 1, none⟩ = some (.int .i64 M) ∧ p5 < W.heap.size ∧ p3 < W.heap.size ∧ g < W.heap.size
theorem MS.ext {w0 : World} {gm p5 p3 g : Nat} {fv : Value} {M : Int} {X Y : World} (h : MS w0 gm p5 p3 g fv M X) (he : Below X.heap.size X Y) : MS w0 gm p5 p3 g fv M Y := by
  obtain ⟨h1, h2, h3, h4, l5, l3, lg⟩ := h
  exact ⟨h1.trans (Gr.below he), (he.cell (p := ⟨p5, 0, none⟩) l5).trans h2, (he.cell (p := ⟨p3, 0, none⟩) l3).trans h3, (he.cell (p := ⟨g, 1, none⟩) lg).trans h4, Nat.lt_of_lt_of_le l5 he.size, Nat.lt_of_lt_of_le l3 he.size, Nat.lt_of_lt_of_le lg he.size⟩
theorem zeros_z {N : Nat} (h : N ≤ 6) : madeCells (Value.int .i64 0).cells (N * 1) = zA N none0 := by
  rcases (by omega : N = 0 ∨ N = 1 ∨ N = 2 ∨ N = 3 ∨ N = 4 ∨ N = 5 ∨ N = 6) with rfl | rfl | rfl | rfl | rfl | rfl | rfl <;> kernel_rfl
theorem mk_seen {N : Nat} (h : N ≤ 6) (X : World) : (Instr.makeSlice 34 (.int .i64 (N : Int)) (.int .i64 (N : Int))).run Tryz.prog X = .ok (.slice (some ⟨X.heap.size, 0, none⟩) N N) (X.alloc (.cells (zA N none0) 3)) := by
  obtain ⟨i, hi, hz0, hz1, hz2⟩ := info_parts' infoI
  have := run_makeSlice (P := Tryz.prog) (w := X) 34 3 i (.int .i64 0) underL hi hz0 .i64 .i64 (N : Int) (N : Int) (by omega) (Int.le_refl _) (by rw [hz1]; omega) (by rw [hz2]; omega) (by omega)
  rw [this, hz1, Int.toNat_natCast, zeros_z h]
theorem Gr.weak {Ds Es : List Nat} {w w' : World} (h : Gr Ds w w') (hs : ∀ x ∈ Ds, x ∈ Es) : Gr Es w w' := ⟨h.1, h.2.1, h.2.2.1, h.2.2.2.1, fun r hr hn => h.2.2.2.2 r hr fun hh => hn (hs r hh)⟩
set_option maxRecDepth 100000 in
set_option maxHeartbeats 16000000 in
theorem match_any (g : Nat) (S N : Nat) (A : Option Addr) (n c : Nat) (L : List Nat) (Aw : Option Addr) (k cw gh : Nat) (ws : List (Int × Int)) (w : World) (hd : MDesk w g (S : Int) (N : Int) Aw k cw gh ws) (hl : InS w w.heap.size A n (toI L)) (hn : n ≤ 1000000) (hN : N ≤ 6) (hS6 : S ≤ 1000) (hk : k ≤ 1000000) (hL : ∀ i ∈ L, i < k) (hM : ∀ i ∈ L, mF ws i < N) (hws : ∀ x ∈ ws, (0 ≤ x.1 ∧ x.1 ≤ 1000) ∧ 0 ≤ x.2) :
    Calls Tryz.prog 26 #[.pointer (some ⟨g, 0, none⟩), .slice A n c] w fun e w' => ∃ gm, e = .returned (.map (some gm)) ∧ w.heap.size ≤ gm ∧ ByW w' gm N (matchP (sF ws) (mF ws) L N (List.range S)) ∧ Below w.heap.size w w' := by
  have HD := hid hd
  have HL := hid hl
  have HLk := hid hL
  have HM := hid hM
  have HWS := hid hws
  have hmm := @run_makeMap Tryz.prog
  have cd0 : w.cell? ⟨g, 0, none⟩ = some (.int .i64 (S : Int)) := hd.1.cell 0
  have lg := hd.1.lt
  obtain ⟨W1, hW1⟩ : ∃ W1, (((((w.alloc (.cells #[.pointer (some ⟨g, 0, none⟩)] 56)).alloc (.cells #[.slice A n c] 34)).alloc (.map #[] 0)).alloc (.cells #[.map (some (w.heap.size + 1 + 1))] 59)).alloc (.cells #[Value.func (.func 71) #[] #[.pointer (some ⟨w.heap.size + 1, 0, none⟩), .pointer (some ⟨w.heap.size, 0, none⟩), .pointer (some ⟨w.heap.size + 1 + 1 + 1, 0, none⟩), .pointer (some ⟨w.heap.size + 1 + 1 + 1 + 1, 0, none⟩)]] 105)) = W1 := ⟨_, rfl⟩
  have hb1 : Below w.heap.size w W1 := by rw [← hW1]; exact Below.alloc (Below.alloc (Below.alloc (Below.alloc (Below.alloc (Below.refl _ _) (Nat.le_refl _) _) (by simp) _) (by simp; omega) _) (by simp; omega) _) (by simp; omega) _
  have b3 : Blk W1 w.heap.size 56 #[.pointer (some ⟨g, 0, none⟩)] := by rw [← hW1]; exact ((((Blk.new' rfl).alloc _).alloc _).alloc _).alloc _
  have b2 : Blk W1 (w.heap.size + 1) 34 #[.slice A n c] := by rw [← hW1]; exact (((Blk.new' (by simp)).alloc _).alloc _).alloc _
  have b4 : Blk W1 (w.heap.size + 1 + 1 + 1) 59 #[.map (some (w.heap.size + 1 + 1))] := by rw [← hW1]; exact (Blk.new' (by simp)).alloc _
  have b5 : Blk W1 (w.heap.size + 1 + 1 + 1 + 1) 105 #[Value.func (.func 71) #[] #[.pointer (some ⟨w.heap.size + 1, 0, none⟩), .pointer (some ⟨w.heap.size, 0, none⟩), .pointer (some ⟨w.heap.size + 1 + 1 + 1, 0, none⟩), .pointer (some ⟨w.heap.size + 1 + 1 + 1 + 1, 0, none⟩)]] := by rw [← hW1]; exact Blk.new' (by simp)
  have hmap : W1.heap[w.heap.size + 1 + 1]? = some (.map #[] 0) := by
    rw [← hW1]
    refine (Below.heap_alloc _ _ _ (by simp)).trans ((Below.heap_alloc _ _ _ (by simp)).trans ?_)
    have := heap_alloc_new ((w.alloc (.cells #[.pointer (some ⟨g, 0, none⟩)] 56)).alloc (.cells #[.slice A n c] 34)) (.map #[] 0)
    simpa using this
  have hsz1 : W1.heap.size = w.heap.size + 5 := by rw [← hW1]; simp
  have hd1 := hd.below hb1
  have HF : Hid (∀ gz, w.heap.size + 5 ≤ gz → Fx W1 (w.heap.size + 5) (w.heap.size + 1 + 1) gz (w.heap.size + 1) w.heap.size (w.heap.size + 1 + 1 + 1) (w.heap.size + 1 + 1 + 1 + 1) g (S : Int) (N : Int) A n c L Aw k cw gh ws) := hid (fun gz hgz =>
    ⟨b2, b3, b4, b5, by omega, hl.below hb1 (by omega), hd1.1, by rw [← hsz1]; exact hd1.2, hgz⟩)
  have HB : Hid (ByW W1 (w.heap.size + 1 + 1) N (matchP (sF ws) (mF ws) L N (List.range 0))) := hid (ByW.new hmap)
  have hb1' := hid hb1
  have HLEN : Hid (w.heap.size + 5 ≤ W1.heap.size) := hid (by omega)
  have c3 : W1.cell? ⟨w.heap.size, 0, none⟩ = some (.pointer (some ⟨g, 0, none⟩)) := b3.cell 0
  have cd1 : W1.cell? ⟨g, 0, none⟩ = some (.int .i64 (S : Int)) := hd1.1.cell 0
  have l3 := b3.lt
  have lg1 := hd1.1.lt
  clear hd hl hL hM hws b2 b3 b4 b5 hmap hd1 hb1 hsz1
  go_enter Tryz.func26, Tryz.ntmps26
  go_wp2
  clear hW1 cd0 hmm c3 cd1 l3 lg1
  go_loopw [15] (fun iv wr => ∃ j : Nat, j ≤ S ∧ iv = .int .i64 j ∧ Hid (∀ gz, w.heap.size + 5 ≤ gz → Fx wr (w.heap.size + 5) (w.heap.size + 1 + 1) gz (w.heap.size + 1) w.heap.size (w.heap.size + 1 + 1 + 1) (w.heap.size + 1 + 1 + 1 + 1) g (S : Int) (N : Int) A n c L Aw k cw gh ws) ∧ Hid (ByW wr (w.heap.size + 1 + 1) N (matchP (sF ws) (mF ws) L N (List.range j))) ∧ Hid (w.heap.size + 5 ≤ wr.heap.size) ∧ Hid (Below w.heap.size w wr)) (fun iv _ => S - (intOf iv).toNat)
  case atStart => exact ⟨0, by omega, rfl, HF, HB, HLEN, hb1'⟩
  case round =>
    obtain ⟨j, hj, rfl, hF, hB, hLen, hbw⟩ := hrel
    clear HF HB HLEN hb1'
    by_cases hlt : j < S
    · have hlti : (j : Int) < S := by omega
      have hF0 := hF.out _ (Nat.le_refl _)
      have k5 := hF0.b5.cell 0
      have k3 : wr.cell? ⟨w.heap.size, 0, none⟩ = some (.pointer (some ⟨g, 0, none⟩)) := hF0.b3.cell 0
      have k1 : wr.cell? ⟨g, 1, none⟩ = some (.int .i64 (N : Int)) := hF0.d.cell 1
      have k5' : wr.cell? ⟨w.heap.size + 1 + 1 + 1 + 1, 0, none⟩ = some (Value.func (.func 71) #[] #[.pointer (some ⟨w.heap.size + 1, 0, none⟩), .pointer (some ⟨w.heap.size, 0, none⟩), .pointer (some ⟨w.heap.size + 1 + 1 + 1, 0, none⟩), .pointer (some ⟨w.heap.size + 1 + 1 + 1 + 1, 0, none⟩)]) := k5
      have l5 := hF0.b5.lt
      have l3 := hF0.b3.lt
      have lg := hF0.d.lt
      clear k5
      obtain ⟨fv, hfv⟩ : ∃ fv, Value.func (.func 71) #[] #[.pointer (some ⟨w.heap.size + 1, 0, none⟩), .pointer (some ⟨w.heap.size, 0, none⟩), .pointer (some ⟨w.heap.size + 1 + 1 + 1, 0, none⟩), .pointer (some ⟨w.heap.size + 1 + 1 + 1 + 1, 0, none⟩)] = fv := ⟨_, rfl⟩
      have hms := hid (show MS wr (w.heap.size + 1 + 1) (w.heap.size + 1 + 1 + 1 + 1) w.heap.size g fv (N : Int) wr from ⟨Gr.refl _ _, by rw [← hfv]; exact k5', k3, k1, l5, l3, lg⟩)
      clear k3 k1 k5' l5 l3 lg hF0
      go_wp2
      refine Sx.wp_region_el (MS wr (w.heap.size + 1 + 1) (w.heap.size + 1 + 1 + 1 + 1) w.heap.size g fv (N : Int)) (fun X Y h he => h.ext he) [0, 1, 2, 3, 4, 5, 6] 2 (by kernel_rfl) (by kernel_rfl) (hms.out.ext (Below.refl _ _).drew) ?_
      simp only [pick, List.getElem?_toArray, List.getElem?_cons_zero, List.getElem?_cons_succ]
      iterate 7 (refine Sx.wpE_val (v := ?_) (by rfl) (fun W hW => ?_) ?_; rotate_left; (· obtain ⟨-, h5W, h3W, h1W, l5W, l3W, lgW⟩ := hW; go_simp; with_reducible rfl); simp only [Act.put, List.setIfInBounds_toArray, List.set_cons_zero, List.set_cons_succ])
      simp only [Sx.wpE]
      (refine Sx.wpM_one 7 _ (by simp only [List.getElem?_toArray, List.getElem?_cons_zero, List.getElem?_cons_succ]; rfl) (by kernel_rfl) (by rfl) ?_)
      intro X hX hS
      subst hfv
      (go_simp; simp only [LUpon, Act.put]; try simp only [List.setIfInBounds_toArray, List.set_cons_zero, List.set_cons_succ])
      rw [mk_seen hN X]
      have hA := hS.ext (Below.alloc (Below.refl X.heap.size X) (Nat.le_refl _) (.cells (zA N none0) 3))
      refine ⟨hA, ?_⟩
      (refine Sx.wpM_one 8 _ (by simp only [List.getElem?_toArray, List.getElem?_cons_zero, List.getElem?_cons_succ]; rfl) (by kernel_rfl) (by rfl) ?_)
      intro X2 hX2 hS2
      (go_simp; simp only [LUpon, Act.put]; try simp only [List.setIfInBounds_toArray, List.set_cons_zero, List.set_cons_succ])
      have hXw : Below wr.heap.size wr X := ⟨hX.os, hX.tape, hX.output, hX.size, hX.block⟩
      have hXa : Below X.heap.size X X2 := (Below.alloc (Below.refl _ _) (Nat.le_refl _) _).trans (hX2.mono (by simp))
      have hbX : Below wr.heap.size wr X2 := hXw.trans (hXa.mono hXw.size)
      have hgz : w.heap.size + 5 ≤ X.heap.size := by have := hXw.size; have := hLen.out; omega
      have hF2 := (hF.out X.heap.size hgz).gr (Gr.below hbX) hB.out.isMap hLen.out
      have hB2 := hB.out.below hbX
      have hZ2 : SeenW X2 X.heap.size N none0 := Blk.below (Blk.new' rfl) hX2 (by simp)
      have hDone := matchP_done (S := sF ws) (N := N) HM.out j
      refine (seek_rec (w.heap.size + 5) (w.heap.size + 1 + 1) X.heap.size (w.heap.size + 1) w.heap.size (w.heap.size + 1 + 1 + 1) (w.heap.size + 1 + 1 + 1 + 1) g (S : Int) (N : Int) A n c L Aw k cw gh ws N hn (by omega) hk HLk.out HM.out HWS.out (N + 1) j (matchP (sF ws) (mF ws) L N (List.range j)) none0 X2 (by rw [un_none]; omega) (by omega) (fun m o ho => HLk.out o (hDone.mt.of m o ho).1) hF2 hB2 hZ2).mono ?_
      rintro e W9 ⟨rfl, hg9, hB9, -⟩
      have hF9 := hF2.gr hg9 hB2.isMap (by have := hbX.size; have := hLen.out; omega)
      have hGw : Gr [w.heap.size + 1 + 1] wr W9 := ⟨hg9.1.trans hbX.os, hg9.2.1.trans hbX.tape, hg9.2.2.1.trans hbX.output, Nat.le_trans hbX.size hg9.size, fun r hr hne => (hg9.2.2.2.2 r (Nat.lt_of_lt_of_le hr hbX.size) (fun hh => by
        rcases List.mem_cons.1 hh with e | hh
        · exact hne (by rw [e]; simp)
        · have e := List.mem_singleton.1 hh
          have := hXw.size
          omega)).trans (hbX.block r hr)⟩
      refine ⟨_, rfl, ⟨hGw, hF9.b5.cell 0, hF9.b3.cell 0, hF9.d.cell 1, hF9.b5.lt, hF9.b3.lt, hF9.d.lt⟩, Sx.wpM_end (by kernel_rfl) ?_⟩
      intro W8 hW8 hS8
      have hF8 := hF9.gr (Gr.below hW8) ⟨_, _, hB9.isMap.choose_spec.choose_spec⟩ (by have := hg9.size; have := hbX.size; have := hLen.out; omega)
      have HF8 : Hid (∀ gz, w.heap.size + 5 ≤ gz → Fx W8 (w.heap.size + 5) (w.heap.size + 1 + 1) gz (w.heap.size + 1) w.heap.size (w.heap.size + 1 + 1 + 1) (w.heap.size + 1 + 1 + 1 + 1) g (S : Int) (N : Int) A n c L Aw k cw gh ws) := hid (fun gz hz => ⟨hF8.b2, hF8.b3, hF8.b4, hF8.b5, hF8.lt, hF8.l, hF8.d, hF8.w, hz⟩)
      have HB8 : Hid (ByW W8 (w.heap.size + 1 + 1) N (matchP (sF ws) (mF ws) L N (List.range (j + 1)))) := hid (by
        have := hB9.below hW8
        unfold matchP
        rw [List.range_succ, List.foldl_append]
        exact this)
      have hL8 : Hid (w.heap.size + 5 ≤ W8.heap.size) := hid (by have := hW8.size; have := hGw.size; have := hLen.out; omega)
      have hb8 : Hid (Below w.heap.size w W8) := hid (hbw.out.trans (Below.trans ⟨hGw.1, hGw.2.1, hGw.2.2.1, hGw.size, fun r hr => hGw.2.2.2.2 r (by have := hbw.out.size; omega) (by simp; omega)⟩ (hW8.mono (by have := hGw.size; have := hbw.out.size; omega))))
      clear hXw hXa hbX hgz hF2 hB2 hZ2 hDone hg9 hB9 hF9 hGw hW8 hS8 hF8 hS hS2 hX hX2 hA hms
      go_wp2
      exact ⟨⟨j + 1, by omega, by go_num, HF8, HB8, hL8, hb8⟩, by simp [intOf]; omega⟩
    · obtain rfl : j = S := by omega
      have q4 := (hF.out _ (Nat.le_refl _)).b4.cell 0
      have l4 := (hF.out _ (Nat.le_refl _)).b4.lt
      go_wp2
      refine bodyPost_ret (v := .map (some (w.heap.size + 1 + 1))) (by first | (simp [results, Tryz.results26, go_sem]; done) | (simp [results, Tryz.results26, go_sem, *]; done) | (simp [results, Tryz.results26, go_sem, World.cell?_setCell_same', *]; done) | (simp [results, Tryz.results26, go_sem]; first | exact ⟨rfl, rfl⟩ | rfl)) rfl ⟨_, rfl, by omega, hB.out, hbw.out⟩
end Go.Proofs.YtdgllpcfmkjfhaaGreat.Bl
/- Walks: lists of numbers are cloned. -/
namespace Go.Proofs.YtdgllpcfmkjfhaaGreat.Bl
open Go.RowKit Go.Shelf
attribute [local go_sem] Oper.semAt_some
theorem eq_nilI (a : Addr) (n c : Nat) (W : World) : (binOp .eql 34 (.slice (some a) n c) (.slice none 0 0)).run Tryz.prog W = .ok (.bool false) W := by
  have h : ∀ d : Nat, (Op.equalIn (d + 1) 34 (.slice (some a) n c) (.slice none 0 0)).run Tryz.prog W = .ok false W := fun d => by
    unfold Op.equalIn
    simp only [Sem.run_bind, run_underlying underL, Result.andThen_ok]
    rfl
  simp only [binOp]
  simp [Op.equal, Op.maxDepth, h 9999]
set_option maxRecDepth 10000 in
theorem cloneI_any (w : World) (a : Addr) (n c : Nat) (l : List Int) (hl : InS w w.heap.size (some a) n l) (hn : n ≤ 400) :
    Calls Tryz.prog 28 #[.slice (some a) n c] w fun e w' => ∃ q cap, e = .returned (.slice (some ⟨q, 0, none⟩) n cap) ∧ w'.ownsRow w.heap.size 3 1 (.slice (some ⟨q, 0, none⟩) n cap) n (l.flatMap cI) ∧ Below w.heap.size w w' := by
  obtain ⟨i0, hi0, hi1, hi2, hi3⟩ := info_parts' infoI
  have I0 := hid hi0; have I1 := hid hi1; have I2 := hid hi2; have I3 := hid hi3
  clear hi0 hi1 hi2 hi3
  have hlen := hl.len
  have Hl := hid hl
  have hfl : (l.flatMap cI).length = n * 1 := hl.1
  rcases Nat.eq_zero_or_pos n with h0 | h0
  · subst h0
    have hl0 : l = [] := List.eq_nil_of_length_eq_zero hlen
    subst hl0
    have heq := eq_nilI a 0 c
    have hown : (w.alloc (.cells #[] 3)).ownsRow w.heap.size 3 1 (.slice (some ⟨w.heap.size, 0, none⟩) 0 0) 0 [] := ⟨rfl, .inr ⟨w.heap.size, 0, #[], rfl, Nat.le_refl _, heap_alloc_new w _, Nat.le_refl _, by unfold maxLen; omega, rfl, rfl⟩⟩
    have Hown := hid hown
    clear hl hfl hown
    go_enter Tryz.func28, Tryz.ntmps28
    go_wp2
    refine bodyPost_ret (v := .slice (some ⟨w.heap.size, 0, none⟩) 0 0) (by simp [results, Tryz.results28, go_sem]) rfl ⟨w.heap.size, 0, rfl, Hown.out, (Below.refl _ _).alloc (Nat.le_refl _) _⟩
  · obtain ⟨b, off, hA, hb, hc⟩ := hl.2 h0
    cases hA
    have heq := eq_nilI ⟨b, off, none⟩ n c
    go_enter Tryz.func28, Tryz.ntmps28
    go_wp2_with (at_builtin; refine wpList_append_cap rfl _ _ 34 rfl w.heap.size 3 i0 _ 1 8 underL I0.out I1.out I2.out I3.out rfl _ 0 [] rfl rfl (Or.inr ⟨_, rfl, fun j u hj => by simp at hj⟩) ⟨b, off, none⟩ n c (l.flatMap cI) rfl hfl (fun j u hu => by rw [add_at]; exact (World.cell?_alloc_lt _ _ _ hb).trans (hc j u hu)) h0 (by unfold maxLen; omega) (by omega) (by simp) ?_; intro cap w2 ho2 hg2 hz2)
    obtain ⟨g, cap', hv, hg, hlt⟩ := World.ownsRow.form ho2 (by omega)
    cases hv
    have ho3 := hid ho2
    clear ho2
    go_wp2
    refine bodyPost_ret (v := .slice (some ⟨w.heap.size + 1, 0, none⟩) n cap) (by simp [results, Tryz.results28, go_sem]) rfl ⟨w.heap.size + 1, cap, rfl, ?_, below_grown0 ((Below.refl _ _).alloc (Nat.le_refl _) _) hg2 (Nat.le_refl _)⟩
    have h9 := ho3.out
    rw [Nat.zero_add, World.size_alloc] at h9
    exact h9
end Go.Proofs.YtdgllpcfmkjfhaaGreat.Bl
/- Worlds that grew, but for one block. -/
namespace Go.Proofs.YtdgllpcfmkjfhaaGreat.Bl
open Go.RowKit
theorem grownM_trans {w X Y : World} {M : Nat} {row : Option Nat} (h : w.grownBy X (some M)) (hg : X.grownBy Y row) (hr : ∀ r, row = some r → w.heap.size ≤ r ∨ r = M) : w.grownBy Y (some M) :=
  ⟨hg.os.trans h.os, hg.tape.trans h.tape, hg.output.trans h.output, Nat.le_trans h.size hg.size, fun k hk hne => (hg.block k (Nat.lt_of_lt_of_le hk h.size) (fun e => by rcases hr k e.symm with h1 | h1; omega; exact hne (by rw [h1]))).trans (h.block k hk hne)⟩
theorem grownM_below {w X : World} {M : Nat} (h : Below w.heap.size w X) : w.grownBy X (some M) := ⟨h.os, h.tape, h.output, h.size, fun k hk _ => h.block k hk⟩
theorem grown_of_below' {X Y : World} (h : Below X.heap.size X Y) : X.grownBy Y none := ⟨h.os, h.tape, h.output, h.size, fun k hk _ => h.block k hk⟩
theorem grownM_then {w X Y : World} {M : Nat} (h : w.grownBy X (some M)) (hb : Below X.heap.size X Y) : w.grownBy Y (some M) := grownM_trans h (grown_of_below' hb) (fun _ e => by cases e)
theorem grownM_setCell {w X : World} {M g o : Nat} (h : w.grownBy X (some M)) (hg : w.heap.size ≤ g ∨ g = M) (u : Value) : w.grownBy (X.setCell ⟨g, o, none⟩ u) (some M) :=
  ⟨h.os, h.tape, h.output, by have := h.size; simpa [World.setCell] using this, fun k hk hne => (Below.heap_setCell _ _ _ _ (by simp only; rintro rfl; rcases hg with h | h; omega; exact hne (by rw [h]))).trans (h.block k hk hne)⟩
end Go.Proofs.YtdgllpcfmkjfhaaGreat.Bl
/- Walks: numbers are deleted from a list by a function. -/
namespace Go.Proofs.YtdgllpcfmkjfhaaGreat.Bl
open Go.RowKit Go.Shelf
attribute [local go_sem] Oper.semAt_some
set_option maxHeartbeats 800000 in
theorem idxFB_any (g : Nat) (cb : Array Value) (eg : ∀ args w, (callFunc g args).run Tryz.prog w = .ok (.enter g args) w) (p : Int → Bool) (A : Option Addr) (n c : Nat) (ls : List Int) (w : World) (hl : InS w w.heap.size A n ls) (hn : n ≤ 1000000) (hp : ∀ x ∈ ls, ∀ (W : World), Below w.heap.size w W → Calls Tryz.prog g (#[.int .i64 x] ++ cb) W fun e w' => e = .returned (.bool (p x)) ∧ Below W.heap.size W w') :
    Calls Tryz.prog 72 #[.slice A n c, .func (.func g) #[] cb] w fun e w' => e = .returned (.int .i64 (idxA p ls)) ∧ Below w.heap.size w w' := by
  have hlen := hid hl.len
  have HL := hid hl
  have HP := hid hp
  clear hp hl
  obtain ⟨iv, hiv⟩ : ∃ iv, idxA p ls = iv := ⟨_, rfl⟩
  have Hiv := hid hiv
  rw [hiv]
  clear hiv
  go_enter Tryz.func72, Tryz.ntmps72
  go_wp2
  go_loopw [8] (fun i wr => ∃ k : Nat, k ≤ n ∧ i = .int .i64 k ∧ Hid ((ls.take k).any p = false) ∧ Below w.heap.size w wr) (fun i _ => n - (intOf i).toNat)
  case atStart => exact ⟨0, by omega, rfl, hid (by simp), Below.refl _ _⟩
  case round =>
    obtain ⟨k, hk, rfl, hno, hbw⟩ := hrel
    have hszw := hbw.size
    by_cases hlt : k < n
    · obtain ⟨b, off, x, rfl, hb, hm, c0⟩ := (HL.out.below hbw hszw).at_ hlt
      have Hm := hid hm
      have hlti : (k : Int) < n := by omega
      have hc := HP.out x (List.mem_of_getElem? hm) wr hbw
      clear hm
      cases hx : p x
      · have Hs := hid (any_off hno.out Hm.out hx)
        rw [hx] at hc
        clear hx
        go_wp2_with (go_at_fn g; refine hc.mono ?_; rintro e w1 ⟨rfl, hb1⟩)
        exact ⟨⟨k + 1, by omega, by go_num, Hs, hbw.trans (hb1.mono hszw)⟩, by simp [intOf]; omega⟩
      · have Hf := hid (idxA_hit hno.out Hm.out hx)
        rw [hx] at hc
        clear hx
        go_wp2_with (go_at_fn g; refine hc.mono ?_; rintro e w1 ⟨rfl, hb1⟩)
        refine bodyPost_ret (v := .int .i64 k) (by first | (simp [results, Tryz.results72, go_sem]; done) | (simp [results, Tryz.results72, go_sem, *]; done) | (simp [results, Tryz.results72, go_sem, World.cell?_setCell_same', *]; done) | (simp [results, Tryz.results72, go_sem]; first | exact ⟨rfl, rfl⟩ | rfl)) rfl ⟨by rw [← Hiv.out, Hf.out], hbw.trans (hb1.mono hszw)⟩
    · obtain rfl : k = n := by omega
      have Hf : Hid (idxA p ls = -1) := hid (idxA_none (by have := hno.out; rwa [List.take_of_length_le (by rw [hlen.out]; exact Nat.le_refl _)] at this))
      go_wp2
      refine bodyPost_ret (v := .int .i64 (-1)) (by first | (simp [results, Tryz.results72, go_sem]; done) | (simp [results, Tryz.results72, go_sem, *]; done) | (simp [results, Tryz.results72, go_sem, World.cell?_setCell_same', *]; done) | (simp [results, Tryz.results72, go_sem]; first | exact ⟨rfl, rfl⟩ | rfl)) rfl ⟨by rw [← Hiv.out, Hf.out], hbw⟩

theorem filt_next {α : Type} {p : α → Bool} {l : List α} {k : Nat} {x : α} (h : l[k]? = some x) : (l.take (k + 1)).filter p = (l.take k).filter p ++ (if p x then [x] else []) := by
  rw [List.take_add_one, h, List.filter_append]
  congr 1
  cases hp : p x <;> simp [hp]
theorem zeroI_row (n : Nat) : (Builtin.zeroCells (Value.int .i64 0).cells n).toList = List.replicate n (Value.int .i64 0) := by
  have : (Value.int .i64 0).cells = #[Value.int .i64 0] := by rfl
  rw [this]
  simp [Builtin.zeroCells, Nat.mod_one, List.map_const']
theorem flatI_at {l : List Int} {k : Nat} : (l.flatMap cI)[k]? = l[k]?.map fun x => Value.int .i64 x := by
  have : l.flatMap cI = l.map fun x => Value.int .i64 x := by
    induction l with
    | nil => rfl
    | cons x l ih => rw [List.flatMap_cons, ih]; rfl
  rw [this, List.getElem?_map]
set_option maxRecDepth 10000 in
set_option maxHeartbeats 4000000 in
theorem delI_any (w0 w : World) (q n cap : Nat) (ls : List Int) (gf : Nat) (cb : Array Value) (eg : ∀ args w, (callFunc gf args).run Tryz.prog w = .ok (.enter gf args) w) (p : Int → Bool) (hp : ∀ x ∈ ls, ∀ (W : World), Below w0.heap.size w0 W → Calls Tryz.prog gf (#[.int .i64 x] ++ cb) W fun e w' => e = .returned (.bool (p x)) ∧ Below W.heap.size W w') (hbw : Below w0.heap.size w0 w) (ho : w.ownsRow w0.heap.size 3 1 (.slice (some ⟨q, 0, none⟩) n cap) n (ls.flatMap cI)) (hn : n ≤ 1000) :
    Calls Tryz.prog 27 #[.slice (some ⟨q, 0, none⟩) n cap, .func (.func gf) #[] cb] w fun e w' => ∃ n', e = .returned (.slice (some ⟨q, 0, none⟩) n' cap) ∧ InS w' w'.heap.size (some ⟨q, 0, none⟩) n' (ls.filter fun x => !p x) ∧ Below w0.heap.size w0 w' := by
  have hsz0 := hbw.size
  have hin : InS w w.heap.size (some ⟨q, 0, none⟩) n ls := Sl.of_own ho
  have hnl := hin.len
  obtain ⟨hvl, ⟨hx, -⟩ | ⟨q', cap', cur, e1, hq0, hgq, hnc, hcm, hcs, htk⟩⟩ := ho
  · cases hx
  cases e1
  have hq1 : q < w.heap.size := (Array.getElem?_eq_some_iff.1 hgq).1
  rw [Nat.mul_one] at hvl hcs htk
  have hat : ∀ k, k < n → ∃ x, ls[k]? = some x ∧ cur[k]? = some (.int .i64 x) := fun k hk => by
    have hx : ls[k]? = some (ls[k]'(by omega)) := List.getElem?_eq_getElem _
    refine ⟨_, hx, ?_⟩
    have h1 : (cur.toList.take n)[k]? = some (.int .i64 (ls[k]'(by omega))) := by rw [htk, flatI_at, hx]; rfl
    rw [List.getElem?_take_of_lt hk, Array.getElem?_toList] at h1
    exact h1
  have Hat := hid hat
  have HP := hid hp
  have Hgq : Hid (Blk w q 3 cur) := hid hgq
  have Hnl := hid hnl
  have Hin := hid hin
  have Hiz := hid (idxFB_any gf cb eg p (some ⟨q, 0, none⟩) n cap ls w hin (by omega) (fun x hx W hW => hp x hx W (hbw.trans (hW.mono hsz0))))
  clear hat hp hgq htk hnl hin hvl
  cases hany : ls.any p
  · have Hz := hid (idxA_none hany)
    have hf : Hid ((ls.filter fun x => !p x) = ls) := hid (List.filter_eq_self.2 fun x hx => by have := List.any_eq_false.1 hany x hx; simpa using this)
    clear hany
    go_enter Tryz.func27, Tryz.ntmps27
    go_wp2_with (go_at_call 72; refine (Hiz.out).mono ?_; rw [Hz.out]; rintro e w1 ⟨rfl, hb1⟩)
    refine bodyPost_ret (v := .slice (some ⟨q, 0, none⟩) n cap) (by first | (simp [results, Tryz.results27, go_sem]; done) | (simp [results, Tryz.results27, go_sem, *]; done) | (simp [results, Tryz.results27, go_sem, World.cell?_setCell_same', *]; done) | (simp [results, Tryz.results27, go_sem]; first | exact ⟨rfl, rfl⟩ | rfl)) rfl ⟨n, rfl, by rw [hf.out]; exact Hin.out.below hb1 hb1.size, hbw.trans (hb1.mono hsz0)⟩
  · obtain ⟨i0, hi0, hiz, hi1, hi2⟩ : ∃ i0, i0 < n ∧ idxA p ls = i0 ∧ (ls.take i0).any p = false ∧ (∀ x, ls[i0]? = some x → p x = true) := by
      cases h : ls.findIdx? p with
      | none =>
        rw [List.findIdx?_eq_none_iff] at h
        obtain ⟨x, hx, hpx⟩ := List.any_eq_true.1 hany
        rw [h x hx] at hpx; cases hpx
      | some i0 =>
        have h9 := h
        rw [List.findIdx?_eq_some_iff_getElem] at h9
        obtain ⟨k1, k2, k3⟩ := h9
        refine ⟨i0, by have := Hnl.out; omega, by unfold idxA; rw [h], ?_, fun x hx => ?_⟩
        · rw [List.any_eq_false]
          intro x hx
          obtain ⟨t, ht, hte⟩ := List.getElem_of_mem hx
          rw [List.getElem_take] at hte
          rw [List.length_take] at ht
          have := k3 t (by omega)
          rw [hte] at this
          exact this
        · obtain ⟨ht2, e⟩ := List.getElem?_eq_some_iff.1 hx
          rw [e] at k2
          exact k2
    have Hz := hid hiz
    have htk : (ls.take (i0 + 1)).filter (fun x => !p x) = ls.take i0 := by
      have hx : ls[i0]? = some (ls[i0]'(by have := Hnl.out; omega)) := List.getElem?_eq_getElem _
      rw [filt_next hx, hi2 _ hx]
      simp only [Bool.not_true, Bool.false_eq_true, if_false, List.append_nil]
      exact List.filter_eq_self.2 fun x hx => by have := List.any_eq_false.1 hi1 x hx; simpa using this
    have hst : i0 = ((ls.take (i0 + 1)).filter fun x => !p x).length := by
      rw [htk, List.length_take]
      have := Hnl.out
      omega
    have Hst := hid hst
    have Hcon : Hid (∀ t y, ((ls.take (i0 + 1)).filter fun x => !p x)[t]? = some y → cur[t]? = some (Value.int .i64 y)) := hid (fun t y hty => by
      rw [htk] at hty
      have ht : t < i0 := by
        have := (List.getElem?_eq_some_iff.1 hty).1
        rw [List.length_take] at this; omega
      rw [List.getElem?_take_of_lt ht] at hty
      obtain ⟨x, h1, h2⟩ := Hat.out t (by omega)
      rw [hty] at h1; cases h1
      exact h2)
    have z1 : IntKind.i64.wrap ((i0 : Int) + 1) = (i0 : Int) + 1 := IntWalk.i64_in _ (by omega)
    have hz2 : ¬ (i0 : Int) = -1 := by omega
    have hnni : ¬ i0 = cap := by omega
    clear hiz hi1 hi2 hany hst htk
    go_enter Tryz.func27, Tryz.ntmps27
    go_wp2_with (go_at_call 72; refine (Hiz.out).mono ?_; rw [Hz.out]; rintro e w1 ⟨rfl, hb1⟩)
    have hg1 : w.grownBy w1 (some q) := grownM_below hb1
    have B1 : Hid (Blk w1 q 3 cur) := hid (Hgq.out.below hb1 hq1)
    go_loopw [5, 6] (fun i j wr => ∃ (i' j' : Nat) (cu : Array Value), i' < j' ∧ j' ≤ n ∧ i = .int .i64 i' ∧ j = .int .i64 j' ∧ Hid (Blk wr q 3 cu) ∧ cu.size = cap ∧ Hid (i' = ((ls.take j').filter fun x => !p x).length) ∧ Hid (∀ (t : Nat) (y : Int), ((ls.take j').filter fun x => !p x)[t]? = some y → cu[t]? = some (Value.int .i64 y)) ∧ Hid (∀ t : Nat, j' ≤ t → t < n → cu[t]? = cur[t]?) ∧ w.grownBy wr (some q)) (fun _ j _ => n - (intOf j).toNat)
    case atStart =>
      exact ⟨i0, i0 + 1, cur, by omega, by omega, rfl, by go_num, B1, hcs, Hst, Hcon, hid (fun t _ _ => rfl), hg1⟩
    case round =>
      obtain ⟨i, j, cu, hij, hjn, rfl, rfl, hBq, hcu, hk1, hkc, hk2, hgw⟩ := hrel
      have hzw := hgw.size
      have hb0 : Below w0.heap.size w0 wr := hbw.grown hgw hsz0 (fun r hr => by cases hr; exact hq0)
      have hsz1 := hb0.size
      have lq : q < wr.heap.size := by omega
      by_cases hlt : j < n
      · obtain ⟨x, h3, h2⟩ := Hat.out j hlt
        have hlti : (j : Int) < n := by omega
        have hcj := (hBq.out.cell j).trans ((hk2.out j (Nat.le_refl _) hlt).trans h2)
        have zj : IntKind.i64.wrap ((j : Int) + 1) = (j : Int) + 1 := IntWalk.i64_in _ (by omega)
        have zi : IntKind.i64.wrap ((i : Int) + 1) = (i : Int) + 1 := IntWalk.i64_in _ (by omega)
        have hc := HP.out x (List.mem_of_getElem? h3) wr hb0
        have H3 := hid h3
        clear h2 h3
        cases hqv : p x
        all_goals
          rw [hqv] at hc
          have Hqv := hid hqv
          clear hqv
        · have hci : i < cu.size := by omega
          have hcell : cu[i]? = some cu[i] := Array.getElem?_eq_getElem hci
          go_wp2_with (go_at_fn gf; refine hc.mono ?_; rintro e w5 ⟨rfl, hb5⟩; have B5 : Blk w5 q 3 cu := hBq.out.below hb5 lq; have d5 := (B5.cell i).trans hcell; have f5 := B5.frozen i; have l5 := B5.lt)
          have B5 : Blk w5 q 3 cu := hBq.out.below hb5 lq
          have hgw5 := grownM_setCell (o := i) (grownM_then hgw hb5) (.inr rfl : w.heap.size ≤ q ∨ q = q) (.int .i64 x)
          have B6 := B5.set_ i (.int .i64 x)
          have hfn : ((ls.take (j + 1)).filter fun x => !p x) = ((ls.take j).filter fun x => !p x) ++ [x] := by rw [filt_next H3.out, Hqv.out]; rfl
          have hlen : Hid (i + 1 = ((ls.take (j + 1)).filter fun x => !p x).length) := hid (by rw [hfn, List.length_append, ← hk1.out]; rfl)
          have hcon : Hid (∀ t y, ((ls.take (j + 1)).filter fun x => !p x)[t]? = some y → (cu.setIfInBounds i (Value.int .i64 x))[t]? = some (Value.int .i64 y)) := hid (fun t y hty => by
            rw [hfn] at hty
            rcases Nat.lt_or_ge t i with hti | hti
            · rw [List.getElem?_append_left (by rw [← hk1.out]; exact hti)] at hty
              rw [Array.getElem?_setIfInBounds_ne (by omega)]
              exact hkc.out t y hty
            · rw [List.getElem?_append_right (by rw [← hk1.out]; exact hti), ← hk1.out] at hty
              have h0 : t - i = 0 := by
                have := (List.getElem?_eq_some_iff.1 hty).1
                simp at this; omega
              rw [h0] at hty
              obtain rfl : x = y := by simpa using hty
              obtain rfl : t = i := by omega
              rw [Array.getElem?_setIfInBounds_self_of_lt hci])
          (first | exact ⟨⟨i + 1, j + 1, cu.setIfInBounds i (.int .i64 x), by omega, by omega, by go_num, by go_num, hid B6, by rw [Array.size_setIfInBounds]; exact hcu, hlen, hcon, hid (fun t ht htn => by rw [Array.getElem?_setIfInBounds_ne (by omega)]; exact hk2.out t (by omega) htn), hgw5⟩, (by first | (simp [intOf]; omega) | (simp [intOf]; done))⟩ | (refine ⟨?_, ?_⟩; (focus ((repeat apply Exists.intro); refine ⟨?_, rfl⟩; exact ⟨i + 1, j + 1, cu.setIfInBounds i (.int .i64 x), by omega, by omega, by go_num, by go_num, hid B6, by rw [Array.size_setIfInBounds]; exact hcu, hlen, hcon, hid (fun t ht htn => by rw [Array.getElem?_setIfInBounds_ne (by omega)]; exact hk2.out t (by omega) htn), hgw5⟩)); (first | (simp [intOf]; omega) | (simp [intOf]; done))))
        · go_wp2_with (go_at_fn gf; refine hc.mono ?_; rintro e w5 ⟨rfl, hb5⟩)
          have hgw5 := grownM_then hgw hb5
          have B5 : Hid (Blk w5 q 3 cu) := hid (hBq.out.below hb5 lq)
          have hfn : ((ls.take (j + 1)).filter fun x => !p x) = ((ls.take j).filter fun x => !p x) := by rw [filt_next H3.out, Hqv.out]; simp
          have hlen : Hid (i = ((ls.take (j + 1)).filter fun x => !p x).length) := hid (by rw [hfn]; exact hk1.out)
          have hcon : Hid (∀ t y, ((ls.take (j + 1)).filter fun x => !p x)[t]? = some y → cu[t]? = some (Value.int .i64 y)) := hid (by rw [hfn]; exact hkc.out)
          (first | exact ⟨⟨i, j + 1, cu, by omega, by omega, rfl, by go_num, B5, hcu, hlen, hcon, hid (fun t ht htn => hk2.out t (by omega) htn), hgw5⟩, (by first | (simp [intOf]; omega) | (simp [intOf]; done))⟩ | (refine ⟨?_, ?_⟩; (focus ((repeat apply Exists.intro); refine ⟨?_, rfl⟩; exact ⟨i, j + 1, cu, by omega, by omega, rfl, by go_num, B5, hcu, hlen, hcon, hid (fun t ht htn => hk2.out t (by omega) htn), hgw5⟩)); (first | (simp [intOf]; omega) | (simp [intOf]; done))))
      · obtain rfl : j = n := by omega
        have hlti : ¬ (j : Int) < j := by omega
        have hci : ¬ cap = i := by omega
        have hcl := run_clear_sz (P := Tryz.prog) wr 34 0 3 (.int .i64 0) q i (j - i) (cap - i) cu 3 underL (zeroI _) (by omega) hBq.out (List.replicate (j - i) (Value.int .i64 0)) (zeroI_row _) (by rw [List.length_replicate]; omega) (fun v hv => by rw [(List.mem_replicate.1 hv).2]; rfl)
        have hbr := below_setRow hb0 hq0 (cu.toList.take i ++ List.replicate (j - i) (Value.int .i64 0) ++ cu.toList.drop (i + (List.replicate (j - i) (Value.int .i64 0)).length)).toArray
        have hcell9 : ∀ t, (wr.setRow q (cu.toList.take i ++ List.replicate (j - i) (Value.int .i64 0) ++ cu.toList.drop (i + (List.replicate (j - i) (Value.int .i64 0)).length)).toArray).cell? ⟨q, t, none⟩ = _ := fun t => cell_setRow_same wr q t cu _ 3 (0, 0) hBq.out
        have Hlen : Hid (i = (ls.filter fun x => !p x).length) := hid (by have := hk1.out; rwa [List.take_of_length_le (by rw [Hnl.out]; exact Nat.le_refl _)] at this)
        have Hc9 : Hid (∀ t y, (ls.filter fun x => !p x)[t]? = some y → (wr.setRow q (cu.toList.take i ++ List.replicate (j - i) (Value.int .i64 0) ++ cu.toList.drop (i + (List.replicate (j - i) (Value.int .i64 0)).length)).toArray).cell? ⟨q, t, none⟩ = some (Value.int .i64 y)) := hid (fun t y hty => by
          have ht : t < i := by rw [Hlen.out]; exact (List.getElem?_eq_some_iff.1 hty).1
          have h1 := hkc.out t y (by rw [List.take_of_length_le (by rw [Hnl.out]; exact Nat.le_refl _)]; exact hty)
          rw [hcell9 t]
          have h2 : t < (cu.toList.take i).length := by rw [List.length_take, Array.length_toList]; omega
          rw [List.getElem?_toArray, List.append_assoc, List.getElem?_append_left h2, List.getElem?_take_of_lt ht, Array.getElem?_toList]
          exact h1)
        have hsz9 : q < (wr.setRow q (cu.toList.take i ++ List.replicate (j - i) (Value.int .i64 0) ++ cu.toList.drop (i + (List.replicate (j - i) (Value.int .i64 0)).length)).toArray).heap.size := by rw [setRow_size]; exact lq
        clear hcell9
        generalize hZ : wr.setRow q (cu.toList.take i ++ List.replicate (j - i) (Value.int .i64 0) ++ cu.toList.drop (i + (List.replicate (j - i) (Value.int .i64 0)).length)).toArray = W9 at *
        have hij2 : (i : Int) ≤ j := by omega
        clear hZ
        go_wp2
        refine bodyPost_ret (v := .slice (some ⟨q, 0, none⟩) i cap) (by first | (simp [results, Tryz.results27, go_sem]; done) | (simp [results, Tryz.results27, go_sem, *]; done) | (simp [results, Tryz.results27, go_sem, World.cell?_setCell_same', *]; done) | (simp [results, Tryz.results27, go_sem]; first | exact ⟨rfl, rfl⟩ | rfl)) rfl ⟨i, rfl, ⟨?_, fun _ => ⟨q, 0, rfl, hsz9, fun t u hu => ?_⟩⟩, hbr⟩
        · rw [flat_len (s := 1) (fun _ => rfl), ← Hlen.out]
        · rw [flatI_at] at hu
          cases hy : (ls.filter fun x => !p x)[t]? with
          | none => rw [hy] at hu; cases hu
          | some y =>
            rw [hy] at hu
            have hu := Option.some.inj hu
            rw [Nat.zero_add, ← hu]
            exact Hc9.out t y hy
end Go.Proofs.YtdgllpcfmkjfhaaGreat.Bl
/- Walks: mould: which wants cannot follow one; how many moulds are had. -/
namespace Go.Proofs.YtdgllpcfmkjfhaaGreat.Bl
open Go.RowKit Go.Shelf Go.WideMaps
attribute [local go_sem] Oper.semAt_some
set_option maxRecDepth 100000 in
set_option maxHeartbeats 1600000 in
theorem mlist1_any (g : Nat) (S M : Int) (A : Option Addr) (n c gm : Nat) (ws : List (Int × Int)) (i k pi pd : Nat) (w : World) (hd : MDesk w g S M A n c gm ws) (hi : i < n) (hk : k < n) (hn : n ≤ 1000000) (c1 : w.cell? ⟨pi, 0, none⟩ = some (.int .i64 (i : Int))) (c2 : w.cell? ⟨pd, 0, none⟩ = some (.pointer (some ⟨g, 0, none⟩))) :
    Calls Tryz.prog 29 #[.int .i64 (k : Int), .pointer (some ⟨pi, 0, none⟩), .pointer (some ⟨pd, 0, none⟩)] w fun e w' => e = .returned (.bool (decide (k ≤ i) || clW ws i k)) ∧ Below w.heap.size w w' := by
  have HD := hid hd
  have Hcl := hid (clash_any g S M A n c gm ws i k w hd hi hk hn)
  clear hd
  by_cases h : k ≤ i
  · have hki : (k : Int) ≤ i := by omega
    have hv : Hid ((decide (k ≤ i) || clW ws i k) = true) := hid (by simp [h])
    go_enter Tryz.func29, Tryz.ntmps29
    go_wp2
    refine bodyPost_ret (v := .bool true) (by first | (simp [results, Tryz.results29, go_sem]; done) | (simp [results, Tryz.results29, go_sem, *]; done) | (simp [results, Tryz.results29, go_sem, World.cell?_setCell_same', *]; done) | (simp [results, Tryz.results29, go_sem]; first | exact ⟨rfl, rfl⟩ | rfl)) rfl ⟨by rw [hv.out], Below.refl _ _⟩
  · have hki : ¬ (k : Int) ≤ i := by omega
    have hv : Hid ((decide (k ≤ i) || clW ws i k) = clW ws i k) := hid (by simp [h])
    obtain ⟨cv, hcv⟩ : ∃ cv, clW ws i k = cv := ⟨_, rfl⟩
    rw [hcv] at Hcl
    rw [hcv] at hv
    have hv2 : Hid ((decide (k ≤ i) || clW ws i k) = cv) := hid (by rw [hcv]; exact hv.out)
    go_enter Tryz.func29, Tryz.ntmps29
    go_wp2_with (go_at_call 30; refine Hcl.out.mono ?_; rintro e w1 ⟨rfl, hb1⟩)
    refine bodyPost_ret (v := .bool cv) (by first | (simp [results, Tryz.results29, go_sem]; done) | (simp [results, Tryz.results29, go_sem, *]; done) | (simp [results, Tryz.results29, go_sem, World.cell?_setCell_same', *]; done) | (simp [results, Tryz.results29, go_sem]; first | exact ⟨rfl, rfl⟩ | rfl)) rfl ⟨by rw [hv2.out], hb1⟩
theorem nodup_sub {l m : List Nat} (hl : l.Nodup) (h : ∀ x ∈ l, x ∈ m) : l.length ≤ m.length := pig (f := fun x : Nat => x) (C := m) hl h
theorem by_len {w : World} {mp N : Nat} {b : By} (h : ByW w mp N b) (hN : N ≤ 1000) : ∃ es c, w.heap[mp]? = some (.map es c) ∧ es.size = (hadL b N).length := by
  obtain ⟨D, hown, hh⟩ := h
  have ht := World.ownsMap.tidy hown KI
  have hown' := hown
  obtain ⟨es, c, h1, h2, h3, h4⟩ := hown'
  refine ⟨es, c, h1, ?_⟩
  have hsz : Maps.size D = es.size := by
    rw [h4, Maps.size_eq, length_sorted]
    simp
  rw [← hsz]
  obtain ⟨ks, rfl, hk⟩ := hh.keys
  obtain ⟨ks', e, hnd⟩ := ht
  cases e
  have hl : (hadL b N).length = ((List.range N).filter fun m => (b m).isSome).length := by
    unfold hadL
    generalize List.range N = l
    induction l with
    | nil => rfl
    | cons m l ih =>
      cases hm : b m with
      | none => rw [List.filterMap_cons_none hm, List.filter_cons]; simp [hm, ih]
      | some i => rw [List.filterMap_cons_some hm, List.filter_cons]; simp [hm, ih]
  rw [hl, Maps.size_eq]
  have hc : ∀ p : Lit × DataW Unit, ∃ m, p ∈ ks → m < N ∧ p.1 = kI m := fun p => by
    by_cases hp : p ∈ ks
    · obtain ⟨m, h4⟩ := hk p hp; exact ⟨m, fun _ => h4⟩
    · exact ⟨0, fun h => absurd h hp⟩
  have hn : (ks.map fun p => Classical.choose (hc p)).Nodup := by
    rw [List.nodup_iff_pairwise_ne, List.pairwise_map]
    refine hnd.imp_of_mem (fun {a b} ha hb hab e => hab ?_)
    have q1 := (Classical.choose_spec (hc a) ha).2
    have q2 := (Classical.choose_spec (hc b) hb).2
    rw [q1, q2, e]
  refine Nat.le_antisymm ?_ ?_
  · have := nodup_sub (m := (List.range N).filter fun m => (b m).isSome) hn fun x hx => by
      obtain ⟨p, hp, rfl⟩ := List.mem_map.1 hx
      obtain ⟨q1, q2⟩ := Classical.choose_spec (hc p) hp
      refine List.mem_filter.2 ⟨List.mem_range.2 q1, ?_⟩
      rw [← hh.has _ q1]
      unfold Maps.has
      refine List.any_eq_true.2 ⟨p, hp, ?_⟩
      have hs : ∀ (x : Lit) (m : Nat), m < 1000000 → x = kI m → x.sameKey (kI m) = true := fun x m hm e => by rw [e]; exact WideAt.sameKey_self (KI.key (key_kI hm))
      exact hs _ _ (by omega) q2
    simpa using this
  · have := nodup_sub (l := (List.range N).filter fun m => (b m).isSome) (m := ks.map fun p => Classical.choose (hc p)) (List.Pairwise.sublist List.filter_sublist List.nodup_range) fun m hm => by
      obtain ⟨q1, q2⟩ := List.mem_filter.1 hm
      have q1 := List.mem_range.1 q1
      rw [← hh.has m q1] at q2
      unfold Maps.has at q2
      obtain ⟨p, hp, hpm⟩ := List.any_eq_true.1 q2
      refine List.mem_map.2 ⟨p, hp, ?_⟩
      obtain ⟨r1, r2⟩ := Classical.choose_spec (hc p) hp
      have hs : ∀ (x : Lit) (a : Nat), x = kI a → x.sameKey (kI m) = true → a = m := fun x a e h => Classical.byContradiction fun hne => by
        rw [e, Maps.sameKey_ne (kI_ne hne)] at h; cases h
      exact hs _ _ r2 hpm
    simpa using this
theorem by_run {w : World} {mp N : Nat} {b : By} (h : ByW w mp N b) (hN : N ≤ 1000) (ty : TypeId) : (Builtin.len_ #[59] ty #[.map (some mp)]).run Tryz.prog w = .ok (.int .i64 (((hadL b N).length : Nat) : Int)) w := by
  obtain ⟨es, c, h1, h2⟩ := by_len h hN
  obtain ⟨D, hown, hh⟩ := h
  have hl := World.ownsMap.len hown underMI ty
  obtain ⟨es', c', k1, _, _, k4⟩ := hown
  rw [h1] at k1; cases k1
  have hs : Maps.size D = es.size := by
    rw [k4, Maps.size_eq, length_sorted]
    simp
  rw [hl, hs, h2]
end Go.Proofs.YtdgllpcfmkjfhaaGreat.Bl
