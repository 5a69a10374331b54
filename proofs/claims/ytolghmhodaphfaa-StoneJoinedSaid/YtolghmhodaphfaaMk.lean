/- Texts of the proof, laid together by program. -/
import Derived.Test.YtolghmhodaphfaaMj
/- Numbers of the examples. -/
namespace Go.Proofs.Ytolghmhodaphfaa
theorem kOpen : openE kE 1 = 0 ∧ openE kE 2 = 0 ∧ openE dE 1 = 0 ∧ openE dE 2 = 0 ∧ openE eE 2 = 0 := by decide +kernel
theorem kChk : checkSet [⟨2, 1⟩, ⟨2, 1⟩] = 16 ∧ checkSet [⟨1, 301⟩] = 3 := by decide +kernel
theorem kWeighs : weighsL 1 kE = [1, 3, 4, 9, 10, 12, 13] := by decide +kernel
theorem kUpto : uptoV 2 kE = 13 := by decide +kernel
theorem kGap : gapV 2 eE = 4 ∧ gapE 2 eE = 0 ∧ gapE 1 dE = 5 := by decide +kernel
theorem kWays : waysV 2 dE 1 = 2 ∧ askedE dE 2 1 = 0 ∧ askedE kE 1 301 = 3 := by decide +kernel
theorem kFew : fewV 2 kE 5 = 3 ∧ layE 2 kE 5 = 0 ∧ layE 1 kE 5 = 24 ∧ layV 2 kE 5 = [-1, -1, 1] := by decide +kernel
theorem kPerf : perfV 2 kE = 13 ∧ perfE 2 kE = 0 ∧ perfV 1 kE = 2 ∧ perfE 1 kE = 24 := by decide +kernel
theorem kFacts : perfE 1 dE = 0 ∧ factsL 1 dE = [2, 3] := by decide +kernel
theorem kCount : countV 2 13 = 4 ∧ ofE 2 13 60 = 0 ∧ ofE 3 13 60 = 2 ∧ ofE 1 5 60 = 0 := by decide +kernel
theorem kEn : ofE 2 14 121 = 0 ∧ ofE 1 122 121 = 3 ∧ ofE 2 5 121 = 0 := by decide +kernel
theorem kEnL : (enL 2 14).length = 4 := by decide +kernel
theorem kEnK : (enL 2 5).map (fun k => (k.wt, k.many)) = kE.map (fun k => (k.wt, k.many)) := by decide +kernel
theorem kAll : (allSets 1 5).map (fun l => l.map fun k => (k.wt, k.many)) = [[(1, 1), (2, 2)], [(1, 2), (3, 1)], [(1, 5)]] := by decide +kernel
end Go.Proofs.Ytolghmhodaphfaa
/- The examples' sets as they are read; what the examples say. -/
namespace Go.Proofs.Ytolghmhodaphfaa
open Go.RowKit
/-- A call hands back a set that reads as l. -/
def KPost (l : List Kd) (m : Nat) (w : World) (e : Ending) (w' : World) : Prop := ∃ A c, e = .returned (.slice A m c) ∧ KdS w' w'.heap.size A m l ∧ Below w.heap.size w w'
theorem kpost_of {l : List Kd} {m : Nat} {w : World} {e : Ending} {w' : World} (hm : l.length = m) (h : SetPost l w e w') : KPost l m w e w' := by
  obtain ⟨v, rfl, ho, hb⟩ := h
  subst hm
  obtain ⟨A, c, rfl, hs⟩ := sl_of_owns ho
  exact ⟨A, c, rfl, hs, hb⟩
theorem k_lit (w : World) : Calls Try.prog 60 #[] w (KPost kE 3 w) := (k_any w).mono fun _ _ h => kpost_of rfl h
theorem d_lit (w : World) : Calls Try.prog 61 #[] w (KPost dE 2 w) := (d_any w).mono fun _ _ h => kpost_of rfl h
theorem e_lit (w : World) : Calls Try.prog 59 #[] w (KPost eE 2 w) := (e_any w).mono fun _ _ h => kpost_of rfl h
theorem set_lit (A : Option Addr) (n c : Nat) (l : List Int) (ks : List Kd) (m : Nat) (w : World) (hl : InS w w.heap.size A n l) (hn : n ≤ 100) (hk : pairK l = ks) (hm : ks.length = m) : Calls Try.prog 63 #[.slice A n c] w (KPost ks m w) :=
  (set_any A n c l w hl hn).mono fun _ _ h => kpost_of hm (by subst hk; exact h)
theorem kd_inj : Function.Injective (fun k : Kd => (k.wt, k.many)) := fun x y e => by injection e with e1 e2; exact Kd.eq_of e1 e2
theorem mapK_inj {l l' : List Kd} (h : l.map (fun k => (k.wt, k.many)) = l'.map (fun k => (k.wt, k.many))) : l = l' := (List.map_inj_right kd_inj).1 h
def allE : List (List Kd) := [[⟨1, 1⟩, ⟨2, 2⟩], [⟨1, 2⟩, ⟨3, 1⟩], [⟨1, 5⟩]]
theorem kAllE : allSets 1 5 = allE := by
  have h : (allSets 1 5).map (fun l => l.map fun k => (k.wt, k.many)) = allE.map (fun l => l.map fun k => (k.wt, k.many)) := kAll
  have inj : Function.Injective (fun l : List Kd => l.map fun k => (k.wt, k.many)) := fun x y e => mapK_inj e
  exact (List.map_inj_right inj).1 h
theorem kEnE : enL 2 5 = kE := mapK_inj kEnK
theorem kPairs : pairK [2, 1, 2, 1] = [⟨2, 1⟩, ⟨2, 1⟩] ∧ pairK [1, 301] = [⟨1, 301⟩] ∧ pairK [1, 1, 2, 2] = [⟨1, 1⟩, ⟨2, 2⟩] ∧ pairK [1, 2, 3, 1] = [⟨1, 2⟩, ⟨3, 1⟩] ∧ pairK [1, 5] = [⟨1, 5⟩] := ⟨rfl, rfl, rfl, rfl, rfl⟩
theorem kL1 : layR kE 2 [-1, -1, 1] = .tuple #[.int .i64 5, .int .i64 3, .int .i64 0] := by
  have h : layErr kE 2 [-1, -1, 1] = 0 ∧ weighs kE [-1, -1, 1] = 5 ∧ uses [-1, -1, 1] = 3 := by decide +kernel
  unfold layR; rw [if_pos h.1, h.2.1, h.2.2]
theorem kL2 : layR kE 1 [-1, -1, 1] = .tuple #[.int .i64 0, .int .i64 0, .int .i64 3] := by
  have h : layErr kE 1 [-1, -1, 1] = 3 := by decide +kernel
  unfold layR; rw [if_neg (by rw [h]; decide), h]
theorem kL3 : layR dE 2 [1] = .tuple #[.int .i64 0, .int .i64 0, .int .i64 15] := by
  have h : layErr dE 2 [1] = 15 := by decide +kernel
  unfold layR; rw [if_neg (by rw [h]; decide), h]
theorem kEq : eqI [1, 3, 4, 9, 10, 12, 13] [1, 3, 4, 9, 10, 12, 13] = true ∧ eqI [-1, -1, 1] [-1, -1, 1] = true ∧ eqI [2, 3] [2, 3] = true ∧ eqKs kE kE = true := ⟨eqI_t.2 rfl, eqI_t.2 rfl, eqI_t.2 rfl, eqKs_t.2 rfl⟩
theorem lss_three {w : World} {g t : Nat} {A1 A2 A3 : Option Addr} {m1 m2 m3 c1 c2 c3 : Nat} {l1 l2 l3 : List Kd} (hb : Blk w g t #[.slice A1 m1 c1, .slice A2 m2 c2, .slice A3 m3 c3]) (h1 : KdS w w.heap.size A1 m1 l1) (h2 : KdS w w.heap.size A2 m2 l2) (h3 : KdS w w.heap.size A3 m3 l3) :
    LsS w w.heap.size (some ⟨g, 0, none⟩) 3 [l1, l2, l3] := by
  refine ⟨rfl, [.slice A1 m1 c1, .slice A2 m2 c2, .slice A3 m3 c3], ⟨rfl, fun _ => ⟨g, 0, rfl, hb.lt, fun j u hu => ?_⟩⟩, fun k l hl => ?_⟩
  · rw [Nat.zero_add, hb.cell]; simpa using hu
  · match k, hl with
    | 0, hl => cases hl; exact ⟨A1, m1, c1, rfl, h1⟩
    | 1, hl => cases hl; exact ⟨A2, m2, c2, rfl, h2⟩
    | 2, hl => cases hl; exact ⟨A3, m3, c3, rfl, h3⟩
end Go.Proofs.Ytolghmhodaphfaa
/- Walks: Works. Printed by genw10.py. -/
namespace Go.Proofs.Ytolghmhodaphfaa
open Go.RowKit
attribute [local go_sem] Oper.semAt_some
set_option maxRecDepth 1000000 in
set_option maxHeartbeats 20000000 in
theorem works_any (w : World) : Calls Try.prog 19 #[] w fun e w' => e = .returned (.bool true) ∧ Below w.heap.size w w' := by
  go_enter Try.func19, Try.ntmps19
  obtain ⟨W0, hW0⟩ : ∃ W0 : World, W0 = w := ⟨_, rfl⟩
  rw [← hW0]
  clear hW0
  have hbel : Below W0.heap.size W0 W0 := Below.refl _ _
  have hsz := hbel.size
  go_wp2_with (fail)
  refine (k_lit _).mono ?_
  rintro e W1 ⟨A1, c1, rfl, hk, hb⟩
  have hst : Below W0.heap.size W0 W1 := Below.trans (by repeat' (first | with_reducible assumption | with_reducible exact Below.refl _ _ | refine Below.alloc ?_ ?_ _ | refine Below.setCell ?_ ?_ _ | refine Below.drew ?_ | refine below_drewN ?_ _ | (simp; done) | (simp; omega) | omega)) (hb.mono (by first | (simp; done) | (simp; omega) | omega))
  replace hbel := hbel.trans (hst.mono hsz)
  replace hsz := hbel.size
  have HK := hid hk
  clear hk
  clear hb hst
  obtain ⟨W0, rfl⟩ : ∃ W0 : World, W0 = W1 := ⟨_, rfl⟩
  go_wp2_with (fail)
  refine (longsF_any _ _).mono ?_
  rintro e W1 ⟨rfl, hw1⟩
  subst hw1
  go_wp2_with (fail)
  refine (checkLay_any _ A1 _ 3 c1 3 3 kE [-1, -1, 1] 2 (HK.out.below (by repeat' (first | with_reducible assumption | with_reducible exact Below.refl _ _ | refine Below.alloc ?_ ?_ _ | refine Below.setCell ?_ ?_ _ | refine Below.drew ?_ | refine below_drewN ?_ _ | (simp; done) | (simp; omega) | omega)) (by first | (simp; done) | (simp; omega) | omega)) (ins_blk (l := [-1, -1, 1]) (Blk.new _ _ _) (by simp)) (by omega)).mono ?_
  rw [kL1]
  rintro e W1 ⟨rfl, hb⟩
  have hst : Below W0.heap.size W0 W1 := Below.trans (by repeat' (first | with_reducible assumption | with_reducible exact Below.refl _ _ | refine Below.alloc ?_ ?_ _ | refine Below.setCell ?_ ?_ _ | refine Below.drew ?_ | refine below_drewN ?_ _ | (simp; done) | (simp; omega) | omega)) (hb.mono (by first | (simp; done) | (simp; omega) | omega))
  replace hbel := hbel.trans (hst.mono hsz)
  replace hsz := hbel.size
  replace HK := hid (HK.out.below hst hst.size)
  clear hb hst
  obtain ⟨W0, rfl⟩ : ∃ W0 : World, W0 = W1 := ⟨_, rfl⟩
  clear HK
  go_wp2_with (fail)
  refine (k_lit _).mono ?_
  rintro e W1 ⟨A2, c2, rfl, hk, hb⟩
  have hst : Below W0.heap.size W0 W1 := Below.trans (by repeat' (first | with_reducible assumption | with_reducible exact Below.refl _ _ | refine Below.alloc ?_ ?_ _ | refine Below.setCell ?_ ?_ _ | refine Below.drew ?_ | refine below_drewN ?_ _ | (simp; done) | (simp; omega) | omega)) (hb.mono (by first | (simp; done) | (simp; omega) | omega))
  replace hbel := hbel.trans (hst.mono hsz)
  replace hsz := hbel.size
  have HK := hid hk
  clear hk
  clear hb hst
  obtain ⟨W0, rfl⟩ : ∃ W0 : World, W0 = W1 := ⟨_, rfl⟩
  go_wp2_with (fail)
  refine (longsF_any _ _).mono ?_
  rintro e W1 ⟨rfl, hw1⟩
  subst hw1
  go_wp2_with (fail)
  refine (checkLay_any _ A2 _ 3 c2 3 3 kE [-1, -1, 1] 1 (HK.out.below (by repeat' (first | with_reducible assumption | with_reducible exact Below.refl _ _ | refine Below.alloc ?_ ?_ _ | refine Below.setCell ?_ ?_ _ | refine Below.drew ?_ | refine below_drewN ?_ _ | (simp; done) | (simp; omega) | omega)) (by first | (simp; done) | (simp; omega) | omega)) (ins_blk (l := [-1, -1, 1]) (Blk.new _ _ _) (by simp)) (by omega)).mono ?_
  rw [kL2]
  rintro e W1 ⟨rfl, hb⟩
  have hst : Below W0.heap.size W0 W1 := Below.trans (by repeat' (first | with_reducible assumption | with_reducible exact Below.refl _ _ | refine Below.alloc ?_ ?_ _ | refine Below.setCell ?_ ?_ _ | refine Below.drew ?_ | refine below_drewN ?_ _ | (simp; done) | (simp; omega) | omega)) (hb.mono (by first | (simp; done) | (simp; omega) | omega))
  replace hbel := hbel.trans (hst.mono hsz)
  replace hsz := hbel.size
  replace HK := hid (HK.out.below hst hst.size)
  clear hb hst
  obtain ⟨W0, rfl⟩ : ∃ W0 : World, W0 = W1 := ⟨_, rfl⟩
  clear HK
  go_wp2_with (fail)
  refine (d_lit _).mono ?_
  rintro e W1 ⟨A3, c3, rfl, hk, hb⟩
  have hst : Below W0.heap.size W0 W1 := Below.trans (by repeat' (first | with_reducible assumption | with_reducible exact Below.refl _ _ | refine Below.alloc ?_ ?_ _ | refine Below.setCell ?_ ?_ _ | refine Below.drew ?_ | refine below_drewN ?_ _ | (simp; done) | (simp; omega) | omega)) (hb.mono (by first | (simp; done) | (simp; omega) | omega))
  replace hbel := hbel.trans (hst.mono hsz)
  replace hsz := hbel.size
  have HK := hid hk
  clear hk
  clear hb hst
  obtain ⟨W0, rfl⟩ : ∃ W0 : World, W0 = W1 := ⟨_, rfl⟩
  go_wp2_with (fail)
  refine (longsF_any _ _).mono ?_
  rintro e W1 ⟨rfl, hw1⟩
  subst hw1
  go_wp2_with (fail)
  refine (checkLay_any _ A3 _ 2 c3 1 1 dE [1] 2 (HK.out.below (by repeat' (first | with_reducible assumption | with_reducible exact Below.refl _ _ | refine Below.alloc ?_ ?_ _ | refine Below.setCell ?_ ?_ _ | refine Below.drew ?_ | refine below_drewN ?_ _ | (simp; done) | (simp; omega) | omega)) (by first | (simp; done) | (simp; omega) | omega)) (ins_blk (l := [1]) (Blk.new _ _ _) (by simp)) (by omega)).mono ?_
  rw [kL3]
  rintro e W1 ⟨rfl, hb⟩
  have hst : Below W0.heap.size W0 W1 := Below.trans (by repeat' (first | with_reducible assumption | with_reducible exact Below.refl _ _ | refine Below.alloc ?_ ?_ _ | refine Below.setCell ?_ ?_ _ | refine Below.drew ?_ | refine below_drewN ?_ _ | (simp; done) | (simp; omega) | omega)) (hb.mono (by first | (simp; done) | (simp; omega) | omega))
  replace hbel := hbel.trans (hst.mono hsz)
  replace hsz := hbel.size
  replace HK := hid (HK.out.below hst hst.size)
  clear hb hst
  obtain ⟨W0, rfl⟩ : ∃ W0 : World, W0 = W1 := ⟨_, rfl⟩
  clear HK
  go_wp2_with (fail)
  refine (set_lit _ 4 4 [2, 1, 2, 1] [⟨2, 1⟩, ⟨2, 1⟩] 2 _ (ins_blk (l := [2, 1, 2, 1]) (Blk.new _ _ _) (by simp)) (by omega) kPairs.1 rfl).mono ?_
  rintro e W1 ⟨A4, c4, rfl, hk, hb⟩
  have hst : Below W0.heap.size W0 W1 := Below.trans (by repeat' (first | with_reducible assumption | with_reducible exact Below.refl _ _ | refine Below.alloc ?_ ?_ _ | refine Below.setCell ?_ ?_ _ | refine Below.drew ?_ | refine below_drewN ?_ _ | (simp; done) | (simp; omega) | omega)) (hb.mono (by first | (simp; done) | (simp; omega) | omega))
  replace hbel := hbel.trans (hst.mono hsz)
  replace hsz := hbel.size
  have HK := hid hk
  clear hk
  clear hb hst
  obtain ⟨W0, rfl⟩ : ∃ W0 : World, W0 = W1 := ⟨_, rfl⟩
  go_wp2_with (fail)
  refine (checkSet_any _ A4 2 c4 [⟨2, 1⟩, ⟨2, 1⟩] (HK.out.below (by repeat' (first | with_reducible assumption | with_reducible exact Below.refl _ _ | refine Below.alloc ?_ ?_ _ | refine Below.setCell ?_ ?_ _ | refine Below.drew ?_ | refine below_drewN ?_ _ | (simp; done) | (simp; omega) | omega)) (by first | (simp; done) | (simp; omega) | omega)) (by omega)).mono ?_
  rw [kChk.1]
  rintro e W1 ⟨rfl, hb⟩
  have hst : Below W0.heap.size W0 W1 := Below.trans (by repeat' (first | with_reducible assumption | with_reducible exact Below.refl _ _ | refine Below.alloc ?_ ?_ _ | refine Below.setCell ?_ ?_ _ | refine Below.drew ?_ | refine below_drewN ?_ _ | (simp; done) | (simp; omega) | omega)) (hb.mono (by first | (simp; done) | (simp; omega) | omega))
  replace hbel := hbel.trans (hst.mono hsz)
  replace hsz := hbel.size
  replace HK := hid (HK.out.below hst hst.size)
  clear hb hst
  obtain ⟨W0, rfl⟩ : ∃ W0 : World, W0 = W1 := ⟨_, rfl⟩
  clear HK
  go_wp2_with (fail)
  refine (set_lit _ 2 2 [1, 301] [⟨1, 301⟩] 1 _ (ins_blk (l := [1, 301]) (Blk.new _ _ _) (by simp)) (by omega) kPairs.2.1 rfl).mono ?_
  rintro e W1 ⟨A5, c5, rfl, hk, hb⟩
  have hst : Below W0.heap.size W0 W1 := Below.trans (by repeat' (first | with_reducible assumption | with_reducible exact Below.refl _ _ | refine Below.alloc ?_ ?_ _ | refine Below.setCell ?_ ?_ _ | refine Below.drew ?_ | refine below_drewN ?_ _ | (simp; done) | (simp; omega) | omega)) (hb.mono (by first | (simp; done) | (simp; omega) | omega))
  replace hbel := hbel.trans (hst.mono hsz)
  replace hsz := hbel.size
  have HK := hid hk
  clear hk
  clear hb hst
  obtain ⟨W0, rfl⟩ : ∃ W0 : World, W0 = W1 := ⟨_, rfl⟩
  go_wp2_with (fail)
  refine (checkSet_any _ A5 1 c5 [⟨1, 301⟩] (HK.out.below (by repeat' (first | with_reducible assumption | with_reducible exact Below.refl _ _ | refine Below.alloc ?_ ?_ _ | refine Below.setCell ?_ ?_ _ | refine Below.drew ?_ | refine below_drewN ?_ _ | (simp; done) | (simp; omega) | omega)) (by first | (simp; done) | (simp; omega) | omega)) (by omega)).mono ?_
  rw [kChk.2]
  rintro e W1 ⟨rfl, hb⟩
  have hst : Below W0.heap.size W0 W1 := Below.trans (by repeat' (first | with_reducible assumption | with_reducible exact Below.refl _ _ | refine Below.alloc ?_ ?_ _ | refine Below.setCell ?_ ?_ _ | refine Below.drew ?_ | refine below_drewN ?_ _ | (simp; done) | (simp; omega) | omega)) (hb.mono (by first | (simp; done) | (simp; omega) | omega))
  replace hbel := hbel.trans (hst.mono hsz)
  replace hsz := hbel.size
  replace HK := hid (HK.out.below hst hst.size)
  clear hb hst
  obtain ⟨W0, rfl⟩ : ∃ W0 : World, W0 = W1 := ⟨_, rfl⟩
  clear HK
  go_wp2_with (fail)
  refine (k_lit _).mono ?_
  rintro e W1 ⟨A6, c6, rfl, hk, hb⟩
  have hst : Below W0.heap.size W0 W1 := Below.trans (by repeat' (first | with_reducible assumption | with_reducible exact Below.refl _ _ | refine Below.alloc ?_ ?_ _ | refine Below.setCell ?_ ?_ _ | refine Below.drew ?_ | refine below_drewN ?_ _ | (simp; done) | (simp; omega) | omega)) (hb.mono (by first | (simp; done) | (simp; omega) | omega))
  replace hbel := hbel.trans (hst.mono hsz)
  replace hsz := hbel.size
  have HK := hid hk
  clear hk
  clear hb hst
  obtain ⟨W0, rfl⟩ : ∃ W0 : World, W0 = W1 := ⟨_, rfl⟩
  go_wp2_with (fail)
  refine (weighs_walk _ A6 3 c6 kE 1 (HK.out.below (by repeat' (first | with_reducible assumption | with_reducible exact Below.refl _ _ | refine Below.alloc ?_ ?_ _ | refine Below.setCell ?_ ?_ _ | refine Below.drew ?_ | refine below_drewN ?_ _ | (simp; done) | (simp; omega) | omega)) (by first | (simp; done) | (simp; omega) | omega)) (by omega)).mono ?_
  rw [kWeighs, kOpen.1]
  rintro e W1 ⟨Aw, mw, cw, rfl, hw, hb⟩
  have hst : Below W0.heap.size W0 W1 := Below.trans (by repeat' (first | with_reducible assumption | with_reducible exact Below.refl _ _ | refine Below.alloc ?_ ?_ _ | refine Below.setCell ?_ ?_ _ | refine Below.drew ?_ | refine below_drewN ?_ _ | (simp; done) | (simp; omega) | omega)) (hb.mono (by first | (simp; done) | (simp; omega) | omega))
  replace hbel := hbel.trans (hst.mono hsz)
  replace hsz := hbel.size
  replace HK := hid (HK.out.below hst hst.size)
  have hmw := hw.len
  have hmw2 : mw = 7 := hmw.symm
  clear hmw
  subst hmw2
  have HW := hid hw
  clear hw
  clear hb hst
  obtain ⟨W0, rfl⟩ : ∃ W0 : World, W0 = W1 := ⟨_, rfl⟩
  clear HK
  go_wp2_with (fail)
  refine (k_lit _).mono ?_
  rintro e W1 ⟨A7, c7, rfl, hk, hb⟩
  have hst : Below W0.heap.size W0 W1 := Below.trans (by repeat' (first | with_reducible assumption | with_reducible exact Below.refl _ _ | refine Below.alloc ?_ ?_ _ | refine Below.setCell ?_ ?_ _ | refine Below.drew ?_ | refine below_drewN ?_ _ | (simp; done) | (simp; omega) | omega)) (hb.mono (by first | (simp; done) | (simp; omega) | omega))
  replace hbel := hbel.trans (hst.mono hsz)
  replace hsz := hbel.size
  replace HW := hid (HW.out.below hst hst.size)
  have HK := hid hk
  clear hk
  clear hb hst
  obtain ⟨W0, rfl⟩ : ∃ W0 : World, W0 = W1 := ⟨_, rfl⟩
  go_wp2_with (fail)
  refine (upto_any _ A7 3 c7 kE 2 (HK.out.below (by repeat' (first | with_reducible assumption | with_reducible exact Below.refl _ _ | refine Below.alloc ?_ ?_ _ | refine Below.setCell ?_ ?_ _ | refine Below.drew ?_ | refine below_drewN ?_ _ | (simp; done) | (simp; omega) | omega)) (by first | (simp; done) | (simp; omega) | omega)) (by omega)).mono ?_
  rw [kUpto, kOpen.2.1]
  rintro e W1 ⟨rfl, hb⟩
  have hst : Below W0.heap.size W0 W1 := Below.trans (by repeat' (first | with_reducible assumption | with_reducible exact Below.refl _ _ | refine Below.alloc ?_ ?_ _ | refine Below.setCell ?_ ?_ _ | refine Below.drew ?_ | refine below_drewN ?_ _ | (simp; done) | (simp; omega) | omega)) (hb.mono (by first | (simp; done) | (simp; omega) | omega))
  replace hbel := hbel.trans (hst.mono hsz)
  replace hsz := hbel.size
  replace HW := hid (HW.out.below hst hst.size)
  replace HK := hid (HK.out.below hst hst.size)
  clear hb hst
  obtain ⟨W0, rfl⟩ : ∃ W0 : World, W0 = W1 := ⟨_, rfl⟩
  clear HK
  go_wp2_with (fail)
  refine (e_lit _).mono ?_
  rintro e W1 ⟨A8, c8, rfl, hk, hb⟩
  have hst : Below W0.heap.size W0 W1 := Below.trans (by repeat' (first | with_reducible assumption | with_reducible exact Below.refl _ _ | refine Below.alloc ?_ ?_ _ | refine Below.setCell ?_ ?_ _ | refine Below.drew ?_ | refine below_drewN ?_ _ | (simp; done) | (simp; omega) | omega)) (hb.mono (by first | (simp; done) | (simp; omega) | omega))
  replace hbel := hbel.trans (hst.mono hsz)
  replace hsz := hbel.size
  replace HW := hid (HW.out.below hst hst.size)
  have HK := hid hk
  clear hk
  clear hb hst
  obtain ⟨W0, rfl⟩ : ∃ W0 : World, W0 = W1 := ⟨_, rfl⟩
  go_wp2_with (fail)
  refine (gap_any _ A8 2 c8 eE 2 (HK.out.below (by repeat' (first | with_reducible assumption | with_reducible exact Below.refl _ _ | refine Below.alloc ?_ ?_ _ | refine Below.setCell ?_ ?_ _ | refine Below.drew ?_ | refine below_drewN ?_ _ | (simp; done) | (simp; omega) | omega)) (by first | (simp; done) | (simp; omega) | omega)) (by omega)).mono ?_
  rw [kGap.1, kGap.2.1]
  rintro e W1 ⟨rfl, hb⟩
  have hst : Below W0.heap.size W0 W1 := Below.trans (by repeat' (first | with_reducible assumption | with_reducible exact Below.refl _ _ | refine Below.alloc ?_ ?_ _ | refine Below.setCell ?_ ?_ _ | refine Below.drew ?_ | refine below_drewN ?_ _ | (simp; done) | (simp; omega) | omega)) (hb.mono (by first | (simp; done) | (simp; omega) | omega))
  replace hbel := hbel.trans (hst.mono hsz)
  replace hsz := hbel.size
  replace HW := hid (HW.out.below hst hst.size)
  replace HK := hid (HK.out.below hst hst.size)
  clear hb hst
  obtain ⟨W0, rfl⟩ : ∃ W0 : World, W0 = W1 := ⟨_, rfl⟩
  clear HK
  go_wp2_with (fail)
  refine (d_lit _).mono ?_
  rintro e W1 ⟨A9, c9, rfl, hk, hb⟩
  have hst : Below W0.heap.size W0 W1 := Below.trans (by repeat' (first | with_reducible assumption | with_reducible exact Below.refl _ _ | refine Below.alloc ?_ ?_ _ | refine Below.setCell ?_ ?_ _ | refine Below.drew ?_ | refine below_drewN ?_ _ | (simp; done) | (simp; omega) | omega)) (hb.mono (by first | (simp; done) | (simp; omega) | omega))
  replace hbel := hbel.trans (hst.mono hsz)
  replace hsz := hbel.size
  replace HW := hid (HW.out.below hst hst.size)
  have HK := hid hk
  clear hk
  clear hb hst
  obtain ⟨W0, rfl⟩ : ∃ W0 : World, W0 = W1 := ⟨_, rfl⟩
  go_wp2_with (fail)
  refine (gap_any _ A9 2 c9 dE 1 (HK.out.below (by repeat' (first | with_reducible assumption | with_reducible exact Below.refl _ _ | refine Below.alloc ?_ ?_ _ | refine Below.setCell ?_ ?_ _ | refine Below.drew ?_ | refine below_drewN ?_ _ | (simp; done) | (simp; omega) | omega)) (by first | (simp; done) | (simp; omega) | omega)) (by omega)).mono ?_
  rw [kGap.2.2]
  rintro e W1 ⟨rfl, hb⟩
  have hst : Below W0.heap.size W0 W1 := Below.trans (by repeat' (first | with_reducible assumption | with_reducible exact Below.refl _ _ | refine Below.alloc ?_ ?_ _ | refine Below.setCell ?_ ?_ _ | refine Below.drew ?_ | refine below_drewN ?_ _ | (simp; done) | (simp; omega) | omega)) (hb.mono (by first | (simp; done) | (simp; omega) | omega))
  replace hbel := hbel.trans (hst.mono hsz)
  replace hsz := hbel.size
  replace HW := hid (HW.out.below hst hst.size)
  replace HK := hid (HK.out.below hst hst.size)
  clear hb hst
  obtain ⟨W0, rfl⟩ : ∃ W0 : World, W0 = W1 := ⟨_, rfl⟩
  clear HK
  go_wp2_with (fail)
  refine (d_lit _).mono ?_
  rintro e W1 ⟨A10, c10, rfl, hk, hb⟩
  have hst : Below W0.heap.size W0 W1 := Below.trans (by repeat' (first | with_reducible assumption | with_reducible exact Below.refl _ _ | refine Below.alloc ?_ ?_ _ | refine Below.setCell ?_ ?_ _ | refine Below.drew ?_ | refine below_drewN ?_ _ | (simp; done) | (simp; omega) | omega)) (hb.mono (by first | (simp; done) | (simp; omega) | omega))
  replace hbel := hbel.trans (hst.mono hsz)
  replace hsz := hbel.size
  replace HW := hid (HW.out.below hst hst.size)
  have HK := hid hk
  clear hk
  clear hb hst
  obtain ⟨W0, rfl⟩ : ∃ W0 : World, W0 = W1 := ⟨_, rfl⟩
  go_wp2_with (fail)
  refine (ways_any _ A10 2 c10 dE 2 1 (HK.out.below (by repeat' (first | with_reducible assumption | with_reducible exact Below.refl _ _ | refine Below.alloc ?_ ?_ _ | refine Below.setCell ?_ ?_ _ | refine Below.drew ?_ | refine below_drewN ?_ _ | (simp; done) | (simp; omega) | omega)) (by first | (simp; done) | (simp; omega) | omega)) (by omega)).mono ?_
  rw [kWays.1, kWays.2.1]
  rintro e W1 ⟨rfl, hb⟩
  have hst : Below W0.heap.size W0 W1 := Below.trans (by repeat' (first | with_reducible assumption | with_reducible exact Below.refl _ _ | refine Below.alloc ?_ ?_ _ | refine Below.setCell ?_ ?_ _ | refine Below.drew ?_ | refine below_drewN ?_ _ | (simp; done) | (simp; omega) | omega)) (hb.mono (by first | (simp; done) | (simp; omega) | omega))
  replace hbel := hbel.trans (hst.mono hsz)
  replace hsz := hbel.size
  replace HW := hid (HW.out.below hst hst.size)
  replace HK := hid (HK.out.below hst hst.size)
  clear hb hst
  obtain ⟨W0, rfl⟩ : ∃ W0 : World, W0 = W1 := ⟨_, rfl⟩
  clear HK
  go_wp2_with (fail)
  refine (k_lit _).mono ?_
  rintro e W1 ⟨A11, c11, rfl, hk, hb⟩
  have hst : Below W0.heap.size W0 W1 := Below.trans (by repeat' (first | with_reducible assumption | with_reducible exact Below.refl _ _ | refine Below.alloc ?_ ?_ _ | refine Below.setCell ?_ ?_ _ | refine Below.drew ?_ | refine below_drewN ?_ _ | (simp; done) | (simp; omega) | omega)) (hb.mono (by first | (simp; done) | (simp; omega) | omega))
  replace hbel := hbel.trans (hst.mono hsz)
  replace hsz := hbel.size
  replace HW := hid (HW.out.below hst hst.size)
  have HK := hid hk
  clear hk
  clear hb hst
  obtain ⟨W0, rfl⟩ : ∃ W0 : World, W0 = W1 := ⟨_, rfl⟩
  go_wp2_with (fail)
  refine (ways_any _ A11 3 c11 kE 1 301 (HK.out.below (by repeat' (first | with_reducible assumption | with_reducible exact Below.refl _ _ | refine Below.alloc ?_ ?_ _ | refine Below.setCell ?_ ?_ _ | refine Below.drew ?_ | refine below_drewN ?_ _ | (simp; done) | (simp; omega) | omega)) (by first | (simp; done) | (simp; omega) | omega)) (by omega)).mono ?_
  rw [kWays.2.2]
  rintro e W1 ⟨rfl, hb⟩
  have hst : Below W0.heap.size W0 W1 := Below.trans (by repeat' (first | with_reducible assumption | with_reducible exact Below.refl _ _ | refine Below.alloc ?_ ?_ _ | refine Below.setCell ?_ ?_ _ | refine Below.drew ?_ | refine below_drewN ?_ _ | (simp; done) | (simp; omega) | omega)) (hb.mono (by first | (simp; done) | (simp; omega) | omega))
  replace hbel := hbel.trans (hst.mono hsz)
  replace hsz := hbel.size
  replace HW := hid (HW.out.below hst hst.size)
  replace HK := hid (HK.out.below hst hst.size)
  clear hb hst
  obtain ⟨W0, rfl⟩ : ∃ W0 : World, W0 = W1 := ⟨_, rfl⟩
  clear HK
  go_wp2_with (fail)
  refine (k_lit _).mono ?_
  rintro e W1 ⟨A12, c12, rfl, hk, hb⟩
  have hst : Below W0.heap.size W0 W1 := Below.trans (by repeat' (first | with_reducible assumption | with_reducible exact Below.refl _ _ | refine Below.alloc ?_ ?_ _ | refine Below.setCell ?_ ?_ _ | refine Below.drew ?_ | refine below_drewN ?_ _ | (simp; done) | (simp; omega) | omega)) (hb.mono (by first | (simp; done) | (simp; omega) | omega))
  replace hbel := hbel.trans (hst.mono hsz)
  replace hsz := hbel.size
  replace HW := hid (HW.out.below hst hst.size)
  have HK := hid hk
  clear hk
  clear hb hst
  obtain ⟨W0, rfl⟩ : ∃ W0 : World, W0 = W1 := ⟨_, rfl⟩
  go_wp2_with (fail)
  refine (fewest_any _ A12 3 c12 kE 2 5 (HK.out.below (by repeat' (first | with_reducible assumption | with_reducible exact Below.refl _ _ | refine Below.alloc ?_ ?_ _ | refine Below.setCell ?_ ?_ _ | refine Below.drew ?_ | refine below_drewN ?_ _ | (simp; done) | (simp; omega) | omega)) (by first | (simp; done) | (simp; omega) | omega)) (by omega)).mono ?_
  rw [kFew.1, kFew.2.1]
  rintro e W1 ⟨rfl, hb⟩
  have hst : Below W0.heap.size W0 W1 := Below.trans (by repeat' (first | with_reducible assumption | with_reducible exact Below.refl _ _ | refine Below.alloc ?_ ?_ _ | refine Below.setCell ?_ ?_ _ | refine Below.drew ?_ | refine below_drewN ?_ _ | (simp; done) | (simp; omega) | omega)) (hb.mono (by first | (simp; done) | (simp; omega) | omega))
  replace hbel := hbel.trans (hst.mono hsz)
  replace hsz := hbel.size
  replace HW := hid (HW.out.below hst hst.size)
  replace HK := hid (HK.out.below hst hst.size)
  clear hb hst
  obtain ⟨W0, rfl⟩ : ∃ W0 : World, W0 = W1 := ⟨_, rfl⟩
  clear HK
  go_wp2_with (fail)
  refine (k_lit _).mono ?_
  rintro e W1 ⟨A13, c13, rfl, hk, hb⟩
  have hst : Below W0.heap.size W0 W1 := Below.trans (by repeat' (first | with_reducible assumption | with_reducible exact Below.refl _ _ | refine Below.alloc ?_ ?_ _ | refine Below.setCell ?_ ?_ _ | refine Below.drew ?_ | refine below_drewN ?_ _ | (simp; done) | (simp; omega) | omega)) (hb.mono (by first | (simp; done) | (simp; omega) | omega))
  replace hbel := hbel.trans (hst.mono hsz)
  replace hsz := hbel.size
  replace HW := hid (HW.out.below hst hst.size)
  have HK := hid hk
  clear hk
  clear hb hst
  obtain ⟨W0, rfl⟩ : ∃ W0 : World, W0 = W1 := ⟨_, rfl⟩
  go_wp2_with (fail)
  refine (fewest_any _ A13 3 c13 kE 1 5 (HK.out.below (by repeat' (first | with_reducible assumption | with_reducible exact Below.refl _ _ | refine Below.alloc ?_ ?_ _ | refine Below.setCell ?_ ?_ _ | refine Below.drew ?_ | refine below_drewN ?_ _ | (simp; done) | (simp; omega) | omega)) (by first | (simp; done) | (simp; omega) | omega)) (by omega)).mono ?_
  rw [kFew.2.2.1]
  rintro e W1 ⟨rfl, hb⟩
  have hst : Below W0.heap.size W0 W1 := Below.trans (by repeat' (first | with_reducible assumption | with_reducible exact Below.refl _ _ | refine Below.alloc ?_ ?_ _ | refine Below.setCell ?_ ?_ _ | refine Below.drew ?_ | refine below_drewN ?_ _ | (simp; done) | (simp; omega) | omega)) (hb.mono (by first | (simp; done) | (simp; omega) | omega))
  replace hbel := hbel.trans (hst.mono hsz)
  replace hsz := hbel.size
  replace HW := hid (HW.out.below hst hst.size)
  replace HK := hid (HK.out.below hst hst.size)
  clear hb hst
  obtain ⟨W0, rfl⟩ : ∃ W0 : World, W0 = W1 := ⟨_, rfl⟩
  clear HK
  go_wp2_with (fail)
  refine (k_lit _).mono ?_
  rintro e W1 ⟨A14, c14, rfl, hk, hb⟩
  have hst : Below W0.heap.size W0 W1 := Below.trans (by repeat' (first | with_reducible assumption | with_reducible exact Below.refl _ _ | refine Below.alloc ?_ ?_ _ | refine Below.setCell ?_ ?_ _ | refine Below.drew ?_ | refine below_drewN ?_ _ | (simp; done) | (simp; omega) | omega)) (hb.mono (by first | (simp; done) | (simp; omega) | omega))
  replace hbel := hbel.trans (hst.mono hsz)
  replace hsz := hbel.size
  replace HW := hid (HW.out.below hst hst.size)
  have HK := hid hk
  clear hk
  clear hb hst
  obtain ⟨W0, rfl⟩ : ∃ W0 : World, W0 = W1 := ⟨_, rfl⟩
  go_wp2_with (fail)
  refine (lay_any _ A14 3 c14 kE 2 5 (HK.out.below (by repeat' (first | with_reducible assumption | with_reducible exact Below.refl _ _ | refine Below.alloc ?_ ?_ _ | refine Below.setCell ?_ ?_ _ | refine Below.drew ?_ | refine below_drewN ?_ _ | (simp; done) | (simp; omega) | omega)) (by first | (simp; done) | (simp; omega) | omega)) (by omega)).mono ?_
  rw [kFew.2.1, kFew.2.2.2]
  rintro e W1 ⟨Ax, mx, cx, rfl, hx, hb⟩
  have hst : Below W0.heap.size W0 W1 := Below.trans (by repeat' (first | with_reducible assumption | with_reducible exact Below.refl _ _ | refine Below.alloc ?_ ?_ _ | refine Below.setCell ?_ ?_ _ | refine Below.drew ?_ | refine below_drewN ?_ _ | (simp; done) | (simp; omega) | omega)) (hb.mono (by first | (simp; done) | (simp; omega) | omega))
  replace hbel := hbel.trans (hst.mono hsz)
  replace hsz := hbel.size
  replace HW := hid (HW.out.below hst hst.size)
  replace HK := hid (HK.out.below hst hst.size)
  have hmx := hx.len
  have hmx2 : mx = 3 := hmx.symm
  clear hmx
  subst hmx2
  have HX := hid hx
  clear hx
  clear hb hst
  obtain ⟨W0, rfl⟩ : ∃ W0 : World, W0 = W1 := ⟨_, rfl⟩
  clear HK
  go_wp2_with (fail)
  refine (k_lit _).mono ?_
  rintro e W1 ⟨A15, c15, rfl, hk, hb⟩
  have hst : Below W0.heap.size W0 W1 := Below.trans (by repeat' (first | with_reducible assumption | with_reducible exact Below.refl _ _ | refine Below.alloc ?_ ?_ _ | refine Below.setCell ?_ ?_ _ | refine Below.drew ?_ | refine below_drewN ?_ _ | (simp; done) | (simp; omega) | omega)) (hb.mono (by first | (simp; done) | (simp; omega) | omega))
  replace hbel := hbel.trans (hst.mono hsz)
  replace hsz := hbel.size
  replace HW := hid (HW.out.below hst hst.size)
  replace HX := hid (HX.out.below hst hst.size)
  have HK := hid hk
  clear hk
  clear hb hst
  obtain ⟨W0, rfl⟩ : ∃ W0 : World, W0 = W1 := ⟨_, rfl⟩
  go_wp2_with (fail)
  refine (perfect_any _ A15 3 c15 kE 2 (HK.out.below (by repeat' (first | with_reducible assumption | with_reducible exact Below.refl _ _ | refine Below.alloc ?_ ?_ _ | refine Below.setCell ?_ ?_ _ | refine Below.drew ?_ | refine below_drewN ?_ _ | (simp; done) | (simp; omega) | omega)) (by first | (simp; done) | (simp; omega) | omega)) (by omega)).mono ?_
  rw [kPerf.1, kPerf.2.1]
  rintro e W1 ⟨rfl, hb⟩
  have hst : Below W0.heap.size W0 W1 := Below.trans (by repeat' (first | with_reducible assumption | with_reducible exact Below.refl _ _ | refine Below.alloc ?_ ?_ _ | refine Below.setCell ?_ ?_ _ | refine Below.drew ?_ | refine below_drewN ?_ _ | (simp; done) | (simp; omega) | omega)) (hb.mono (by first | (simp; done) | (simp; omega) | omega))
  replace hbel := hbel.trans (hst.mono hsz)
  replace hsz := hbel.size
  replace HW := hid (HW.out.below hst hst.size)
  replace HX := hid (HX.out.below hst hst.size)
  replace HK := hid (HK.out.below hst hst.size)
  clear hb hst
  obtain ⟨W0, rfl⟩ : ∃ W0 : World, W0 = W1 := ⟨_, rfl⟩
  clear HK
  go_wp2_with (fail)
  refine (k_lit _).mono ?_
  rintro e W1 ⟨A16, c16, rfl, hk, hb⟩
  have hst : Below W0.heap.size W0 W1 := Below.trans (by repeat' (first | with_reducible assumption | with_reducible exact Below.refl _ _ | refine Below.alloc ?_ ?_ _ | refine Below.setCell ?_ ?_ _ | refine Below.drew ?_ | refine below_drewN ?_ _ | (simp; done) | (simp; omega) | omega)) (hb.mono (by first | (simp; done) | (simp; omega) | omega))
  replace hbel := hbel.trans (hst.mono hsz)
  replace hsz := hbel.size
  replace HW := hid (HW.out.below hst hst.size)
  replace HX := hid (HX.out.below hst hst.size)
  have HK := hid hk
  clear hk
  clear hb hst
  obtain ⟨W0, rfl⟩ : ∃ W0 : World, W0 = W1 := ⟨_, rfl⟩
  go_wp2_with (fail)
  refine (perfect_any _ A16 3 c16 kE 1 (HK.out.below (by repeat' (first | with_reducible assumption | with_reducible exact Below.refl _ _ | refine Below.alloc ?_ ?_ _ | refine Below.setCell ?_ ?_ _ | refine Below.drew ?_ | refine below_drewN ?_ _ | (simp; done) | (simp; omega) | omega)) (by first | (simp; done) | (simp; omega) | omega)) (by omega)).mono ?_
  rw [kPerf.2.2.1, kPerf.2.2.2]
  rintro e W1 ⟨rfl, hb⟩
  have hst : Below W0.heap.size W0 W1 := Below.trans (by repeat' (first | with_reducible assumption | with_reducible exact Below.refl _ _ | refine Below.alloc ?_ ?_ _ | refine Below.setCell ?_ ?_ _ | refine Below.drew ?_ | refine below_drewN ?_ _ | (simp; done) | (simp; omega) | omega)) (hb.mono (by first | (simp; done) | (simp; omega) | omega))
  replace hbel := hbel.trans (hst.mono hsz)
  replace hsz := hbel.size
  replace HW := hid (HW.out.below hst hst.size)
  replace HX := hid (HX.out.below hst hst.size)
  replace HK := hid (HK.out.below hst hst.size)
  clear hb hst
  obtain ⟨W0, rfl⟩ : ∃ W0 : World, W0 = W1 := ⟨_, rfl⟩
  clear HK
  go_wp2_with (fail)
  refine (d_lit _).mono ?_
  rintro e W1 ⟨A17, c17, rfl, hk, hb⟩
  have hst : Below W0.heap.size W0 W1 := Below.trans (by repeat' (first | with_reducible assumption | with_reducible exact Below.refl _ _ | refine Below.alloc ?_ ?_ _ | refine Below.setCell ?_ ?_ _ | refine Below.drew ?_ | refine below_drewN ?_ _ | (simp; done) | (simp; omega) | omega)) (hb.mono (by first | (simp; done) | (simp; omega) | omega))
  replace hbel := hbel.trans (hst.mono hsz)
  replace hsz := hbel.size
  replace HW := hid (HW.out.below hst hst.size)
  replace HX := hid (HX.out.below hst hst.size)
  have HK := hid hk
  clear hk
  clear hb hst
  obtain ⟨W0, rfl⟩ : ∃ W0 : World, W0 = W1 := ⟨_, rfl⟩
  go_wp2_with (fail)
  refine (factors_any _ A17 2 c17 dE 1 (HK.out.below (by repeat' (first | with_reducible assumption | with_reducible exact Below.refl _ _ | refine Below.alloc ?_ ?_ _ | refine Below.setCell ?_ ?_ _ | refine Below.drew ?_ | refine below_drewN ?_ _ | (simp; done) | (simp; omega) | omega)) (by first | (simp; done) | (simp; omega) | omega)) (by omega)).mono ?_
  rw [kFacts.1]
  rintro e W1 ⟨vy, rfl, hy, hb⟩
  have hst : Below W0.heap.size W0 W1 := Below.trans (by repeat' (first | with_reducible assumption | with_reducible exact Below.refl _ _ | refine Below.alloc ?_ ?_ _ | refine Below.setCell ?_ ?_ _ | refine Below.drew ?_ | refine below_drewN ?_ _ | (simp; done) | (simp; omega) | omega)) (hb.mono (by first | (simp; done) | (simp; omega) | omega))
  replace hbel := hbel.trans (hst.mono hsz)
  replace hsz := hbel.size
  replace HW := hid (HW.out.below hst hst.size)
  replace HX := hid (HX.out.below hst hst.size)
  replace HK := hid (HK.out.below hst hst.size)
  rw [if_pos rfl, kFacts.2] at hy
  obtain ⟨Ay, cy, hvy, hy2⟩ := sl_of_owns hy
  subst hvy
  have HY : Hid (InS W1 W1.heap.size Ay 2 [2, 3]) := hid hy2
  clear hy hy2
  clear hb hst
  obtain ⟨W0, rfl⟩ : ∃ W0 : World, W0 = W1 := ⟨_, rfl⟩
  clear HK
  go_wp2_with (fail)
  refine (count_any 2 13 _).mono ?_
  rw [kCount.1, kCount.2.1]
  rintro e W1 ⟨rfl, hb⟩
  have hst : Below W0.heap.size W0 W1 := Below.trans (by repeat' (first | with_reducible assumption | with_reducible exact Below.refl _ _ | refine Below.alloc ?_ ?_ _ | refine Below.setCell ?_ ?_ _ | refine Below.drew ?_ | refine below_drewN ?_ _ | (simp; done) | (simp; omega) | omega)) (hb.mono (by first | (simp; done) | (simp; omega) | omega))
  replace hbel := hbel.trans (hst.mono hsz)
  replace hsz := hbel.size
  replace HW := hid (HW.out.below hst hst.size)
  replace HX := hid (HX.out.below hst hst.size)
  replace HY := hid (HY.out.below hst hst.size)
  clear hb hst
  obtain ⟨W0, rfl⟩ : ∃ W0 : World, W0 = W1 := ⟨_, rfl⟩
  go_wp2_with (fail)
  refine (count_any 3 13 _).mono ?_
  rw [kCount.2.2.1]
  rintro e W1 ⟨rfl, hb⟩
  have hst : Below W0.heap.size W0 W1 := Below.trans (by repeat' (first | with_reducible assumption | with_reducible exact Below.refl _ _ | refine Below.alloc ?_ ?_ _ | refine Below.setCell ?_ ?_ _ | refine Below.drew ?_ | refine below_drewN ?_ _ | (simp; done) | (simp; omega) | omega)) (hb.mono (by first | (simp; done) | (simp; omega) | omega))
  replace hbel := hbel.trans (hst.mono hsz)
  replace hsz := hbel.size
  replace HW := hid (HW.out.below hst hst.size)
  replace HX := hid (HX.out.below hst hst.size)
  replace HY := hid (HY.out.below hst hst.size)
  clear hb hst
  obtain ⟨W0, rfl⟩ : ∃ W0 : World, W0 = W1 := ⟨_, rfl⟩
  go_wp2_with (fail)
  refine (all_any 1 5 _).mono ?_
  rw [kCount.2.2.2, kAllE]
  rintro e W1 ⟨As, ms, cs, rfl, hs, hb⟩
  have hst : Below W0.heap.size W0 W1 := Below.trans (by repeat' (first | with_reducible assumption | with_reducible exact Below.refl _ _ | refine Below.alloc ?_ ?_ _ | refine Below.setCell ?_ ?_ _ | refine Below.drew ?_ | refine below_drewN ?_ _ | (simp; done) | (simp; omega) | omega)) (hb.mono (by first | (simp; done) | (simp; omega) | omega))
  replace hbel := hbel.trans (hst.mono hsz)
  replace hsz := hbel.size
  replace HW := hid (HW.out.below hst hst.size)
  replace HX := hid (HX.out.below hst hst.size)
  replace HY := hid (HY.out.below hst hst.size)
  have hms := hs.1
  have hms2 : ms = 3 := hms.symm
  clear hms
  subst hms2
  have HS := hid hs
  clear hs
  clear hb hst
  obtain ⟨W0, rfl⟩ : ∃ W0 : World, W0 = W1 := ⟨_, rfl⟩
  go_wp2_with (fail)
  refine (fewW_any 2 14 _).mono ?_
  rw [kEn.1, kEnL]
  rintro e W1 ⟨rfl, hb⟩
  have hst : Below W0.heap.size W0 W1 := Below.trans (by repeat' (first | with_reducible assumption | with_reducible exact Below.refl _ _ | refine Below.alloc ?_ ?_ _ | refine Below.setCell ?_ ?_ _ | refine Below.drew ?_ | refine below_drewN ?_ _ | (simp; done) | (simp; omega) | omega)) (hb.mono (by first | (simp; done) | (simp; omega) | omega))
  replace hbel := hbel.trans (hst.mono hsz)
  replace hsz := hbel.size
  replace HW := hid (HW.out.below hst hst.size)
  replace HX := hid (HX.out.below hst hst.size)
  replace HY := hid (HY.out.below hst hst.size)
  replace HS := hid (HS.out.below hst hst.size)
  clear hb hst
  obtain ⟨W0, rfl⟩ : ∃ W0 : World, W0 = W1 := ⟨_, rfl⟩
  go_wp2_with (fail)
  refine (fewW_any 1 122 _).mono ?_
  rw [kEn.2.1]
  rintro e W1 ⟨rfl, hb⟩
  have hst : Below W0.heap.size W0 W1 := Below.trans (by repeat' (first | with_reducible assumption | with_reducible exact Below.refl _ _ | refine Below.alloc ?_ ?_ _ | refine Below.setCell ?_ ?_ _ | refine Below.drew ?_ | refine below_drewN ?_ _ | (simp; done) | (simp; omega) | omega)) (hb.mono (by first | (simp; done) | (simp; omega) | omega))
  replace hbel := hbel.trans (hst.mono hsz)
  replace hsz := hbel.size
  replace HW := hid (HW.out.below hst hst.size)
  replace HX := hid (HX.out.below hst hst.size)
  replace HY := hid (HY.out.below hst hst.size)
  replace HS := hid (HS.out.below hst hst.size)
  clear hb hst
  obtain ⟨W0, rfl⟩ : ∃ W0 : World, W0 = W1 := ⟨_, rfl⟩
  go_wp2_with (fail)
  refine (enough_any 2 5 _).mono ?_
  rw [kEn.2.2, kEnE]
  rintro e W1 ⟨vz, rfl, hz, hb⟩
  have hst : Below W0.heap.size W0 W1 := Below.trans (by repeat' (first | with_reducible assumption | with_reducible exact Below.refl _ _ | refine Below.alloc ?_ ?_ _ | refine Below.setCell ?_ ?_ _ | refine Below.drew ?_ | refine below_drewN ?_ _ | (simp; done) | (simp; omega) | omega)) (hb.mono (by first | (simp; done) | (simp; omega) | omega))
  replace hbel := hbel.trans (hst.mono hsz)
  replace hsz := hbel.size
  replace HW := hid (HW.out.below hst hst.size)
  replace HX := hid (HX.out.below hst hst.size)
  replace HY := hid (HY.out.below hst hst.size)
  replace HS := hid (HS.out.below hst hst.size)
  obtain ⟨Az, cz, hvz, hz2⟩ := sl_of_owns hz
  subst hvz
  have HZ : Hid (KdS W1 W1.heap.size Az 3 kE) := hid hz2
  clear hz hz2
  clear hb hst
  obtain ⟨W0, rfl⟩ : ∃ W0 : World, W0 = W1 := ⟨_, rfl⟩
  go_wp2_with (fail)
  refine (longsF_any _ _).mono ?_
  rintro e W1 ⟨rfl, hw1⟩
  subst hw1
  go_wp2_with (fail)
  refine (longs_any _ Aw _ 7 cw 7 7 [1, 3, 4, 9, 10, 12, 13] [1, 3, 4, 9, 10, 12, 13] (HW.out.below (by repeat' (first | with_reducible assumption | with_reducible exact Below.refl _ _ | refine Below.alloc ?_ ?_ _ | refine Below.setCell ?_ ?_ _ | refine Below.drew ?_ | refine below_drewN ?_ _ | (simp; done) | (simp; omega) | omega)) (by first | (simp; done) | (simp; omega) | omega)) (ins_blk (l := [1, 3, 4, 9, 10, 12, 13]) (Blk.new _ _ _) (by simp)) (by omega)).mono ?_
  rw [kEq.1]
  rintro e W1 ⟨rfl, hb⟩
  have hst : Below W0.heap.size W0 W1 := Below.trans (by repeat' (first | with_reducible assumption | with_reducible exact Below.refl _ _ | refine Below.alloc ?_ ?_ _ | refine Below.setCell ?_ ?_ _ | refine Below.drew ?_ | refine below_drewN ?_ _ | (simp; done) | (simp; omega) | omega)) (hb.mono (by first | (simp; done) | (simp; omega) | omega))
  replace hbel := hbel.trans (hst.mono hsz)
  replace hsz := hbel.size
  replace HW := hid (HW.out.below hst hst.size)
  replace HX := hid (HX.out.below hst hst.size)
  replace HY := hid (HY.out.below hst hst.size)
  replace HS := hid (HS.out.below hst hst.size)
  replace HZ := hid (HZ.out.below hst hst.size)
  clear hb hst
  obtain ⟨W0, rfl⟩ : ∃ W0 : World, W0 = W1 := ⟨_, rfl⟩
  clear HW
  go_wp2_with (fail)
  refine (longsF_any _ _).mono ?_
  rintro e W1 ⟨rfl, hw1⟩
  subst hw1
  go_wp2_with (fail)
  refine (longs_any _ Ax _ 3 cx 3 3 [-1, -1, 1] [-1, -1, 1] (HX.out.below (by repeat' (first | with_reducible assumption | with_reducible exact Below.refl _ _ | refine Below.alloc ?_ ?_ _ | refine Below.setCell ?_ ?_ _ | refine Below.drew ?_ | refine below_drewN ?_ _ | (simp; done) | (simp; omega) | omega)) (by first | (simp; done) | (simp; omega) | omega)) (ins_blk (l := [-1, -1, 1]) (Blk.new _ _ _) (by simp)) (by omega)).mono ?_
  rw [kEq.2.1]
  rintro e W1 ⟨rfl, hb⟩
  have hst : Below W0.heap.size W0 W1 := Below.trans (by repeat' (first | with_reducible assumption | with_reducible exact Below.refl _ _ | refine Below.alloc ?_ ?_ _ | refine Below.setCell ?_ ?_ _ | refine Below.drew ?_ | refine below_drewN ?_ _ | (simp; done) | (simp; omega) | omega)) (hb.mono (by first | (simp; done) | (simp; omega) | omega))
  replace hbel := hbel.trans (hst.mono hsz)
  replace hsz := hbel.size
  replace HX := hid (HX.out.below hst hst.size)
  replace HY := hid (HY.out.below hst hst.size)
  replace HS := hid (HS.out.below hst hst.size)
  replace HZ := hid (HZ.out.below hst hst.size)
  clear hb hst
  obtain ⟨W0, rfl⟩ : ∃ W0 : World, W0 = W1 := ⟨_, rfl⟩
  clear HX
  go_wp2_with (fail)
  refine (longsF_any _ _).mono ?_
  rintro e W1 ⟨rfl, hw1⟩
  subst hw1
  go_wp2_with (fail)
  refine (longs_any _ Ay _ 2 cy 2 2 [2, 3] [2, 3] (HY.out.below (by repeat' (first | with_reducible assumption | with_reducible exact Below.refl _ _ | refine Below.alloc ?_ ?_ _ | refine Below.setCell ?_ ?_ _ | refine Below.drew ?_ | refine below_drewN ?_ _ | (simp; done) | (simp; omega) | omega)) (by first | (simp; done) | (simp; omega) | omega)) (ins_blk (l := [2, 3]) (Blk.new _ _ _) (by simp)) (by omega)).mono ?_
  rw [kEq.2.2.1]
  rintro e W1 ⟨rfl, hb⟩
  have hst : Below W0.heap.size W0 W1 := Below.trans (by repeat' (first | with_reducible assumption | with_reducible exact Below.refl _ _ | refine Below.alloc ?_ ?_ _ | refine Below.setCell ?_ ?_ _ | refine Below.drew ?_ | refine below_drewN ?_ _ | (simp; done) | (simp; omega) | omega)) (hb.mono (by first | (simp; done) | (simp; omega) | omega))
  replace hbel := hbel.trans (hst.mono hsz)
  replace hsz := hbel.size
  replace HY := hid (HY.out.below hst hst.size)
  replace HS := hid (HS.out.below hst hst.size)
  replace HZ := hid (HZ.out.below hst hst.size)
  clear hb hst
  obtain ⟨W0, rfl⟩ : ∃ W0 : World, W0 = W1 := ⟨_, rfl⟩
  clear HY
  go_wp2_with (fail)
  refine (set_lit _ 4 4 [1, 1, 2, 2] [⟨1, 1⟩, ⟨2, 2⟩] 2 _ (ins_blk (l := [1, 1, 2, 2]) (Blk.new _ _ _) (by simp)) (by omega) kPairs.2.2.1 rfl).mono ?_
  rintro e W1 ⟨S0, s0, rfl, hk, hb⟩
  have hst : Below W0.heap.size W0 W1 := Below.trans (by repeat' (first | with_reducible assumption | with_reducible exact Below.refl _ _ | refine Below.alloc ?_ ?_ _ | refine Below.setCell ?_ ?_ _ | refine Below.drew ?_ | refine below_drewN ?_ _ | (simp; done) | (simp; omega) | omega)) (hb.mono (by first | (simp; done) | (simp; omega) | omega))
  replace hbel := hbel.trans (hst.mono hsz)
  replace hsz := hbel.size
  replace HS := hid (HS.out.below hst hst.size)
  replace HZ := hid (HZ.out.below hst hst.size)
  have HS0 := hid hk
  clear hk
  clear hb hst
  obtain ⟨W0, rfl⟩ : ∃ W0 : World, W0 = W1 := ⟨_, rfl⟩
  go_wp2_with (fail)
  refine (set_lit _ 4 4 [1, 2, 3, 1] [⟨1, 2⟩, ⟨3, 1⟩] 2 _ (ins_blk (l := [1, 2, 3, 1]) (Blk.new _ _ _) (by simp)) (by omega) kPairs.2.2.2.1 rfl).mono ?_
  rintro e W1 ⟨S1, s1, rfl, hk, hb⟩
  have hst : Below W0.heap.size W0 W1 := Below.trans (by repeat' (first | with_reducible assumption | with_reducible exact Below.refl _ _ | refine Below.alloc ?_ ?_ _ | refine Below.setCell ?_ ?_ _ | refine Below.drew ?_ | refine below_drewN ?_ _ | (simp; done) | (simp; omega) | omega)) (hb.mono (by first | (simp; done) | (simp; omega) | omega))
  replace hbel := hbel.trans (hst.mono hsz)
  replace hsz := hbel.size
  replace HS := hid (HS.out.below hst hst.size)
  replace HZ := hid (HZ.out.below hst hst.size)
  replace HS0 := hid (HS0.out.below hst hst.size)
  have HS1 := hid hk
  clear hk
  clear hb hst
  obtain ⟨W0, rfl⟩ : ∃ W0 : World, W0 = W1 := ⟨_, rfl⟩
  go_wp2_with (fail)
  refine (set_lit _ 2 2 [1, 5] [⟨1, 5⟩] 1 _ (ins_blk (l := [1, 5]) (Blk.new _ _ _) (by simp)) (by omega) kPairs.2.2.2.2 rfl).mono ?_
  rintro e W1 ⟨S2, s2, rfl, hk, hb⟩
  have hst : Below W0.heap.size W0 W1 := Below.trans (by repeat' (first | with_reducible assumption | with_reducible exact Below.refl _ _ | refine Below.alloc ?_ ?_ _ | refine Below.setCell ?_ ?_ _ | refine Below.drew ?_ | refine below_drewN ?_ _ | (simp; done) | (simp; omega) | omega)) (hb.mono (by first | (simp; done) | (simp; omega) | omega))
  replace hbel := hbel.trans (hst.mono hsz)
  replace hsz := hbel.size
  replace HS := hid (HS.out.below hst hst.size)
  replace HZ := hid (HZ.out.below hst hst.size)
  replace HS0 := hid (HS0.out.below hst hst.size)
  replace HS1 := hid (HS1.out.below hst hst.size)
  have HS2 := hid hk
  clear hk
  clear hb hst
  obtain ⟨W0, rfl⟩ : ∃ W0 : World, W0 = W1 := ⟨_, rfl⟩
  go_wp2_with (fail)
  refine (sets_true _ As _ 3 cs 3 allE (HS.out.below (by repeat' (first | with_reducible assumption | with_reducible exact Below.refl _ _ | refine Below.alloc ?_ ?_ _ | refine Below.setCell ?_ ?_ _ | refine Below.drew ?_ | refine below_drewN ?_ _ | (simp; done) | (simp; omega) | omega)) (by first | (simp; done) | (simp; omega) | omega)) (lss_three (Blk.new _ _ _) (HS0.out.below (by repeat' (first | with_reducible assumption | with_reducible exact Below.refl _ _ | refine Below.alloc ?_ ?_ _ | refine Below.setCell ?_ ?_ _ | refine Below.drew ?_ | refine below_drewN ?_ _ | (simp; done) | (simp; omega) | omega)) (by first | (simp; done) | (simp; omega) | omega)) (HS1.out.below (by repeat' (first | with_reducible assumption | with_reducible exact Below.refl _ _ | refine Below.alloc ?_ ?_ _ | refine Below.setCell ?_ ?_ _ | refine Below.drew ?_ | refine below_drewN ?_ _ | (simp; done) | (simp; omega) | omega)) (by first | (simp; done) | (simp; omega) | omega)) (HS2.out.below (by repeat' (first | with_reducible assumption | with_reducible exact Below.refl _ _ | refine Below.alloc ?_ ?_ _ | refine Below.setCell ?_ ?_ _ | refine Below.drew ?_ | refine below_drewN ?_ _ | (simp; done) | (simp; omega) | omega)) (by first | (simp; done) | (simp; omega) | omega))) (by omega) (by decide)).mono ?_
  rintro e W1 ⟨rfl, hb⟩
  have hst : Below W0.heap.size W0 W1 := Below.trans (by repeat' (first | with_reducible assumption | with_reducible exact Below.refl _ _ | refine Below.alloc ?_ ?_ _ | refine Below.setCell ?_ ?_ _ | refine Below.drew ?_ | refine below_drewN ?_ _ | (simp; done) | (simp; omega) | omega)) (hb.mono (by first | (simp; done) | (simp; omega) | omega))
  replace hbel := hbel.trans (hst.mono hsz)
  replace hsz := hbel.size
  replace HS := hid (HS.out.below hst hst.size)
  replace HZ := hid (HZ.out.below hst hst.size)
  replace HS0 := hid (HS0.out.below hst hst.size)
  replace HS1 := hid (HS1.out.below hst hst.size)
  replace HS2 := hid (HS2.out.below hst hst.size)
  clear hb hst
  obtain ⟨W0, rfl⟩ : ∃ W0 : World, W0 = W1 := ⟨_, rfl⟩
  clear HS
  clear HS0
  clear HS1
  clear HS2
  go_wp2_with (fail)
  refine (k_lit _).mono ?_
  rintro e W1 ⟨A18, c18, rfl, hk, hb⟩
  have hst : Below W0.heap.size W0 W1 := Below.trans (by repeat' (first | with_reducible assumption | with_reducible exact Below.refl _ _ | refine Below.alloc ?_ ?_ _ | refine Below.setCell ?_ ?_ _ | refine Below.drew ?_ | refine below_drewN ?_ _ | (simp; done) | (simp; omega) | omega)) (hb.mono (by first | (simp; done) | (simp; omega) | omega))
  replace hbel := hbel.trans (hst.mono hsz)
  replace hsz := hbel.size
  replace HZ := hid (HZ.out.below hst hst.size)
  have HK := hid hk
  clear hk
  clear hb hst
  obtain ⟨W0, rfl⟩ : ∃ W0 : World, W0 = W1 := ⟨_, rfl⟩
  go_wp2_with (fail)
  refine (same_any _ Az A18 3 cz 3 c18 kE kE (HZ.out.below (by repeat' (first | with_reducible assumption | with_reducible exact Below.refl _ _ | refine Below.alloc ?_ ?_ _ | refine Below.setCell ?_ ?_ _ | refine Below.drew ?_ | refine below_drewN ?_ _ | (simp; done) | (simp; omega) | omega)) (by first | (simp; done) | (simp; omega) | omega)) (HK.out.below (by repeat' (first | with_reducible assumption | with_reducible exact Below.refl _ _ | refine Below.alloc ?_ ?_ _ | refine Below.setCell ?_ ?_ _ | refine Below.drew ?_ | refine below_drewN ?_ _ | (simp; done) | (simp; omega) | omega)) (by first | (simp; done) | (simp; omega) | omega)) (by omega)).mono ?_
  rw [kEq.2.2.2]
  rintro e W1 ⟨rfl, hb⟩
  have hst : Below W0.heap.size W0 W1 := Below.trans (by repeat' (first | with_reducible assumption | with_reducible exact Below.refl _ _ | refine Below.alloc ?_ ?_ _ | refine Below.setCell ?_ ?_ _ | refine Below.drew ?_ | refine below_drewN ?_ _ | (simp; done) | (simp; omega) | omega)) (hb.mono (by first | (simp; done) | (simp; omega) | omega))
  replace hbel := hbel.trans (hst.mono hsz)
  replace hsz := hbel.size
  replace HZ := hid (HZ.out.below hst hst.size)
  replace HK := hid (HK.out.below hst hst.size)
  clear hb hst
  obtain ⟨W0, rfl⟩ : ∃ W0 : World, W0 = W1 := ⟨_, rfl⟩
  go_wp2_with (fail)
  go_ret
  exact ⟨rfl, hbel⟩
end Go.Proofs.Ytolghmhodaphfaa
